/- CodeNone's walk. -/
import Derived.Test.YtfpcldkfmcnjkaaCodeNo
import Derived.Test.YtfpcldkfmcnjkaaCodeAwake
import Derived.Test.YtfpcldkfmcnjkaaOpen
namespace Go.Proofs.Ytfpcldkfmcnjkaa
open Go.ChangeShapes Go.WideShapes Go.ChangeAt Go.RowKit

abbrev cnone : Array Value := #[.pointer none, .int .i64 0, .slice none 0 0]
theorem run_build_code (w : World) : (Instr.build 71 #[]).run Try.prog w = .ok (.agg cnone) w := by kernel_rfl
theorem slice_caps {w : World} {k : IntKind} {A : Option Addr} {n c : Nat} {z : List Int} (h : IsRow k w A n c z) : n ≤ c ∧ c ≤ 9223372036854775807 := by
  rcases h with ⟨_, rfl, rfl, _⟩ | ⟨_, _, h1, h2, _⟩
  · omega
  · unfold maxLen at h2; omega
namespace codeNone
set_option maxRecDepth 100000 in
set_option maxHeartbeats 4000000 in
theorem codeNone_any (w : World) (A0 A1 : Option Addr) (q0 d0 q1 d1 : Nat) (n : Int) :
    Calls Try.prog 8 #[.slice A0 q0 d0, .slice A1 q1 d1, .int .i64 n] w fun e w' => e = .returned (.bool true) ∧ Ext w w' := by
  have hbd := fun w => run_build_code w
  have hcell : ∀ j, j < 2 → ∃ p, ((w.alloc (.cells cnone 71)).alloc (.cells #[.pointer none, .pointer (some ⟨w.heap.size, 0, none⟩)] 27)).cell? ⟨w.heap.size + 1, j, none⟩ = some p ∧ NoCode ((w.alloc (.cells cnone 71)).alloc (.cells #[.pointer none, .pointer (some ⟨w.heap.size, 0, none⟩)] 27)) p ∧ p.oneCell' = true := by
    intro j hj
    have hc : ∀ i, ((w.alloc (.cells cnone 71)).alloc (.cells #[.pointer none, .pointer (some ⟨w.heap.size, 0, none⟩)] 27)).cell? ⟨w.heap.size + 1, i, none⟩ = (#[Value.pointer none, .pointer (some ⟨w.heap.size, 0, none⟩)])[i]? := fun i => by
      have := World.cell?_alloc_new (w.alloc (.cells cnone 71)) #[Value.pointer none, .pointer (some ⟨w.heap.size, 0, none⟩)] 27 i
      rw [World.size_alloc] at this
      exact this
    by_cases h0 : j = 0
    · subst h0
      exact ⟨.pointer none, by rw [hc]; rfl, .inl rfl, rfl⟩
    · obtain rfl : j = 1 := by omega
      refine ⟨.pointer (some ⟨w.heap.size, 0, none⟩), by rw [hc]; rfl, .inr ⟨_, rfl, ?_⟩, rfl⟩
      rw [World.cell?_alloc_lt _ _ _ (by simp), World.cell?_alloc_new]
      rfl
  have x0 : Ext w ((w.alloc (.cells cnone 71)).alloc (.cells #[.pointer none, .pointer (some ⟨w.heap.size, 0, none⟩)] 27)) := (Ext.alloc _ _).thenAlloc _
  have HC := Lib.hid hcell
  have HX := Lib.hid x0
  clear hcell x0
  go_enter Try.func8, Try.ntmps8
  try dsimp only [List.append]
  go_wp2_with (fail)
  generalize ((w.alloc (.cells cnone 71)).alloc (.cells #[.pointer none, .pointer (some ⟨w.heap.size, 0, none⟩)] 27)) = W at *
  generalize w.heap.size + 1 = g at *
  clear hbd
  go_loopw [9, 10, 11, 12, 13, 14, 15, 16, 17, 18, 19, 25] (fun _ _ _ _ _ _ _ _ _ _ _ i wr => ∃ k : Nat, k ≤ 2 ∧ i = .int .i64 k ∧ Ext W wr) (fun _ _ _ _ _ _ _ _ _ _ _ i _ => 2 - (intOf i).toNat)
  case atStart => exact ⟨0, by omega, rfl, Ext.refl W⟩
  case round =>
    obtain ⟨k, hk, rfl, hd⟩ := hrel
    by_cases hlt : k < 2
    · obtain ⟨p, hc, hp, hone⟩ := HC.out k hlt
      replace hc := Ext.cell hd hc
      replace hp := hp.ext hd
      have i1 : (k : Int) < 2 := by omega
      have HD := Lib.hid hd
      have HP := Lib.hid hp
      clear hd hp
      have xw : Ext wr (wr.alloc (.cells #[.slice A1 q1 d1] 28)) := Ext.alloc _ _
      have XW := Lib.hid xw
      have HJ := Lib.hid (noc_join _ p (.slice (some ⟨wr.heap.size, 0, none⟩) 1 1) n hone (HP.out.ext xw))
      clear xw hone
      go_wp2_with (fail)
      refine (noc_encode _ p _ HP.out).mono ?_
      rintro e w' ⟨rfl, rfl⟩
      go_wp2_with (fail)
      refine (noc_decode _ p _ _ HP.out).mono ?_
      rintro e w' ⟨rfl, rfl⟩
      go_wp2_with (fail)
      refine (noc_rebuild _ p _ _ n HP.out).mono ?_
      rintro e w' ⟨rfl, rfl⟩
      go_wp2_with (fail)
      refine (noc_split _ p _ n HP.out).mono ?_
      rintro e w' ⟨rfl, rfl⟩
      go_wp2_with (fail)
      refine HJ.out.mono ?_
      rintro e w5 ⟨rfl, x5⟩
      have HP5 := Lib.hid ((HP.out.ext XW.out).ext x5)
      go_wp2_with (fail)
      refine (noc_need _ p HP5.out).mono ?_
      rintro e w' ⟨rfl, rfl⟩
      go_wp2_with (fail)
      refine (noc_all _ p HP5.out).mono ?_
      rintro e w' ⟨rfl, rfl⟩
      go_wp2_with (fail)
      refine (noc_matrix _ p HP5.out).mono ?_
      rintro e w' ⟨rfl, rfl⟩
      go_wp2_with (fail)
      refine (noc_fits _ p _ HP5.out).mono ?_
      rintro e w' ⟨rfl, rfl⟩
      go_wp2_with (fail)
      exact ⟨⟨k + 1, by omega, by go_num, (HD.out.trans XW.out).trans x5⟩, by simp [intOf]; omega⟩
    · have i1 : ¬ (k : Int) < 2 := by omega
      obtain rfl : k = 2 := by omega
      go_wp2_with (fail)
      refine (awake_any4 _).mono ?_
      rintro e w5 ⟨rfl, x5⟩
      go_wp2_with (fail)
      go_ret
      exact ⟨rfl, (HX.out.trans hd).trans x5⟩
set_option maxRecDepth 100000 in
theorem walk {H : Type} {enc : TypeId × Value → H} {base : Nat} (w : World) (A0 : Option Addr) (q0 c0 : Nat) (z0 : List Int) (v1 : Value) (d1 : DataW H) (p1 : List MemPlace) (n : Int) (_w0 : IsRow .i64 w A0 q0 c0 z0)
    (o1 : Value.okWide Try.prog w .any base 28 v1) (_h1 : DataW.Trod enc Try.prog w 0 (fun _ => true) true 28 v1 d1 p1) (_w2 : (Lit.int .i64 n).wf = true) :
    Calls Try.prog 8 #[.slice A0 q0 c0, v1, .int .i64 n] w fun e w' => e = .returned (.bool true) ∧ Ext w w' := by
  obtain ⟨A1, q1, c1, rfl⟩ := okWide_slice Try.underlying28 o1
  exact codeNone_any w A0 A1 q0 c0 q1 c1 n
end codeNone
end Go.Proofs.Ytfpcldkfmcnjkaa
