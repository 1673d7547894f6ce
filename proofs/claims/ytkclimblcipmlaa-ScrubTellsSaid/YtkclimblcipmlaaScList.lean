/- The contract of the laws' list; a slice of bools that came in. -/
import Derived.Test.YtkclimblcipmlaaScAwake
import Derived.Test.YtkclimblcipmlaaOpen
namespace Go.Proofs.Ytkclimblcipmlaa
open Go.ChangeShapes Go.WideShapes Go.ChangeAt Go.RowKit

/-- A slice of bools. -/
structure Bl (w : World) (A : Option Addr) (n c : Nat) (fl : Nat → Bool) : Prop where
  le : n ≤ c
  max : c ≤ 9223372036854775807
  at_ : ∀ k, k < n → ∃ b off, A = some ⟨b, off, none⟩ ∧ w.cell? ⟨b, off + k, none⟩ = some (.bool (fl k))
theorem Bl.ext {w w' : World} {A : Option Addr} {n c : Nat} {fl : Nat → Bool} (h : Bl w A n c fl) (hx : Ext w w') : Bl w' A n c fl :=
  ⟨h.le, h.max, fun k hk => by
    obtain ⟨b, off, e, hc⟩ := h.at_ k hk
    exact ⟨b, off, e, hx.cell hc⟩⟩
set_option maxRecDepth 100000 in
theorem bl_open {H : Type} {enc : TypeId × Value → H} {W : World} {v : Value} {d : DataW H} {p : List MemPlace} {r : Reach} {b0 : Nat} (hv : Value.okWide Try.prog W r b0 40 v) (h : DataW.Trod enc Try.prog W 0 (fun _ => true) true 40 v d p) :
    ∃ A n c fl, v = .slice A n c ∧ Bl W A n c fl := by
  obtain ⟨A, len, cap, rfl⟩ := okWide_slice Try.underlying40 hv
  obtain ⟨fuel, hf⟩ := h
  have hce : Try.prog.cellsOf 4 = 1 := by kernel_rfl
  rcases Go.Deep.open_slice Try.underlying40 hf with ⟨hcs, _⟩ | ⟨x, l, c, m, n, D, Pl, hcs, _, hl, hm, hmm, _, hx⟩
  · simp [Value.cells] at hcs
    obtain ⟨rfl, rfl, rfl⟩ := hcs
    exact ⟨none, 0, 0, fun _ => false, rfl, Nat.le_refl _, by omega, fun k hk => absurd hk (Nat.not_lt_zero _)⟩
  · simp [Value.cells] at hcs
    obtain ⟨rfl, rfl, rfl⟩ := hcs
    have cellsAt : ∀ k, k < len → ∃ q : Bool, W.cell? (x.add k) = some (.bool q) := by
      intro k hk
      obtain ⟨cs', h1, h2⟩ := hx k (by rw [hmm]; simp; omega)
      obtain ⟨_, hlen, hcell⟩ := World.cells?_some h1
      obtain ⟨q, rfl, _⟩ := DataW.trod_bool Try.underlying4 h2
      have c0 := hcell 0 (by rw [hce]; omega)
      rw [hce, Go.Deep.add_add] at c0
      exact ⟨q, by simpa using c0⟩
    have each : ∀ k, k < len → ∃ q : Bool, ∃ b off, x = ⟨b, off, none⟩ ∧ W.cell? ⟨b, off + k, none⟩ = some (.bool q) := by
      intro k hk
      obtain ⟨q0, s0⟩ := cellsAt 0 (by omega)
      have hsp := cells_spot s0
      obtain ⟨q, r0⟩ := cellsAt k hk
      rw [hsp, addr_add] at r0
      exact ⟨q, x.block, x.off, hsp, r0⟩
    obtain ⟨f, hf⟩ := Go.Deep.choose_lt each
    refine ⟨some x, len, cap, f, rfl, hl, by unfold maxLen at hm; omega, fun k hk => ?_⟩
    obtain ⟨b, off, e1, e2⟩ := hf k hk
    exact ⟨b, off, by rw [e1], e2⟩
/-- A rising list of the call's own. -/
def GivesLi (w : World) (e : Ending) (w' : World) : Prop := ∃ v l, e = .returned v ∧ NewInts w w' v l ∧ (∀ x ∈ l, 0 ≤ x ∧ x < 1000) ∧ l.Pairwise (· < ·) ∧ l.length ≤ 30
set_option maxRecDepth 100000 in
set_option maxHeartbeats 2000000 in
theorem list_law (w : World) (A : Option Addr) (n c : Nat) (fl : Nat → Bool) (hf : Bl w A n c fl) :
    Calls Try.prog 20 #[.slice A n c] w (GivesLi w) := by
  obtain ⟨i0, hi0, hz0, hz1, hz2⟩ := info_parts int_info
  have q1 := hf.max
  have q2 := hf.le
  have HF := Lib.hid hf
  clear hf
  go_enter Try.func20, Try.ntmps20
  go_wp2_with (fail)
  go_loopw [3, 4] (fun v s wr => ∃ (t : Nat) (l : List Int), t ≤ n ∧ t ≤ 30 ∧ s = .int .i64 (t : Int) ∧ RowKit.Hid (wr.ownsRow w.heap.size 3 1 v l.length (icells l)) ∧ Ext w wr ∧ RowKit.Hid ((∀ x ∈ l, 0 ≤ x ∧ x < 3 * t) ∧ l.Pairwise (· < ·) ∧ l.length ≤ t)) (fun _ s _ => 30 - (intOf s).toNat)
  case atStart => exact ⟨0, [], by omega, by omega, rfl, Lib.hid (World.ownsRow_nil _ _ _ _), Ext.refl w, Lib.hid ⟨fun x hx => (by cases hx), List.Pairwise.nil, Nat.le_refl _⟩⟩
  case round =>
    obtain ⟨t, l, ht, ht2, rfl, HO, hx, HL⟩ := hrel
    by_cases hlt : t < n
    · have r1 : (t : Int) < n := by omega
      by_cases h30 : t < 30
      · have r2 : (t : Int) < 30 := by omega
        obtain ⟨b, off, rfl, hc⟩ := (HF.out.ext hx).at_ t hlt
        rcases hb : fl t with _ | _
        · rw [hb] at hc
          clear hb
          go_wp2_with (fail)
          exact ⟨⟨t + 1, l, by omega, by omega, by go_num, HO, hx, Lib.hid ⟨fun x hx => by have := HL.out.1 x hx; omega, HL.out.2.1, by have := HL.out.2.2; omega⟩⟩, by simp [intOf]; omega⟩
        · rw [hb] at hc
          clear hb
          have hll := HL.out.2.2
          have hsz := hx.size
          have HO4 := Lib.hid (ownsRow_ext HO.out (Ext.alloc wr (.cells #[.int .i64 (3 * (t : Int))] 3)))
          have HBK := Lib.hid (own_row HO.out)
          go_wp2_with (at_builtin; refine wpList_append_rd _ rfl (.tmp 19) (.tmp 22) 22 rfl w.heap.size 3 i0 _ 1 8 Try.underlying22 hi0 hz0 hz1 hz2 rfl (by omega) u3 l.length (icells l) rfl HO4.out (some ⟨wr.heap.size, 0, none⟩) 1 1 [.int .i64 (3 * (t : Int))] rfl (Rd.lit wr #[_] _) (by simp [Value.oneCell']) (by omega) (by unfold maxLen; omega) (by simp; omega) ?_; intro v5 w5 hown hgr hat)
          refine ⟨⟨t + 1, l ++ [3 * (t : Int)], by omega, by omega, by go_num, Lib.hid ?_, (hx.thenAlloc _).ofGrown hgr HBK.out, Lib.hid ⟨fun x hx => ?_, ?_, by simp; omega⟩⟩, by simp [intOf]; omega⟩
          · rw [icells_append, List.length_append]; exact hown
          · rcases List.mem_append.1 hx with h | h
            · have := HL.out.1 x h; omega
            · simp at h; omega
          · refine List.pairwise_append.2 ⟨HL.out.2.1, List.pairwise_singleton _ _, fun a ha b hb => ?_⟩
            simp at hb
            have := HL.out.1 a ha
            omega
      · have r2 : ¬ (t : Int) < 30 := by omega
        go_wp2_with (fail)
        go_ret
        exact ⟨_, l, rfl, ⟨HO.out, hx⟩, fun x hx => by have := HL.out.1 x hx; omega, HL.out.2.1, by have := HL.out.2.2; omega⟩
    · have r1 : ¬ (t : Int) < n := by omega
      go_wp2_with (fail)
      go_ret
      exact ⟨_, l, rfl, ⟨HO.out, hx⟩, fun x hx => by have := HL.out.1 x hx; omega, HL.out.2.1, by have := HL.out.2.2; omega⟩
end Go.Proofs.Ytkclimblcipmlaa
