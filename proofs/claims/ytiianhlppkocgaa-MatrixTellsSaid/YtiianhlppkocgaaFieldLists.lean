/- The contracts of Lay, and of what clones and compares bytes. -/
import Derived.Test.YtiianhlppkocgaaNew
import Derived.Deep.RegionHeld3
namespace Go.Proofs.Ytiianhlppkocgaa
open Go.RowKit

theorem u8_info : (Try.prog.info? 5).map (fun i => (i.zero, i.size, i.bytes)) = some (some (.int .u8 0), 1, 1) := by kernel_rfl

/-- A list of bytes handed back in memory of the call's own. -/
structure NewBytes (w w' : World) (v : Value) (l : List UInt8) : Prop where
  own : w'.ownsRow w.heap.size 5 1 v l.length (bcells l)
  ext : Ext w w'
theorem NewBytes.bs {w w' : World} {v : Value} {l : List UInt8} (h : NewBytes w w' v l) : ∃ A c, v = .slice A l.length c ∧ Bs w' A l.length c l := by
  obtain ⟨A, c, rfl, _, _⟩ := ownsRow_slice h.own
  exact ⟨A, c, rfl, (Own.mk (base := w.heap.size) (e := 5) h.own).bs⟩

theorem copyBytes_any (w : World) (A : Option Addr) (n c : Nat) (l : List UInt8) (hl : Bs w A n c l) (hn : n ≤ 140737488355328) :
    Calls Try.prog 44 #[.slice A n c] w fun e w' => ∃ v, e = .returned v ∧ NewBytes w w' v l := by
  obtain ⟨i0, hi0, hz0, hz1, hz2⟩ := info_parts u8_info
  have hm := hl.max
  have hle := hl.le
  go_enter Try.func44, Try.ntmps44
  go_wp2_with (
    at_builtin
    refine wpList_append_rd _ rfl (.tmp 4) (.tmp 5) 26 rfl w.heap.size 5 i0 _ 1 1 Try.underlying26 hi0 hz0 hz1 hz2 rfl (by omega) (.slice none 0 0) 0 [] rfl (World.ownsRow_nil _ _ _ _) A n c (bcells l) rfl hl.rd (bcells_one l) (by omega) (by unfold maxLen; omega) (Nat.le_refl _) ?_
    intro v1 w1 hown hg hat)
  go_ret
  refine ⟨v1, rfl, ?_, ?_⟩
  · rw [hl.len]; simpa using hown
  · exact (Ext.refl w).ofGrown hg (by simp [Value.ownBlock])

theorem clone_none (w : World) (n c : Nat) :
    Calls Try.prog 42 #[.slice none n c] w fun e w' => e = .returned (.slice none 0 0) ∧ w = w' := by
  have hnil := fun wx => Lib.run_eql_slice_nil (P := Try.prog) wx 26 5 none n c 0 0 Try.underlying26
  go_enter Try.func42, Try.ntmps42
  go_wp2
  go_ret
  exact ⟨rfl, rfl⟩
theorem clone_some (w : World) (ad : Addr) (n c : Nat) (l : List UInt8) (hl : Bs w (some ad) n c l) (hn : n ≤ 140737488355328) :
    Calls Try.prog 42 #[.slice (some ad) n c] w fun e w' => ∃ v, e = .returned v ∧ NewBytes w w' v l := by
  obtain ⟨i0, hi0, hz0, hz1, hz2⟩ := info_parts u8_info
  have hm := hl.max
  have hle := hl.le
  have hnil : ∀ wx, (binOp .eql 26 (.slice (some ad) n c) (.slice none 0 0)).run Try.prog wx = .ok (.bool false) wx := fun wx => Lib.run_eql_slice_nil (P := Try.prog) wx 26 5 (some ad) n c 0 0 Try.underlying26
  go_enter Try.func42, Try.ntmps42
  go_wp2_with (
    at_builtin
    refine wpList_append_rd _ rfl (.tmp 5) (.tmp 6) 26 rfl w.heap.size 5 i0 _ 1 1 Try.underlying26 hi0 hz0 hz1 hz2 rfl (by omega) (.slice (some ⟨w.heap.size, 0, none⟩) 0 0) 0 [] rfl
      (World.ownsRow_lit w #[] 0 (Nat.le_refl _) (by unfold maxLen; omega) rfl) (some ad) n c (bcells l) rfl (hl.rd.ext (Ext.alloc _ _)) (bcells_one l) (by omega) (by unfold maxLen; omega) (by simp) ?_
    intro v1 w1 hown hg hat)
  go_ret
  refine ⟨v1, rfl, ?_, ?_⟩
  · rw [hl.len]; simpa using hown
  · exact (Ext.alloc w _).ofGrown hg (by simp [Value.ownBlock])
theorem clone_any (w : World) (A : Option Addr) (n c : Nat) (l : List UInt8) (hl : Bs w A n c l) (hn : n ≤ 140737488355328) :
    Calls Try.prog 42 #[.slice A n c] w fun e w' => ∃ v, e = .returned v ∧ NewBytes w w' v l := by
  rcases A with _ | ad
  · refine (clone_none w n c).mono ?_
    rintro e w' ⟨rfl, rfl⟩
    have h0 : l = [] := by
      rcases Nat.eq_zero_or_pos n with h0 | h0
      · exact List.eq_nil_of_length_eq_zero (by rw [hl.len]; exact h0)
      · obtain ⟨b, off, h, _⟩ := hl.rd.2 h0
        cases h
    subst h0
    exact ⟨_, rfl, World.ownsRow_nil _ _ _ _, Ext.refl w⟩
  · exact clone_some w ad n c l hl hn

theorem sameBytes_any (w : World) (A A' : Option Addr) (n c m c' : Nat) (x y : List UInt8) (hx : Bs w A n c x) (hy : Bs w A' m c' y) :
    Calls Try.prog 32 #[.slice A n c, .slice A' m c'] w fun e w' => e = .returned (.bool (x == y)) ∧ w = w' := by
  have h1 := run_text (P := Try.prog) w 26 9 5 Try.underlying26 Try.underlying5 Try.underlying9 A n c x hx
  have h2 := run_text (P := Try.prog) w 26 9 5 Try.underlying26 Try.underlying5 Try.underlying9 A' m c' y hy
  go_enter Try.func32, Try.ntmps32
  go_wp2
  go_ret
  exact ⟨ret_bool (text_eq x y), rfl⟩

theorem bcells_set (l : List UInt8) (k : Nat) (x : UInt8) : bcells (l.set k x) = (bcells l).set k (.int .u8 (x.toNat : Int)) := by simp [bcells, List.map_set]
theorem bcells_get {l : List UInt8} {k : Nat} (h : k < l.length) : (bcells l)[k]? = some (.int .u8 ((Gf.get l k).toNat : Int)) := by simp [bcells, Gf.get, h]

set_option maxHeartbeats 2000000 in
theorem lay_any (b : Nat) (w : World) (A A' : Option Addr) (n c m c' : Nat) (out x : List UInt8) (f : UInt8) (hf : FieldAt w b) (ho : Bs w A n c out) (hx : Bs w A' m c' x) (hn : n ≤ 140737488355328) :
    Calls Try.prog 37 #[.pointer (some ⟨b, 0, none⟩), .slice A n c, .int .u8 (f.toNat : Int), .slice A' m c'] w fun e w' => ∃ v, e = .returned v ∧ NewBytes w w' v (Gf.lay out f x) := by
  have h0 := hf.made
  have hm1 := ho.max
  have hm2 := ho.le
  have hm3 := hx.max
  have hm4 := hx.le
  have L1 := Lib.hid ho.len
  have L2 := Lib.hid hx.len
  go_enter Try.func37, Try.ntmps37
  go_wp2_with (first
    | (go_at_call 52; refine (is_yes _ _ h0).mono ?_; rintro e w' ⟨rfl, rfl⟩)
    | (go_at_call 42; refine (clone_any _ A n c out ho hn).mono ?_; rintro e w1 ⟨v, rfl, hv⟩; have hown := hv.own; rw [L1.out] at hown; obtain ⟨A1, c1, rfl, q1, q2⟩ := ownsRow_slice hown))
  all_goals
    go_loopw [20] (fun i wr => ∃ k : Nat, k ≤ n ∧ k ≤ m ∧ i = .int .i64 k ∧ wr.ownsRow w.heap.size 5 1 (.slice A1 n c1) n (bcells (Gf.layTo out f x k)) ∧ Ext w wr) (fun i _ => n - (intOf i).toNat)
    case atStart => exact ⟨0, by omega, by omega, rfl, by rw [Gf.layTo_zero]; exact hown, hv.ext⟩
    case round =>
      obtain ⟨k, hk1, hk2, rfl, hw, hd⟩ := hrel
      clear hown hv
      by_cases hlt : k < n ∧ k < m
      · obtain ⟨hlt1, hlt2⟩ := hlt
        obtain ⟨g, rfl, hg1, hg2⟩ := own_addr hw (by omega)
        obtain ⟨b2, o2, rfl, hc2⟩ := (hx.ext hd).rd.byte hlt2
        have hll : k < (Gf.layTo out f x k).length := by rw [Gf.layTo_length, L1.out]; exact hlt1
        have hc1 : wr.cell? ⟨g, k, none⟩ = some (.int .u8 ((Gf.get out k).toNat : Int)) := by
          rw [hw.cellAt k (by omega), bcells_get hll, Gf.layTo_get _ _ _ (by rw [L1.out]; exact hlt1) (Nat.le_refl _)]
        have hz1 : wr.frozen? ⟨g, k, none⟩ = false := hw.frozenAt k
        have i1 : (k : Int) < n := by omega
        have i2 : (k : Int) < m := by omega
        have hf1 := hf.ext hd
        clear h0
        go_wp2
        go_region_with ((go_at_call 53; refine (mul_any b _ f (Gf.get x k) (hf1.ext (Ext.drewN _ 1))).mono ?_; rintro e w' ⟨rfl, q, rfl⟩))
        all_goals
          go_wp2
          refine ⟨⟨k + 1, by omega, by omega, by go_num, ?_, ?_⟩, by simp [intOf]; omega⟩
          · rw [xor_u8, Gf.layTo_step _ _ _ (by rw [L1.out]; exact hlt1) (by rw [L2.out]; exact hlt2), bcells_set]
            exact ((ownsRow_ext hw (Ext.drewN _ _)).stored k _).1
          · exact Below.setCell (hd.thenDrewN _) hg1 _
      · go_wp2
        go_ret
        refine ⟨_, rfl, ?_, hd⟩
        rw [Gf.lay_length, L1.out, ← Gf.layTo_full (k := k) out f x (by rw [L1.out, L2.out]; omega)]
        exact hw
end Go.Proofs.Ytiianhlppkocgaa
