/- The contract of matrix.Unit. -/
import Derived.Test.YtiianhlppkocgaaMatMake
import Derived.StillTailTactics
namespace Go.Proofs.Ytiianhlppkocgaa
open Go.RowKit

/-- The first k rows are another matrix's. -/
def upTo (a b : Gm.L) (k : Nat) : Gm.L := a.take k ++ b.drop k
theorem upTo_zero (a b : Gm.L) : upTo a b 0 = b := by simp [upTo]
theorem upTo_full {a b : Gm.L} {k : Nat} (h : k = a.length) (hb : b.length = a.length) : upTo a b k = a := by
  subst h
  unfold upTo
  rw [List.take_length, ← hb, List.drop_length, List.append_nil]
theorem upTo_length {a b : Gm.L} (hb : b.length = a.length) {k : Nat} (h : k ≤ a.length) : (upTo a b k).length = a.length := by simp [upTo]; omega
theorem upTo_set {a b : Gm.L} {k : Nat} (hb : b.length = a.length) (h : k < a.length) : (upTo a b k).set k (Gm.row a k) = upTo a b (k + 1) := by
  unfold upTo
  rw [List.set_append_right _ _ (by simp; omega), show k - (a.take k).length = 0 by simp; omega, List.drop_eq_getElem_cons (by omega), List.set_cons_zero, List.take_succ_eq_append_getElem h, Gm.row_of_lt h, List.append_assoc]
  rfl
theorem row_upTo {a b : Gm.L} {k i : Nat} (ha : k ≤ a.length) (hk : k ≤ i) : Gm.row (upTo a b k) i = Gm.row b i := by
  unfold upTo Gm.row
  rw [List.getD_eq_getElem?_getD, List.getD_eq_getElem?_getD, List.getElem?_append_right (by simp; omega), List.getElem?_drop]
  congr 2
  simp; omega
theorem set_set (m : Gm.L) (i : Nat) (a b : List UInt8) : (m.set i a).set i b = m.set i b := List.set_set ..
theorem unit_row (n k : Nat) (hk : k < n) : (zeros n).set k 1 = Gm.row (Gm.unit n) k := by
  unfold Gm.unit
  rw [Gm.row_range _ hk]
  refine Gf.ext_get (by simp [zeros]) fun j hj => ?_
  have hj' : j < n := by simpa [zeros] using hj
  rw [Gf.get_set _ (by simp [zeros]; exact hk), Gf.get_map_range _ hj']
  by_cases e : k = j
  · rw [if_pos e, if_pos e]
  · rw [if_neg e, if_neg e]; exact Gf.get_zeros _ _

set_option maxRecDepth 100000 in
set_option maxHeartbeats 1000000 in
theorem unit_ok (w : World) (n : Nat) (h1 : 1 ≤ n) (h2 : n ≤ 255) :
    Calls Try.prog 12 #[.int .i64 (n : Int)] w (GivesQE (Gm.unit n) 0 w) := by
  have g1 : ¬ (n : Int) < 1 := by omega
  have g2 : ¬ (255 : Int) < n := by omega
  go_enter Try.func12, Try.ntmps12
  go_wp2_with (fail)
  refine (blank_any w n n (by omega) (by omega)).mono ?_
  rintro e w1 ⟨v, cs, rfl, hQ, hx⟩
  rw [List.length_replicate] at hQ
  obtain ⟨A, c0, rfl, hc1, hc2⟩ := ownsRow_slice hQ.own
  obtain ⟨g, rfl, hg1, hg2⟩ := own_addr hQ.own (by omega)
  have hul : (Gm.unit n).length = n := (Gm.unit_rect n).len
  have hst : List.replicate n (zeros n) = upTo (Gm.unit n) (List.replicate n (zeros n)) 0 := (upTo_zero _ _).symm
  rw [hst] at hQ
  have HU := Lib.hid hul
  clear hst hul
  go_wp2_with (fail)
  go_loopw [5, 17] (fun _ s wr => ∃ (k : Nat) (cs : List Value), k ≤ n ∧ s = .int .i64 k ∧ Mq wr w.heap.size (Hot w.heap.size (.slice (some ⟨g, 0, none⟩) n c0)) (.slice (some ⟨g, 0, none⟩) n c0) n cs (upTo (Gm.unit n) (List.replicate n (zeros n)) k) ∧ Ext w wr) (fun _ s _ => n - (intOf s).toNat)
  case atStart => exact ⟨0, cs, by omega, rfl, hQ, hx⟩
  case round =>
    obtain ⟨k, cs, hk, rfl, hQ', hx'⟩ := hrel
    clear hQ hx
    by_cases hlt : k < n
    · have q1 : (k : Int) < n := by omega
      obtain ⟨Ai, ci, hcs, hcell, _, ho⟩ := hQ'.cellAt hlt
      have hrow : Gm.row (upTo (Gm.unit n) (List.replicate n (zeros n)) k) k = zeros n := by rw [row_upTo (by rw [HU.out]; omega) (Nat.le_refl _), row_replicate _ hlt]
      have hpk := fun (b : Nat) (hA : Ai = some ⟨b, 0, none⟩) (hv : (Value.slice (some ⟨g, 0, none⟩) n c0).ownBlock ≠ some b) => hQ'.poke hlt (g := b) (c := ci) (by rw [hcs, hA]) k 1 hv
      rw [hrow] at hcs hcell ho hpk
      have hzl : (zeros n).length = n := by simp [zeros]
      rw [hzl] at hcs hcell ho
      obtain ⟨b, rfl, hb1, hb2⟩ := own_addr ho (by omega)
      have hne : (Value.slice (some ⟨g, 0, none⟩) n c0).ownBlock ≠ some b := fun e => hQ'.cool k _ b hcs rfl (.inl e)
      have hp := hpk b rfl hne
      rw [unit_row n k hlt, upTo_set (by rw [HU.out]; simp) (by rw [HU.out]; exact hlt)] at hp
      have hcb : wr.cell? ⟨b, k, none⟩ = some (.int .u8 ((Gf.get (zeros n) k).toNat : Int)) := by rw [ho.cellAt k (by omega), bcells_get (by rw [hzl]; exact hlt)]
      have hfb : wr.frozen? ⟨b, k, none⟩ = false := ho.frozenAt k
      have hxs := hx'.set_ (p := ⟨b, k, none⟩) hb1 (.int .u8 ((1 : UInt8).toNat : Int))
      have h11 : ((1 : UInt8).toNat : Int) = 1 := rfl
      rw [h11] at hp hxs
      have HP := Lib.hid hp
      have HXS := Lib.hid hxs
      clear hp hpk hxs h11 hrow hQ' ho hcs hzl hne
      go_wp2_with (fail)
      exact ⟨⟨k + 1, _, by omega, by go_num, HP.out, HXS.out⟩, by simp [intOf]; omega⟩
    · have q1 : ¬ (k : Int) < n := by omega
      obtain rfl : k = n := by omega
      rw [upTo_full HU.out.symm (by rw [HU.out]; simp)] at hQ'
      go_wp2_with (fail)
      go_ret2
      refine ⟨_, cs, rfl, ?_, hx'⟩
      rw [HU.out]
      exact hQ'
set_option maxHeartbeats 1000000 in
theorem unit_no (w : World) (n : Int) (h : n < 1 ∨ 255 < n) :
    Calls Try.prog 12 #[.int .i64 n] w (GivesQE [] 2 w) := by
  rcases h with h | h
  · go_enter Try.func12, Try.ntmps12
    go_wp2_with (fail)
    go_ret2
    exact GivesQE.none 2 (Ext.refl w)
  · have h' : ¬ n < 1 := by omega
    go_enter Try.func12, Try.ntmps12
    go_wp2_with (fail)
    go_ret2
    exact GivesQE.none 2 (Ext.refl w)

end Go.Proofs.Ytiianhlppkocgaa
