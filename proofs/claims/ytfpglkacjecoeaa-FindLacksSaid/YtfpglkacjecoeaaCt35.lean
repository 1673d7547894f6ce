/- Several texts in one: A row of bools of the call's own: in its block, whole. No statement of the seat is proved here. The contract of Pick. -/
import Derived.Test.YtfpglkacjecoeaaCt15
import Derived.Laws.MakeOwn
import Derived.Test.YtfpglkacjecoeaaCt1
namespace Go.Proofs.Ytfpglkacjecoeaa
open Go.RowKit

def brow (l : List Bool) (k : Nat) : Bool := l.getD k false
/-- Block g holds these bools. -/
structure Bo (w : World) (g : Nat) (S : List Bool) : Prop where
  blk : w.heap[g]? = some (.cells (S.map Value.bool).toArray 4 (0, 0))
section
variable {w : World} {g : Nat} {S : List Bool}
theorem Bo.lt (h : Bo w g S) : g < w.heap.size := (Array.getElem?_eq_some_iff.1 h.blk).1
theorem Bo.cell (h : Bo w g S) {j : Nat} (hj : j < S.length) : w.cell? ⟨g, j, none⟩ = some (.bool (brow S j)) := by
  rw [cell_of_row w _ _ _ _ _ h.blk]
  unfold brow
  simp [List.getD_eq_getElem?_getD, hj]
theorem Bo.fz (h : Bo w g S) (j : Nat) : w.frozen? ⟨g, j, none⟩ = false := frozen_of_row w _ _ _ _ h.blk
theorem Bo.same {w' : World} (h : Bo w g S) (hb : w'.heap[g]? = w.heap[g]?) : Bo w' g S := ⟨hb.trans h.blk⟩
theorem Bo.ext {w' : World} (h : Bo w g S) (hx : Ext w w') : Bo w' g S := h.same (hx.block g h.lt)
theorem Bo.far (h : Bo w g S) {q : Addr} (hq : q.block ≠ g) (u : Value) : Bo (w.setCell q u) g S := h.same (heap_setCell_other w q g u (fun e => hq e.symm))
theorem Bo.set (h : Bo w g S) (j : Nat) (b : Bool) : Bo (w.setCell ⟨g, j, none⟩ (.bool b)) g (S.set j b) := by
  refine ⟨?_⟩
  have e : ((S.set j b).map Value.bool).toArray = (S.map Value.bool).toArray.setIfInBounds j (.bool b) := by
    rw [List.map_set]; simp
  rw [e]
  exact heap_setCell_same w g j _ _ (.bool b) h.blk
end
theorem bool_info : (Try.prog.info? 4).map (fun i => (i.zero, i.size, i.bytes)) = some (some (.bool false), 1, 1) := by kernel_rfl
theorem bool_parts {o : Option TypeInfo} (h : o.map (fun i => (i.zero, i.size, i.bytes)) = some (some (.bool false), 1, 1)) : ∃ i, o = some i ∧ i.zero = some (.bool false) ∧ i.size = 1 ∧ i.bytes = 1 := by
  cases o with
  | none => simp at h
  | some i =>
    simp at h
    exact ⟨i, rfl, h.1, h.2.1, h.2.2⟩
theorem run_make_bools (W : World) (c : Nat) (hc : c ≤ 1000) : (Instr.makeSlice 61 (.int .i64 (c : Int)) (.int .i64 (c : Int))).run Try.prog W = .ok (.slice (some ⟨W.heap.size, 0, none⟩) c c) (W.alloc (.cells (made c (.bool false)) 4)) := by
  obtain ⟨i, hi, hz, h1, h2⟩ := bool_parts bool_info
  have h := run_make (P := Try.prog) W 61 4 i _ Try.underlying61 hi hz .i64 .i64 (c : Int) (c : Int) (by omega) (Int.le_refl _) (by rw [h2]; omega) (by omega)
  rw [h1] at h
  simpa [made, Value.cells] using h
theorem Bo.made (w : World) (c : Nat) {g : Nat} (hg : w.heap.size = g) : Bo (w.alloc (.cells (made c (.bool false)) 4)) g (List.replicate c false) := by
  refine ⟨?_⟩
  rw [← hg]
  have e : ((List.replicate c false).map Value.bool).toArray = Go.Proofs.Ytfpglkacjecoeaa.made c (.bool false) := by
    apply Array.ext'
    unfold Go.Proofs.Ytfpglkacjecoeaa.made madeCells
    rw [Array.toList_map, Array.toList_range, List.map_replicate]
    apply List.ext_getElem (by simp)
    intro i h1 h2
    simp [Nat.mod_one]
  rw [e]
  exact heap_alloc_new w _
end Go.Proofs.Ytfpglkacjecoeaa
namespace Go.Proofs.Ytfpglkacjecoeaa
open Go.RowKit

theorem tmod_nat (n m : Nat) : (n : Int).tmod (m : Int) = ((n % m : Nat) : Int) := by
  rw [Int.tmod_eq_emod_of_nonneg (by omega)]; simp
/-- A number from 0 to n - 1. -/
def pick (x : Int) (n : Nat) : Int := if n = 0 then 0 else if x.tmod n < 0 then x.tmod n + n else x.tmod n
theorem pick_range (x : Int) (n : Nat) (h : 0 < n) : 0 ≤ pick x n ∧ pick x n < n := by
  unfold pick
  rw [if_neg (by omega)]
  have h1 := Int.tmod_lt_of_pos x (show (0 : Int) < n by omega)
  have h2 : -(n : Int) < x.tmod n := by
    have := Int.lt_tmod_of_pos x (show (0 : Int) < n by omega)
    omega
  split <;> omega
set_option maxHeartbeats 1000000 in
theorem pick_any (w : World) (x : Int) (n : Nat) (hn : n ≤ 1000000) :
    Calls Try.prog 22 #[.int .i64 x, .int .i64 (n : Int)] w fun r w' => r = .returned (.int .i64 (pick x n)) ∧ w = w' := by
  by_cases h0 : n = 0
  · subst h0
    go_enter Try.func22, Try.ntmps22
    go_wp2
    go_ret
    exact ⟨rfl, rfl⟩
  · have hb : -(n : Int) < x.tmod n ∧ x.tmod n < n := by
      have h1 := Int.tmod_lt_of_pos x (show (0 : Int) < n by omega)
      have := Int.lt_tmod_of_pos x (show (0 : Int) < n by omega)
      omega
    have hp : pick x n = if x.tmod n < 0 then x.tmod n + n else x.tmod n := by unfold pick; rw [if_neg h0]
    rw [hp]
    have hn0 : ¬ (n : Int) ≤ 0 := by omega
    generalize ht : x.tmod (n : Int) = t at *
    by_cases hneg : t < 0
    · rw [if_pos hneg]
      clear hp
      go_enter Try.func22, Try.ntmps22
      go_wp2
      go_ret
      exact ⟨rfl, rfl⟩
    · rw [if_neg hneg]
      clear hp
      go_enter Try.func22, Try.ntmps22
      go_wp2
      go_ret
      exact ⟨rfl, rfl⟩
end Go.Proofs.Ytfpglkacjecoeaa
