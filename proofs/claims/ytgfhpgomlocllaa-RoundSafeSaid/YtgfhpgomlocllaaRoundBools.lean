/- A row of bools of the call's own: in its block, whole. -/
import Derived.Test.YtgfhpgomlocllaaRoundHeld
namespace Go.Proofs.Ytgfhpgomlocllaa
open Go.ChangeShapes Go.WideShapes Go.ChangeAt Go.RowKit

/-- Block g holds these bools. -/
structure Bo (w : World) (g : Nat) (S : List Bool) : Prop where
  blk : w.heap[g]? = some (.cells (S.map Value.bool).toArray 4 (0, 0))
section
variable {w : World} {g : Nat} {S : List Bool}
theorem Bo.lt (h : Bo w g S) : g < w.heap.size := (Array.getElem?_eq_some_iff.1 h.blk).1
theorem Bo.cell (h : Bo w g S) {j : Nat} (hj : j < S.length) : w.cell? ⟨g, j, none⟩ = some (.bool (Rounds.sget S j)) := by
  rw [cell_of_row w _ _ _ _ _ h.blk]
  unfold Rounds.sget
  simp [List.getD_eq_getElem?_getD, hj]
theorem Bo.fz (h : Bo w g S) (j : Nat) : w.frozen? ⟨g, j, none⟩ = false := frozen_of_row w _ _ _ _ h.blk
theorem Bo.ext {w' : World} (h : Bo w g S) (hx : Ext w w') : Bo w' g S := ⟨(hx.block g h.lt).trans h.blk⟩
theorem Bo.far (h : Bo w g S) {q : Addr} (hq : q.block ≠ g) (u : Value) : Bo (w.setCell q u) g S := ⟨(heap_setCell_other w q g u (fun e => hq e.symm)).trans h.blk⟩
theorem Bo.five (h : Bo w g S) {q : Nat} (hq : q ≠ g) (a0 a1 a2 a3 a4 : Value) :
    Bo (((((w.setCell ⟨q, 0, .none⟩ a0).setCell ⟨q, 1, .none⟩ a1).setCell ⟨q, 2, .none⟩ a2).setCell ⟨q, 3, .none⟩ a3).setCell ⟨q, 4, .none⟩ a4) g S :=
  ((((h.far (q := ⟨q, 0, .none⟩) hq _).far (q := ⟨q, 1, .none⟩) hq _).far (q := ⟨q, 2, .none⟩) hq _).far (q := ⟨q, 3, .none⟩) hq _).far (q := ⟨q, 4, .none⟩) hq _
theorem Bo.set (h : Bo w g S) (j : Nat) (b : Bool) : Bo (w.setCell ⟨g, j, none⟩ (.bool b)) g (S.set j b) := by
  refine ⟨?_⟩
  have e : ((S.set j b).map Value.bool).toArray = (S.map Value.bool).toArray.setIfInBounds j (.bool b) := by
    rw [List.map_set]; simp
  rw [e]
  exact heap_setCell_same w g j _ _ (.bool b) h.blk
end
theorem bool_info : (Try.prog.info? 4).map (fun i => (i.zero, i.size, i.bytes)) = some (some (.bool false), 1, 1) := by kernel_rfl
theorem bool_parts {o : Option TypeInfo} (h : o.map (fun i => (i.zero, i.size, i.bytes)) = some (some (.bool false), 1, 1)) : ∃ i, o = some i ∧ i.zero = some (.bool false) ∧ i.size = 1 ∧ i.bytes = 1 := by
  cases o with
  | none => simp at h
  | some i =>
    simp at h
    exact ⟨i, rfl, h.1, h.2.1, h.2.2⟩
theorem run_make_bools (W : World) (c : Nat) (hc : c ≤ 1000) : (Instr.makeSlice 56 (.int .i64 (c : Int)) (.int .i64 (c : Int))).run Try.prog W = .ok (.slice (some ⟨W.heap.size, 0, none⟩) c c) (W.alloc (.cells (made c (.bool false)) 4)) := by
  obtain ⟨i, hi, hz, h1, h2⟩ := bool_parts bool_info
  have h := run_make (P := Try.prog) W 56 4 i _ Try.underlying56 hi hz .i64 .i64 (c : Int) (c : Int) (by omega) (Int.le_refl _) (by rw [h2]; omega) (by omega)
  rw [h1] at h
  simpa [made, Value.cells] using h
theorem Bo.made (w : World) (c : Nat) {g : Nat} (hg : w.heap.size = g) : Bo (w.alloc (.cells (made c (.bool false)) 4)) g (List.replicate c false) := by
  refine ⟨?_⟩
  rw [← hg]
  have e : ((List.replicate c false).map Value.bool).toArray = Go.Proofs.Ytgfhpgomlocllaa.made c (.bool false) := by
    apply Array.ext'
    unfold Go.Proofs.Ytgfhpgomlocllaa.made madeCells
    rw [Array.toList_map, Array.toList_range, List.map_replicate]
    apply List.ext_getElem (by simp)
    intro i h1 h2
    simp [Nat.mod_one]
  rw [e]
  exact heap_alloc_new w _
end Go.Proofs.Ytgfhpgomlocllaa
