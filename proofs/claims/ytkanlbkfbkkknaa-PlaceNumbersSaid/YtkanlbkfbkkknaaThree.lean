/- Three numbers copied into a new variable; a row of 256 noughts. No statement of the seat is proved here. -/
import Derived.Test.YtkanlbkfbkkknaaSteps
import Derived.Laws.MakeOwn
namespace Go.Proofs.Ytkanlbkfbkkknaa
open Go.RowKit

def zthree : Obj := .cells #[.int .i64 0, .int .i64 0, .int .i64 0] 48 (0, 0)
theorem run_alloc_three (w : World) : (Instr.alloc 48 true (.tuple #[])).run Try.prog w = .ok (.pointer (some ⟨w.heap.size, 0, none⟩)) (w.alloc zthree) := by kernel_rfl
theorem three_size : (Try.prog.info? 48).map (·.size) = some 3 := by kernel_rfl
theorem three_copy (w : World) (a b c : Int) : ∃ w', (Instr.storeAt 48 (.pointer (some ⟨w.heap.size, 0, none⟩)) (.agg #[.int .i64 a, .int .i64 b, .int .i64 c])).run Try.prog (w.alloc zthree) = .ok () w' ∧ w'.cell? ⟨w.heap.size, 0, none⟩ = some (.int .i64 a) ∧ w'.cell? ⟨w.heap.size, 1, none⟩ = some (.int .i64 b) ∧ w'.cell? ⟨w.heap.size, 2, none⟩ = some (.int .i64 c) ∧ Ext w w' := by
  have hb : (w.alloc zthree).heap[w.heap.size]? = some zthree := heap_alloc_new w _
  have hth : (w.alloc zthree).there w.heap.size 0 3 := fun j hj => ⟨by
    rw [cell_of_row _ _ _ _ _ _ hb]
    have hl : 0 + j < (#[.int .i64 0, .int .i64 0, .int .i64 0] : Array Value).size := by show 0 + j < 3; omega
    rw [Array.getElem?_eq_getElem hl]; rfl, frozen_of_row _ _ _ _ _ hb⟩
  have hr := run_storeVar_mid (P := Try.prog) (w.alloc zthree) w.heap.size 0 48 #[.int .i64 a, .int .i64 b, .int .i64 c] hth three_size (by simp [Value.oneCell'])
  have h1 := heap_setCell_same _ w.heap.size 0 _ _ (.int .i64 a) hb
  have h2 := heap_setCell_same _ w.heap.size 1 _ _ (.int .i64 b) h1
  have h3 := heap_setCell_same _ w.heap.size 2 _ _ (.int .i64 c) h2
  refine ⟨(w.alloc zthree).setCells w.heap.size 0 [.int .i64 a, .int .i64 b, .int .i64 c], by simp only [Instr.storeAt, Instr.sureAddr, Sem.run_bind, Sem.run_pure, Result.andThen_ok, hr], ?_, ?_, ?_, below_setCellsS (Nat.le_refl _) _ _ _ (Ext.alloc w _)⟩
  · exact (cell_of_row _ _ _ _ _ _ h3).trans rfl
  · exact (cell_of_row _ _ _ _ _ _ h3).trans rfl
  · exact (cell_of_row _ _ _ _ _ _ h3).trans rfl
def z256 : Array Value := madeCells #[.int .i64 0] 256
theorem run_make_256 (W : World) : (Instr.makeSlice 28 (.int .i64 256) (.int .i64 256)).run Try.prog W = .ok (.slice (some ⟨W.heap.size, 0, none⟩) 256 256) (W.alloc (.cells z256 3)) := by
  obtain ⟨i, hi, hz, h1, h2⟩ := info_parts int_info
  have h := run_make (P := Try.prog) W 28 3 i _ Try.underlying28 hi hz .i64 .i64 (256 : Int) (256 : Int) (by omega) (Int.le_refl _) (by rw [h2]; omega) (by omega)
  rw [h1] at h
  exact h
theorem is_256 (W : World) {g : Nat} (hg : W.heap.size = g) : Is (W.alloc (.cells z256 3)) (some ⟨g, 0, none⟩) 256 256 (List.replicate 256 0) := by
  subst hg
  refine ⟨List.length_replicate .., Nat.le_refl _, by omega, by rw [icells_length, List.length_replicate], fun _ => ⟨W.heap.size, 0, rfl, fun j u hu => ?_⟩⟩
  have hj : j < 256 := by
    have := (List.getElem?_eq_some_iff.1 hu).1
    rwa [icells_length, List.length_replicate] at this
  rw [cell_of_row _ _ _ _ _ _ (heap_alloc_new W _), Nat.zero_add, ← hu]
  unfold z256 madeCells
  rw [Array.getElem?_map, Array.getElem?_range, if_pos hj]
  have e : icells (List.replicate 256 0) = List.replicate 256 (.int .i64 0) := by unfold icells; rw [List.map_replicate]
  rw [e, List.getElem?_replicate, if_pos hj]
  simp [Nat.mod_one]
end Go.Proofs.Ytkanlbkfbkkknaa
