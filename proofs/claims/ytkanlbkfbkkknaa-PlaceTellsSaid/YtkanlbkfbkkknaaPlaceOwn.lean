/- The contract of place.own: the placement in memory of its own. -/
import Derived.Test.YtkanlbkfbkkknaaPlace
import Derived.Test.YtkanlbkfbkkknaaMem
import Derived.Test.YtkanlbkfbkkknaaIntsClone
namespace Go.Proofs.Ytkanlbkfbkkknaa
open Go.RowKit

set_option maxRecDepth 100000 in
set_option maxHeartbeats 1000000 in
theorem own_any (w : World) (e : Int) (A : Option Addr) (n c : Nat) (l : List Int) (hl : Is w A n c l) (hn : n ≤ 17592186044416) :
    Calls Try.prog 38 #[.agg #[.int .i64 e, .slice A n c]] w fun r w' => ∃ v, r = .returned (.agg #[.int .i64 e, v]) ∧ NewInts w w' v l := by
  go_enter Try.func38, Try.ntmps38
  go_wp2_with (fail)
  have x0 : Ext w ((w.alloc (.cells #[.int .i64 e, .slice A n c] 33)).alloc (.cells #[.int .i64 0, .slice none 0 0] 33)) := (Ext.alloc _ _).thenAlloc _
  have b1 : ((w.alloc (.cells #[.int .i64 e, .slice A n c] 33)).alloc (.cells #[.int .i64 0, .slice none 0 0] 33)).heap[w.heap.size]? = some (.cells #[.int .i64 e, .slice A n c] 33 (0, 0)) := by
    rw [Below.heap_alloc _ _ _ (by simp)]; exact heap_alloc_new w _
  have b2 : ((w.alloc (.cells #[.int .i64 e, .slice A n c] 33)).alloc (.cells #[.int .i64 0, .slice none 0 0] 33)).heap[w.heap.size + 1]? = some (.cells #[.int .i64 0, .slice none 0 0] 33 (0, 0)) := by
    have := heap_alloc_new (w.alloc (.cells #[.int .i64 e, .slice A n c] 33)) (.cells #[.int .i64 0, .slice none 0 0] 33)
    simpa using this
  have hsz : ((w.alloc (.cells #[.int .i64 e, .slice A n c] 33)).alloc (.cells #[.int .i64 0, .slice none 0 0] 33)).heap.size = w.heap.size + 2 := by simp
  have hl1 := hl.ext x0
  generalize ((w.alloc (.cells #[.int .i64 e, .slice A n c] 33)).alloc (.cells #[.int .i64 0, .slice none 0 0] 33)) = W at *
  refine (cloneInts_any W A n c l hl1 hn).mono ?_
  rintro r w1 ⟨v, rfl, hv⟩
  obtain ⟨own, x1⟩ := hv
  rw [hsz] at own
  have B1 := (x1.block w.heap.size (by omega)).trans b1
  have B2 := (x1.block (w.heap.size + 1) (by omega)).trans b2
  have x2 := x0.trans x1
  clear x0 x1 b1 b2 hsz hl1
  have c0 : w1.cell? ⟨w.heap.size, 0, none⟩ = some (.int .i64 e) := by rw [cell_of_row w1 _ _ _ _ _ B1]; rfl
  have c1 : w1.cell? ⟨w.heap.size, 1, none⟩ = some (.slice A n c) := by rw [cell_of_row w1 _ _ _ _ _ B1]; rfl
  have c2 : w1.cell? ⟨w.heap.size + 1, 0, none⟩ = some (.int .i64 0) := by rw [cell_of_row w1 _ _ _ _ _ B2]; rfl
  have c3 : w1.cell? ⟨w.heap.size + 1, 1, none⟩ = some (.slice none 0 0) := by rw [cell_of_row w1 _ _ _ _ _ B2]; rfl
  have z1 : w1.frozen? ⟨w.heap.size, 1, none⟩ = false := frozen_of_row w1 _ _ _ _ B1
  have z2 : w1.frozen? ⟨w.heap.size + 1, 0, none⟩ = false := frozen_of_row w1 _ _ _ _ B2
  have z3 : w1.frozen? ⟨w.heap.size + 1, 1, none⟩ = false := frozen_of_row w1 _ _ _ _ B2
  obtain ⟨D, d, rfl, _, _⟩ := ownsRow_slice own
  have X := Lib.hid x2
  have O := Lib.hid own
  clear own x2 B1 B2 hl
  generalize hg : w.heap.size = g at *
  have G := Lib.hid hg
  clear hg
  go_wp2_with (fail)
  refine bodyPost_ret (v := .agg #[.int .i64 e, .slice D l.length d]) (by simp [results, Try.results38, go_sem, c2, c3]) rfl ⟨_, rfl, ?_, ?_⟩
  · have O3 := ownsRow_far (ownsRow_far (ownsRow_far O.out (p := ⟨g, 1, none⟩) (by show g < g + 2; omega) (.slice D l.length d)) (p := ⟨g + 1, 0, none⟩) (by show g + 1 < g + 2; omega) (.int .i64 e)) (p := ⟨g + 1, 1, none⟩) (by show g + 1 < g + 2; omega) (.slice D l.length d)
    exact ownsRow_base O3 (by rw [G.out]; omega)
  · refine ((X.out.set_ ?_ _).set_ ?_ _).set_ ?_ _
    · rw [G.out]; exact Nat.le_refl _
    · rw [G.out]; exact Nat.le_succ _
    · rw [G.out]; exact Nat.le_succ _
end Go.Proofs.Ytkanlbkfbkkknaa
