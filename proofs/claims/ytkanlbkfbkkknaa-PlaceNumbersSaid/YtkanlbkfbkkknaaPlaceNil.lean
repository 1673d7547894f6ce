/- First where it refuses; the bytes of no placements; placements of no bytes. -/
import Derived.Test.YtkanlbkfbkkknaaPlaceFunc
namespace Go.Proofs.Ytkanlbkfbkkknaa
open Go.RowKit

set_option maxRecDepth 100000 in
theorem first_no0 (w : World) : Calls Try.prog 15 #[.int .i64 (0), .int .i64 (1), .int .i64 (1)] w fun r w' => r = .returned (.tuple #[.slice none 0 0, .int .i64 2]) ∧ w = w' := by
  go_enter Try.func15, Try.ntmps15
  go_wp2_with (fail)
  refine bodyPost_ret (results_tmp2 rfl _ _ _) rfl ?_
  exact ⟨rfl, rfl⟩
set_option maxRecDepth 100000 in
theorem first_no1 (w : World) : Calls Try.prog 15 #[.int .i64 (257), .int .i64 (1), .int .i64 (1)] w fun r w' => r = .returned (.tuple #[.slice none 0 0, .int .i64 2]) ∧ w = w' := by
  go_enter Try.func15, Try.ntmps15
  go_wp2_with (fail)
  refine bodyPost_ret (results_tmp2 rfl _ _ _) rfl ?_
  exact ⟨rfl, rfl⟩
set_option maxRecDepth 100000 in
theorem first_no2 (w : World) : Calls Try.prog 15 #[.int .i64 (3), .int .i64 (4), .int .i64 (1)] w fun r w' => r = .returned (.tuple #[.slice none 0 0, .int .i64 2]) ∧ w = w' := by
  go_enter Try.func15, Try.ntmps15
  go_wp2_with (fail)
  refine bodyPost_ret (results_tmp2 rfl _ _ _) rfl ?_
  exact ⟨rfl, rfl⟩
set_option maxRecDepth 100000 in
theorem first_no3 (w : World) : Calls Try.prog 15 #[.int .i64 (3), .int .i64 (0), .int .i64 (1)] w fun r w' => r = .returned (.tuple #[.slice none 0 0, .int .i64 2]) ∧ w = w' := by
  go_enter Try.func15, Try.ntmps15
  go_wp2_with (fail)
  refine bodyPost_ret (results_tmp2 rfl _ _ _) rfl ?_
  exact ⟨rfl, rfl⟩
set_option maxRecDepth 100000 in
theorem first_no4 (w : World) : Calls Try.prog 15 #[.int .i64 (256), .int .i64 (256), .int .i64 (1)] w fun r w' => r = .returned (.tuple #[.slice none 0 0, .int .i64 2]) ∧ w = w' := by
  go_enter Try.func15, Try.ntmps15
  go_wp2_with (fail)
  refine bodyPost_ret (results_tmp2 rfl _ _ _) rfl ?_
  exact ⟨rfl, rfl⟩
set_option maxRecDepth 100000 in
theorem first_no5 (w : World) : Calls Try.prog 15 #[.int .i64 (3), .int .i64 (1), .int .i64 (0)] w fun r w' => r = .returned (.tuple #[.slice none 0 0, .int .i64 2]) ∧ w = w' := by
  go_enter Try.func15, Try.ntmps15
  go_wp2_with (fail)
  refine bodyPost_ret (results_tmp2 rfl _ _ _) rfl ?_
  exact ⟨rfl, rfl⟩
set_option maxRecDepth 100000 in
theorem first_no6 (w : World) : Calls Try.prog 15 #[.int .i64 (3), .int .i64 (1), .int .i64 (1001)] w fun r w' => r = .returned (.tuple #[.slice none 0 0, .int .i64 2]) ∧ w = w' := by
  go_enter Try.func15, Try.ntmps15
  go_wp2_with (fail)
  refine bodyPost_ret (results_tmp2 rfl _ _ _) rfl ?_
  exact ⟨rfl, rfl⟩
set_option maxRecDepth 100000 in
theorem first_no7 (w : World) : Calls Try.prog 15 #[.int .i64 (-1), .int .i64 (-1), .int .i64 (-1)] w fun r w' => r = .returned (.tuple #[.slice none 0 0, .int .i64 2]) ∧ w = w' := by
  go_enter Try.func15, Try.ntmps15
  go_wp2_with (fail)
  refine bodyPost_ret (results_tmp2 rfl _ _ _) rfl ?_
  exact ⟨rfl, rfl⟩
theorem ps_nil (w : World) : Ps w none 0 0 [] := ⟨rfl, Nat.le_refl _, by omega, fun k hk => absurd hk (Nat.not_lt_zero _)⟩
set_option maxRecDepth 100000 in
theorem bytes_nil (w : World) : Calls Try.prog 20 #[.slice none 0 0] w fun r w' => r = .returned (.tuple #[.slice none 0 0, .int .i64 100]) ∧ Ext w w' := by
  have ha := all_any w none 0 0 [] (ps_nil w)
  rw [decide_eq_false (by decide)] at ha
  go_enter Try.func20, Try.ntmps20
  go_wp2_with (fail)
  with_reducible refine ha.mono ?_
  rintro e w1 ⟨rfl, x1⟩
  go_wp2_with (fail)
  refine bodyPost_ret (results_tmp2 rfl _ _ _) rfl ?_
  exact ⟨rfl, x1⟩
set_option maxRecDepth 100000 in
theorem getUint_nil (w : World) : Calls Try.prog 43 #[.slice none 0 0, .int .i64 0] w fun r w' => r = .returned (.tuple #[.int .u64 0, .int .i64 0, .int .i64 11]) ∧ w = w' := by
  go_enter Try.func43, Try.ntmps43
  go_wp2_with (fail)
  go_loopw [8] (fun i wr => i = .int .i64 0 ∧ wr = w) (fun _ _ => 0)
  case atStart => exact ⟨rfl, rfl⟩
  case round =>
    obtain ⟨rfl, rfl⟩ := hrel
    go_wp2_with (fail)
    refine bodyPost_ret (results_tmp3 rfl _ _ _) rfl ?_
    exact ⟨rfl, rfl⟩
set_option maxRecDepth 100000 in
theorem read1_nil (W : World) (g h k : Nat) (c0 : W.cell? ⟨g, 0, none⟩ = some (.slice none 0 0)) (c1 : W.cell? ⟨h, 0, none⟩ = some (.int .i64 0)) (c2 : W.cell? ⟨k, 0, none⟩ = some (.bool false)) (f2 : W.frozen? ⟨k, 0, none⟩ = false) :
    Calls Try.prog 42 #[.int .i64 1000, .pointer (some ⟨g, 0, none⟩), .pointer (some ⟨h, 0, none⟩), .pointer (some ⟨k, 0, none⟩)] W fun r w' => r = .returned (.int .i64 0) ∧ W.setCell ⟨k, 0, none⟩ (.bool true) = w' := by
  have hu := getUint_nil W
  go_enter Try.func42, Try.ntmps42
  go_wp2_with (fail)
  with_reducible refine hu.mono ?_
  rintro e w1 ⟨rfl, rfl⟩
  go_wp2_with (fail)
  go_ret
  exact ⟨rfl, rfl⟩
set_option maxRecDepth 100000 in
theorem read_nil (w : World) : Calls Try.prog 21 #[.slice none 0 0] w fun r w' => r = .returned (.tuple #[.slice none 0 0, .int .i64 100]) ∧ Ext w w' := by
  go_enter Try.func21, Try.ntmps21
  go_wp2_with (fail)
  obtain ⟨g, hg⟩ : ∃ g, w.heap.size = g := ⟨_, rfl⟩
  have e1 := heap_alloc_new w (.cells #[.slice none 0 0] 50)
  have e2 := heap_alloc_new (w.alloc (.cells #[.slice none 0 0] 50)) (.cells #[.int .i64 0] 3)
  have e3 := heap_alloc_new ((w.alloc (.cells #[.slice none 0 0] 50)).alloc (.cells #[.int .i64 0] 3)) (.cells #[.bool false] 4)
  have z1 : (w.alloc (.cells #[.slice none 0 0] 50)).heap.size = g + 1 := by rw [← hg]; simp
  have z2 : ((w.alloc (.cells #[.slice none 0 0] 50)).alloc (.cells #[.int .i64 0] 3)).heap.size = g + 1 + 1 := by rw [← hg]; simp
  rw [hg] at e1
  rw [z1] at e2
  rw [z2] at e3
  have x0 : Ext w (((w.alloc (.cells #[.slice none 0 0] 50)).alloc (.cells #[.int .i64 0] 3)).alloc (.cells #[.bool false] 4)) := ((Ext.alloc _ _).thenAlloc _).thenAlloc _
  have b1 : (((w.alloc (.cells #[.slice none 0 0] 50)).alloc (.cells #[.int .i64 0] 3)).alloc (.cells #[.bool false] 4)).heap[g]? = some (.cells #[.slice none 0 0] 50 (0, 0)) := (((Ext.alloc _ _).thenAlloc _).block g (by rw [z1]; omega)).trans e1
  have b2 : (((w.alloc (.cells #[.slice none 0 0] 50)).alloc (.cells #[.int .i64 0] 3)).alloc (.cells #[.bool false] 4)).heap[g + 1]? = some (.cells #[.int .i64 0] 3 (0, 0)) := ((Ext.alloc _ _).block (g + 1) (by rw [z2]; omega)).trans e2
  rw [hg]
  generalize ((w.alloc (.cells #[.slice none 0 0] 50)).alloc (.cells #[.int .i64 0] 3)).alloc (.cells #[.bool false] 4) = W at *
  have c0 : W.cell? ⟨g, 0, none⟩ = some (.slice none 0 0) := by rw [cell_of_row W _ _ _ _ _ b1]; rfl
  have c1 : W.cell? ⟨g + 1, 0, none⟩ = some (.int .i64 0) := by rw [cell_of_row W _ _ _ _ _ b2]; rfl
  have c2 : W.cell? ⟨g + 1 + 1, 0, none⟩ = some (.bool false) := by rw [cell_of_row W _ _ _ _ _ e3]; rfl
  have f2 : W.frozen? ⟨g + 1 + 1, 0, none⟩ = false := frozen_of_row W _ _ _ _ e3
  have hc := read1_nil W g (g + 1) (g + 1 + 1) c0 c1 c2 f2
  have c3 : (W.setCell ⟨g + 1 + 1, 0, none⟩ (.bool true)).cell? ⟨g + 1 + 1, 0, none⟩ = some (.bool true) := World.cell?_setCell_same _ _ _ c2
  have HX : Ext w (W.setCell ⟨g + 1 + 1, 0, none⟩ (.bool true)) := Below.setCell x0 (p := ⟨g + 1 + 1, 0, none⟩) (by show w.heap.size ≤ g + 1 + 1; omega) _
  have X := Lib.hid HX
  clear e1 e2 e3 z1 z2 x0 b1 b2 c0 c1 c2 f2 HX
  with_reducible refine hc.mono ?_
  rintro e w1 ⟨rfl, rfl⟩
  obtain ⟨W1, hW1⟩ : ∃ W1, W.setCell ⟨g + 1 + 1, 0, none⟩ (.bool true) = W1 := ⟨_, rfl⟩
  rw [hW1] at c3 X ⊢
  clear hW1 hc
  go_wp2_with (fail)
  go_loopw [12] (fun i wr => i = .int .i64 0 ∧ wr = W1) (fun _ _ => 0)
  case atStart => exact ⟨rfl, rfl⟩
  case round =>
    obtain ⟨rfl, rfl⟩ := hrel
    go_wp2_with (fail)
    refine bodyPost_ret (results_tmp2 rfl _ _ _) rfl ?_
    exact ⟨rfl, X.out⟩
end Go.Proofs.Ytkanlbkfbkkknaa
