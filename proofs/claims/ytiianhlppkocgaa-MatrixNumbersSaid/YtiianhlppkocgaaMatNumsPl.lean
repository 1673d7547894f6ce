/- Plain facts for the chapter's fixed numbers: ranks of the great matrices, what misfits, tables of rows. -/
import Derived.Test.YtiianhlppkocgaaMatLit
import Derived.Test.YtiianhlppkocgaaMatErrs
import Derived.Test.YtiianhlppkocgaaGr
namespace Go.Proofs.Ytiianhlppkocgaa
open Go.RowKit

theorem great_right : Gm.right (Gm.cauchy 128 128) := (Gm.cauchy_rect 128 128).right (by omega) (by omega) (by omega) (by omega)
theorem great_rank : Gm.rank (Gm.cauchy 128 128) = 128 :=
  Gm.cauchy_full (r := 128) (c := 128) (n := 128) id id (by omega) (by omega) (fun _ h => h) (fun _ h => h) (fun _ _ _ _ h => h) (fun _ _ _ _ h => h) (Gm.cauchy_rect 128 128) (fun _ _ _ _ => rfl)
theorem great_row : (Gm.row (Gm.cauchy 128 128) 127).length = 128 := (Gm.cauchy_rect 128 128).wid 127 (by omega)
theorem all_right : Gm.right (Gm.unit 255) := (Gm.unit_rect 255).right (by omega) (by omega) (by omega) (by omega)
theorem all_rank : Gm.rank (Gm.unit 255) = 255 :=
  Gm.rank_full_left (X := Gm.one) (Gm.unit_rect 255) (by omega) fun i hi j hj => (Gm.one_prod _ hi j).trans (Gm.at_unit hi hj)
theorem misfit_mul : ¬ fit [[1, 2]] [[1]] := by decide
theorem misfit_inv : invE [[1, 2]] = 30 := by decide +kernel
theorem all_pick (l : List Int) (h : ¬ rowsOf 255 l) : pickE (Gm.unit 255) l = 2 := by
  unfold pickE
  rw [if_pos all_right, show (Gm.unit 255).length = 255 from (Gm.unit_rect 255).1, if_neg h]
theorem no_rows : ¬ rowsOf 255 [] := fun h => absurd h.1 (by decide)
theorem no_rows1 : ¬ rowsOf 255 [255] := by unfold rowsOf noRow; decide
theorem no_rows2 : ¬ rowsOf 255 [-1] := by unfold rowsOf noRow; decide
theorem no_rows3 : ¬ rowsOf 255 (List.replicate 256 0) := fun h => absurd h.2.1 (by rw [List.length_replicate]; omega)
theorem long_not : ¬ Gm.right (List.replicate 256 [1]) := fun h => absurd h.2.1 (by rw [List.length_replicate]; omega)
theorem wide_not : ¬ Gm.right [List.replicate 256 0] := fun h => absurd h.2.2.2.1 (by show ¬ (List.replicate 256 (0 : UInt8)).length ≤ 255; rw [List.length_replicate]; omega)
theorem ownsRow_lit1 (w : World) (e : TypeId) (x : UInt8) : (w.alloc (.cells #[.int .u8 (x.toNat : Int)] e)).ownsRow w.heap.size e 1 (.slice (some ⟨w.heap.size, 0, none⟩) 1 1) 1 (bcells [x]) :=
  ⟨by simp [bcells], .inr ⟨w.heap.size, 1, #[.int .u8 (x.toNat : Int)], rfl, Nat.le_refl _, heap_alloc_new w _, Nat.le_refl _, by unfold maxLen; omega, by simp, by simp [bcells]⟩⟩
theorem cell_lit (W : World) (cs : Array Value) (t : TypeId) {g : Nat} (hg : W.heap.size = g) (j : Nat) : (W.alloc (.cells cs t)).cell? ⟨g, j, none⟩ = cs[j]? := by
  subst hg
  exact World.cell?_alloc_new W cs t j
theorem mx_one_at (W : World) {g : Nat} (hg : W.heap.size = g) (r : List UInt8) (cs : Array Value) (t tt : TypeId) {k : Nat} (hk : r.length = k) (hc : cs.toList = bcells r) (hl : k ≤ 1000) :
    Mx ((W.alloc (.cells cs t)).alloc (.cells #[.slice (some ⟨g, 0, .none⟩) k k] tt)) (some ⟨g + 1, 0, .none⟩) 1 1 [r] := by
  subst hg
  exact mx_one W r cs t tt hk hc hl
theorem run_make_ints (W : World) (c : Nat) (hc : c ≤ 1000) : (Instr.makeSlice 29 (.int .i64 (c : Int)) (.int .i64 (c : Int))).run Try.prog W = .ok (.slice (some ⟨W.heap.size, 0, none⟩) c c) (W.alloc (.cells (made c (.int .i64 0)) 3)) := by
  obtain ⟨i, hi, hz, h1, h2⟩ := info_parts int_info
  have h := run_make (P := Try.prog) W 29 3 i _ Try.underlying29 hi hz .i64 .i64 (c : Int) (c : Int) (by omega) (Int.le_refl _) (by rw [h2]; omega) (by omega)
  rw [h1] at h
  simpa [made, Value.cells] using h
theorem is_made (w : World) (t : TypeId) {g : Nat} (hg : w.heap.size = g) : Is (w.alloc (.cells (made 256 (.int .i64 0)) t)) (some ⟨g, 0, none⟩) 256 256 (List.replicate 256 0) :=
  Is.lit w g hg (List.replicate 256 0) _ t 256 (List.length_replicate ..) (by rw [made_toList]; unfold icells; exact List.map_replicate.symm) (by omega)
/-- Tables of numbers. -/
theorem ints_cells (W : World) {h : Nat} (hh : W.heap.size = h) (t : TypeId) (j : Nat) (hj : j < 3) : ∃ x : Int, (W.alloc (.cells #[.int .i64 0, .int .i64 (-1), .int .i64 256] t)).cell? ⟨h, j, none⟩ = some (.int .i64 x) ∧ (x < 1 ∨ 255 < x) := by
  have hc := fun j => cell_lit W #[.int .i64 0, .int .i64 (-1), .int .i64 256] t hh j
  have hj' : j = 0 ∨ j = 1 ∨ j = 2 := by omega
  rcases hj' with rfl | rfl | rfl
  · exact ⟨0, (hc 0).trans rfl, by decide⟩
  · exact ⟨-1, (hc 1).trans rfl, by decide⟩
  · exact ⟨256, (hc 2).trans rfl, by decide⟩
def pairs : Array Value := #[.int .i64 0, .int .i64 1, .int .i64 1, .int .i64 0, .int .i64 (-1), .int .i64 2, .int .i64 128, .int .i64 129, .int .i64 256, .int .i64 1, .int .i64 4611686018427387904, .int .i64 4611686018427387904]
theorem pairs_cells (W : World) {h : Nat} (hh : W.heap.size = h) (t : TypeId) (j : Nat) (hj : j < 6) : ∃ x y : Int, (W.alloc (.cells pairs t)).cell? ⟨h, j * 2, none⟩ = some (.int .i64 x) ∧ (W.alloc (.cells pairs t)).cell? ⟨h, j * 2 + 1, none⟩ = some (.int .i64 y) ∧ (x < 1 ∨ y < 1 ∨ 256 < x ∨ 256 - x < y) := by
  have hc := fun j => cell_lit W pairs t hh j
  have hj' : j = 0 ∨ j = 1 ∨ j = 2 ∨ j = 3 ∨ j = 4 ∨ j = 5 := by omega
  rcases hj' with rfl | rfl | rfl | rfl | rfl | rfl
  · exact ⟨0, 1, (hc 0).trans rfl, (hc 1).trans rfl, by decide⟩
  · exact ⟨1, 0, (hc 2).trans rfl, (hc 3).trans rfl, by decide⟩
  · exact ⟨-1, 2, (hc 4).trans rfl, (hc 5).trans rfl, by decide⟩
  · exact ⟨128, 129, (hc 6).trans rfl, (hc 7).trans rfl, by decide⟩
  · exact ⟨256, 1, (hc 8).trans rfl, (hc 9).trans rfl, by decide⟩
  · exact ⟨4611686018427387904, 4611686018427387904, (hc 10).trans rfl, (hc 11).trans rfl, by decide⟩
/-- The table of what is no matrix. -/
theorem table_cells (W : World) (g : Nat) {h : Nat} (hh : W.heap.size = h) (hl : Mx W (some ⟨g, 0, none⟩) 256 256 (List.replicate 256 [1])) {Z : World}
    (hZ : (((((((((((W.alloc (.cells #[] 26)).alloc (.cells #[] 5)).alloc (.cells #[.slice (some ⟨h + 1, 0, none⟩) 0 0] 26)).alloc (.cells #[.int .u8 1, .int .u8 2] 5)).alloc (.cells #[.int .u8 3] 5)).alloc (.cells #[.slice (some ⟨h + 1 + 1 + 1, 0, none⟩) 2 2, .slice (some ⟨h + 1 + 1 + 1 + 1, 0, none⟩) 1 1] 26)).alloc (.cells #[.int .u8 1] 5)).alloc (.cells #[.slice none 0 0, .slice (some ⟨h + 1 + 1 + 1 + 1 + 1 + 1, 0, none⟩) 1 1] 26)).alloc (.cells (made 256 (.int .u8 0)) 5)).alloc (.cells #[.slice (some ⟨h + 1 + 1 + 1 + 1 + 1 + 1 + 1 + 1, 0, none⟩) 256 256] 26)).alloc (.cells #[.slice none 0 0, .slice (some ⟨h, 0, none⟩) 0 0, .slice (some ⟨h + 1 + 1, 0, none⟩) 1 1, .slice (some ⟨h + 1 + 1 + 1 + 1 + 1, 0, none⟩) 2 2, .slice (some ⟨h + 1 + 1 + 1 + 1 + 1 + 1 + 1, 0, none⟩) 2 2, .slice (some ⟨h + 1 + 1 + 1 + 1 + 1 + 1 + 1 + 1 + 1, 0, none⟩) 1 1, .slice (some ⟨g, 0, none⟩) 256 256] 25)) = Z) :
    Ext W Z ∧ ∀ j, j < 7 → ∃ A n c m, Z.cell? ⟨h + 1 + 1 + 1 + 1 + 1 + 1 + 1 + 1 + 1 + 1, j, none⟩ = some (.slice A n c) ∧ Mx Z A n c m ∧ ¬ Gm.right m := by
  obtain ⟨W1, e1⟩ : ∃ W1, W.alloc (.cells #[] 26) = W1 := ⟨_, rfl⟩
  rw [e1] at hZ
  have s1 : W1.heap.size = h + 1 := by rw [← e1, World.size_alloc, hh]
  have x1 : Ext W W1 := e1 ▸ Ext.alloc _ _
  have m1 : Mx W1 (some ⟨h, 0, none⟩) 0 0 [] := e1 ▸ Mx.lit W hh #[] _ rfl (Rows.nil W) (by omega)
  obtain ⟨W2, e2⟩ : ∃ W2, W1.alloc (.cells #[] 5) = W2 := ⟨_, rfl⟩
  rw [e2] at hZ
  have s2 : W2.heap.size = h + 1 + 1 := by rw [← e2, World.size_alloc, s1]
  have x2 : Ext W1 W2 := e2 ▸ Ext.alloc _ _
  have b2 : Bs W2 (some ⟨h + 1, 0, none⟩) 0 0 [] := e2 ▸ bs_lit W1 s1 [] #[] _ rfl rfl (by omega)
  obtain ⟨W3, e3⟩ : ∃ W3, W2.alloc (.cells #[.slice (some ⟨h + 1, 0, none⟩) 0 0] 26) = W3 := ⟨_, rfl⟩
  rw [e3] at hZ
  have s3 : W3.heap.size = h + 1 + 1 + 1 := by rw [← e3, World.size_alloc, s2]
  have x3 : Ext W2 W3 := e3 ▸ Ext.alloc _ _
  have m3 : Mx W3 (some ⟨h + 1 + 1, 0, none⟩) 1 1 [[]] := e3 ▸ Mx.lit W2 s2 _ _ rfl (rows_one b2) (by omega)
  obtain ⟨W4, e4⟩ : ∃ W4, W3.alloc (.cells #[.int .u8 1, .int .u8 2] 5) = W4 := ⟨_, rfl⟩
  rw [e4] at hZ
  have s4 : W4.heap.size = h + 1 + 1 + 1 + 1 := by rw [← e4, World.size_alloc, s3]
  have x4 : Ext W3 W4 := e4 ▸ Ext.alloc _ _
  have b4 : Bs W4 (some ⟨h + 1 + 1 + 1, 0, none⟩) 2 2 [1, 2] := e4 ▸ bs_lit W3 s3 [1, 2] _ _ rfl rfl (by omega)
  obtain ⟨W5, e5⟩ : ∃ W5, W4.alloc (.cells #[.int .u8 3] 5) = W5 := ⟨_, rfl⟩
  rw [e5] at hZ
  have s5 : W5.heap.size = h + 1 + 1 + 1 + 1 + 1 := by rw [← e5, World.size_alloc, s4]
  have x5 : Ext W4 W5 := e5 ▸ Ext.alloc _ _
  have b5 : Bs W5 (some ⟨h + 1 + 1 + 1 + 1, 0, none⟩) 1 1 [3] := e5 ▸ bs_lit W4 s4 [3] _ _ rfl rfl (by omega)
  obtain ⟨W6, e6⟩ : ∃ W6, W5.alloc (.cells #[.slice (some ⟨h + 1 + 1 + 1, 0, none⟩) 2 2, .slice (some ⟨h + 1 + 1 + 1 + 1, 0, none⟩) 1 1] 26) = W6 := ⟨_, rfl⟩
  rw [e6] at hZ
  have s6 : W6.heap.size = h + 1 + 1 + 1 + 1 + 1 + 1 := by rw [← e6, World.size_alloc, s5]
  have x6 : Ext W5 W6 := e6 ▸ Ext.alloc _ _
  have m6 : Mx W6 (some ⟨h + 1 + 1 + 1 + 1 + 1, 0, none⟩) 2 2 [[1, 2], [3]] := e6 ▸ Mx.lit W5 s5 _ _ rfl (rows_two (b4.ext x5) b5) (by omega)
  obtain ⟨W7, e7⟩ : ∃ W7, W6.alloc (.cells #[.int .u8 1] 5) = W7 := ⟨_, rfl⟩
  rw [e7] at hZ
  have s7 : W7.heap.size = h + 1 + 1 + 1 + 1 + 1 + 1 + 1 := by rw [← e7, World.size_alloc, s6]
  have x7 : Ext W6 W7 := e7 ▸ Ext.alloc _ _
  have b7 : Bs W7 (some ⟨h + 1 + 1 + 1 + 1 + 1 + 1, 0, none⟩) 1 1 [1] := e7 ▸ bs_lit W6 s6 [1] _ _ rfl rfl (by omega)
  obtain ⟨W8, e8⟩ : ∃ W8, W7.alloc (.cells #[.slice none 0 0, .slice (some ⟨h + 1 + 1 + 1 + 1 + 1 + 1, 0, none⟩) 1 1] 26) = W8 := ⟨_, rfl⟩
  rw [e8] at hZ
  have s8 : W8.heap.size = h + 1 + 1 + 1 + 1 + 1 + 1 + 1 + 1 := by rw [← e8, World.size_alloc, s7]
  have x8 : Ext W7 W8 := e8 ▸ Ext.alloc _ _
  have m8 : Mx W8 (some ⟨h + 1 + 1 + 1 + 1 + 1 + 1 + 1, 0, none⟩) 2 2 [[], [1]] := e8 ▸ Mx.lit W7 s7 _ _ rfl (rows_two (show Bs W7 none 0 0 [] from ⟨rfl, Nat.le_refl _, by omega, Rd.nil W7 1 _⟩) b7) (by omega)
  obtain ⟨W9, e9⟩ : ∃ W9, W8.alloc (.cells (made 256 (.int .u8 0)) 5) = W9 := ⟨_, rfl⟩
  rw [e9] at hZ
  have s9 : W9.heap.size = h + 1 + 1 + 1 + 1 + 1 + 1 + 1 + 1 + 1 := by rw [← e9, World.size_alloc, s8]
  have x9 : Ext W8 W9 := e9 ▸ Ext.alloc _ _
  have b9 : Bs W9 (some ⟨h + 1 + 1 + 1 + 1 + 1 + 1 + 1 + 1, 0, none⟩) 256 256 (List.replicate 256 0) := e9 ▸ bs_lit W8 s8 _ _ _ (List.length_replicate ..) (by rw [made_toList, bcells_zeros]) (by omega)
  obtain ⟨W10, e10⟩ : ∃ W10, W9.alloc (.cells #[.slice (some ⟨h + 1 + 1 + 1 + 1 + 1 + 1 + 1 + 1, 0, none⟩) 256 256] 26) = W10 := ⟨_, rfl⟩
  rw [e10] at hZ
  have s10 : W10.heap.size = h + 1 + 1 + 1 + 1 + 1 + 1 + 1 + 1 + 1 + 1 := by rw [← e10, World.size_alloc, s9]
  have x10 : Ext W9 W10 := e10 ▸ Ext.alloc _ _
  have m10 : Mx W10 (some ⟨h + 1 + 1 + 1 + 1 + 1 + 1 + 1 + 1 + 1, 0, none⟩) 1 1 [List.replicate 256 0] := e10 ▸ Mx.lit W9 s9 _ _ rfl (rows_one b9) (by omega)
  have x11 : Ext W10 Z := hZ ▸ Ext.alloc _ _
  have y8 : Ext W8 Z := x9.trans (x10.trans x11)
  have y6 : Ext W6 Z := x7.trans (x8.trans y8)
  have y3 : Ext W3 Z := x4.trans (x5.trans (x6.trans y6))
  have y1 : Ext W1 Z := x2.trans (x3.trans y3)
  have y0 : Ext W Z := x1.trans y1
  refine ⟨y0, fun j hj => ?_⟩
  have hc := fun j => cell_lit W10 #[.slice none 0 0, .slice (some ⟨h, 0, none⟩) 0 0, .slice (some ⟨h + 1 + 1, 0, none⟩) 1 1, .slice (some ⟨h + 1 + 1 + 1 + 1 + 1, 0, none⟩) 2 2, .slice (some ⟨h + 1 + 1 + 1 + 1 + 1 + 1 + 1, 0, none⟩) 2 2, .slice (some ⟨h + 1 + 1 + 1 + 1 + 1 + 1 + 1 + 1 + 1, 0, none⟩) 1 1, .slice (some ⟨g, 0, none⟩) 256 256] 25 s10 j
  rw [hZ] at hc
  have hj' : j = 0 ∨ j = 1 ∨ j = 2 ∨ j = 3 ∨ j = 4 ∨ j = 5 ∨ j = 6 := by omega
  rcases hj' with rfl | rfl | rfl | rfl | rfl | rfl | rfl
  · exact ⟨none, 0, 0, [], (hc 0).trans rfl, Mx.none _, by decide⟩
  · exact ⟨_, 0, 0, [], (hc 1).trans rfl, m1.ext y1, by decide⟩
  · exact ⟨_, 1, 1, [[]], (hc 2).trans rfl, m3.ext y3, by decide⟩
  · exact ⟨_, 2, 2, [[1, 2], [3]], (hc 3).trans rfl, m6.ext y6, by decide⟩
  · exact ⟨_, 2, 2, [[], [1]], (hc 4).trans rfl, m8.ext y8, by decide⟩
  · exact ⟨_, 1, 1, [List.replicate 256 0], (hc 5).trans rfl, m10.ext x11, wide_not⟩
  · exact ⟨_, 256, 256, List.replicate 256 [1], (hc 6).trans rfl, hl.ext y0, long_not⟩
end Go.Proofs.Ytiianhlppkocgaa
