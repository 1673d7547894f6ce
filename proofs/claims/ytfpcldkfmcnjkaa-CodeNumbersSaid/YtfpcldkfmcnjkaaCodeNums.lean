/- Plain facts for CodeNumbers; the contract of the law's wrong; New without a field. -/
import Derived.Test.YtfpcldkfmcnjkaaCodeAwake
namespace Go.Proofs.Ytfpcldkfmcnjkaa
open Go.RowKit

theorem nofield_is (w : World) : Calls Try.prog 40 #[.pointer none] w fun e w' => e = .returned (.bool false) ∧ w = w' := by
  go_enter Try.func40, Try.ntmps40
  go_wp2
  go_ret
  exact ⟨rfl, rfl⟩
theorem nofield_add (w : World) (x y : Int) : Calls Try.prog 53 #[.pointer none, .int .u8 x, .int .u8 y] w fun e w' => e = .returned (.int .u8 0) ∧ w = w' := by
  go_enter Try.func53, Try.ntmps53
  go_wp2_with (go_at_call 40; refine (nofield_is _).mono ?_; rintro e w' ⟨rfl, rfl⟩)
  go_ret
  exact ⟨rfl, rfl⟩
theorem codeNew_nil (w : World) (k n : Int) : Calls Try.prog 24 #[.pointer none, .int .i64 k, .int .i64 n] w fun e w' => e = .returned (.tuple #[.pointer none, .int .i64 1]) ∧ w = w' := by
  go_enter Try.func24, Try.ntmps24
  go_wp2_with (fail)
  refine (nofield_add _ 0 1).mono ?_
  rintro e w' ⟨rfl, rfl⟩
  go_wp2_with (fail)
  go_ret2
  exact ⟨rfl, rfl⟩
theorem wrong_law (w : World) (b fb k n : Nat) (hC : Cd w b fb k n) (B : Option Addr) (q d : Nat) (l : List Int) (hl : Is w B q d l) (As : Option Addr) (m cs : Nat) (s : Gm.L) (hs : Mx w As m cs s) (h : ¬ toldOk k n l s) :
    Calls Try.prog 25 #[cptr b, .slice B q d, .slice As m cs] w fun e w' => e = .returned (.bool true) ∧ Ext w w' := by
  have hno : ¬ decOk k n l s := fun q => h q.1
  have hd := decode_any w b fb k n hC B q d l hl As m cs s hs
  have hr := fun W (hW : Ext w W) => rebuild_any W b fb k n (hC.ext hW) B q d l (hl.ext hW) As m cs s (hs.ext hW) 0
  have e1 : decE k n l s = 40 := by unfold decE; rw [if_neg hno]
  have e2 : rebE k n l s 0 = 40 := by unfold rebE; rw [if_neg hno]
  rw [e1] at hd
  rw [e2] at hr
  have HD := Lib.hid hd
  have HR := Lib.hid hr
  clear hd hr e1 e2 h hno hC hl hs
  go_enter Try.func25, Try.ntmps25
  go_wp2_with (fail)
  refine HD.out.mono ?_
  intro e w1 hg
  obtain ⟨A1, c1, rfl, _, x1⟩ := gives_mx hg
  clear hg
  generalize (decM k n l s).length = n1
  go_wp2_with (fail)
  refine (HR.out w1 x1).mono ?_
  rintro e w2 ⟨v2, rfl, hv⟩
  have x2 := hv.ext
  clear hv
  go_wp2_with (fail)
  go_ret
  exact ⟨rfl, x1.trans x2⟩
theorem run_make_long (W : World) : (Instr.makeSlice 22 (.int .i64 65537) (.int .i64 65537)).run Try.prog W = .ok (.slice (some ⟨W.heap.size, 0, none⟩) 65537 65537) (W.alloc (.cells (made 65537 (.int .u8 0)) 5)) := by
  obtain ⟨i, hi, hz, h1, h2⟩ := info_parts u8_info
  have h := run_make (P := Try.prog) W 22 5 i _ Try.underlying22 hi hz .i64 .i64 (65537 : Int) (65537 : Int) (by omega) (Int.le_refl _) (by rw [h2]; omega) (by omega)
  rw [h1] at h
  simpa [made, Value.cells] using h
theorem bs_long (w : World) {g : Nat} (hg : w.heap.size = g) (t : TypeId) : Bs (w.alloc (.cells (made 65537 (.int .u8 0)) t)) (some ⟨g, 0, .none⟩) 65537 65537 (List.replicate 65537 0) := by
  subst hg
  refine ⟨List.length_replicate .., Nat.le_refl _, by omega, by rw [bcells_length, List.length_replicate], fun _ => ⟨w.heap.size, 0, rfl, fun j u hu => ?_⟩⟩
  rw [Nat.zero_add, World.cell?_alloc_new, ← Array.getElem?_toList, made_toList, ← bcells_zeros]
  exact hu
theorem cell_lit (W : World) (cs : Array Value) (t : TypeId) {g : Nat} (hg : W.heap.size = g) (j : Nat) : (W.alloc (.cells cs t)).cell? ⟨g, j, none⟩ = cs[j]? := by
  subst hg
  exact World.cell?_alloc_new W cs t j
def pairs4 : Array Value := #[.int .i64 0, .int .i64 1, .int .i64 2, .int .i64 1, .int .i64 1, .int .i64 256, .int .i64 (-1), .int .i64 3, .int .i64 256, .int .i64 256]
theorem pairs4_cells (W : World) {h : Nat} (hh : W.heap.size = h) (t : TypeId) (j : Nat) (hj : j < 5) : ∃ x y : Int, (W.alloc (.cells pairs4 t)).cell? ⟨h, j * 2, none⟩ = some (.int .i64 x) ∧ (W.alloc (.cells pairs4 t)).cell? ⟨h, j * 2 + 1, none⟩ = some (.int .i64 y) ∧ (x < 1 ∨ y < x ∨ 255 < y) := by
  have hc := fun j => cell_lit W pairs4 t hh j
  have hj' : j = 0 ∨ j = 1 ∨ j = 2 ∨ j = 3 ∨ j = 4 := by omega
  rcases hj' with rfl | rfl | rfl | rfl | rfl
  · exact ⟨0, 1, (hc 0).trans rfl, (hc 1).trans rfl, by decide⟩
  · exact ⟨2, 1, (hc 2).trans rfl, (hc 3).trans rfl, by decide⟩
  · exact ⟨1, 256, (hc 4).trans rfl, (hc 5).trans rfl, by decide⟩
  · exact ⟨-1, 3, (hc 6).trans rfl, (hc 7).trans rfl, by decide⟩
  · exact ⟨256, 256, (hc 8).trans rfl, (hc 9).trans rfl, by decide⟩
theorem long_uneven : ¬ Gm.even [List.replicate 65537 0, List.replicate 65537 0] 2 := fun h => by
  have := h.2.2.1
  unfold Gm.cols at this
  rw [show Gm.row [List.replicate 65537 (0 : UInt8), List.replicate 65537 0] 0 = List.replicate 65537 0 from rfl, List.length_replicate] at this
  omega
/-- The table of what is no stripe. -/
theorem table4_cells (W : World) {h : Nat} (hh : W.heap.size = h) {Al : Option Addr} (hl : Bs W Al 65537 65537 (List.replicate 65537 0)) {Z : World}
    (hZ : (((((((((((W.alloc (.cells #[.int .u8 1] 5)).alloc (.cells #[.slice (some ⟨h, 0, none⟩) 1 1] 22)).alloc (.cells #[.int .u8 1] 5)).alloc (.cells #[.int .u8 1, .int .u8 2] 5)).alloc (.cells #[.slice (some ⟨h + 1 + 1, 0, none⟩) 1 1, .slice (some ⟨h + 1 + 1 + 1, 0, none⟩) 2 2] 22)).alloc (.cells #[.int .u8 1] 5)).alloc (.cells #[.int .u8 1] 5)).alloc (.cells #[.int .u8 1] 5)).alloc (.cells #[.slice (some ⟨h + 1 + 1 + 1 + 1 + 1, 0, none⟩) 1 1, .slice (some ⟨h + 1 + 1 + 1 + 1 + 1 + 1, 0, none⟩) 1 1, .slice (some ⟨h + 1 + 1 + 1 + 1 + 1 + 1 + 1, 0, none⟩) 1 1] 22)).alloc (.cells #[.slice Al 65537 65537, .slice Al 65537 65537] 22)).alloc (.cells #[.slice none 0 0, .slice (some ⟨h + 1, 0, none⟩) 1 1, .slice (some ⟨h + 1 + 1 + 1 + 1, 0, none⟩) 2 2, .slice (some ⟨h + 1 + 1 + 1 + 1 + 1 + 1 + 1 + 1, 0, none⟩) 3 3, .slice (some ⟨h + 1 + 1 + 1 + 1 + 1 + 1 + 1 + 1 + 1, 0, none⟩) 2 2] 28)) = Z) :
    Ext W Z ∧ ∀ j, j < 5 → ∃ A n c m, Z.cell? ⟨h + 1 + 1 + 1 + 1 + 1 + 1 + 1 + 1 + 1 + 1, j, none⟩ = some (.slice A n c) ∧ Mx Z A n c m ∧ ¬ Gm.even m 2 ∧ m.length ≠ 4 := by
  obtain ⟨W2, e2⟩ : ∃ W2, (W.alloc (.cells #[.int .u8 1] 5)).alloc (.cells #[.slice (some ⟨h, 0, none⟩) 1 1] 22) = W2 := ⟨_, rfl⟩
  have s2 : W2.heap.size = h + 1 + 1 := by rw [← e2]; simp [hh]
  have x2 : Ext W W2 := e2 ▸ (Ext.alloc _ _).thenAlloc _
  have m2 : Mx W2 (some ⟨h + 1, 0, none⟩) 1 1 [[1]] := e2 ▸ mx_one_at W hh [1] _ _ _ rfl rfl (by decide)
  rw [e2] at hZ
  obtain ⟨W5, e5⟩ : ∃ W5, ((W2.alloc (.cells #[.int .u8 1] 5)).alloc (.cells #[.int .u8 1, .int .u8 2] 5)).alloc (.cells #[.slice (some ⟨h + 1 + 1, 0, none⟩) 1 1, .slice (some ⟨h + 1 + 1 + 1, 0, none⟩) 2 2] 22) = W5 := ⟨_, rfl⟩
  have s5 : W5.heap.size = h + 1 + 1 + 1 + 1 + 1 := by rw [← e5]; simp [s2]
  have x5 : Ext W2 W5 := e5 ▸ ((Ext.alloc _ _).thenAlloc _).thenAlloc _
  have m5 : Mx W5 (some ⟨h + 1 + 1 + 1 + 1, 0, none⟩) 2 2 [[1], [1, 2]] := e5 ▸ mx_two_at W2 s2 [1] [1, 2] _ _ _ _ _ rfl rfl (by decide) rfl rfl (by decide)
  rw [e5] at hZ
  obtain ⟨W9, e9⟩ : ∃ W9, (((W5.alloc (.cells #[.int .u8 1] 5)).alloc (.cells #[.int .u8 1] 5)).alloc (.cells #[.int .u8 1] 5)).alloc (.cells #[.slice (some ⟨h + 1 + 1 + 1 + 1 + 1, 0, none⟩) 1 1, .slice (some ⟨h + 1 + 1 + 1 + 1 + 1 + 1, 0, none⟩) 1 1, .slice (some ⟨h + 1 + 1 + 1 + 1 + 1 + 1 + 1, 0, none⟩) 1 1] 22) = W9 := ⟨_, rfl⟩
  have s9 : W9.heap.size = h + 1 + 1 + 1 + 1 + 1 + 1 + 1 + 1 + 1 := by rw [← e9]; simp [s5]
  have x9 : Ext W5 W9 := e9 ▸ (((Ext.alloc _ _).thenAlloc _).thenAlloc _).thenAlloc _
  have m9 : Mx W9 (some ⟨h + 1 + 1 + 1 + 1 + 1 + 1 + 1 + 1, 0, none⟩) 3 3 [[1], [1], [1]] := e9 ▸ mx_three_at W5 s5 [1] [1] [1] _ _ _ _ _ _ _ rfl rfl (by decide) rfl rfl (by decide) rfl rfl (by decide)
  rw [e9] at hZ
  obtain ⟨W10, e10⟩ : ∃ W10, W9.alloc (.cells #[.slice Al 65537 65537, .slice Al 65537 65537] 22) = W10 := ⟨_, rfl⟩
  have s10 : W10.heap.size = h + 1 + 1 + 1 + 1 + 1 + 1 + 1 + 1 + 1 + 1 := by rw [← e10, World.size_alloc, s9]
  have x10 : Ext W9 W10 := e10 ▸ Ext.alloc _ _
  have hl9 := hl.ext (x2.trans (x5.trans x9))
  have m10 : Mx W10 (some ⟨h + 1 + 1 + 1 + 1 + 1 + 1 + 1 + 1 + 1, 0, none⟩) 2 2 [List.replicate 65537 0, List.replicate 65537 0] := e10 ▸ Mx.lit W9 s9 _ _ rfl (rows_two hl9 hl9) (by omega)
  rw [e10] at hZ
  have x11 : Ext W10 Z := hZ ▸ Ext.alloc _ _
  have y9 : Ext W9 Z := x10.trans x11
  have y5 : Ext W5 Z := x9.trans y9
  have y2 : Ext W2 Z := x5.trans y5
  refine ⟨x2.trans y2, fun j hj => ?_⟩
  have hc := fun j => cell_lit W10 #[.slice none 0 0, .slice (some ⟨h + 1, 0, none⟩) 1 1, .slice (some ⟨h + 1 + 1 + 1 + 1, 0, none⟩) 2 2, .slice (some ⟨h + 1 + 1 + 1 + 1 + 1 + 1 + 1 + 1, 0, none⟩) 3 3, .slice (some ⟨h + 1 + 1 + 1 + 1 + 1 + 1 + 1 + 1 + 1, 0, none⟩) 2 2] 28 s10 j
  rw [hZ] at hc
  have hj' : j = 0 ∨ j = 1 ∨ j = 2 ∨ j = 3 ∨ j = 4 := by omega
  rcases hj' with rfl | rfl | rfl | rfl | rfl
  · exact ⟨none, 0, 0, [], (hc 0).trans rfl, Mx.none _, by decide, by decide⟩
  · exact ⟨_, 1, 1, [[1]], (hc 1).trans rfl, m2.ext y2, by decide, by decide⟩
  · exact ⟨_, 2, 2, [[1], [1, 2]], (hc 2).trans rfl, m5.ext y5, by decide, by decide⟩
  · exact ⟨_, 3, 3, [[1], [1], [1]], (hc 3).trans rfl, m9.ext y9, by decide, by decide⟩
  · exact ⟨_, 2, 2, _, (hc 4).trans rfl, m10.ext x11, long_uneven, (show ¬ (2 : Nat) = 4 by decide)⟩
theorem noFit4 {m : Gm.L} (h : m.length ≠ 4) : fitsB 2 4 m = false := by
  unfold fitsB
  exact decide_eq_false (fun q => h q.1.1)
theorem mxs_one_at (W : World) (t t' t'' : TypeId) : Mxs (((W.alloc (.cells #[.int .u8 1] t)).alloc (.cells #[.slice (some ⟨W.heap.size, 0, none⟩) 1 1] t')).alloc (.cells #[.slice (some ⟨W.heap.size + 1, 0, none⟩) 1 1] t'')) (some ⟨W.heap.size + 1 + 1, 0, .none⟩) 1 1 [[[1]]] :=
  ⟨rfl, Nat.le_refl _, by omega, fun i hi => by
    obtain rfl : i = 0 := by omega
    exact ⟨W.heap.size + 1 + 1, 0, _, _, _, rfl, (cell_lit _ _ _ (by simp) 0).trans rfl, (mx_one_at W rfl [1] _ _ _ rfl rfl (by decide)).ext (Ext.alloc _ _)⟩⟩
theorem mx_five_at (W : World) {g : Nat} (hg : W.heap.size = g) (t tt : TypeId) :
    Mx ((((((W.alloc (.cells #[.int .u8 1] t)).alloc (.cells #[.int .u8 1] t)).alloc (.cells #[.int .u8 1] t)).alloc (.cells #[.int .u8 1] t)).alloc (.cells #[.int .u8 1] t)).alloc (.cells #[.slice (some ⟨g, 0, none⟩) 1 1, .slice (some ⟨g + 1, 0, none⟩) 1 1, .slice (some ⟨g + 1 + 1, 0, none⟩) 1 1, .slice (some ⟨g + 1 + 1 + 1, 0, none⟩) 1 1, .slice (some ⟨g + 1 + 1 + 1 + 1, 0, none⟩) 1 1] tt)) (some ⟨g + 1 + 1 + 1 + 1 + 1, 0, none⟩) 5 5 [[1], [1], [1], [1], [1]] := by
  subst hg
  have b1 := bs_lit W rfl [1] #[.int .u8 1] t rfl rfl (by decide)
  have b2 := bs_lit (W.alloc (.cells #[.int .u8 1] t)) (g := W.heap.size + 1) (by simp) [1] #[.int .u8 1] t rfl rfl (by decide)
  have b3 := bs_lit ((W.alloc (.cells #[.int .u8 1] t)).alloc (.cells #[.int .u8 1] t)) (g := W.heap.size + 1 + 1) (by simp) [1] #[.int .u8 1] t rfl rfl (by decide)
  have b4 := bs_lit (((W.alloc (.cells #[.int .u8 1] t)).alloc (.cells #[.int .u8 1] t)).alloc (.cells #[.int .u8 1] t)) (g := W.heap.size + 1 + 1 + 1) (by simp) [1] #[.int .u8 1] t rfl rfl (by decide)
  have b5 := bs_lit ((((W.alloc (.cells #[.int .u8 1] t)).alloc (.cells #[.int .u8 1] t)).alloc (.cells #[.int .u8 1] t)).alloc (.cells #[.int .u8 1] t)) (g := W.heap.size + 1 + 1 + 1 + 1) (by simp) [1] #[.int .u8 1] t rfl rfl (by decide)
  exact Mx.lit _ (by simp) _ _ rfl ((((((Rows.nil _).snoc (b1.ext ((((Ext.alloc _ _).thenAlloc _).thenAlloc _).thenAlloc _))).snoc (b2.ext (((Ext.alloc _ _).thenAlloc _).thenAlloc _))).snoc (b3.ext ((Ext.alloc _ _).thenAlloc _))).snoc (b4.ext (Ext.alloc _ _))).snoc b5) (by omega)
theorem num_told : ¬ toldOk 2 4 [0] [[1]] ∧ ¬ toldOk 2 4 [0, 0] [[1], [1]] ∧ ¬ toldOk 2 4 [0, 4] [[1], [1]] ∧ ¬ toldOk 2 4 [-1, 1] [[1], [1]] ∧ ¬ toldOk 2 4 [0, 1] [[1]] ∧ ¬ toldOk 2 4 [0, 1] [[1], [1, 2]] ∧ ¬ toldOk 2 4 [] [] ∧ ¬ toldOk 2 4 [0, 1, 2, 3, 0] [[1], [1], [1], [1], [1]] := by
  refine ⟨?_, ?_, ?_, ?_, ?_, ?_, ?_, ?_⟩ <;> decide +kernel
theorem num_calls : encM 2 4 [[], []] = [[], [], [], []] ∧ encE 2 [[], []] = 0 ∧ fitsB 2 4 [[], [], [], []] = true ∧ rebE 2 4 [0, 1] [[1], [1]] 4 = 2 ∧ rebE 2 4 [0, 1] [[1], [1]] (-1) = 2 ∧ rebL 2 4 [0, 1] [[1], [1]] 4 = [] ∧ rebL 2 4 [0, 1] [[1], [1]] (-1) = [] ∧ stripesOf [] 2 5 = [] ∧ joinE 2 [[[1]]] 0 = 40 ∧ joinL 2 [[[1]]] 0 = [] ∧ joinE 2 [] 1 = 11 ∧ joinL 2 [] 1 = [] ∧ joinE 2 [] (-1) = 11 ∧ joinL 2 [] (-1) = [] ∧ joinE 2 [] 0 = 0 ∧ joinL 2 [] 0 = [] := by
  refine ⟨?_, ?_, ?_, ?_, ?_, ?_, ?_, ?_, ?_, ?_, ?_, ?_, ?_, ?_, ?_, ?_⟩ <;> decide +kernel
end Go.Proofs.Ytfpcldkfmcnjkaa
