/- The chapter's examples. -/
import Derived.Test.YtfpcldkfmcnjkaaCt10
import Derived.Test.YtfpcldkfmcnjkaaCodeSplit
import Derived.Test.YtfpcldkfmcnjkaaCodeJoin
import Derived.Test.YtfpcldkfmcnjkaaLits
namespace Go.Proofs.Ytfpcldkfmcnjkaa
open Go.RowKit

theorem gives_q {m : Gm.L} {w w' : World} {e : Ending} (h : GivesQ m w e w') : ∃ A c, e = .returned (.slice A m.length c) ∧ Mx w' A m.length c m ∧ Ext w w' := by
  obtain ⟨v, cs, rfl, hq, hx⟩ := h
  obtain ⟨A, c, rfl, hm⟩ := hq.mx
  exact ⟨A, c, rfl, hm, hx⟩
theorem text_list (l : List UInt8) : (textOf l).toList = l := ByteArray.toList_mk l
theorem awake04_numbers : Gm.gen 2 3 = [[1, 0], [0, 1], [142, 244]] ∧ Gm.gen 1 3 = [[1], [1], [142]] ∧ encM 2 3 [[1], [1]] = [[1], [1], [122]] ∧ decM 2 3 [2, 0] [[122], [1]] = [[1], [1]] ∧ encM 1 3 [[2]] = [[2], [2], [1]] ∧ stripesOf [97, 98, 99, 100, 101] 2 2 = [[[97, 98], [99, 100]], [[101, 0], [0, 0]]] ∧ joinL 2 [[[97, 98], [99, 100]], [[101, 0], [0, 0]]] 5 = [97, 98, 99, 100, 101] ∧ encE 2 [[1], [1]] = 0 ∧ decE 2 3 [2, 0] [[122], [1]] = 0 ∧ encE 1 [[2]] = 0 ∧ joinE 2 [[[97, 98], [99, 100]], [[101, 0], [0, 0]]] 5 = 0 := by
  refine ⟨?_, ?_, ?_, ?_, ?_, ?_, ?_, ?_, ?_, ?_, ?_⟩ <;> decide +kernel
set_option maxRecDepth 100000 in
set_option maxHeartbeats 4000000 in
theorem awake_any4 (w : World) : Calls Try.prog 16 #[] w fun e w' => e = .returned (.bool true) ∧ Ext w w' := by
  obtain ⟨d1, d2, d3, d4, d5, d6, d7, d8, d9, d10, d11⟩ := awake04_numbers
  have D1 := Lib.hid d1
  have D2 := Lib.hid d2
  have D3 := Lib.hid d3
  have D4 := Lib.hid d4
  have D5 := Lib.hid d5
  have D6 := Lib.hid d6
  have D7 := Lib.hid d7
  have D8 := Lib.hid d8
  have D9 := Lib.hid d9
  have D10 := Lib.hid d10
  have D11 := Lib.hid d11
  clear d1 d2 d3 d4 d5 d6 d7 d8 d9 d10 d11
  go_enter Try.func16, Try.ntmps16
  try dsimp only [List.append]
  go_wp2_with (fail)
  refine (new_any _).mono ?_
  rintro e w1 ⟨rfl, hf, y1⟩
  generalize hb : w.heap.size = fb at *
  have Hb := Lib.hid hb
  clear hb
  have y0 := y1
  have x0 := y0
  clear y0
  clear y1
  go_wp2_with (fail)
  refine (codeNew_ok fb _ 2 3 hf (by omega) (by omega) (by omega)).mono ?_
  rintro e w2 ⟨b1, rfl, hC, y1⟩
  have y0 := y1
  replace hf := hf.ext y0
  replace x0 := Ext.trans x0 y0
  clear y0
  clear y1
  go_wp2_with (fail)
  refine (codeNew_ok fb _ 1 3 hf (by omega) (by omega) (by omega)).mono ?_
  rintro e w3 ⟨b2, rfl, hD, y1⟩
  have y0 := y1
  replace hf := hf.ext y0
  replace hC := hC.ext y0
  replace x0 := Ext.trans x0 y0
  clear y0
  clear y1
  go_wp2_with (fail)
  refine (matrix_any _ b1 fb 2 3 hC).mono ?_
  intro e w4 hg
  obtain ⟨Am, cm, rfl, hm, y1⟩ := gives_q hg
  clear hg
  have y0 := y1
  replace hf := hf.ext y0
  replace hC := hC.ext y0
  replace hD := hD.ext y0
  replace x0 := Ext.trans x0 y0
  clear y0
  clear y1
  rw [D1.out] at hm
  rw [D1.out]
  rw [show ([[1, 0], [0, 1], [142, 244]] : Gm.L).length = 3 from rfl] at *
  go_wp2_with (fail)
  have y3 : Ext w4 ((((w4.alloc (.cells #[.int .u8 1, .int .u8 0] 5)).alloc (.cells #[.int .u8 0, .int .u8 1] 5)).alloc (.cells #[.int .u8 142, .int .u8 244] 5)).alloc (.cells #[.slice (some ⟨w4.heap.size, 0, none⟩) 2 2, .slice (some ⟨w4.heap.size + 1, 0, none⟩) 2 2, .slice (some ⟨w4.heap.size + 1 + 1, 0, none⟩) 2 2] 22)) := (((Ext.alloc w4 (.cells #[.int .u8 1, .int .u8 0] 5)).thenAlloc (.cells #[.int .u8 0, .int .u8 1] 5)).thenAlloc (.cells #[.int .u8 142, .int .u8 244] 5)).thenAlloc (.cells #[.slice (some ⟨w4.heap.size, 0, none⟩) 2 2, .slice (some ⟨w4.heap.size + 1, 0, none⟩) 2 2, .slice (some ⟨w4.heap.size + 1 + 1, 0, none⟩) 2 2] 22)
  have hi := sameMatrix_any _ Am _ 3 cm 3 3 _ _ (hm.ext y3) (mx_three_at w4 rfl [1, 0] [0, 1] [142, 244] _ _ _ _ _ _ _ rfl rfl (by decide) rfl rfl (by decide) rfl rfl (by decide))
  rw [decide_eq_true rfl] at hi
  refine hi.mono ?_
  rintro e w5 ⟨rfl, y1⟩
  clear hi
  have y0 := y3.trans y1
  replace hf := hf.ext y0
  replace hC := hC.ext y0
  replace hD := hD.ext y0
  replace hm := hm.ext y0
  replace x0 := Ext.trans x0 y0
  clear y0
  clear y1 y3
  clear hm
  go_wp2_with (fail)
  refine (matrix_any _ b2 fb 1 3 hD).mono ?_
  intro e w6 hg
  obtain ⟨Am, cm, rfl, hm, y1⟩ := gives_q hg
  clear hg
  have y0 := y1
  replace hf := hf.ext y0
  replace hC := hC.ext y0
  replace hD := hD.ext y0
  replace x0 := Ext.trans x0 y0
  clear y0
  clear y1
  rw [D2.out] at hm
  rw [D2.out]
  rw [show ([[1], [1], [142]] : Gm.L).length = 3 from rfl] at *
  go_wp2_with (fail)
  have y3 : Ext w6 ((((w6.alloc (.cells #[.int .u8 1] 5)).alloc (.cells #[.int .u8 1] 5)).alloc (.cells #[.int .u8 142] 5)).alloc (.cells #[.slice (some ⟨w6.heap.size, 0, none⟩) 1 1, .slice (some ⟨w6.heap.size + 1, 0, none⟩) 1 1, .slice (some ⟨w6.heap.size + 1 + 1, 0, none⟩) 1 1] 22)) := (((Ext.alloc w6 (.cells #[.int .u8 1] 5)).thenAlloc (.cells #[.int .u8 1] 5)).thenAlloc (.cells #[.int .u8 142] 5)).thenAlloc (.cells #[.slice (some ⟨w6.heap.size, 0, none⟩) 1 1, .slice (some ⟨w6.heap.size + 1, 0, none⟩) 1 1, .slice (some ⟨w6.heap.size + 1 + 1, 0, none⟩) 1 1] 22)
  have hi := sameMatrix_any _ Am _ 3 cm 3 3 _ _ (hm.ext y3) (mx_three_at w6 rfl [1] [1] [142] _ _ _ _ _ _ _ rfl rfl (by decide) rfl rfl (by decide) rfl rfl (by decide))
  rw [decide_eq_true rfl] at hi
  refine hi.mono ?_
  rintro e w7 ⟨rfl, y1⟩
  clear hi
  have y0 := y3.trans y1
  replace hf := hf.ext y0
  replace hC := hC.ext y0
  replace hD := hD.ext y0
  replace hm := hm.ext y0
  replace x0 := Ext.trans x0 y0
  clear y0
  clear y1 y3
  clear hm
  go_wp2_with (fail)
  have y3 : Ext w7 (((w7.alloc (.cells #[.int .u8 1] 5)).alloc (.cells #[.int .u8 1] 5)).alloc (.cells #[.slice (some ⟨w7.heap.size, 0, none⟩) 1 1, .slice (some ⟨w7.heap.size + 1, 0, none⟩) 1 1] 22)) := ((Ext.alloc w7 (.cells #[.int .u8 1] 5)).thenAlloc (.cells #[.int .u8 1] 5)).thenAlloc (.cells #[.slice (some ⟨w7.heap.size, 0, none⟩) 1 1, .slice (some ⟨w7.heap.size + 1, 0, none⟩) 1 1] 22)
  refine (encode_any _ b1 fb 2 3 (hC.ext y3) _ _ _ [[1], [1]] (mx_two_at w7 rfl [1] [1] _ _ _ _ _ rfl rfl (by decide) rfl rfl (by decide))).mono ?_
  intro e w8 hg
  obtain ⟨Ax, cx, rfl, hX, y1⟩ := gives_mx hg
  clear hg
  have y0 := y3.trans y1
  replace hf := hf.ext y0
  replace hC := hC.ext y0
  replace hD := hD.ext y0
  replace x0 := Ext.trans x0 y0
  clear y0
  clear y1 y3
  rw [D3.out] at hX
  rw [D3.out, D8.out]
  rw [show ([[1], [1], [122]] : Gm.L).length = 3 from rfl] at *
  go_wp2_with (fail)
  have y3 : Ext w8 ((((w8.alloc (.cells #[.int .i64 2, .int .i64 0] 3)).alloc (.cells #[.int .u8 122] 5)).alloc (.cells #[.int .u8 1] 5)).alloc (.cells #[.slice (some ⟨w8.heap.size + 1, 0, none⟩) 1 1, .slice (some ⟨w8.heap.size + 1 + 1, 0, none⟩) 1 1] 22)) := (((Ext.alloc w8 (.cells #[.int .i64 2, .int .i64 0] 3)).thenAlloc (.cells #[.int .u8 122] 5)).thenAlloc (.cells #[.int .u8 1] 5)).thenAlloc (.cells #[.slice (some ⟨w8.heap.size + 1, 0, none⟩) 1 1, .slice (some ⟨w8.heap.size + 1 + 1, 0, none⟩) 1 1] 22)
  refine (decode_any _ b1 fb 2 3 (hC.ext y3) _ _ _ [2, 0] ((Is.lit w8 _ rfl [2, 0] _ _ 2 rfl rfl (by omega)).ext ((((Ext.alloc _ _).thenAlloc _).thenAlloc _))) _ _ _ [[122], [1]] (mx_two_at (w8.alloc (.cells #[.int .i64 2, .int .i64 0] 3)) (by simp) [122] [1] _ _ _ _ _ rfl rfl (by decide) rfl rfl (by decide))).mono ?_
  intro e w9 hg
  obtain ⟨Ay, cy, rfl, hY, y1⟩ := gives_mx hg
  clear hg
  have y0 := y3.trans y1
  replace hf := hf.ext y0
  replace hC := hC.ext y0
  replace hD := hD.ext y0
  replace hX := hX.ext y0
  replace x0 := Ext.trans x0 y0
  clear y0
  clear y1 y3
  rw [D4.out] at hY
  rw [D4.out, D9.out]
  rw [show ([[1], [1]] : Gm.L).length = 2 from rfl] at *
  go_wp2_with (fail)
  have y3 : Ext w9 ((w9.alloc (.cells #[.int .u8 2] 5)).alloc (.cells #[.slice (some ⟨w9.heap.size, 0, none⟩) 1 1] 22)) := (Ext.alloc w9 (.cells #[.int .u8 2] 5)).thenAlloc (.cells #[.slice (some ⟨w9.heap.size, 0, none⟩) 1 1] 22)
  refine (encode_any _ b2 fb 1 3 (hD.ext y3) _ _ _ [[2]] (mx_one_at w9 rfl [2] _ _ _ rfl rfl (by decide))).mono ?_
  intro e w10 hg
  obtain ⟨Az, cz, rfl, hZ, y1⟩ := gives_mx hg
  clear hg
  have y0 := y3.trans y1
  replace hf := hf.ext y0
  replace hC := hC.ext y0
  replace hD := hD.ext y0
  replace hX := hX.ext y0
  replace hY := hY.ext y0
  replace x0 := Ext.trans x0 y0
  clear y0
  clear y1 y3
  rw [D5.out] at hZ
  rw [D5.out, D10.out]
  rw [show ([[2], [2], [1]] : Gm.L).length = 3 from rfl] at *
  have kc := Lib.run_convert_bytes_const (P := Try.prog) w10 22 5 #[.int .u8 97, .int .u8 98, .int .u8 99, .int .u8 100, .int .u8 101] 5 5 Try.underlying22 Try.underlying5
  go_wp2_with (fail)
  clear kc
  have y3 : Ext w10 (w10.alloc (.cells #[.int .u8 97, .int .u8 98, .int .u8 99, .int .u8 100, .int .u8 101] 5 (5, 6))) := Ext.alloc w10 (.cells #[.int .u8 97, .int .u8 98, .int .u8 99, .int .u8 100, .int .u8 101] 5 (5, 6))
  refine (split_ok _ b1 fb 2 3 (hC.ext y3) _ 5 5 [97, 98, 99, 100, 101] (bs_mark w10 rfl [97, 98, 99, 100, 101] _ _ _ rfl rfl (by decide)) 2 (by omega) (by omega) (by omega)).mono ?_
  rintro e w11 ⟨As, cs, rfl, hS, y1⟩
  have y0 := y3.trans y1
  replace hf := hf.ext y0
  replace hC := hC.ext y0
  replace hD := hD.ext y0
  replace hX := hX.ext y0
  replace hY := hY.ext y0
  replace hZ := hZ.ext y0
  replace x0 := Ext.trans x0 y0
  clear y0
  clear y1 y3
  rw [D6.out] at hS
  rw [D6.out]
  rw [show ([[[97, 98], [99, 100]], [[101, 0], [0, 0]]] : List Gm.L).length = 2 from rfl] at *
  go_wp2_with (fail)
  refine (join_any _ b1 fb 2 3 hC As 2 cs _ hS (by omega) 5).mono ?_
  rintro e w12 ⟨At, ct, rfl, hT, y1⟩
  have y0 := y1
  replace hf := hf.ext y0
  replace hC := hC.ext y0
  replace hD := hD.ext y0
  replace hX := hX.ext y0
  replace hY := hY.ext y0
  replace hZ := hZ.ext y0
  replace hS := hS.ext y0
  replace x0 := Ext.trans x0 y0
  clear y0
  clear y1
  rw [D7.out] at hT
  rw [D7.out, D11.out]
  rw [show ([97, 98, 99, 100, 101] : List UInt8).length = 5 from rfl] at *
  obtain ⟨bs, os, A0, n0, c0, rfl, s0, m0⟩ := hS.at_ 0 (by omega)
  obtain ⟨bs', os', A1, n1, c1, e1, s1, m1⟩ := hS.at_ 1 (by omega)
  injection e1 with e1
  injection e1 with e1 e2
  subst e1 e2
  obtain rfl : n0 = 2 := m0.len.symm
  obtain rfl : n1 = 2 := m1.len.symm
  rw [Nat.add_zero] at s0
  replace m0 : Mx w12 A0 2 c0 [[97, 98], [99, 100]] := m0
  replace m1 : Mx w12 A1 2 c1 [[101, 0], [0, 0]] := m1
  have qc := hS.le
  have qd := hS.max
  clear hS
  go_wp2_with (fail)
  have y3 : Ext w12 ((((w12.alloc (.cells #[.int .u8 1] 5)).alloc (.cells #[.int .u8 1] 5)).alloc (.cells #[.int .u8 122] 5)).alloc (.cells #[.slice (some ⟨w12.heap.size, 0, none⟩) 1 1, .slice (some ⟨w12.heap.size + 1, 0, none⟩) 1 1, .slice (some ⟨w12.heap.size + 1 + 1, 0, none⟩) 1 1] 22)) := (((Ext.alloc w12 (.cells #[.int .u8 1] 5)).thenAlloc (.cells #[.int .u8 1] 5)).thenAlloc (.cells #[.int .u8 122] 5)).thenAlloc (.cells #[.slice (some ⟨w12.heap.size, 0, none⟩) 1 1, .slice (some ⟨w12.heap.size + 1, 0, none⟩) 1 1, .slice (some ⟨w12.heap.size + 1 + 1, 0, none⟩) 1 1] 22)
  have hi := sameLists_any _ Ax _ 3 cx 3 3 _ _ (hX.ext y3) (mx_three_at w12 rfl [1] [1] [122] _ _ _ _ _ _ _ rfl rfl (by decide) rfl rfl (by decide) rfl rfl (by decide))
  rw [decide_eq_true rfl] at hi
  refine hi.mono ?_
  rintro e w13 ⟨rfl, y1⟩
  clear hi
  have y0 := y3.trans y1
  replace hf := hf.ext y0
  replace hC := hC.ext y0
  replace hD := hD.ext y0
  replace hX := hX.ext y0
  replace hY := hY.ext y0
  replace hZ := hZ.ext y0
  replace hT := hT.ext y0
  replace m0 := m0.ext y0
  replace m1 := m1.ext y0
  replace s0 := y0.cell s0
  replace s1 := y0.cell s1
  replace x0 := Ext.trans x0 y0
  clear y0
  clear y1 y3
  clear hX
  go_wp2_with (fail)
  have y3 : Ext w13 (((w13.alloc (.cells #[.int .u8 1] 5)).alloc (.cells #[.int .u8 1] 5)).alloc (.cells #[.slice (some ⟨w13.heap.size, 0, none⟩) 1 1, .slice (some ⟨w13.heap.size + 1, 0, none⟩) 1 1] 22)) := ((Ext.alloc w13 (.cells #[.int .u8 1] 5)).thenAlloc (.cells #[.int .u8 1] 5)).thenAlloc (.cells #[.slice (some ⟨w13.heap.size, 0, none⟩) 1 1, .slice (some ⟨w13.heap.size + 1, 0, none⟩) 1 1] 22)
  have hi := sameLists_any _ Ay _ 2 cy 2 2 _ _ (hY.ext y3) (mx_two_at w13 rfl [1] [1] _ _ _ _ _ rfl rfl (by decide) rfl rfl (by decide))
  rw [decide_eq_true rfl] at hi
  refine hi.mono ?_
  rintro e w14 ⟨rfl, y1⟩
  clear hi
  have y0 := y3.trans y1
  replace hf := hf.ext y0
  replace hC := hC.ext y0
  replace hD := hD.ext y0
  replace hY := hY.ext y0
  replace hZ := hZ.ext y0
  replace hT := hT.ext y0
  replace m0 := m0.ext y0
  replace m1 := m1.ext y0
  replace s0 := y0.cell s0
  replace s1 := y0.cell s1
  replace x0 := Ext.trans x0 y0
  clear y0
  clear y1 y3
  clear hY
  go_wp2_with (fail)
  have y3 : Ext w14 ((((w14.alloc (.cells #[.int .u8 2] 5)).alloc (.cells #[.int .u8 2] 5)).alloc (.cells #[.int .u8 1] 5)).alloc (.cells #[.slice (some ⟨w14.heap.size, 0, none⟩) 1 1, .slice (some ⟨w14.heap.size + 1, 0, none⟩) 1 1, .slice (some ⟨w14.heap.size + 1 + 1, 0, none⟩) 1 1] 22)) := (((Ext.alloc w14 (.cells #[.int .u8 2] 5)).thenAlloc (.cells #[.int .u8 2] 5)).thenAlloc (.cells #[.int .u8 1] 5)).thenAlloc (.cells #[.slice (some ⟨w14.heap.size, 0, none⟩) 1 1, .slice (some ⟨w14.heap.size + 1, 0, none⟩) 1 1, .slice (some ⟨w14.heap.size + 1 + 1, 0, none⟩) 1 1] 22)
  have hi := sameLists_any _ Az _ 3 cz 3 3 _ _ (hZ.ext y3) (mx_three_at w14 rfl [2] [2] [1] _ _ _ _ _ _ _ rfl rfl (by decide) rfl rfl (by decide) rfl rfl (by decide))
  rw [decide_eq_true rfl] at hi
  refine hi.mono ?_
  rintro e w15 ⟨rfl, y1⟩
  clear hi
  have y0 := y3.trans y1
  replace hf := hf.ext y0
  replace hC := hC.ext y0
  replace hD := hD.ext y0
  replace hZ := hZ.ext y0
  replace hT := hT.ext y0
  replace m0 := m0.ext y0
  replace m1 := m1.ext y0
  replace s0 := y0.cell s0
  replace s1 := y0.cell s1
  replace x0 := Ext.trans x0 y0
  clear y0
  clear y1 y3
  clear hZ
  have kc := Lib.run_convert_bytes_const (P := Try.prog) w15 22 5 #[.int .u8 97, .int .u8 98] 2 2 Try.underlying22 Try.underlying5
  have kd := Joins.run_convert_bytes_const_at (P := Try.prog) (w15.alloc (.cells #[.int .u8 97, .int .u8 98] 5 (2, 3))) 22 5 #[.int .u8 99, .int .u8 100] 2 2 (w15.heap.size + 1) (by simp) Try.underlying22 Try.underlying5
  go_wp2_with (fail)
  clear kc kd
  have y3 : Ext w15 (((w15.alloc (.cells #[.int .u8 97, .int .u8 98] 5 (2, 3))).alloc (.cells #[.int .u8 99, .int .u8 100] 5 (2, 3))).alloc (.cells #[.slice (some ⟨w15.heap.size, 0, none⟩) 2 2, .slice (some ⟨w15.heap.size + 1, 0, none⟩) 2 2] 22)) := ((Ext.alloc w15 (.cells #[.int .u8 97, .int .u8 98] 5 (2, 3))).thenAlloc (.cells #[.int .u8 99, .int .u8 100] 5 (2, 3))).thenAlloc (.cells #[.slice (some ⟨w15.heap.size, 0, none⟩) 2 2, .slice (some ⟨w15.heap.size + 1, 0, none⟩) 2 2] 22)
  have hi := sameLists_any _ A0 _ 2 c0 2 2 _ _ (m0.ext y3) (mx_two_mark w15 rfl [97, 98] [99, 100] _ _ _ _ _ _ _ rfl rfl (by decide) rfl rfl (by decide))
  rw [decide_eq_true rfl] at hi
  refine hi.mono ?_
  rintro e w16 ⟨rfl, y1⟩
  clear hi
  have y0 := y3.trans y1
  replace hf := hf.ext y0
  replace hC := hC.ext y0
  replace hD := hD.ext y0
  replace hT := hT.ext y0
  replace m0 := m0.ext y0
  replace m1 := m1.ext y0
  replace s0 := y0.cell s0
  replace s1 := y0.cell s1
  replace x0 := Ext.trans x0 y0
  clear y0
  clear y1 y3
  clear m0
  go_wp2_with (fail)
  have y3 : Ext w16 (((w16.alloc (.cells #[.int .u8 101, .int .u8 0] 5)).alloc (.cells #[.int .u8 0, .int .u8 0] 5)).alloc (.cells #[.slice (some ⟨w16.heap.size, 0, none⟩) 2 2, .slice (some ⟨w16.heap.size + 1, 0, none⟩) 2 2] 22)) := ((Ext.alloc w16 (.cells #[.int .u8 101, .int .u8 0] 5)).thenAlloc (.cells #[.int .u8 0, .int .u8 0] 5)).thenAlloc (.cells #[.slice (some ⟨w16.heap.size, 0, none⟩) 2 2, .slice (some ⟨w16.heap.size + 1, 0, none⟩) 2 2] 22)
  have hi := sameLists_any _ A1 _ 2 c1 2 2 _ _ (m1.ext y3) (mx_two_at w16 rfl [101, 0] [0, 0] _ _ _ _ _ rfl rfl (by decide) rfl rfl (by decide))
  rw [decide_eq_true rfl] at hi
  refine hi.mono ?_
  rintro e w17 ⟨rfl, y1⟩
  clear hi
  have y0 := y3.trans y1
  replace hf := hf.ext y0
  replace hC := hC.ext y0
  replace hD := hD.ext y0
  replace hT := hT.ext y0
  replace m1 := m1.ext y0
  replace s0 := y0.cell s0
  replace s1 := y0.cell s1
  replace x0 := Ext.trans x0 y0
  clear y0
  clear y1 y3
  clear m1
  have hrt := run_text (P := Try.prog) w17 22 9 5 Try.underlying22 Try.underlying5 Try.underlying9 At 5 ct _ hT
  go_wp2_with (fail)
  go_ret
  exact ⟨ret_bool (by rw [text_list]; rfl), x0⟩
end Go.Proofs.Ytfpcldkfmcnjkaa
