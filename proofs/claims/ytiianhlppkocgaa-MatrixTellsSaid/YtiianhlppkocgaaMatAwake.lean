/- The chapter's examples. -/
import Derived.Test.YtiianhlppkocgaaMatLit
namespace Go.Proofs.Ytiianhlppkocgaa
open Go.RowKit

theorem gives_mx {m : Gm.L} {er : Int} {w w' : World} {e : Ending} (h : GivesQE m er w e w') : ∃ A c, e = .returned (.tuple #[.slice A m.length c, .int .i64 er]) ∧ Mx w' A m.length c m ∧ Ext w w' := by
  obtain ⟨v, cs, rfl, hq, hx⟩ := h
  obtain ⟨A, c, rfl, hm⟩ := hq.mx
  exact ⟨A, c, rfl, hm, hx⟩
set_option maxRecDepth 100000 in
set_option maxHeartbeats 4000000 in
theorem awake_any3 (w : World) : Calls Try.prog 18 #[] w fun e w' => e = .returned (.bool true) ∧ Ext w w' := by
  obtain ⟨d1, d2, d3, d4, d5, d6, d7⟩ := awake_numbers
  have HD := Lib.hid (And.intro d1 (And.intro d2 (And.intro d3 (And.intro d4 (And.intro d5 (And.intro d6 d7))))))
  clear d1 d2 d3 d4 d5 d6 d7
  go_enter Try.func18, Try.ntmps18
  go_wp2_with (fail)
  refine (new_any _).mono ?_
  rintro e w1 ⟨rfl, hf, hx⟩
  generalize hb : w.heap.size = fb at *
  have Hb := Lib.hid hb
  clear hb
  go_wp2_with (fail)
  refine (unit_ok w1 2 (by omega) (by omega)).mono ?_
  intro e w2 hg
  obtain ⟨A1, c1, rfl, m1, x2⟩ := gives_mx hg
  rw [HD.out.1] at m1
  clear hg
  have e1 : (Gm.unit 2).length = 2 := rfl
  rw [e1]
  go_wp2_with (fail)
  refine (cauchy_ok fb w2 1 2 (hf.ext x2) (by omega) (by omega) (by omega)).mono ?_
  intro e w3 hg
  obtain ⟨A2, c2, rfl, m2, x3⟩ := gives_mx hg
  rw [HD.out.2.1] at m2
  have e2 : (Gm.cauchy 1 2).length = 1 := rfl
  rw [e2]
  clear hg
  have x13 := x2.trans x3
  go_wp2_with (fail)
  have y3 : Ext w3 (((((w3.alloc (.cells #[.int .u8 1, .int .u8 2] 5)).alloc (.cells #[.slice (some ⟨w3.heap.size, 0, none⟩) 2 2] 26)).alloc (.cells #[.int .u8 3] 5)).alloc (.cells #[.int .u8 4] 5)).alloc (.cells #[.slice (some ⟨w3.heap.size + 1 + 1, 0, none⟩) 1 1, .slice (some ⟨w3.heap.size + 1 + 1 + 1, 0, none⟩) 1 1] 26)) := ((((Ext.alloc _ _).thenAlloc _).thenAlloc _).thenAlloc _).thenAlloc _
  refine (mul_any3 fb _ _ _ 1 1 2 2 [[1, 2]] [[3], [4]] ((hf.ext x13).ext y3) ((((mx_one w3 [1, 2] _ _ _ rfl rfl (by decide)).ext (Ext.alloc _ _)).ext (Ext.alloc _ _)).ext (Ext.alloc _ _)) (mx_two_at _ (by simp) [3] [4] _ _ _ _ _ rfl rfl (by decide) rfl rfl (by decide))).mono ?_
  intro e w4 hg
  obtain ⟨A3, c3, rfl, m3, x4⟩ := gives_mx hg
  have f1 : fit [[1, 2]] [[3], [4]] := by decide
  rw [if_pos f1, HD.out.2.2.1] at m3
  rw [if_pos f1, if_pos f1, HD.out.2.2.1]
  have e3 : ([[11]] : Gm.L).length = 1 := rfl
  rw [e3]
  clear hg
  have x14 := x13.trans (y3.trans x4)
  have x34 := y3.trans x4
  clear y3
  go_wp2_with (fail)
  have y4 : Ext w4 (((w4.alloc (.cells #[.int .u8 1, .int .u8 1] 5)).alloc (.cells #[.int .u8 1, .int .u8 0] 5)).alloc (.cells #[.slice (some ⟨w4.heap.size, 0, none⟩) 2 2, .slice (some ⟨w4.heap.size + 1, 0, none⟩) 2 2] 26)) := ((Ext.alloc _ _).thenAlloc _).thenAlloc _
  refine (invert_any3 fb _ _ 2 2 [[1, 1], [1, 0]] ((hf.ext x14).ext y4) (mx_two_at w4 rfl [1, 1] [1, 0] _ _ _ _ _ rfl rfl (by decide) rfl rfl (by decide))).mono ?_
  intro e w5 hg
  obtain ⟨A4, c4, rfl, m4, x5⟩ := gives_mx hg
  have f2 : invM [[1, 1], [1, 0]] = [[0, 1], [1, 1]] := by decide +kernel
  have f3 : invE [[1, 1], [1, 0]] = 0 := by decide +kernel
  rw [f2] at m4
  rw [f2, f3]
  have e4 : ([[0, 1], [1, 1]] : Gm.L).length = 2 := rfl
  rw [e4]
  clear hg f2 f3
  have x15 := x14.trans (y4.trans x5)
  have x45 := y4.trans x5
  clear y4
  go_wp2_with (fail)
  have y5 : Ext w5 (((w5.alloc (.cells #[.int .u8 1, .int .u8 1] 5)).alloc (.cells #[.int .u8 1, .int .u8 1] 5)).alloc (.cells #[.slice (some ⟨w5.heap.size, 0, none⟩) 2 2, .slice (some ⟨w5.heap.size + 1, 0, none⟩) 2 2] 26)) := ((Ext.alloc _ _).thenAlloc _).thenAlloc _
  refine (invert_any3 fb _ _ 2 2 [[1, 1], [1, 1]] ((hf.ext x15).ext y5) (mx_two_at w5 rfl [1, 1] [1, 1] _ _ _ _ _ rfl rfl (by decide) rfl rfl (by decide))).mono ?_
  intro e w6 hg
  obtain ⟨A5, c5, rfl, m5, x6⟩ := gives_mx hg
  have f3 : invE [[1, 1], [1, 1]] = 31 := by decide +kernel
  rw [f3]
  clear hg f3 m5
  have x16 := x15.trans (y5.trans x6)
  have x56 := y5.trans x6
  have x46 := x45.trans x56
  have x36 := x34.trans x46
  have x26 : Ext w2 w6 := x3.trans x36
  clear y5
  go_wp2_with (fail)
  have hp := pick_any3 (w6.alloc (.cells #[.int .i64 1, .int .i64 1] 3)) A1 2 c1 (Gm.unit 2) (m1.ext (x26.thenAlloc _)) (some ⟨w6.heap.size, 0, none⟩) 2 2 [1, 1] (Is.lit w6 _ rfl [1, 1] _ _ 2 rfl rfl (by omega))
  refine hp.mono ?_
  intro e w7 hg
  obtain ⟨A6, c6, rfl, m6, x7⟩ := gives_mx hg
  have f4 : pickM (Gm.unit 2) [1, 1] = [[0, 1], [0, 1]] := by decide +kernel
  have f5 : pickE (Gm.unit 2) [1, 1] = 0 := by decide +kernel
  rw [f4] at m6
  rw [f4, f5]
  have e6 : ([[0, 1], [0, 1]] : Gm.L).length = 2 := rfl
  rw [e6]
  clear hg hp f4 f5
  have x67 := (Ext.alloc w6 (.cells #[.int .i64 1, .int .i64 1] 3)).trans x7
  have x17 := x16.trans x67
  have x57 := x56.trans x67
  have x47 := x46.trans x67
  have x37 := x36.trans x67
  have x27 := x26.trans x67
  clear x34 x45 x56 x46 x36 x26 x16 x15 x14 x13
  go_wp2_with (fail)
  have y7 : Ext w7 (((w7.alloc (.cells #[.int .u8 1, .int .u8 0] 5)).alloc (.cells #[.int .u8 0, .int .u8 1] 5)).alloc (.cells #[.slice (some ⟨w7.heap.size, 0, none⟩) 2 2, .slice (some ⟨w7.heap.size + 1, 0, none⟩) 2 2] 26)) := ((Ext.alloc _ _).thenAlloc _).thenAlloc _
  have hi := is_any3 _ A1 _ 2 c1 2 2 _ _ 0 ((m1.ext x27).ext y7) (mx_two_at w7 rfl [1, 0] [0, 1] _ _ _ _ _ rfl rfl (by decide) rfl rfl (by decide))
  rw [decide_eq_true ⟨rfl, HD.out.1⟩] at hi
  refine hi.mono ?_
  rintro e w8 ⟨rfl, x8⟩
  have x78 := y7.trans x8
  clear hi y7 x8
  go_wp2_with (fail)
  have y8 : Ext w8 ((w8.alloc (.cells #[.int .u8 142, .int .u8 244] 5)).alloc (.cells #[.slice (some ⟨w8.heap.size, 0, none⟩) 2 2] 26)) := (Ext.alloc _ _).thenAlloc _
  have hi := is_any3 _ A2 _ 1 c2 1 1 _ _ 0 ((m2.ext (x37.trans x78)).ext y8) (mx_one w8 [142, 244] _ _ _ rfl rfl (by decide))
  rw [decide_eq_true ⟨rfl, rfl⟩] at hi
  refine hi.mono ?_
  rintro e w9 ⟨rfl, x9⟩
  have x89 := y8.trans x9
  clear hi y8 x9
  go_wp2_with (fail)
  have y9 : Ext w9 ((w9.alloc (.cells #[.int .u8 11] 5)).alloc (.cells #[.slice (some ⟨w9.heap.size, 0, none⟩) 1 1] 26)) := (Ext.alloc _ _).thenAlloc _
  have hi := is_any3 _ A3 _ 1 c3 1 1 _ _ 0 ((m3.ext ((x47.trans x78).trans x89)).ext y9) (mx_one w9 [11] _ _ _ rfl rfl (by decide))
  rw [decide_eq_true ⟨rfl, rfl⟩] at hi
  refine hi.mono ?_
  rintro e w10 ⟨rfl, x10⟩
  have x90 := y9.trans x10
  clear hi y9 x10
  go_wp2_with (fail)
  have y10 : Ext w10 (((w10.alloc (.cells #[.int .u8 0, .int .u8 1] 5)).alloc (.cells #[.int .u8 1, .int .u8 1] 5)).alloc (.cells #[.slice (some ⟨w10.heap.size, 0, none⟩) 2 2, .slice (some ⟨w10.heap.size + 1, 0, none⟩) 2 2] 26)) := ((Ext.alloc _ _).thenAlloc _).thenAlloc _
  have hi := is_any3 _ A4 _ 2 c4 2 2 _ _ 0 ((m4.ext (((x57.trans x78).trans x89).trans x90)).ext y10) (mx_two_at w10 rfl [0, 1] [1, 1] _ _ _ _ _ rfl rfl (by decide) rfl rfl (by decide))
  rw [decide_eq_true ⟨rfl, rfl⟩] at hi
  refine hi.mono ?_
  rintro e w11 ⟨rfl, x11⟩
  have x91 := y10.trans x11
  clear hi y10 x11
  go_wp2_with (fail)
  have y11 : Ext w11 (((w11.alloc (.cells #[.int .u8 1, .int .u8 1] 5)).alloc (.cells #[.int .u8 1, .int .u8 1] 5)).alloc (.cells #[.slice (some ⟨w11.heap.size, 0, none⟩) 2 2, .slice (some ⟨w11.heap.size + 1, 0, none⟩) 2 2] 26)) := ((Ext.alloc _ _).thenAlloc _).thenAlloc _
  have hr := rank_any3 fb _ _ 2 2 [[1, 1], [1, 1]] ((hf.ext ((((x17.trans x78).trans x89).trans x90).trans x91)).ext y11) (mx_two_at w11 rfl [1, 1] [1, 1] _ _ _ _ _ rfl rfl (by decide) rfl rfl (by decide))
  rw [if_pos (by decide), HD.out.2.2.2.2.2.1] at hr
  refine hr.mono ?_
  rintro e w12 ⟨rfl, x12⟩
  have x92 := y11.trans x12
  clear hr y11 x12
  go_wp2_with (fail)
  have y12 : Ext w12 (((w12.alloc (.cells #[.int .u8 0, .int .u8 1] 5)).alloc (.cells #[.int .u8 0, .int .u8 1] 5)).alloc (.cells #[.slice (some ⟨w12.heap.size, 0, none⟩) 2 2, .slice (some ⟨w12.heap.size + 1, 0, none⟩) 2 2] 26)) := ((Ext.alloc _ _).thenAlloc _).thenAlloc _
  have hi := is_any3 _ A6 _ 2 c6 2 2 _ _ 0 ((m6.ext ((((x78.trans x89).trans x90).trans x91).trans x92)).ext y12) (mx_two_at w12 rfl [0, 1] [0, 1] _ _ _ _ _ rfl rfl (by decide) rfl rfl (by decide))
  rw [decide_eq_true ⟨rfl, rfl⟩] at hi
  refine hi.mono ?_
  rintro e w13 ⟨rfl, x13⟩
  go_wp2_with (fail)
  go_ret
  exact ⟨rfl, (((((((hx.trans x17).trans x78).trans x89).trans x90).trans x91).trans x92).trans y12).trans x13⟩
end Go.Proofs.Ytiianhlppkocgaa
