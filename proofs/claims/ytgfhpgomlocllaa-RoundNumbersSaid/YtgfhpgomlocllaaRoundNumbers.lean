/- RoundNumbers' walk: the fixed examples of the chapter come out as written. -/
import Derived.Test.YtgfhpgomlocllaaRoundAwake
import Derived.Test.YtgfhpgomlocllaaRoundLose
import Derived.Test.YtgfhpgomlocllaaRoundLow
import Derived.Test.YtgfhpgomlocllaaOpen
namespace Go.Proofs.Ytgfhpgomlocllaa
open Go.ChangeShapes Go.WideShapes Go.ChangeAt Go.RowKit

namespace roundNumbers
set_option maxRecDepth 100000 in
set_option maxHeartbeats 40000000 in
theorem walk (w : World) : Calls Try.prog 4 #[] w fun e w' => e = .returned (.bool true) ∧ Ext w w' := by
  have k1 : (if Rounds.named 1099511627776 1099511627776 255 255 then Rounds.begun 1099511627776 1099511627776 255 ((255 : Int)).toNat else Rounds.zero) = ⟨1099511627776, 1099511627776, 255, 1, (List.replicate 255 0)⟩ ∧ (if Rounds.named 1099511627776 1099511627776 255 255 then 0 else 130 : Int) = 0 := by decide +kernel
  have K1 := Lib.hid k1
  clear k1
  have k2 : (if Rounds.named 0 1 2 1 then Rounds.begun 0 1 1 ((2 : Int)).toNat else Rounds.zero) = ⟨0, 1, 1, 1, [0, 0]⟩ ∧ (if Rounds.named 0 1 2 1 then 0 else 130 : Int) = 0 := by decide +kernel
  have K2 := Lib.hid k2
  clear k2
  have k3 : Rounds.publish ⟨0, 1, 1, 1, [0, 0]⟩ = ⟨0, 1, 1, 1, [0, 0]⟩ ∧ Rounds.turnedE ⟨0, 1, 1, 1, [0, 0]⟩ [2] = 80 := by decide +kernel
  have K3 := Lib.hid k3
  clear k3
  have k4 : Rounds.publish ⟨0, 0, 0, 0, []⟩ = ⟨0, 0, 0, 0, []⟩ ∧ Rounds.turnedE ⟨0, 0, 0, 0, []⟩ [2] = 130 := by decide +kernel
  have K4 := Lib.hid k4
  clear k4
  have k5 : Rounds.give ⟨0, 0, 0, 0, []⟩ = ⟨0, 0, 0, 0, []⟩ ∧ Rounds.turnedE ⟨0, 0, 0, 0, []⟩ [1, 2] = 130 := by decide +kernel
  have K5 := Lib.hid k5
  clear k5
  have k6 : Rounds.told ⟨0, 1, 1, 1, [0, 0]⟩ (2) 1 0 = ⟨0, 1, 1, 1, [0, 0]⟩ ∧ Rounds.toldE ⟨0, 1, 1, 1, [0, 0]⟩ (2) = 130 := by decide +kernel
  have K6 := Lib.hid k6
  clear k6
  have k7 : Rounds.told ⟨0, 1, 1, 1, [0, 0]⟩ (-1) 1 0 = ⟨0, 1, 1, 1, [0, 0]⟩ ∧ Rounds.toldE ⟨0, 1, 1, 1, [0, 0]⟩ (-1) = 130 := by decide +kernel
  have K7 := Lib.hid k7
  clear k7
  have k8 : tolds ⟨0, 1, 1, 1, [0, 0]⟩ [(0, 1, 0)] = ⟨0, 1, 1, 2, [1, 0]⟩ ∧ toldsOk ⟨0, 1, 1, 1, [0, 0]⟩ [(0, 1, 0)] = true := by decide +kernel
  have K8 := Lib.hid k8
  clear k8
  have k9 : Rounds.publish ⟨0, 1, 1, 2, [1, 0]⟩ = ⟨0, 1, 1, 3, [1, 0]⟩ ∧ Rounds.turnedE ⟨0, 1, 1, 2, [1, 0]⟩ [2] = 0 := by decide +kernel
  have K9 := Lib.hid k9
  clear k9
  have k10 : Rounds.give ⟨0, 1, 1, 3, [1, 0]⟩ = ⟨0, 1, 1, 3, [1, 0]⟩ ∧ Rounds.turnedE ⟨0, 1, 1, 3, [1, 0]⟩ [1, 2] = 80 := by decide +kernel
  have K10 := Lib.hid k10
  clear k10
  have k11 : Rounds.publish ⟨0, 1, 1, 3, [1, 0]⟩ = ⟨0, 1, 1, 3, [1, 0]⟩ ∧ Rounds.turnedE ⟨0, 1, 1, 3, [1, 0]⟩ [2] = 80 := by decide +kernel
  have K11 := Lib.hid k11
  clear k11
  have k12 : Rounds.give ⟨0, 1, 1, 2, [1, 0]⟩ = ⟨0, 1, 1, 5, [1, 0]⟩ ∧ Rounds.turnedE ⟨0, 1, 1, 2, [1, 0]⟩ [1, 2] = 0 := by decide +kernel
  have K12 := Lib.hid k12
  clear k12
  have k13 : Rounds.publish ⟨0, 1, 1, 5, [1, 0]⟩ = ⟨0, 1, 1, 5, [1, 0]⟩ ∧ Rounds.turnedE ⟨0, 1, 1, 5, [1, 0]⟩ [2] = 80 := by decide +kernel
  have K13 := Lib.hid k13
  clear k13
  have k14 : tolds ⟨0, 1, 1, 3, [1, 0]⟩ [(0, 2, 60), (0, 1, 61), (1, 1, 62), (1, 1, 0), (1, 2, 61)] = ⟨0, 1, 1, 4, [2, 2]⟩ ∧ toldsOk ⟨0, 1, 1, 3, [1, 0]⟩ [(0, 2, 60), (0, 1, 61), (1, 1, 62), (1, 1, 0), (1, 2, 61)] = true := by decide +kernel
  have K14 := Lib.hid k14
  clear k14
  have k15 : tolds ⟨0, 1, 1, 5, [1, 0]⟩ [(0, 3, 0), (0, 1, 0), (1, 3, 61), (0, 3, 0)] = ⟨0, 1, 1, 6, [4, 4]⟩ ∧ toldsOk ⟨0, 1, 1, 5, [1, 0]⟩ [(0, 3, 0), (0, 1, 0), (1, 3, 61), (0, 3, 0)] = true := by decide +kernel
  have K15 := Lib.hid k15
  clear k15
  have k16 : tolds ⟨0, 1, 1, 1, [0, 0]⟩ [(0, 2, 0), (0, 9, 0), (1, 3, 0)] = ⟨0, 1, 1, 1, [0, 0]⟩ ∧ toldsOk ⟨0, 1, 1, 1, [0, 0]⟩ [(0, 2, 0), (0, 9, 0), (1, 3, 0)] = true := by decide +kernel
  have K16 := Lib.hid k16
  clear k16
  have k17 : Rounds.lose ⟨0, 1, 1, 2, [1, 0]⟩ 0 = ⟨0, 1, 1, 1, [0, 0]⟩ ∧ Rounds.toldE ⟨0, 1, 1, 2, [1, 0]⟩ 0 = 0 := by decide +kernel
  have K17 := Lib.hid k17
  clear k17
  have k18 : Rounds.lose ⟨0, 1, 1, 3, [1, 0]⟩ 1 = ⟨0, 1, 1, 3, [1, 0]⟩ ∧ Rounds.toldE ⟨0, 1, 1, 3, [1, 0]⟩ 1 = 0 := by decide +kernel
  have K18 := Lib.hid k18
  clear k18
  have k19 : Rounds.lose ⟨0, 1, 1, 1, [0, 0]⟩ 2 = ⟨0, 1, 1, 1, [0, 0]⟩ ∧ Rounds.toldE ⟨0, 1, 1, 1, [0, 0]⟩ 2 = 130 := by decide +kernel
  have K19 := Lib.hid k19
  clear k19
  have k20 : decide (Rounds.wants ⟨0, 1, 1, 1, [0, 0]⟩ = [(0, 1), (1, 1)]) = true := by decide +kernel
  have K20 := Lib.hid k20
  clear k20
  have k21 : decide (Rounds.Right ⟨1099511627776, 1099511627776, 255, 1, (List.replicate 255 0)⟩) = true := by decide +kernel
  have K21 := Lib.hid k21
  clear k21
  have k22 : (Rounds.wants ⟨0, 0, 0, 0, [0]⟩) = [] := by decide +kernel
  have K22 := Lib.hid k22
  clear k22
  have nz : decide (Rounds.Right Rounds.zero) = false := by decide +kernel
  have NZ := Lib.hid nz
  clear nz
  go_enter Try.func4, Try.ntmps4
  try dsimp only [List.append]
  go_wp2_with (fail)
  have hblk := heap_alloc_new w (.cells #[.int .i64 (-1), .int .i64 1, .int .i64 1, .int .i64 1, .int .i64 1099511627777, .int .i64 1, .int .i64 1, .int .i64 1, .int .i64 0, .int .i64 0, .int .i64 1, .int .i64 1, .int .i64 0, .int .i64 1099511627777, .int .i64 1, .int .i64 1, .int .i64 0, .int .i64 1, .int .i64 0, .int .i64 0, .int .i64 0, .int .i64 1, .int .i64 256, .int .i64 1, .int .i64 0, .int .i64 1, .int .i64 3, .int .i64 0, .int .i64 0, .int .i64 1, .int .i64 3, .int .i64 4, .int .i64 0, .int .i64 1, .int .i64 (-1), .int .i64 1] 35)
  have hx0 : Ext w (w.alloc (.cells #[.int .i64 (-1), .int .i64 1, .int .i64 1, .int .i64 1, .int .i64 1099511627777, .int .i64 1, .int .i64 1, .int .i64 1, .int .i64 0, .int .i64 0, .int .i64 1, .int .i64 1, .int .i64 0, .int .i64 1099511627777, .int .i64 1, .int .i64 1, .int .i64 0, .int .i64 1, .int .i64 0, .int .i64 0, .int .i64 0, .int .i64 1, .int .i64 256, .int .i64 1, .int .i64 0, .int .i64 1, .int .i64 3, .int .i64 0, .int .i64 0, .int .i64 1, .int .i64 3, .int .i64 4, .int .i64 0, .int .i64 1, .int .i64 (-1), .int .i64 1] 35)) := Ext.alloc _ _
  generalize (w.alloc (.cells #[.int .i64 (-1), .int .i64 1, .int .i64 1, .int .i64 1, .int .i64 1099511627777, .int .i64 1, .int .i64 1, .int .i64 1, .int .i64 0, .int .i64 0, .int .i64 1, .int .i64 1, .int .i64 0, .int .i64 1099511627777, .int .i64 1, .int .i64 1, .int .i64 0, .int .i64 1, .int .i64 0, .int .i64 0, .int .i64 0, .int .i64 1, .int .i64 256, .int .i64 1, .int .i64 0, .int .i64 1, .int .i64 3, .int .i64 0, .int .i64 0, .int .i64 1, .int .i64 3, .int .i64 4, .int .i64 0, .int .i64 1, .int .i64 (-1), .int .i64 1] 35)) = W0 at *
  generalize w.heap.size = gb at *
  have HB := Lib.hid hblk
  have HX0 := Lib.hid hx0
  clear hblk hx0
  go_loopw [55] (fun i wr => ∃ j : Nat, j ≤ 9 ∧ i = .int .i64 j ∧ Ext W0 wr) (fun i _ => 9 - (intOf i).toNat)
  case atStart => exact ⟨0, by omega, rfl, Ext.refl _⟩
  case round =>
    obtain ⟨j, hj, rfl, hx⟩ := hrel
    have hlt : gb < W0.heap.size := (Array.getElem?_eq_some_iff.1 HB.out).1
    have hb := (hx.block gb hlt).trans HB.out
    have HX := Lib.hid hx
    clear hx hlt
    rcases (show j = 0 ∨ j = 1 ∨ j = 2 ∨ j = 3 ∨ j = 4 ∨ j = 5 ∨ j = 6 ∨ j = 7 ∨ j = 8 ∨ j = 9 by omega) with rfl | rfl | rfl | rfl | rfl | rfl | rfl | rfl | rfl | rfl
    · have m0 : wr.cell? ⟨gb, 0, none⟩ = some (.int .i64 (-1)) := by rw [cell_of_row wr _ _ _ _ _ hb]; rfl
      have m1 : wr.cell? ⟨gb, 1, none⟩ = some (.int .i64 (1)) := by rw [cell_of_row wr _ _ _ _ _ hb]; rfl
      have m2 : wr.cell? ⟨gb, 2, none⟩ = some (.int .i64 (1)) := by rw [cell_of_row wr _ _ _ _ _ hb]; rfl
      have m3 : wr.cell? ⟨gb, 3, none⟩ = some (.int .i64 (1)) := by rw [cell_of_row wr _ _ _ _ _ hb]; rfl
      clear hb hj
      go_wp2_with (fail)
      refine (begin_no _ (-1) (1) (1) (1) (by decide)).mono ?_
      rintro y v1 ⟨A9, n9, c9, rfl, i9, _, xn⟩
      have X1 := Lib.hid (((HX.out.thenAlloc _).trans xn).thenAlloc (.cells #[.int .i64 0, .int .i64 0, .int .i64 0, .int .i64 0, .slice A9 n9 c9] 25))
      have RZ := Lib.hid (right_any (v1.alloc (.cells #[.int .i64 0, .int .i64 0, .int .i64 0, .int .i64 0, .slice A9 n9 c9] 25)) Rounds.zero A9 n9 c9 (i9.up _))
      rw [show rval Rounds.zero A9 n9 c9 = .agg #[.int .i64 0, .int .i64 0, .int .i64 0, .int .i64 0, .slice A9 n9 c9] from rfl]
      clear xn i9
      go_wp2_with (fail)
      refine RZ.out.mono ?_
      rintro y v2 ⟨rfl, xn⟩
      rw [NZ.out]
      go_wp2_with (fail)
      exact ⟨⟨1, by omega, rfl, X1.out.trans xn⟩, by simp only [intOf]; omega⟩
    · have m0 : wr.cell? ⟨gb, 4, none⟩ = some (.int .i64 (1099511627777)) := by rw [cell_of_row wr _ _ _ _ _ hb]; rfl
      have m1 : wr.cell? ⟨gb, 5, none⟩ = some (.int .i64 (1)) := by rw [cell_of_row wr _ _ _ _ _ hb]; rfl
      have m2 : wr.cell? ⟨gb, 6, none⟩ = some (.int .i64 (1)) := by rw [cell_of_row wr _ _ _ _ _ hb]; rfl
      have m3 : wr.cell? ⟨gb, 7, none⟩ = some (.int .i64 (1)) := by rw [cell_of_row wr _ _ _ _ _ hb]; rfl
      clear hb hj
      go_wp2_with (fail)
      refine (begin_no _ (1099511627777) (1) (1) (1) (by decide)).mono ?_
      rintro y v1 ⟨A9, n9, c9, rfl, i9, _, xn⟩
      have X1 := Lib.hid (((HX.out.thenAlloc _).trans xn).thenAlloc (.cells #[.int .i64 0, .int .i64 0, .int .i64 0, .int .i64 0, .slice A9 n9 c9] 25))
      have RZ := Lib.hid (right_any (v1.alloc (.cells #[.int .i64 0, .int .i64 0, .int .i64 0, .int .i64 0, .slice A9 n9 c9] 25)) Rounds.zero A9 n9 c9 (i9.up _))
      rw [show rval Rounds.zero A9 n9 c9 = .agg #[.int .i64 0, .int .i64 0, .int .i64 0, .int .i64 0, .slice A9 n9 c9] from rfl]
      clear xn i9
      go_wp2_with (fail)
      refine RZ.out.mono ?_
      rintro y v2 ⟨rfl, xn⟩
      rw [NZ.out]
      go_wp2_with (fail)
      exact ⟨⟨2, by omega, rfl, X1.out.trans xn⟩, by simp only [intOf]; omega⟩
    · have m0 : wr.cell? ⟨gb, 8, none⟩ = some (.int .i64 (0)) := by rw [cell_of_row wr _ _ _ _ _ hb]; rfl
      have m1 : wr.cell? ⟨gb, 9, none⟩ = some (.int .i64 (0)) := by rw [cell_of_row wr _ _ _ _ _ hb]; rfl
      have m2 : wr.cell? ⟨gb, 10, none⟩ = some (.int .i64 (1)) := by rw [cell_of_row wr _ _ _ _ _ hb]; rfl
      have m3 : wr.cell? ⟨gb, 11, none⟩ = some (.int .i64 (1)) := by rw [cell_of_row wr _ _ _ _ _ hb]; rfl
      clear hb hj
      go_wp2_with (fail)
      refine (begin_no _ (0) (0) (1) (1) (by decide)).mono ?_
      rintro y v1 ⟨A9, n9, c9, rfl, i9, _, xn⟩
      have X1 := Lib.hid (((HX.out.thenAlloc _).trans xn).thenAlloc (.cells #[.int .i64 0, .int .i64 0, .int .i64 0, .int .i64 0, .slice A9 n9 c9] 25))
      have RZ := Lib.hid (right_any (v1.alloc (.cells #[.int .i64 0, .int .i64 0, .int .i64 0, .int .i64 0, .slice A9 n9 c9] 25)) Rounds.zero A9 n9 c9 (i9.up _))
      rw [show rval Rounds.zero A9 n9 c9 = .agg #[.int .i64 0, .int .i64 0, .int .i64 0, .int .i64 0, .slice A9 n9 c9] from rfl]
      clear xn i9
      go_wp2_with (fail)
      refine RZ.out.mono ?_
      rintro y v2 ⟨rfl, xn⟩
      rw [NZ.out]
      go_wp2_with (fail)
      exact ⟨⟨3, by omega, rfl, X1.out.trans xn⟩, by simp only [intOf]; omega⟩
    · have m0 : wr.cell? ⟨gb, 12, none⟩ = some (.int .i64 (0)) := by rw [cell_of_row wr _ _ _ _ _ hb]; rfl
      have m1 : wr.cell? ⟨gb, 13, none⟩ = some (.int .i64 (1099511627777)) := by rw [cell_of_row wr _ _ _ _ _ hb]; rfl
      have m2 : wr.cell? ⟨gb, 14, none⟩ = some (.int .i64 (1)) := by rw [cell_of_row wr _ _ _ _ _ hb]; rfl
      have m3 : wr.cell? ⟨gb, 15, none⟩ = some (.int .i64 (1)) := by rw [cell_of_row wr _ _ _ _ _ hb]; rfl
      clear hb hj
      go_wp2_with (fail)
      refine (begin_no _ (0) (1099511627777) (1) (1) (by decide)).mono ?_
      rintro y v1 ⟨A9, n9, c9, rfl, i9, _, xn⟩
      have X1 := Lib.hid (((HX.out.thenAlloc _).trans xn).thenAlloc (.cells #[.int .i64 0, .int .i64 0, .int .i64 0, .int .i64 0, .slice A9 n9 c9] 25))
      have RZ := Lib.hid (right_any (v1.alloc (.cells #[.int .i64 0, .int .i64 0, .int .i64 0, .int .i64 0, .slice A9 n9 c9] 25)) Rounds.zero A9 n9 c9 (i9.up _))
      rw [show rval Rounds.zero A9 n9 c9 = .agg #[.int .i64 0, .int .i64 0, .int .i64 0, .int .i64 0, .slice A9 n9 c9] from rfl]
      clear xn i9
      go_wp2_with (fail)
      refine RZ.out.mono ?_
      rintro y v2 ⟨rfl, xn⟩
      rw [NZ.out]
      go_wp2_with (fail)
      exact ⟨⟨4, by omega, rfl, X1.out.trans xn⟩, by simp only [intOf]; omega⟩
    · have m0 : wr.cell? ⟨gb, 16, none⟩ = some (.int .i64 (0)) := by rw [cell_of_row wr _ _ _ _ _ hb]; rfl
      have m1 : wr.cell? ⟨gb, 17, none⟩ = some (.int .i64 (1)) := by rw [cell_of_row wr _ _ _ _ _ hb]; rfl
      have m2 : wr.cell? ⟨gb, 18, none⟩ = some (.int .i64 (0)) := by rw [cell_of_row wr _ _ _ _ _ hb]; rfl
      have m3 : wr.cell? ⟨gb, 19, none⟩ = some (.int .i64 (0)) := by rw [cell_of_row wr _ _ _ _ _ hb]; rfl
      clear hb hj
      go_wp2_with (fail)
      refine (begin_no _ (0) (1) (0) (0) (by decide)).mono ?_
      rintro y v1 ⟨A9, n9, c9, rfl, i9, _, xn⟩
      have X1 := Lib.hid (((HX.out.thenAlloc _).trans xn).thenAlloc (.cells #[.int .i64 0, .int .i64 0, .int .i64 0, .int .i64 0, .slice A9 n9 c9] 25))
      have RZ := Lib.hid (right_any (v1.alloc (.cells #[.int .i64 0, .int .i64 0, .int .i64 0, .int .i64 0, .slice A9 n9 c9] 25)) Rounds.zero A9 n9 c9 (i9.up _))
      rw [show rval Rounds.zero A9 n9 c9 = .agg #[.int .i64 0, .int .i64 0, .int .i64 0, .int .i64 0, .slice A9 n9 c9] from rfl]
      clear xn i9
      go_wp2_with (fail)
      refine RZ.out.mono ?_
      rintro y v2 ⟨rfl, xn⟩
      rw [NZ.out]
      go_wp2_with (fail)
      exact ⟨⟨5, by omega, rfl, X1.out.trans xn⟩, by simp only [intOf]; omega⟩
    · have m0 : wr.cell? ⟨gb, 20, none⟩ = some (.int .i64 (0)) := by rw [cell_of_row wr _ _ _ _ _ hb]; rfl
      have m1 : wr.cell? ⟨gb, 21, none⟩ = some (.int .i64 (1)) := by rw [cell_of_row wr _ _ _ _ _ hb]; rfl
      have m2 : wr.cell? ⟨gb, 22, none⟩ = some (.int .i64 (256)) := by rw [cell_of_row wr _ _ _ _ _ hb]; rfl
      have m3 : wr.cell? ⟨gb, 23, none⟩ = some (.int .i64 (1)) := by rw [cell_of_row wr _ _ _ _ _ hb]; rfl
      clear hb hj
      go_wp2_with (fail)
      refine (begin_no _ (0) (1) (256) (1) (by decide)).mono ?_
      rintro y v1 ⟨A9, n9, c9, rfl, i9, _, xn⟩
      have X1 := Lib.hid (((HX.out.thenAlloc _).trans xn).thenAlloc (.cells #[.int .i64 0, .int .i64 0, .int .i64 0, .int .i64 0, .slice A9 n9 c9] 25))
      have RZ := Lib.hid (right_any (v1.alloc (.cells #[.int .i64 0, .int .i64 0, .int .i64 0, .int .i64 0, .slice A9 n9 c9] 25)) Rounds.zero A9 n9 c9 (i9.up _))
      rw [show rval Rounds.zero A9 n9 c9 = .agg #[.int .i64 0, .int .i64 0, .int .i64 0, .int .i64 0, .slice A9 n9 c9] from rfl]
      clear xn i9
      go_wp2_with (fail)
      refine RZ.out.mono ?_
      rintro y v2 ⟨rfl, xn⟩
      rw [NZ.out]
      go_wp2_with (fail)
      exact ⟨⟨6, by omega, rfl, X1.out.trans xn⟩, by simp only [intOf]; omega⟩
    · have m0 : wr.cell? ⟨gb, 24, none⟩ = some (.int .i64 (0)) := by rw [cell_of_row wr _ _ _ _ _ hb]; rfl
      have m1 : wr.cell? ⟨gb, 25, none⟩ = some (.int .i64 (1)) := by rw [cell_of_row wr _ _ _ _ _ hb]; rfl
      have m2 : wr.cell? ⟨gb, 26, none⟩ = some (.int .i64 (3)) := by rw [cell_of_row wr _ _ _ _ _ hb]; rfl
      have m3 : wr.cell? ⟨gb, 27, none⟩ = some (.int .i64 (0)) := by rw [cell_of_row wr _ _ _ _ _ hb]; rfl
      clear hb hj
      go_wp2_with (fail)
      refine (begin_no _ (0) (1) (3) (0) (by decide)).mono ?_
      rintro y v1 ⟨A9, n9, c9, rfl, i9, _, xn⟩
      have X1 := Lib.hid (((HX.out.thenAlloc _).trans xn).thenAlloc (.cells #[.int .i64 0, .int .i64 0, .int .i64 0, .int .i64 0, .slice A9 n9 c9] 25))
      have RZ := Lib.hid (right_any (v1.alloc (.cells #[.int .i64 0, .int .i64 0, .int .i64 0, .int .i64 0, .slice A9 n9 c9] 25)) Rounds.zero A9 n9 c9 (i9.up _))
      rw [show rval Rounds.zero A9 n9 c9 = .agg #[.int .i64 0, .int .i64 0, .int .i64 0, .int .i64 0, .slice A9 n9 c9] from rfl]
      clear xn i9
      go_wp2_with (fail)
      refine RZ.out.mono ?_
      rintro y v2 ⟨rfl, xn⟩
      rw [NZ.out]
      go_wp2_with (fail)
      exact ⟨⟨7, by omega, rfl, X1.out.trans xn⟩, by simp only [intOf]; omega⟩
    · have m0 : wr.cell? ⟨gb, 28, none⟩ = some (.int .i64 (0)) := by rw [cell_of_row wr _ _ _ _ _ hb]; rfl
      have m1 : wr.cell? ⟨gb, 29, none⟩ = some (.int .i64 (1)) := by rw [cell_of_row wr _ _ _ _ _ hb]; rfl
      have m2 : wr.cell? ⟨gb, 30, none⟩ = some (.int .i64 (3)) := by rw [cell_of_row wr _ _ _ _ _ hb]; rfl
      have m3 : wr.cell? ⟨gb, 31, none⟩ = some (.int .i64 (4)) := by rw [cell_of_row wr _ _ _ _ _ hb]; rfl
      clear hb hj
      go_wp2_with (fail)
      refine (begin_no _ (0) (1) (3) (4) (by decide)).mono ?_
      rintro y v1 ⟨A9, n9, c9, rfl, i9, _, xn⟩
      have X1 := Lib.hid (((HX.out.thenAlloc _).trans xn).thenAlloc (.cells #[.int .i64 0, .int .i64 0, .int .i64 0, .int .i64 0, .slice A9 n9 c9] 25))
      have RZ := Lib.hid (right_any (v1.alloc (.cells #[.int .i64 0, .int .i64 0, .int .i64 0, .int .i64 0, .slice A9 n9 c9] 25)) Rounds.zero A9 n9 c9 (i9.up _))
      rw [show rval Rounds.zero A9 n9 c9 = .agg #[.int .i64 0, .int .i64 0, .int .i64 0, .int .i64 0, .slice A9 n9 c9] from rfl]
      clear xn i9
      go_wp2_with (fail)
      refine RZ.out.mono ?_
      rintro y v2 ⟨rfl, xn⟩
      rw [NZ.out]
      go_wp2_with (fail)
      exact ⟨⟨8, by omega, rfl, X1.out.trans xn⟩, by simp only [intOf]; omega⟩
    · have m0 : wr.cell? ⟨gb, 32, none⟩ = some (.int .i64 (0)) := by rw [cell_of_row wr _ _ _ _ _ hb]; rfl
      have m1 : wr.cell? ⟨gb, 33, none⟩ = some (.int .i64 (1)) := by rw [cell_of_row wr _ _ _ _ _ hb]; rfl
      have m2 : wr.cell? ⟨gb, 34, none⟩ = some (.int .i64 (-1)) := by rw [cell_of_row wr _ _ _ _ _ hb]; rfl
      have m3 : wr.cell? ⟨gb, 35, none⟩ = some (.int .i64 (1)) := by rw [cell_of_row wr _ _ _ _ _ hb]; rfl
      clear hb hj
      go_wp2_with (fail)
      refine (begin_no _ (0) (1) (-1) (1) (by decide)).mono ?_
      rintro y v1 ⟨A9, n9, c9, rfl, i9, _, xn⟩
      have X1 := Lib.hid (((HX.out.thenAlloc _).trans xn).thenAlloc (.cells #[.int .i64 0, .int .i64 0, .int .i64 0, .int .i64 0, .slice A9 n9 c9] 25))
      have RZ := Lib.hid (right_any (v1.alloc (.cells #[.int .i64 0, .int .i64 0, .int .i64 0, .int .i64 0, .slice A9 n9 c9] 25)) Rounds.zero A9 n9 c9 (i9.up _))
      rw [show rval Rounds.zero A9 n9 c9 = .agg #[.int .i64 0, .int .i64 0, .int .i64 0, .int .i64 0, .slice A9 n9 c9] from rfl]
      clear xn i9
      go_wp2_with (fail)
      refine RZ.out.mono ?_
      rintro y v2 ⟨rfl, xn⟩
      rw [NZ.out]
      go_wp2_with (fail)
      exact ⟨⟨9, by omega, rfl, X1.out.trans xn⟩, by simp only [intOf]; omega⟩
    · obtain ⟨w1, rfl⟩ : ∃ w1 : World, w1 = wr := ⟨_, rfl⟩
      have X := Lib.hid (HX0.out.trans HX.out)
      clear hb hj HB HX HX0
      go_wp2_with (fail)
      refine (begin_any _ 1099511627776 1099511627776 255 255).mono ?_
      rintro y w2 ⟨Ar, nr, cr, rfl, ir, _, xn⟩
      rw [K1.out.1] at ir ⊢
      rw [K1.out.2]
      replace ir : Is w2 Ar nr cr (List.replicate 255 0) := ir
      have y0 : Ext w1 w2 := (Ext.refl w1).trans xn
      replace X := Lib.hid (X.out.trans y0)
      clear y0 xn
      go_wp2_with (fail)
      refine (begin_any _ 0 1 2 1).mono ?_
      rintro y w3 ⟨As, ns, cs, rfl, is, _, xn⟩
      rw [K2.out.1] at is ⊢
      rw [K2.out.2]
      replace is : Is w3 As ns cs [0, 0] := is
      have y0 : Ext w2 w3 := ((Ext.refl w2).thenAlloc _).trans xn
      have bxr := (Bx.new w2 1099511627776 1099511627776 255 1 (.slice Ar nr cr) rfl).ext xn
      replace ir := ir.ext y0
      replace X := Lib.hid (X.out.trans y0)
      generalize w2.heap.size = gr at *
      clear y0 xn
      go_wp2_with (fail)
      refine (publish_any _ ⟨0, 1, 1, 1, [0, 0]⟩ As ns cs (is.up _) (by have := is.len; simp at this; omega)).mono ?_
      rintro y w4 ⟨A9, n9, c9, rfl, i9, _, xn⟩
      rw [K3.out.1] at i9 ⊢
      rw [K3.out.2]
      clear i9
      have y0 : Ext w3 w4 := ((Ext.refl w3).thenAlloc _).trans xn
      have bxs := (Bx.new w3 0 1 1 1 (.slice As ns cs) rfl).ext xn
      replace ir := ir.ext y0
      replace bxr := bxr.ext y0
      replace is := is.ext y0
      replace X := Lib.hid (X.out.trans y0)
      generalize w3.heap.size = gs at *
      clear y0 xn
      go_wp2_with (fail)
      refine (publish_any _ ⟨0, 0, 0, 0, []⟩ none 0 0 (Is.none _) (by omega)).mono ?_
      rintro y w5 ⟨A9, n9, c9, rfl, i9, _, xn⟩
      rw [K4.out.1] at i9 ⊢
      rw [K4.out.2]
      clear i9
      have y0 : Ext w4 w5 := ((Ext.refl w4).thenAlloc _).trans xn
      replace ir := ir.ext y0
      replace bxr := bxr.ext y0
      replace is := is.ext y0
      replace bxs := bxs.ext y0
      replace X := Lib.hid (X.out.trans y0)
      clear y0 xn
      go_wp2_with (fail)
      refine (give_any _ ⟨0, 0, 0, 0, []⟩ none 0 0 (Is.none _) (by omega)).mono ?_
      rintro y w6 ⟨A9, n9, c9, rfl, i9, _, xn⟩
      rw [K5.out.1] at i9 ⊢
      rw [K5.out.2]
      clear i9
      have y0 : Ext w5 w6 := ((Ext.refl w5).thenAlloc _).trans xn
      replace ir := ir.ext y0
      replace bxr := bxr.ext y0
      replace is := is.ext y0
      replace bxs := bxs.ext y0
      replace X := Lib.hid (X.out.trans y0)
      clear y0 xn
      have us0 := bxs.c0
      have us1 := bxs.c1
      have us2 := bxs.c2
      have us3 := bxs.c3
      have us4 := bxs.c4
      have usl := bxs.lt
      go_wp2_with (fail)
      refine (told_any _ ⟨0, 1, 1, 1, [0, 0]⟩ As ns cs (is.up _) (by have := is.len; simp at this; omega) (2) 1 0).mono ?_
      rintro y w7 ⟨A9, n9, c9, rfl, i9, _, xn⟩
      rw [K6.out.1] at i9 ⊢
      rw [K6.out.2]
      clear i9
      clear us0 us1 us2 us3 us4 usl
      have y0 : Ext w6 w7 := ((Ext.refl w6).thenAlloc _).trans xn
      replace ir := ir.ext y0
      replace bxr := bxr.ext y0
      replace is := is.ext y0
      replace bxs := bxs.ext y0
      replace X := Lib.hid (X.out.trans y0)
      clear y0 xn
      have us0 := bxs.c0
      have us1 := bxs.c1
      have us2 := bxs.c2
      have us3 := bxs.c3
      have us4 := bxs.c4
      have usl := bxs.lt
      go_wp2_with (fail)
      refine (told_any _ ⟨0, 1, 1, 1, [0, 0]⟩ As ns cs (is.up _) (by have := is.len; simp at this; omega) (-1) 1 0).mono ?_
      rintro y w8 ⟨A9, n9, c9, rfl, i9, _, xn⟩
      rw [K7.out.1] at i9 ⊢
      rw [K7.out.2]
      clear i9
      clear us0 us1 us2 us3 us4 usl
      have y0 : Ext w7 w8 := ((Ext.refl w7).thenAlloc _).trans xn
      replace ir := ir.ext y0
      replace bxr := bxr.ext y0
      replace is := is.ext y0
      replace bxs := bxs.ext y0
      replace X := Lib.hid (X.out.trans y0)
      clear y0 xn
      have us0 := bxs.c0
      have us1 := bxs.c1
      have us2 := bxs.c2
      have us3 := bxs.c3
      have us4 := bxs.c4
      have usl := bxs.lt
      go_wp2_with (fail)
      refine (tolds_any _ ⟨0, 1, 1, 1, [0, 0]⟩ As ns cs ((is.up _).up _) (by have := is.len; simp at this; omega) _ 1 1 [(0, 1, 0)] (Ts.lit _ [(0, 1, 0)] _ _ 1 (by simp) rfl rfl (by omega)) (by decide)).mono ?_
      rintro y w9 ⟨Aready, nready, cready, rfl, iready, xn⟩
      rw [K8.out.1] at iready ⊢
      rw [K8.out.2]
      replace iready : Is w9 Aready nready cready [1, 0] := iready
      clear us0 us1 us2 us3 us4 usl
      have y0 : Ext w8 w9 := (((Ext.refl w8).thenAlloc _).thenAlloc _).trans xn
      replace ir := ir.ext y0
      replace bxr := bxr.ext y0
      replace is := is.ext y0
      replace bxs := bxs.ext y0
      replace X := Lib.hid (X.out.trans y0)
      clear y0 xn
      go_wp2_with (fail)
      refine (publish_any _ ⟨0, 1, 1, 2, [1, 0]⟩ Aready nready cready (iready.up _) (by have := iready.len; simp at this; omega)).mono ?_
      rintro y w10 ⟨Apub, npub, cpub, rfl, ipub, _, xn⟩
      rw [K9.out.1] at ipub ⊢
      rw [K9.out.2]
      replace ipub : Is w10 Apub npub cpub [1, 0] := ipub
      have y0 : Ext w9 w10 := ((Ext.refl w9).thenAlloc _).trans xn
      have bxready := (Bx.new w9 0 1 1 2 (.slice Aready nready cready) rfl).ext xn
      replace ir := ir.ext y0
      replace bxr := bxr.ext y0
      replace is := is.ext y0
      replace bxs := bxs.ext y0
      replace iready := iready.ext y0
      replace X := Lib.hid (X.out.trans y0)
      generalize w9.heap.size = gready at *
      clear y0 xn
      go_wp2_with (fail)
      refine (give_any _ ⟨0, 1, 1, 3, [1, 0]⟩ Apub npub cpub (ipub.up _) (by have := ipub.len; simp at this; omega)).mono ?_
      rintro y w11 ⟨A9, n9, c9, rfl, i9, _, xn⟩
      rw [K10.out.1] at i9 ⊢
      rw [K10.out.2]
      clear i9
      have y0 : Ext w10 w11 := ((Ext.refl w10).thenAlloc _).trans xn
      have bxpub := (Bx.new w10 0 1 1 3 (.slice Apub npub cpub) rfl).ext xn
      replace ir := ir.ext y0
      replace bxr := bxr.ext y0
      replace is := is.ext y0
      replace bxs := bxs.ext y0
      replace iready := iready.ext y0
      replace bxready := bxready.ext y0
      replace ipub := ipub.ext y0
      replace X := Lib.hid (X.out.trans y0)
      generalize w10.heap.size = gpub at *
      clear y0 xn
      have upub0 := bxpub.c0
      have upub1 := bxpub.c1
      have upub2 := bxpub.c2
      have upub3 := bxpub.c3
      have upub4 := bxpub.c4
      have upubl := bxpub.lt
      go_wp2_with (fail)
      refine (publish_any _ ⟨0, 1, 1, 3, [1, 0]⟩ Apub npub cpub (ipub.up _) (by have := ipub.len; simp at this; omega)).mono ?_
      rintro y w12 ⟨A9, n9, c9, rfl, i9, _, xn⟩
      rw [K11.out.1] at i9 ⊢
      rw [K11.out.2]
      clear i9
      clear upub0 upub1 upub2 upub3 upub4 upubl
      have y0 : Ext w11 w12 := ((Ext.refl w11).thenAlloc _).trans xn
      replace ir := ir.ext y0
      replace bxr := bxr.ext y0
      replace is := is.ext y0
      replace bxs := bxs.ext y0
      replace iready := iready.ext y0
      replace bxready := bxready.ext y0
      replace ipub := ipub.ext y0
      replace bxpub := bxpub.ext y0
      replace X := Lib.hid (X.out.trans y0)
      clear y0 xn
      have uready0 := bxready.c0
      have uready1 := bxready.c1
      have uready2 := bxready.c2
      have uready3 := bxready.c3
      have uready4 := bxready.c4
      have ureadyl := bxready.lt
      go_wp2_with (fail)
      refine (give_any _ ⟨0, 1, 1, 2, [1, 0]⟩ Aready nready cready (iready.up _) (by have := iready.len; simp at this; omega)).mono ?_
      rintro y w13 ⟨Agiven, ngiven, cgiven, rfl, igiven, _, xn⟩
      rw [K12.out.1] at igiven ⊢
      rw [K12.out.2]
      replace igiven : Is w13 Agiven ngiven cgiven [1, 0] := igiven
      clear uready0 uready1 uready2 uready3 uready4 ureadyl
      have y0 : Ext w12 w13 := ((Ext.refl w12).thenAlloc _).trans xn
      replace ir := ir.ext y0
      replace bxr := bxr.ext y0
      replace is := is.ext y0
      replace bxs := bxs.ext y0
      replace iready := iready.ext y0
      replace bxready := bxready.ext y0
      replace ipub := ipub.ext y0
      replace bxpub := bxpub.ext y0
      replace X := Lib.hid (X.out.trans y0)
      clear y0 xn
      go_wp2_with (fail)
      refine (publish_any _ ⟨0, 1, 1, 5, [1, 0]⟩ Agiven ngiven cgiven (igiven.up _) (by have := igiven.len; simp at this; omega)).mono ?_
      rintro y w14 ⟨A9, n9, c9, rfl, i9, _, xn⟩
      rw [K13.out.1] at i9 ⊢
      rw [K13.out.2]
      clear i9
      have y0 : Ext w13 w14 := ((Ext.refl w13).thenAlloc _).trans xn
      have bxgiven := (Bx.new w13 0 1 1 5 (.slice Agiven ngiven cgiven) rfl).ext xn
      replace ir := ir.ext y0
      replace bxr := bxr.ext y0
      replace is := is.ext y0
      replace bxs := bxs.ext y0
      replace iready := iready.ext y0
      replace bxready := bxready.ext y0
      replace ipub := ipub.ext y0
      replace bxpub := bxpub.ext y0
      replace igiven := igiven.ext y0
      replace X := Lib.hid (X.out.trans y0)
      generalize w13.heap.size = ggiven at *
      clear y0 xn
      have upub0 := bxpub.c0
      have upub1 := bxpub.c1
      have upub2 := bxpub.c2
      have upub3 := bxpub.c3
      have upub4 := bxpub.c4
      have upubl := bxpub.lt
      go_wp2_with (fail)
      refine (tolds_any _ ⟨0, 1, 1, 3, [1, 0]⟩ Apub npub cpub ((ipub.up _).up _) (by have := ipub.len; simp at this; omega) _ 5 5 [(0, 2, 60), (0, 1, 61), (1, 1, 62), (1, 1, 0), (1, 2, 61)] (Ts.lit _ [(0, 2, 60), (0, 1, 61), (1, 1, 62), (1, 1, 0), (1, 2, 61)] _ _ 5 (by simp) rfl rfl (by omega)) (by decide)).mono ?_
      rintro y w15 ⟨Alost, nlost, clost, rfl, ilost, xn⟩
      rw [K14.out.1] at ilost ⊢
      rw [K14.out.2]
      replace ilost : Is w15 Alost nlost clost [2, 2] := ilost
      clear upub0 upub1 upub2 upub3 upub4 upubl
      have y0 : Ext w14 w15 := (((Ext.refl w14).thenAlloc _).thenAlloc _).trans xn
      replace ir := ir.ext y0
      replace bxr := bxr.ext y0
      replace is := is.ext y0
      replace bxs := bxs.ext y0
      replace iready := iready.ext y0
      replace bxready := bxready.ext y0
      replace ipub := ipub.ext y0
      replace bxpub := bxpub.ext y0
      replace igiven := igiven.ext y0
      replace bxgiven := bxgiven.ext y0
      replace X := Lib.hid (X.out.trans y0)
      clear y0 xn
      have ugiven0 := bxgiven.c0
      have ugiven1 := bxgiven.c1
      have ugiven2 := bxgiven.c2
      have ugiven3 := bxgiven.c3
      have ugiven4 := bxgiven.c4
      have ugivenl := bxgiven.lt
      go_wp2_with (fail)
      refine (tolds_any _ ⟨0, 1, 1, 5, [1, 0]⟩ Agiven ngiven cgiven ((igiven.up _).up _) (by have := igiven.len; simp at this; omega) _ 4 4 [(0, 3, 0), (0, 1, 0), (1, 3, 61), (0, 3, 0)] (Ts.lit _ [(0, 3, 0), (0, 1, 0), (1, 3, 61), (0, 3, 0)] _ _ 4 (by simp) rfl rfl (by omega)) (by decide)).mono ?_
      rintro y w16 ⟨Alate, nlate, clate, rfl, ilate, xn⟩
      rw [K15.out.1] at ilate ⊢
      rw [K15.out.2]
      replace ilate : Is w16 Alate nlate clate [4, 4] := ilate
      clear ugiven0 ugiven1 ugiven2 ugiven3 ugiven4 ugivenl
      have y0 : Ext w15 w16 := (((Ext.refl w15).thenAlloc _).thenAlloc _).trans xn
      have bxlost := ((Bx.new w15 0 1 1 4 (.slice Alost nlost clost) rfl).ext (Ext.alloc _ _)).ext xn
      replace ir := ir.ext y0
      replace bxr := bxr.ext y0
      replace is := is.ext y0
      replace bxs := bxs.ext y0
      replace iready := iready.ext y0
      replace bxready := bxready.ext y0
      replace ipub := ipub.ext y0
      replace bxpub := bxpub.ext y0
      replace igiven := igiven.ext y0
      replace bxgiven := bxgiven.ext y0
      replace ilost := ilost.ext y0
      replace X := Lib.hid (X.out.trans y0)
      generalize w15.heap.size = glost at *
      clear y0 xn
      have us0 := bxs.c0
      have us1 := bxs.c1
      have us2 := bxs.c2
      have us3 := bxs.c3
      have us4 := bxs.c4
      have usl := bxs.lt
      go_wp2_with (fail)
      refine (tolds_any _ ⟨0, 1, 1, 1, [0, 0]⟩ As ns cs ((is.up _).up _) (by have := is.len; simp at this; omega) _ 3 3 [(0, 2, 0), (0, 9, 0), (1, 3, 0)] (Ts.lit _ [(0, 2, 0), (0, 9, 0), (1, 3, 0)] _ _ 3 (by simp) rfl rfl (by omega)) (by decide)).mono ?_
      rintro y w17 ⟨Aodd, nodd, codd, rfl, iodd, xn⟩
      rw [K16.out.1] at iodd ⊢
      rw [K16.out.2]
      replace iodd : Is w17 Aodd nodd codd [0, 0] := iodd
      clear us0 us1 us2 us3 us4 usl
      have y0 : Ext w16 w17 := (((Ext.refl w16).thenAlloc _).thenAlloc _).trans xn
      have bxlate := ((Bx.new w16 0 1 1 6 (.slice Alate nlate clate) rfl).ext (Ext.alloc _ _)).ext xn
      replace ir := ir.ext y0
      replace bxr := bxr.ext y0
      replace is := is.ext y0
      replace bxs := bxs.ext y0
      replace iready := iready.ext y0
      replace bxready := bxready.ext y0
      replace ipub := ipub.ext y0
      replace bxpub := bxpub.ext y0
      replace igiven := igiven.ext y0
      replace bxgiven := bxgiven.ext y0
      replace ilost := ilost.ext y0
      replace bxlost := bxlost.ext y0
      replace ilate := ilate.ext y0
      replace X := Lib.hid (X.out.trans y0)
      generalize w16.heap.size = glate at *
      clear y0 xn
      have uready0 := bxready.c0
      have uready1 := bxready.c1
      have uready2 := bxready.c2
      have uready3 := bxready.c3
      have uready4 := bxready.c4
      have ureadyl := bxready.lt
      go_wp2_with (fail)
      refine (lose_any _ ⟨0, 1, 1, 2, [1, 0]⟩ Aready nready cready (iready.up _) (by have := iready.len; simp at this; omega) 0).mono ?_
      rintro y w18 ⟨Anone_, nnone_, cnone_, rfl, inone_, _, xn⟩
      rw [K17.out.1] at inone_ ⊢
      rw [K17.out.2]
      replace inone_ : Is w18 Anone_ nnone_ cnone_ [0, 0] := inone_
      clear uready0 uready1 uready2 uready3 uready4 ureadyl
      have y0 : Ext w17 w18 := ((Ext.refl w17).thenAlloc _).trans xn
      have bxodd := (Bx.new w17 0 1 1 1 (.slice Aodd nodd codd) rfl).ext xn
      replace ir := ir.ext y0
      replace bxr := bxr.ext y0
      replace is := is.ext y0
      replace bxs := bxs.ext y0
      replace iready := iready.ext y0
      replace bxready := bxready.ext y0
      replace ipub := ipub.ext y0
      replace bxpub := bxpub.ext y0
      replace igiven := igiven.ext y0
      replace bxgiven := bxgiven.ext y0
      replace ilost := ilost.ext y0
      replace bxlost := bxlost.ext y0
      replace ilate := ilate.ext y0
      replace bxlate := bxlate.ext y0
      replace iodd := iodd.ext y0
      replace X := Lib.hid (X.out.trans y0)
      generalize w17.heap.size = godd at *
      clear y0 xn
      have upub0 := bxpub.c0
      have upub1 := bxpub.c1
      have upub2 := bxpub.c2
      have upub3 := bxpub.c3
      have upub4 := bxpub.c4
      have upubl := bxpub.lt
      go_wp2_with (fail)
      refine (lose_any _ ⟨0, 1, 1, 3, [1, 0]⟩ Apub npub cpub (ipub.up _) (by have := ipub.len; simp at this; omega) 1).mono ?_
      rintro y w19 ⟨Aagain, nagain, cagain, rfl, iagain, _, xn⟩
      rw [K18.out.1] at iagain ⊢
      rw [K18.out.2]
      replace iagain : Is w19 Aagain nagain cagain [1, 0] := iagain
      clear upub0 upub1 upub2 upub3 upub4 upubl
      have y0 : Ext w18 w19 := ((Ext.refl w18).thenAlloc _).trans xn
      have bxnone_ := (Bx.new w18 0 1 1 1 (.slice Anone_ nnone_ cnone_) rfl).ext xn
      replace ir := ir.ext y0
      replace bxr := bxr.ext y0
      replace is := is.ext y0
      replace bxs := bxs.ext y0
      replace iready := iready.ext y0
      replace bxready := bxready.ext y0
      replace ipub := ipub.ext y0
      replace bxpub := bxpub.ext y0
      replace igiven := igiven.ext y0
      replace bxgiven := bxgiven.ext y0
      replace ilost := ilost.ext y0
      replace bxlost := bxlost.ext y0
      replace ilate := ilate.ext y0
      replace bxlate := bxlate.ext y0
      replace iodd := iodd.ext y0
      replace bxodd := bxodd.ext y0
      replace inone_ := inone_.ext y0
      replace X := Lib.hid (X.out.trans y0)
      generalize w18.heap.size = gnone_ at *
      clear y0 xn
      have us0 := bxs.c0
      have us1 := bxs.c1
      have us2 := bxs.c2
      have us3 := bxs.c3
      have us4 := bxs.c4
      have usl := bxs.lt
      go_wp2_with (fail)
      refine (lose_any _ ⟨0, 1, 1, 1, [0, 0]⟩ As ns cs (is.up _) (by have := is.len; simp at this; omega) 2).mono ?_
      rintro y w20 ⟨A9, n9, c9, rfl, i9, _, xn⟩
      rw [K19.out.1] at i9 ⊢
      rw [K19.out.2]
      clear i9
      clear us0 us1 us2 us3 us4 usl
      have y0 : Ext w19 w20 := ((Ext.refl w19).thenAlloc _).trans xn
      have bxagain := (Bx.new w19 0 1 1 3 (.slice Aagain nagain cagain) rfl).ext xn
      replace ir := ir.ext y0
      replace bxr := bxr.ext y0
      replace is := is.ext y0
      replace bxs := bxs.ext y0
      replace iready := iready.ext y0
      replace bxready := bxready.ext y0
      replace ipub := ipub.ext y0
      replace bxpub := bxpub.ext y0
      replace igiven := igiven.ext y0
      replace bxgiven := bxgiven.ext y0
      replace ilost := ilost.ext y0
      replace bxlost := bxlost.ext y0
      replace ilate := ilate.ext y0
      replace bxlate := bxlate.ext y0
      replace iodd := iodd.ext y0
      replace bxodd := bxodd.ext y0
      replace inone_ := inone_.ext y0
      replace bxnone_ := bxnone_.ext y0
      replace iagain := iagain.ext y0
      replace X := Lib.hid (X.out.trans y0)
      generalize w19.heap.size = gagain at *
      clear y0 xn
      have unone_0 := bxnone_.c0
      have unone_1 := bxnone_.c1
      have unone_2 := bxnone_.c2
      have unone_3 := bxnone_.c3
      have unone_4 := bxnone_.c4
      have unone_l := bxnone_.lt
      go_wp2_with (fail)
      refine (lawWants_any _ ⟨0, 1, 1, 1, [0, 0]⟩ Anone_ nnone_ cnone_ ((inone_.up _).up _) _ 2 2 [(0, 1), (1, 1)] (Qs.lit _ [(0, 1), (1, 1)] _ _ 2 (by simp) rfl rfl (by omega)) (by omega) (by decide)).mono ?_
      rintro y w21 ⟨rfl, xn⟩
      rw [K20.out]
      clear unone_0 unone_1 unone_2 unone_3 unone_4 unone_l
      have y0 : Ext w20 w21 := (((Ext.refl w20).thenAlloc _).thenAlloc _).trans xn
      replace ir := ir.ext y0
      replace bxr := bxr.ext y0
      replace is := is.ext y0
      replace bxs := bxs.ext y0
      replace iready := iready.ext y0
      replace bxready := bxready.ext y0
      replace ipub := ipub.ext y0
      replace bxpub := bxpub.ext y0
      replace igiven := igiven.ext y0
      replace bxgiven := bxgiven.ext y0
      replace ilost := ilost.ext y0
      replace bxlost := bxlost.ext y0
      replace ilate := ilate.ext y0
      replace bxlate := bxlate.ext y0
      replace iodd := iodd.ext y0
      replace bxodd := bxodd.ext y0
      replace inone_ := inone_.ext y0
      replace bxnone_ := bxnone_.ext y0
      replace iagain := iagain.ext y0
      replace bxagain := bxagain.ext y0
      replace X := Lib.hid (X.out.trans y0)
      clear y0 xn
      have uagain0 := bxagain.c0
      have uagain1 := bxagain.c1
      have uagain2 := bxagain.c2
      have uagain3 := bxagain.c3
      have uagain4 := bxagain.c4
      have uagainl := bxagain.lt
      have ur0 := bxr.c0
      have ur1 := bxr.c1
      have ur2 := bxr.c2
      have ur3 := bxr.c3
      have ur4 := bxr.c4
      have url := bxr.lt
      go_wp2_with (fail)
      refine (right_any _ ⟨1099511627776, 1099511627776, 255, 1, (List.replicate 255 0)⟩ Ar nr cr ir).mono ?_
      rintro y w22 ⟨rfl, xn⟩
      rw [K21.out]
      clear uagain0 uagain1 uagain2 uagain3 uagain4 uagainl
      clear ur0 ur1 ur2 ur3 ur4 url
      have y0 : Ext w21 w22 := (Ext.refl w21).trans xn
      replace ir := ir.ext y0
      replace bxr := bxr.ext y0
      replace is := is.ext y0
      replace bxs := bxs.ext y0
      replace iready := iready.ext y0
      replace bxready := bxready.ext y0
      replace ipub := ipub.ext y0
      replace bxpub := bxpub.ext y0
      replace igiven := igiven.ext y0
      replace bxgiven := bxgiven.ext y0
      replace ilost := ilost.ext y0
      replace bxlost := bxlost.ext y0
      replace ilate := ilate.ext y0
      replace bxlate := bxlate.ext y0
      replace iodd := iodd.ext y0
      replace bxodd := bxodd.ext y0
      replace inone_ := inone_.ext y0
      replace bxnone_ := bxnone_.ext y0
      replace iagain := iagain.ext y0
      replace bxagain := bxagain.ext y0
      replace X := Lib.hid (X.out.trans y0)
      clear y0 xn
      have ulost0 := bxlost.c0
      have ulost1 := bxlost.c1
      have ulost2 := bxlost.c2
      have ulost3 := bxlost.c3
      have ulost4 := bxlost.c4
      have ulostl := bxlost.lt
      have ulate0 := bxlate.c0
      have ulate1 := bxlate.c1
      have ulate2 := bxlate.c2
      have ulate3 := bxlate.c3
      have ulate4 := bxlate.c4
      have ulatel := bxlate.lt
      have uodd0 := bxodd.c0
      have uodd1 := bxodd.c1
      have uodd2 := bxodd.c2
      have uodd3 := bxodd.c3
      have uodd4 := bxodd.c4
      have uoddl := bxodd.lt
      have us0 := bxs.c0
      have us1 := bxs.c1
      have us2 := bxs.c2
      have us3 := bxs.c3
      have us4 := bxs.c4
      have usl := bxs.lt
      go_wp2_with (fail)
      refine (sameRound_any _ ⟨0, 1, 1, 1, [0, 0]⟩ ⟨0, 1, 1, 1, [0, 0]⟩ Aodd As nodd codd ns cs iodd is).mono ?_
      rintro y w23 ⟨rfl, xn⟩
      rw [decide_eq_true rfl]
      clear ulost0 ulost1 ulost2 ulost3 ulost4 ulostl
      clear ulate0 ulate1 ulate2 ulate3 ulate4 ulatel
      clear uodd0 uodd1 uodd2 uodd3 uodd4 uoddl
      clear us0 us1 us2 us3 us4 usl
      have y0 : Ext w22 w23 := (Ext.refl w22).trans xn
      replace ir := ir.ext y0
      replace bxr := bxr.ext y0
      replace is := is.ext y0
      replace bxs := bxs.ext y0
      replace iready := iready.ext y0
      replace bxready := bxready.ext y0
      replace ipub := ipub.ext y0
      replace bxpub := bxpub.ext y0
      replace igiven := igiven.ext y0
      replace bxgiven := bxgiven.ext y0
      replace ilost := ilost.ext y0
      replace bxlost := bxlost.ext y0
      replace ilate := ilate.ext y0
      replace bxlate := bxlate.ext y0
      replace iodd := iodd.ext y0
      replace bxodd := bxodd.ext y0
      replace inone_ := inone_.ext y0
      replace bxnone_ := bxnone_.ext y0
      replace iagain := iagain.ext y0
      replace bxagain := bxagain.ext y0
      replace X := Lib.hid (X.out.trans y0)
      clear y0 xn
      go_wp2_with (fail)
      refine (wants_any _ ⟨0, 0, 0, 0, [0]⟩ _ 1 1 (Is.lit _ _ rfl [0] _ _ 1 rfl rfl (by omega))).mono ?_
      rintro y w24 ⟨B, m, cw, rfl, hW, xn⟩
      have hm : m = 0 := by rw [← hW.len, K22.out]; rfl
      subst hm
      clear hW
      have y0 : Ext w23 w24 := ((Ext.refl w23).thenAlloc _).trans xn
      replace ir := ir.ext y0
      replace bxr := bxr.ext y0
      replace is := is.ext y0
      replace bxs := bxs.ext y0
      replace iready := iready.ext y0
      replace bxready := bxready.ext y0
      replace ipub := ipub.ext y0
      replace bxpub := bxpub.ext y0
      replace igiven := igiven.ext y0
      replace bxgiven := bxgiven.ext y0
      replace ilost := ilost.ext y0
      replace bxlost := bxlost.ext y0
      replace ilate := ilate.ext y0
      replace bxlate := bxlate.ext y0
      replace iodd := iodd.ext y0
      replace bxodd := bxodd.ext y0
      replace inone_ := inone_.ext y0
      replace bxnone_ := bxnone_.ext y0
      replace iagain := iagain.ext y0
      replace bxagain := bxagain.ext y0
      replace X := Lib.hid (X.out.trans y0)
      clear y0 xn
      go_wp2_with (fail)
      refine (awake_any _).mono ?_
      rintro y w25 ⟨rfl, xn⟩
      go_wp2_with (fail)
      go_ret
      exact ⟨rfl, X.out.trans xn⟩
end roundNumbers
end Go.Proofs.Ytgfhpgomlocllaa
