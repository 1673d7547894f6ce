/- FieldLaws: it is a field: for any three elements the law returns true. No conditions. -/
import Derived.Test.YtegjkcolilkfpaaAwake
import Derived.Test.YtegjkcolilkfpaaHold
namespace Go.Proofs.Ytegjkcolilkfpaa
open Go.ChangeShapes Go.WideShapes Go.ChangeAt Go.RowKit

theorem divQ_mul {x y : UInt8} (h : y ≠ 0) : Gf.mul (Gf.divQ x y) y = x := by unfold Gf.divQ; rw [if_neg h, Gf.div_mul h]
theorem divQ_inv {x y : UInt8} (h : y ≠ 0) : Gf.mul x (Gf.divQ 1 y) = Gf.divQ x y := by
  unfold Gf.divQ; rw [if_neg h, if_neg h]; unfold Gf.div; rw [Gf.one_mul]
set_option maxRecDepth 100000 in
set_option maxHeartbeats 400000 in
theorem fieldLaws_zero1 (w : World) (x y z : UInt8) (hx0 : x = 0) (hy : y = 0) :
    Calls Try.prog 6 #[.int .u8 (x.toNat : Int), .int .u8 (y.toNat : Int), .int .u8 (z.toNat : Int)] w fun e w' => e = .returned (.bool true) ∧ Ext w w' := by
  have g1 := Gf.add_comm y x
  have g2 := Gf.add_assoc x y z
  have g3 := Gf.mul_comm y x
  have g4 := Gf.mul_assoc x y z
  have g5 := Gf.mul_sum x y z
  have g6 := Gf.mul_one x
  have g7 := Gf.mul_zero x
  have g8 := Gf.add_zero x
  have g9 := Gf.add_own x
  have k1 := u8_zero y hy
  have k1' := u8_zero' y hy
  have k0 := u8_zero x hx0
  have k0' := u8_zero' x hx0
  have k2 := u8_zero (Gf.mul x y) (by rw [hy, Gf.mul_zero])
  have k3 : Gf.divE y = 20 := by rw [hy]; rfl
  have k4 := u8_zero (Gf.divQ x y) (by rw [hy]; rfl)
  have k5 := u8_zero (Gf.divQ 1 y) (by rw [hy]; rfl)
  clear hy hx0
  go_enter Try.func6, Try.ntmps6
  dsimp only [List.append]
  go_wp2_with (fail)
  refine (new_any _).mono ?_
  rintro e w1 ⟨rfl, hf, hx⟩
  generalize hb : w.heap.size = b at *
  clear hb
  go_wp2_with (fail)
  refine (add_any b _ x y (by first | exact hf | exact hf.ext (Ext.drewN _ _))).mono ?_
  rintro e w' ⟨rfl, rfl⟩
  go_wp2_with (fail)
  refine (add_any b _ y x (by first | exact hf | exact hf.ext (Ext.drewN _ _))).mono ?_
  rintro e w' ⟨rfl, rfl⟩
  go_wp2_with (fail)
  refine (add_any b _ x y (by first | exact hf | exact hf.ext (Ext.drewN _ _))).mono ?_
  rintro e w' ⟨rfl, rfl⟩
  go_wp2_with (fail)
  refine (add_any b _ (Gf.add x y) z (by first | exact hf | exact hf.ext (Ext.drewN _ _))).mono ?_
  rintro e w' ⟨rfl, rfl⟩
  go_wp2_with (fail)
  refine (add_any b _ y z (by first | exact hf | exact hf.ext (Ext.drewN _ _))).mono ?_
  rintro e w' ⟨rfl, rfl⟩
  go_wp2_with (fail)
  refine (add_any b _ x (Gf.add y z) (by first | exact hf | exact hf.ext (Ext.drewN _ _))).mono ?_
  rintro e w' ⟨rfl, rfl⟩
  go_wp2_with (fail)
  refine (mul_any b _ x y (by first | exact hf | exact hf.ext (Ext.drewN _ _))).mono ?_
  rintro e w' ⟨rfl, q, rfl⟩
  go_wp2_with (fail)
  refine (mul_any b _ y x (by first | exact hf | exact hf.ext (Ext.drewN _ _))).mono ?_
  rintro e w' ⟨rfl, q, rfl⟩
  go_wp2_with (fail)
  refine (mul_any b _ x y (by first | exact hf | exact hf.ext (Ext.drewN _ _))).mono ?_
  rintro e w' ⟨rfl, q, rfl⟩
  go_wp2_with (fail)
  refine (mul_any b _ (Gf.mul x y) z (by first | exact hf | exact hf.ext (Ext.drewN _ _))).mono ?_
  rintro e w' ⟨rfl, q, rfl⟩
  go_wp2_with (fail)
  refine (mul_any b _ y z (by first | exact hf | exact hf.ext (Ext.drewN _ _))).mono ?_
  rintro e w' ⟨rfl, q, rfl⟩
  go_wp2_with (fail)
  refine (mul_any b _ x (Gf.mul y z) (by first | exact hf | exact hf.ext (Ext.drewN _ _))).mono ?_
  rintro e w' ⟨rfl, q, rfl⟩
  go_wp2_with (fail)
  refine (add_any b _ y z (by first | exact hf | exact hf.ext (Ext.drewN _ _))).mono ?_
  rintro e w' ⟨rfl, rfl⟩
  go_wp2_with (fail)
  refine (mul_any b _ x (Gf.add y z) (by first | exact hf | exact hf.ext (Ext.drewN _ _))).mono ?_
  rintro e w' ⟨rfl, q, rfl⟩
  go_wp2_with (fail)
  refine (mul_any b _ x y (by first | exact hf | exact hf.ext (Ext.drewN _ _))).mono ?_
  rintro e w' ⟨rfl, q, rfl⟩
  go_wp2_with (fail)
  refine (mul_any b _ x z (by first | exact hf | exact hf.ext (Ext.drewN _ _))).mono ?_
  rintro e w' ⟨rfl, q, rfl⟩
  go_wp2_with (fail)
  refine (add_any b _ (Gf.mul x y) (Gf.mul x z) (by first | exact hf | exact hf.ext (Ext.drewN _ _))).mono ?_
  rintro e w' ⟨rfl, rfl⟩
  go_wp2_with (fail)
  refine (add_any b _ x 0 (by first | exact hf | exact hf.ext (Ext.drewN _ _))).mono ?_
  rintro e w' ⟨rfl, rfl⟩
  go_wp2_with (fail)
  refine (mul_any b _ x 1 (by first | exact hf | exact hf.ext (Ext.drewN _ _))).mono ?_
  rintro e w' ⟨rfl, q, rfl⟩
  go_wp2_with (fail)
  refine (mul_any b _ x 0 (by first | exact hf | exact hf.ext (Ext.drewN _ _))).mono ?_
  rintro e w' ⟨rfl, q, rfl⟩
  go_wp2_with (fail)
  refine (add_any b _ x x (by first | exact hf | exact hf.ext (Ext.drewN _ _))).mono ?_
  rintro e w' ⟨rfl, rfl⟩
  go_wp2_with (fail)
  refine (mul_any b _ x y (by first | exact hf | exact hf.ext (Ext.drewN _ _))).mono ?_
  rintro e w' ⟨rfl, q, rfl⟩
  go_wp2_with (fail)
  refine (div_any b _ x y (by first | exact hf | exact hf.ext (Ext.drewN _ _))).mono ?_
  rintro e w' ⟨rfl, q, rfl⟩
  go_wp2_with (fail)
  refine (inv_any b _ y (by first | exact hf | exact hf.ext (Ext.drewN _ _))).mono ?_
  rintro e w' ⟨rfl, q, rfl⟩
  go_wp2_with (fail)
  refine (awake_any _).mono ?_
  rintro e w2 ⟨rfl, hx2⟩
  go_wp2_with (fail)
  go_ret
  exact ⟨rfl, (hx.thenDrewN _).trans hx2⟩

set_option maxRecDepth 100000 in
set_option maxHeartbeats 400000 in
theorem fieldLaws_zero2 (w : World) (x y z : UInt8) (hx0 : x ≠ 0) (hy : y = 0) :
    Calls Try.prog 6 #[.int .u8 (x.toNat : Int), .int .u8 (y.toNat : Int), .int .u8 (z.toNat : Int)] w fun e w' => e = .returned (.bool true) ∧ Ext w w' := by
  have g1 := Gf.add_comm y x
  have g2 := Gf.add_assoc x y z
  have g3 := Gf.mul_comm y x
  have g4 := Gf.mul_assoc x y z
  have g5 := Gf.mul_sum x y z
  have g6 := Gf.mul_one x
  have g7 := Gf.mul_zero x
  have g8 := Gf.add_zero x
  have g9 := Gf.add_own x
  have k1 := u8_zero y hy
  have k1' := u8_zero' y hy
  have k0 := u8_nonzero x hx0
  have k0' := u8_nonzero' x hx0
  have k2 := u8_zero (Gf.mul x y) (by rw [hy, Gf.mul_zero])
  have k3 : Gf.divE y = 20 := by rw [hy]; rfl
  have k4 := u8_zero (Gf.divQ x y) (by rw [hy]; rfl)
  have k5 := u8_zero (Gf.divQ 1 y) (by rw [hy]; rfl)
  clear hy hx0
  go_enter Try.func6, Try.ntmps6
  dsimp only [List.append]
  go_wp2_with (fail)
  refine (new_any _).mono ?_
  rintro e w1 ⟨rfl, hf, hx⟩
  generalize hb : w.heap.size = b at *
  clear hb
  go_wp2_with (fail)
  refine (add_any b _ x y (by first | exact hf | exact hf.ext (Ext.drewN _ _))).mono ?_
  rintro e w' ⟨rfl, rfl⟩
  go_wp2_with (fail)
  refine (add_any b _ y x (by first | exact hf | exact hf.ext (Ext.drewN _ _))).mono ?_
  rintro e w' ⟨rfl, rfl⟩
  go_wp2_with (fail)
  refine (add_any b _ x y (by first | exact hf | exact hf.ext (Ext.drewN _ _))).mono ?_
  rintro e w' ⟨rfl, rfl⟩
  go_wp2_with (fail)
  refine (add_any b _ (Gf.add x y) z (by first | exact hf | exact hf.ext (Ext.drewN _ _))).mono ?_
  rintro e w' ⟨rfl, rfl⟩
  go_wp2_with (fail)
  refine (add_any b _ y z (by first | exact hf | exact hf.ext (Ext.drewN _ _))).mono ?_
  rintro e w' ⟨rfl, rfl⟩
  go_wp2_with (fail)
  refine (add_any b _ x (Gf.add y z) (by first | exact hf | exact hf.ext (Ext.drewN _ _))).mono ?_
  rintro e w' ⟨rfl, rfl⟩
  go_wp2_with (fail)
  refine (mul_any b _ x y (by first | exact hf | exact hf.ext (Ext.drewN _ _))).mono ?_
  rintro e w' ⟨rfl, q, rfl⟩
  go_wp2_with (fail)
  refine (mul_any b _ y x (by first | exact hf | exact hf.ext (Ext.drewN _ _))).mono ?_
  rintro e w' ⟨rfl, q, rfl⟩
  go_wp2_with (fail)
  refine (mul_any b _ x y (by first | exact hf | exact hf.ext (Ext.drewN _ _))).mono ?_
  rintro e w' ⟨rfl, q, rfl⟩
  go_wp2_with (fail)
  refine (mul_any b _ (Gf.mul x y) z (by first | exact hf | exact hf.ext (Ext.drewN _ _))).mono ?_
  rintro e w' ⟨rfl, q, rfl⟩
  go_wp2_with (fail)
  refine (mul_any b _ y z (by first | exact hf | exact hf.ext (Ext.drewN _ _))).mono ?_
  rintro e w' ⟨rfl, q, rfl⟩
  go_wp2_with (fail)
  refine (mul_any b _ x (Gf.mul y z) (by first | exact hf | exact hf.ext (Ext.drewN _ _))).mono ?_
  rintro e w' ⟨rfl, q, rfl⟩
  go_wp2_with (fail)
  refine (add_any b _ y z (by first | exact hf | exact hf.ext (Ext.drewN _ _))).mono ?_
  rintro e w' ⟨rfl, rfl⟩
  go_wp2_with (fail)
  refine (mul_any b _ x (Gf.add y z) (by first | exact hf | exact hf.ext (Ext.drewN _ _))).mono ?_
  rintro e w' ⟨rfl, q, rfl⟩
  go_wp2_with (fail)
  refine (mul_any b _ x y (by first | exact hf | exact hf.ext (Ext.drewN _ _))).mono ?_
  rintro e w' ⟨rfl, q, rfl⟩
  go_wp2_with (fail)
  refine (mul_any b _ x z (by first | exact hf | exact hf.ext (Ext.drewN _ _))).mono ?_
  rintro e w' ⟨rfl, q, rfl⟩
  go_wp2_with (fail)
  refine (add_any b _ (Gf.mul x y) (Gf.mul x z) (by first | exact hf | exact hf.ext (Ext.drewN _ _))).mono ?_
  rintro e w' ⟨rfl, rfl⟩
  go_wp2_with (fail)
  refine (add_any b _ x 0 (by first | exact hf | exact hf.ext (Ext.drewN _ _))).mono ?_
  rintro e w' ⟨rfl, rfl⟩
  go_wp2_with (fail)
  refine (mul_any b _ x 1 (by first | exact hf | exact hf.ext (Ext.drewN _ _))).mono ?_
  rintro e w' ⟨rfl, q, rfl⟩
  go_wp2_with (fail)
  refine (mul_any b _ x 0 (by first | exact hf | exact hf.ext (Ext.drewN _ _))).mono ?_
  rintro e w' ⟨rfl, q, rfl⟩
  go_wp2_with (fail)
  refine (add_any b _ x x (by first | exact hf | exact hf.ext (Ext.drewN _ _))).mono ?_
  rintro e w' ⟨rfl, rfl⟩
  go_wp2_with (fail)
  refine (mul_any b _ x y (by first | exact hf | exact hf.ext (Ext.drewN _ _))).mono ?_
  rintro e w' ⟨rfl, q, rfl⟩
  go_wp2_with (fail)
  refine (div_any b _ x y (by first | exact hf | exact hf.ext (Ext.drewN _ _))).mono ?_
  rintro e w' ⟨rfl, q, rfl⟩
  go_wp2_with (fail)
  refine (inv_any b _ y (by first | exact hf | exact hf.ext (Ext.drewN _ _))).mono ?_
  rintro e w' ⟨rfl, q, rfl⟩
  go_wp2_with (fail)
  refine (awake_any _).mono ?_
  rintro e w2 ⟨rfl, hx2⟩
  go_wp2_with (fail)
  go_ret
  exact ⟨rfl, (hx.thenDrewN _).trans hx2⟩

set_option maxRecDepth 100000 in
set_option maxHeartbeats 400000 in
theorem fieldLaws_left (w : World) (x y z : UInt8) (hx0 : x = 0) (hy : y ≠ 0) :
    Calls Try.prog 6 #[.int .u8 (x.toNat : Int), .int .u8 (y.toNat : Int), .int .u8 (z.toNat : Int)] w fun e w' => e = .returned (.bool true) ∧ Ext w w' := by
  have g1 := Gf.add_comm y x
  have g2 := Gf.add_assoc x y z
  have g3 := Gf.mul_comm y x
  have g4 := Gf.mul_assoc x y z
  have g5 := Gf.mul_sum x y z
  have g6 := Gf.mul_one x
  have g7 := Gf.mul_zero x
  have g8 := Gf.add_zero x
  have g9 := Gf.add_own x
  have k1 := u8_zero x hx0
  have k1' := u8_zero' x hx0
  have k0 := u8_nonzero y hy
  have k2 := u8_zero (Gf.mul x y) (by rw [hx0, Gf.zero_mul])
  have k3 : Gf.divE y = 0 := by unfold Gf.divE; rw [if_neg hy]
  have k4 := divQ_mul (x := x) hy
  have k5 := divQ_mul (x := 1) hy
  have k6 := divQ_inv (x := x) hy
  clear hy hx0
  go_enter Try.func6, Try.ntmps6
  dsimp only [List.append]
  go_wp2_with (fail)
  refine (new_any _).mono ?_
  rintro e w1 ⟨rfl, hf, hx⟩
  generalize hb : w.heap.size = b at *
  clear hb
  go_wp2_with (fail)
  refine (add_any b _ x y (by first | exact hf | exact hf.ext (Ext.drewN _ _))).mono ?_
  rintro e w' ⟨rfl, rfl⟩
  go_wp2_with (fail)
  refine (add_any b _ y x (by first | exact hf | exact hf.ext (Ext.drewN _ _))).mono ?_
  rintro e w' ⟨rfl, rfl⟩
  go_wp2_with (fail)
  refine (add_any b _ x y (by first | exact hf | exact hf.ext (Ext.drewN _ _))).mono ?_
  rintro e w' ⟨rfl, rfl⟩
  go_wp2_with (fail)
  refine (add_any b _ (Gf.add x y) z (by first | exact hf | exact hf.ext (Ext.drewN _ _))).mono ?_
  rintro e w' ⟨rfl, rfl⟩
  go_wp2_with (fail)
  refine (add_any b _ y z (by first | exact hf | exact hf.ext (Ext.drewN _ _))).mono ?_
  rintro e w' ⟨rfl, rfl⟩
  go_wp2_with (fail)
  refine (add_any b _ x (Gf.add y z) (by first | exact hf | exact hf.ext (Ext.drewN _ _))).mono ?_
  rintro e w' ⟨rfl, rfl⟩
  go_wp2_with (fail)
  refine (mul_any b _ x y (by first | exact hf | exact hf.ext (Ext.drewN _ _))).mono ?_
  rintro e w' ⟨rfl, q, rfl⟩
  go_wp2_with (fail)
  refine (mul_any b _ y x (by first | exact hf | exact hf.ext (Ext.drewN _ _))).mono ?_
  rintro e w' ⟨rfl, q, rfl⟩
  go_wp2_with (fail)
  refine (mul_any b _ x y (by first | exact hf | exact hf.ext (Ext.drewN _ _))).mono ?_
  rintro e w' ⟨rfl, q, rfl⟩
  go_wp2_with (fail)
  refine (mul_any b _ (Gf.mul x y) z (by first | exact hf | exact hf.ext (Ext.drewN _ _))).mono ?_
  rintro e w' ⟨rfl, q, rfl⟩
  go_wp2_with (fail)
  refine (mul_any b _ y z (by first | exact hf | exact hf.ext (Ext.drewN _ _))).mono ?_
  rintro e w' ⟨rfl, q, rfl⟩
  go_wp2_with (fail)
  refine (mul_any b _ x (Gf.mul y z) (by first | exact hf | exact hf.ext (Ext.drewN _ _))).mono ?_
  rintro e w' ⟨rfl, q, rfl⟩
  go_wp2_with (fail)
  refine (add_any b _ y z (by first | exact hf | exact hf.ext (Ext.drewN _ _))).mono ?_
  rintro e w' ⟨rfl, rfl⟩
  go_wp2_with (fail)
  refine (mul_any b _ x (Gf.add y z) (by first | exact hf | exact hf.ext (Ext.drewN _ _))).mono ?_
  rintro e w' ⟨rfl, q, rfl⟩
  go_wp2_with (fail)
  refine (mul_any b _ x y (by first | exact hf | exact hf.ext (Ext.drewN _ _))).mono ?_
  rintro e w' ⟨rfl, q, rfl⟩
  go_wp2_with (fail)
  refine (mul_any b _ x z (by first | exact hf | exact hf.ext (Ext.drewN _ _))).mono ?_
  rintro e w' ⟨rfl, q, rfl⟩
  go_wp2_with (fail)
  refine (add_any b _ (Gf.mul x y) (Gf.mul x z) (by first | exact hf | exact hf.ext (Ext.drewN _ _))).mono ?_
  rintro e w' ⟨rfl, rfl⟩
  go_wp2_with (fail)
  refine (add_any b _ x 0 (by first | exact hf | exact hf.ext (Ext.drewN _ _))).mono ?_
  rintro e w' ⟨rfl, rfl⟩
  go_wp2_with (fail)
  refine (mul_any b _ x 1 (by first | exact hf | exact hf.ext (Ext.drewN _ _))).mono ?_
  rintro e w' ⟨rfl, q, rfl⟩
  go_wp2_with (fail)
  refine (mul_any b _ x 0 (by first | exact hf | exact hf.ext (Ext.drewN _ _))).mono ?_
  rintro e w' ⟨rfl, q, rfl⟩
  go_wp2_with (fail)
  refine (add_any b _ x x (by first | exact hf | exact hf.ext (Ext.drewN _ _))).mono ?_
  rintro e w' ⟨rfl, rfl⟩
  go_wp2_with (fail)
  refine (mul_any b _ x y (by first | exact hf | exact hf.ext (Ext.drewN _ _))).mono ?_
  rintro e w' ⟨rfl, q, rfl⟩
  go_wp2_with (fail)
  refine (div_any b _ x y (by first | exact hf | exact hf.ext (Ext.drewN _ _))).mono ?_
  rintro e w' ⟨rfl, q, rfl⟩
  go_wp2_with (fail)
  refine (inv_any b _ y (by first | exact hf | exact hf.ext (Ext.drewN _ _))).mono ?_
  rintro e w' ⟨rfl, q, rfl⟩
  go_wp2_with (fail)
  refine (mul_any b _ (Gf.divQ x y) y (by first | exact hf | exact hf.ext (Ext.drewN _ _))).mono ?_
  rintro e w' ⟨rfl, q, rfl⟩
  go_wp2_with (fail)
  refine (mul_any b _ (Gf.divQ 1 y) y (by first | exact hf | exact hf.ext (Ext.drewN _ _))).mono ?_
  rintro e w' ⟨rfl, q, rfl⟩
  go_wp2_with (fail)
  refine (mul_any b _ x (Gf.divQ 1 y) (by first | exact hf | exact hf.ext (Ext.drewN _ _))).mono ?_
  rintro e w' ⟨rfl, q, rfl⟩
  go_wp2_with (fail)
  refine (awake_any _).mono ?_
  rintro e w2 ⟨rfl, hx2⟩
  go_wp2_with (fail)
  go_ret
  exact ⟨rfl, (hx.thenDrewN _).trans hx2⟩

set_option maxRecDepth 100000 in
set_option maxHeartbeats 400000 in
theorem fieldLaws_both (w : World) (x y z : UInt8) (hx0 : x ≠ 0) (hy : y ≠ 0) :
    Calls Try.prog 6 #[.int .u8 (x.toNat : Int), .int .u8 (y.toNat : Int), .int .u8 (z.toNat : Int)] w fun e w' => e = .returned (.bool true) ∧ Ext w w' := by
  have g1 := Gf.add_comm y x
  have g2 := Gf.add_assoc x y z
  have g3 := Gf.mul_comm y x
  have g4 := Gf.mul_assoc x y z
  have g5 := Gf.mul_sum x y z
  have g6 := Gf.mul_one x
  have g7 := Gf.mul_zero x
  have g8 := Gf.add_zero x
  have g9 := Gf.add_own x
  have k1 := u8_nonzero x hx0
  have k0 := u8_nonzero y hy
  have k2 := u8_nonzero _ (Gf.mul_ne hx0 hy)
  have k3 : Gf.divE y = 0 := by unfold Gf.divE; rw [if_neg hy]
  have k4 := divQ_mul (x := x) hy
  have k5 := divQ_mul (x := 1) hy
  have k6 := divQ_inv (x := x) hy
  clear hy hx0
  go_enter Try.func6, Try.ntmps6
  dsimp only [List.append]
  go_wp2_with (fail)
  refine (new_any _).mono ?_
  rintro e w1 ⟨rfl, hf, hx⟩
  generalize hb : w.heap.size = b at *
  clear hb
  go_wp2_with (fail)
  refine (add_any b _ x y (by first | exact hf | exact hf.ext (Ext.drewN _ _))).mono ?_
  rintro e w' ⟨rfl, rfl⟩
  go_wp2_with (fail)
  refine (add_any b _ y x (by first | exact hf | exact hf.ext (Ext.drewN _ _))).mono ?_
  rintro e w' ⟨rfl, rfl⟩
  go_wp2_with (fail)
  refine (add_any b _ x y (by first | exact hf | exact hf.ext (Ext.drewN _ _))).mono ?_
  rintro e w' ⟨rfl, rfl⟩
  go_wp2_with (fail)
  refine (add_any b _ (Gf.add x y) z (by first | exact hf | exact hf.ext (Ext.drewN _ _))).mono ?_
  rintro e w' ⟨rfl, rfl⟩
  go_wp2_with (fail)
  refine (add_any b _ y z (by first | exact hf | exact hf.ext (Ext.drewN _ _))).mono ?_
  rintro e w' ⟨rfl, rfl⟩
  go_wp2_with (fail)
  refine (add_any b _ x (Gf.add y z) (by first | exact hf | exact hf.ext (Ext.drewN _ _))).mono ?_
  rintro e w' ⟨rfl, rfl⟩
  go_wp2_with (fail)
  refine (mul_any b _ x y (by first | exact hf | exact hf.ext (Ext.drewN _ _))).mono ?_
  rintro e w' ⟨rfl, q, rfl⟩
  go_wp2_with (fail)
  refine (mul_any b _ y x (by first | exact hf | exact hf.ext (Ext.drewN _ _))).mono ?_
  rintro e w' ⟨rfl, q, rfl⟩
  go_wp2_with (fail)
  refine (mul_any b _ x y (by first | exact hf | exact hf.ext (Ext.drewN _ _))).mono ?_
  rintro e w' ⟨rfl, q, rfl⟩
  go_wp2_with (fail)
  refine (mul_any b _ (Gf.mul x y) z (by first | exact hf | exact hf.ext (Ext.drewN _ _))).mono ?_
  rintro e w' ⟨rfl, q, rfl⟩
  go_wp2_with (fail)
  refine (mul_any b _ y z (by first | exact hf | exact hf.ext (Ext.drewN _ _))).mono ?_
  rintro e w' ⟨rfl, q, rfl⟩
  go_wp2_with (fail)
  refine (mul_any b _ x (Gf.mul y z) (by first | exact hf | exact hf.ext (Ext.drewN _ _))).mono ?_
  rintro e w' ⟨rfl, q, rfl⟩
  go_wp2_with (fail)
  refine (add_any b _ y z (by first | exact hf | exact hf.ext (Ext.drewN _ _))).mono ?_
  rintro e w' ⟨rfl, rfl⟩
  go_wp2_with (fail)
  refine (mul_any b _ x (Gf.add y z) (by first | exact hf | exact hf.ext (Ext.drewN _ _))).mono ?_
  rintro e w' ⟨rfl, q, rfl⟩
  go_wp2_with (fail)
  refine (mul_any b _ x y (by first | exact hf | exact hf.ext (Ext.drewN _ _))).mono ?_
  rintro e w' ⟨rfl, q, rfl⟩
  go_wp2_with (fail)
  refine (mul_any b _ x z (by first | exact hf | exact hf.ext (Ext.drewN _ _))).mono ?_
  rintro e w' ⟨rfl, q, rfl⟩
  go_wp2_with (fail)
  refine (add_any b _ (Gf.mul x y) (Gf.mul x z) (by first | exact hf | exact hf.ext (Ext.drewN _ _))).mono ?_
  rintro e w' ⟨rfl, rfl⟩
  go_wp2_with (fail)
  refine (add_any b _ x 0 (by first | exact hf | exact hf.ext (Ext.drewN _ _))).mono ?_
  rintro e w' ⟨rfl, rfl⟩
  go_wp2_with (fail)
  refine (mul_any b _ x 1 (by first | exact hf | exact hf.ext (Ext.drewN _ _))).mono ?_
  rintro e w' ⟨rfl, q, rfl⟩
  go_wp2_with (fail)
  refine (mul_any b _ x 0 (by first | exact hf | exact hf.ext (Ext.drewN _ _))).mono ?_
  rintro e w' ⟨rfl, q, rfl⟩
  go_wp2_with (fail)
  refine (add_any b _ x x (by first | exact hf | exact hf.ext (Ext.drewN _ _))).mono ?_
  rintro e w' ⟨rfl, rfl⟩
  go_wp2_with (fail)
  refine (mul_any b _ x y (by first | exact hf | exact hf.ext (Ext.drewN _ _))).mono ?_
  rintro e w' ⟨rfl, q, rfl⟩
  go_wp2_with (fail)
  refine (div_any b _ x y (by first | exact hf | exact hf.ext (Ext.drewN _ _))).mono ?_
  rintro e w' ⟨rfl, q, rfl⟩
  go_wp2_with (fail)
  refine (inv_any b _ y (by first | exact hf | exact hf.ext (Ext.drewN _ _))).mono ?_
  rintro e w' ⟨rfl, q, rfl⟩
  go_wp2_with (fail)
  refine (mul_any b _ (Gf.divQ x y) y (by first | exact hf | exact hf.ext (Ext.drewN _ _))).mono ?_
  rintro e w' ⟨rfl, q, rfl⟩
  go_wp2_with (fail)
  refine (mul_any b _ (Gf.divQ 1 y) y (by first | exact hf | exact hf.ext (Ext.drewN _ _))).mono ?_
  rintro e w' ⟨rfl, q, rfl⟩
  go_wp2_with (fail)
  refine (mul_any b _ x (Gf.divQ 1 y) (by first | exact hf | exact hf.ext (Ext.drewN _ _))).mono ?_
  rintro e w' ⟨rfl, q, rfl⟩
  go_wp2_with (fail)
  refine (awake_any _).mono ?_
  rintro e w2 ⟨rfl, hx2⟩
  go_wp2_with (fail)
  go_ret
  exact ⟨rfl, (hx.thenDrewN _).trans hx2⟩

theorem fieldLaws_any (w : World) (x y z : UInt8) :
    Calls Try.prog 6 #[.int .u8 (x.toNat : Int), .int .u8 (y.toNat : Int), .int .u8 (z.toNat : Int)] w fun e w' => e = .returned (.bool true) ∧ Ext w w' := by
  by_cases hy : y = 0
  · by_cases hx : x = 0
    · exact fieldLaws_zero1 w x y z hx hy
    · exact fieldLaws_zero2 w x y z hx hy
  · by_cases hx : x = 0
    · exact fieldLaws_left w x y z hx hy
    · exact fieldLaws_both w x y z hx hy
namespace fieldLaws
theorem walk (w : World) (a0 a1 a2 : Int) (w0 : (Lit.int .u8 a0).wf = true) (w1 : (Lit.int .u8 a1).wf = true) (w2 : (Lit.int .u8 a2).wf = true) :
    Calls Try.prog 6 #[.int .u8 a0, .int .u8 a1, .int .u8 a2] w fun e w' => e = .returned (.bool true) ∧ Below w.heap.size w w' := by
  obtain ⟨x, rfl⟩ := wf_u8 w0
  obtain ⟨y, rfl⟩ := wf_u8 w1
  obtain ⟨z, rfl⟩ := wf_u8 w2
  exact fieldLaws_any w x y z
end fieldLaws

/-! From the walk to the statement. -/
namespace fieldLaws
theorem own : ownKnob Try.prog.godebug = none := by kernel_rfl
theorem laidOut : laidOutB Try.prog = true := by kernel_rfl

set_option maxRecDepth 100000 in
theorem lifted (os : Os) (started : os.Started) (H : Type) (enc : TypeId × Value → H) :
    ReturnsInHanded {} Try.checked os 6 .any (Rows.fieldLawsSpec.pre6 enc Try.prog Try.f6 Rows.fieldLawsRow.domain false) (Rows.fieldLawsSpec.post enc Try.prog Try.f6 false true false false) := by
  refine returnsInHanded_of_change (C := Try.checked) own started (by kernel_rfl) Try.func6
    (ChangeSpec.witness6 (enc := enc) (C := Try.checked) false ⟨#[], #[.int .u8 0, .int .u8 0, .int .u8 0], []⟩ 8 (by kernel_rfl) (by kernel_rfl) (by kernel_rfl) (by kernel_rfl)) ?_
  intro W base args ds gs before hval0 hW hcnd _
  have hval : ∀ (j : Nat) t v, Try.f6.params[j]? = some t → args[j]? = some v → Value.okWide Try.prog W .any base t v := hval0
  have hW' := hW
  obtain ⟨p, q, hA0, hV, rfl, hfz, hnd⟩ := hW
  have hA : DataW.TrodAll enc Try.prog W 0 (fun _ => true) true Try.f6.params.toList args.toList ds p := hA0
  rw [Try.params6] at hA hval
  obtain ⟨v0, vs0, d0, ds0, p0, q0, hargs, rfl, rfl, h0, r0⟩ := trodAll_cons hA
  obtain ⟨v1, vs1, d1, ds1, p1, q1, rfl, rfl, rfl, h1, r1⟩ := trodAll_cons r0
  obtain ⟨v2, vs2, d2, ds2, p2, q2, rfl, rfl, rfl, h2, r2⟩ := trodAll_cons r1
  obtain ⟨rfl, rfl, rfl⟩ := trodAll_nil r2
  obtain rfl : args = #[v0, v1, v2] := by cases args; simp_all
  obtain ⟨rfl, rfl⟩ := trodVars_none hV
  obtain ⟨a0, rfl, rfl, rfl, w0⟩ := open_int Try.underlying5 (hval 0 5 v0 rfl rfl) h0
  obtain ⟨a1, rfl, rfl, rfl, w1⟩ := open_int Try.underlying5 (hval 1 5 v1 rfl rfl) h1
  obtain ⟨a2, rfl, rfl, rfl, w2⟩ := open_int Try.underlying5 (hval 2 5 v2 rfl rfl) h2
  clear hA0 hval0
  refine (walk W a0 a1 a2 w0 w1 w2).mono fun e W' ⟨he, bel⟩ => ?_
  subst he
  exact ⟨_, rfl, _, _, _, [], _, [], hW', trodAll_mk1 (shut_bool Try.underlying4 _), (trodAll_cons_mk (shut_int Try.underlying5 w0) (trodAll_cons_mk (shut_int Try.underlying5 w1) (trodAll_cons_mk (shut_int Try.underlying5 w2) trodAll_mk0))), rfl, bel.frame _, fun h => by cases h⟩

theorem over : Rows.fieldLawsRow.holds Try.pinned (OpenSpec.ofChange Rows.fieldLawsSpec) :=
  OpenClaim.holds_of_wide 6 Try.f6 rfl rfl rfl rfl rfl rfl rfl ⟨rfl, rfl, rfl, rfl, rfl⟩ rfl rfl rfl rfl rfl (by kernel_rfl) Try.func6 (by kernel_rfl)
    (of_decide_eq_true (by kernel_rfl)) (by unfold Func.isWrapper; first | (rw [if_pos (by decide +kernel)]; kernel_rfl) | (rw [if_neg (by decide +kernel)]; exact ⟨rfl, rfl⟩))
    (fun os started H enc _ => lifted os started H enc)
end fieldLaws

/-- The statement. -/
theorem fieldLaws_holds : Rows.FieldLawsSaid := fieldLaws.over
#print axioms fieldLaws_holds
end Go.Proofs.Ytegjkcolilkfpaa
