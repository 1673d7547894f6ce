/- FieldPowers: powers add up; a logarithm of a product is the sum of both: for any two elements and numbers the law returns true. No conditions. -/
import Derived.Test.YtegjkcolilkfpaaAwake
import Derived.Test.YtegjkcolilkfpaaHold
namespace Go.Proofs.Ytegjkcolilkfpaa
open Go.ChangeShapes Go.WideShapes Go.ChangeAt Go.RowKit

set_option maxRecDepth 100000 in
set_option maxHeartbeats 1000000 in
theorem fieldPowers_left (w : World) (x y : UInt8) (n m k l : Nat) (hk : (n : Int) / 2 = (k : Int)) (hl : (m : Int) / 2 = (l : Int)) (_hn : (n : Int) < 4294967296) (_hm : (m : Int) < 4294967296) (hk' : (k : Int) < 2147483648) (hl' : (l : Int) < 2147483648) (hx0 : x = 0) :
    Calls Try.prog 7 #[.int .u8 (x.toNat : Int), .int .u8 (y.toNat : Int), .int .u32 (n : Int), .int .u32 (m : Int)] w fun e w' => e = .returned (.bool true) ∧ Ext w w' := by
  have hsum : ((k : Int) + (l : Int)).toNat = k + l := by omega
  have h1 : Gf.pow x (k + l) = Gf.mul (Gf.pow x k) (Gf.pow x l) := Gf.pow_add x k l
  have h2 : Gf.pow (Gf.mul x y) k = Gf.mul (Gf.pow x k) (Gf.pow y k) := Gf.pow_mul x y k
  have h3 : Gf.pow (Gf.add x y) 2 = Gf.add (Gf.pow x 2) (Gf.pow y 2) := Gf.square_sum x y
  have k1 := u8_zero x hx0
  clear hx0
  go_enter Try.func7, Try.ntmps7
  try dsimp only [List.append]
  go_wp2_with (fail)
  refine (new_any _).mono ?_
  rintro e w1 ⟨rfl, hf, hx⟩
  generalize hb : w.heap.size = b at *
  clear hb
  go_wp2_with (fail)
  refine (pown_any b _ x k (by first | exact hf | exact hf.ext (Ext.drewN _ _))).mono ?_
  rintro e w' ⟨rfl, q, rfl⟩
  go_wp2_with (fail)
  refine (pown_any b _ x l (by first | exact hf | exact hf.ext (Ext.drewN _ _))).mono ?_
  rintro e w' ⟨rfl, q, rfl⟩
  go_wp2_with (fail)
  refine (mul_any b _ (Gf.pow x k) (Gf.pow x l) (by first | exact hf | exact hf.ext (Ext.drewN _ _))).mono ?_
  rintro e w' ⟨rfl, q, rfl⟩
  go_wp2_with (fail)
  refine (pow_any b _ x ((k : Int) + (l : Int)) (by first | exact hf | exact hf.ext (Ext.drewN _ _))).mono ?_
  rintro e w' ⟨rfl, q, rfl⟩
  go_wp2_with (fail)
  refine (mul_any b _ x y (by first | exact hf | exact hf.ext (Ext.drewN _ _))).mono ?_
  rintro e w' ⟨rfl, q, rfl⟩
  go_wp2_with (fail)
  refine (pown_any b _ (Gf.mul x y) k (by first | exact hf | exact hf.ext (Ext.drewN _ _))).mono ?_
  rintro e w' ⟨rfl, q, rfl⟩
  go_wp2_with (fail)
  refine (pown_any b _ x k (by first | exact hf | exact hf.ext (Ext.drewN _ _))).mono ?_
  rintro e w' ⟨rfl, q, rfl⟩
  go_wp2_with (fail)
  refine (pown_any b _ y k (by first | exact hf | exact hf.ext (Ext.drewN _ _))).mono ?_
  rintro e w' ⟨rfl, q, rfl⟩
  go_wp2_with (fail)
  refine (mul_any b _ (Gf.pow x k) (Gf.pow y k) (by first | exact hf | exact hf.ext (Ext.drewN _ _))).mono ?_
  rintro e w' ⟨rfl, q, rfl⟩
  go_wp2_with (fail)
  refine (add_any b _ x y (by first | exact hf | exact hf.ext (Ext.drewN _ _))).mono ?_
  rintro e w' ⟨rfl, rfl⟩
  go_wp2_with (fail)
  refine (pown_any b _ (Gf.add x y) 2 (by first | exact hf | exact hf.ext (Ext.drewN _ _))).mono ?_
  rintro e w' ⟨rfl, q, rfl⟩
  go_wp2_with (fail)
  refine (pown_any b _ x 2 (by first | exact hf | exact hf.ext (Ext.drewN _ _))).mono ?_
  rintro e w' ⟨rfl, q, rfl⟩
  go_wp2_with (fail)
  refine (pown_any b _ y 2 (by first | exact hf | exact hf.ext (Ext.drewN _ _))).mono ?_
  rintro e w' ⟨rfl, q, rfl⟩
  go_wp2_with (fail)
  refine (add_any b _ (Gf.pow x 2) (Gf.pow y 2) (by first | exact hf | exact hf.ext (Ext.drewN _ _))).mono ?_
  rintro e w' ⟨rfl, rfl⟩
  go_wp2_with (fail)
  refine (awake_any _).mono ?_
  rintro e w2 ⟨rfl, hx2⟩
  go_wp2_with (fail)
  go_ret
  exact ⟨rfl, (hx.thenDrewN _).trans hx2⟩

set_option maxRecDepth 100000 in
set_option maxHeartbeats 1000000 in
theorem fieldPowers_right (w : World) (x y : UInt8) (n m k l : Nat) (hk : (n : Int) / 2 = (k : Int)) (hl : (m : Int) / 2 = (l : Int)) (_hn : (n : Int) < 4294967296) (_hm : (m : Int) < 4294967296) (hk' : (k : Int) < 2147483648) (hl' : (l : Int) < 2147483648) (hx0 : x ≠ 0) (hy0 : y = 0) :
    Calls Try.prog 7 #[.int .u8 (x.toNat : Int), .int .u8 (y.toNat : Int), .int .u32 (n : Int), .int .u32 (m : Int)] w fun e w' => e = .returned (.bool true) ∧ Ext w w' := by
  have hsum : ((k : Int) + (l : Int)).toNat = k + l := by omega
  have h1 : Gf.pow x (k + l) = Gf.mul (Gf.pow x k) (Gf.pow x l) := Gf.pow_add x k l
  have h2 : Gf.pow (Gf.mul x y) k = Gf.mul (Gf.pow x k) (Gf.pow y k) := Gf.pow_mul x y k
  have h3 : Gf.pow (Gf.add x y) 2 = Gf.add (Gf.pow x 2) (Gf.pow y 2) := Gf.square_sum x y
  have k1 := u8_nonzero x hx0
  have k2 := u8_zero y hy0
  clear hx0 hy0
  go_enter Try.func7, Try.ntmps7
  try dsimp only [List.append]
  go_wp2_with (fail)
  refine (new_any _).mono ?_
  rintro e w1 ⟨rfl, hf, hx⟩
  generalize hb : w.heap.size = b at *
  clear hb
  go_wp2_with (fail)
  refine (pown_any b _ x k (by first | exact hf | exact hf.ext (Ext.drewN _ _))).mono ?_
  rintro e w' ⟨rfl, q, rfl⟩
  go_wp2_with (fail)
  refine (pown_any b _ x l (by first | exact hf | exact hf.ext (Ext.drewN _ _))).mono ?_
  rintro e w' ⟨rfl, q, rfl⟩
  go_wp2_with (fail)
  refine (mul_any b _ (Gf.pow x k) (Gf.pow x l) (by first | exact hf | exact hf.ext (Ext.drewN _ _))).mono ?_
  rintro e w' ⟨rfl, q, rfl⟩
  go_wp2_with (fail)
  refine (pow_any b _ x ((k : Int) + (l : Int)) (by first | exact hf | exact hf.ext (Ext.drewN _ _))).mono ?_
  rintro e w' ⟨rfl, q, rfl⟩
  go_wp2_with (fail)
  refine (mul_any b _ x y (by first | exact hf | exact hf.ext (Ext.drewN _ _))).mono ?_
  rintro e w' ⟨rfl, q, rfl⟩
  go_wp2_with (fail)
  refine (pown_any b _ (Gf.mul x y) k (by first | exact hf | exact hf.ext (Ext.drewN _ _))).mono ?_
  rintro e w' ⟨rfl, q, rfl⟩
  go_wp2_with (fail)
  refine (pown_any b _ x k (by first | exact hf | exact hf.ext (Ext.drewN _ _))).mono ?_
  rintro e w' ⟨rfl, q, rfl⟩
  go_wp2_with (fail)
  refine (pown_any b _ y k (by first | exact hf | exact hf.ext (Ext.drewN _ _))).mono ?_
  rintro e w' ⟨rfl, q, rfl⟩
  go_wp2_with (fail)
  refine (mul_any b _ (Gf.pow x k) (Gf.pow y k) (by first | exact hf | exact hf.ext (Ext.drewN _ _))).mono ?_
  rintro e w' ⟨rfl, q, rfl⟩
  go_wp2_with (fail)
  refine (add_any b _ x y (by first | exact hf | exact hf.ext (Ext.drewN _ _))).mono ?_
  rintro e w' ⟨rfl, rfl⟩
  go_wp2_with (fail)
  refine (pown_any b _ (Gf.add x y) 2 (by first | exact hf | exact hf.ext (Ext.drewN _ _))).mono ?_
  rintro e w' ⟨rfl, q, rfl⟩
  go_wp2_with (fail)
  refine (pown_any b _ x 2 (by first | exact hf | exact hf.ext (Ext.drewN _ _))).mono ?_
  rintro e w' ⟨rfl, q, rfl⟩
  go_wp2_with (fail)
  refine (pown_any b _ y 2 (by first | exact hf | exact hf.ext (Ext.drewN _ _))).mono ?_
  rintro e w' ⟨rfl, q, rfl⟩
  go_wp2_with (fail)
  refine (add_any b _ (Gf.pow x 2) (Gf.pow y 2) (by first | exact hf | exact hf.ext (Ext.drewN _ _))).mono ?_
  rintro e w' ⟨rfl, rfl⟩
  go_wp2_with (fail)
  refine (awake_any _).mono ?_
  rintro e w2 ⟨rfl, hx2⟩
  go_wp2_with (fail)
  go_ret
  exact ⟨rfl, (hx.thenDrewN _).trans hx2⟩

set_option maxRecDepth 100000 in
set_option maxHeartbeats 1000000 in
theorem fieldPowers_both (w : World) (x y : UInt8) (n m k l : Nat) (hk : (n : Int) / 2 = (k : Int)) (hl : (m : Int) / 2 = (l : Int)) (_hn : (n : Int) < 4294967296) (_hm : (m : Int) < 4294967296) (hk' : (k : Int) < 2147483648) (hl' : (l : Int) < 2147483648) (hx0 : x ≠ 0) (hy0 : y ≠ 0) :
    Calls Try.prog 7 #[.int .u8 (x.toNat : Int), .int .u8 (y.toNat : Int), .int .u32 (n : Int), .int .u32 (m : Int)] w fun e w' => e = .returned (.bool true) ∧ Ext w w' := by
  have hsum : ((k : Int) + (l : Int)).toNat = k + l := by omega
  have h1 : Gf.pow x (k + l) = Gf.mul (Gf.pow x k) (Gf.pow x l) := Gf.pow_add x k l
  have h2 : Gf.pow (Gf.mul x y) k = Gf.mul (Gf.pow x k) (Gf.pow y k) := Gf.pow_mul x y k
  have h3 : Gf.pow (Gf.add x y) 2 = Gf.add (Gf.pow x 2) (Gf.pow y 2) := Gf.square_sum x y
  have k1 := u8_nonzero x hx0
  have k2 := u8_nonzero y hy0
  have k3 : Gf.divE x = 0 := by unfold Gf.divE; rw [if_neg hx0]
  have k4 : Gf.divE y = 0 := by unfold Gf.divE; rw [if_neg hy0]
  have k5 : Gf.divE (Gf.mul x y) = 0 := by unfold Gf.divE; rw [if_neg (Gf.mul_ne hx0 hy0)]
  have k6 : Gf.pow x 255 = 1 := Gf.pow_255 hx0
  have k7 : (((Gf.glog (Gf.mul x y) : Nat) : Int) == ((Gf.glog x : Int) + (Gf.glog y : Int)) % 255) = true := by
    rw [Gf.glog_mul hx0 hy0, beq_iff_eq]; simp
  have b1 := Gf.glog_lt x
  have b2 := Gf.glog_lt y
  clear hx0 hy0
  go_enter Try.func7, Try.ntmps7
  try dsimp only [List.append]
  go_wp2_with (fail)
  refine (new_any _).mono ?_
  rintro e w1 ⟨rfl, hf, hx⟩
  generalize hb : w.heap.size = b at *
  clear hb
  go_wp2_with (fail)
  refine (pown_any b _ x k (by first | exact hf | exact hf.ext (Ext.drewN _ _))).mono ?_
  rintro e w' ⟨rfl, q, rfl⟩
  go_wp2_with (fail)
  refine (pown_any b _ x l (by first | exact hf | exact hf.ext (Ext.drewN _ _))).mono ?_
  rintro e w' ⟨rfl, q, rfl⟩
  go_wp2_with (fail)
  refine (mul_any b _ (Gf.pow x k) (Gf.pow x l) (by first | exact hf | exact hf.ext (Ext.drewN _ _))).mono ?_
  rintro e w' ⟨rfl, q, rfl⟩
  go_wp2_with (fail)
  refine (pow_any b _ x ((k : Int) + (l : Int)) (by first | exact hf | exact hf.ext (Ext.drewN _ _))).mono ?_
  rintro e w' ⟨rfl, q, rfl⟩
  go_wp2_with (fail)
  refine (mul_any b _ x y (by first | exact hf | exact hf.ext (Ext.drewN _ _))).mono ?_
  rintro e w' ⟨rfl, q, rfl⟩
  go_wp2_with (fail)
  refine (pown_any b _ (Gf.mul x y) k (by first | exact hf | exact hf.ext (Ext.drewN _ _))).mono ?_
  rintro e w' ⟨rfl, q, rfl⟩
  go_wp2_with (fail)
  refine (pown_any b _ x k (by first | exact hf | exact hf.ext (Ext.drewN _ _))).mono ?_
  rintro e w' ⟨rfl, q, rfl⟩
  go_wp2_with (fail)
  refine (pown_any b _ y k (by first | exact hf | exact hf.ext (Ext.drewN _ _))).mono ?_
  rintro e w' ⟨rfl, q, rfl⟩
  go_wp2_with (fail)
  refine (mul_any b _ (Gf.pow x k) (Gf.pow y k) (by first | exact hf | exact hf.ext (Ext.drewN _ _))).mono ?_
  rintro e w' ⟨rfl, q, rfl⟩
  go_wp2_with (fail)
  refine (add_any b _ x y (by first | exact hf | exact hf.ext (Ext.drewN _ _))).mono ?_
  rintro e w' ⟨rfl, rfl⟩
  go_wp2_with (fail)
  refine (pown_any b _ (Gf.add x y) 2 (by first | exact hf | exact hf.ext (Ext.drewN _ _))).mono ?_
  rintro e w' ⟨rfl, q, rfl⟩
  go_wp2_with (fail)
  refine (pown_any b _ x 2 (by first | exact hf | exact hf.ext (Ext.drewN _ _))).mono ?_
  rintro e w' ⟨rfl, q, rfl⟩
  go_wp2_with (fail)
  refine (pown_any b _ y 2 (by first | exact hf | exact hf.ext (Ext.drewN _ _))).mono ?_
  rintro e w' ⟨rfl, q, rfl⟩
  go_wp2_with (fail)
  refine (add_any b _ (Gf.pow x 2) (Gf.pow y 2) (by first | exact hf | exact hf.ext (Ext.drewN _ _))).mono ?_
  rintro e w' ⟨rfl, rfl⟩
  go_wp2_with (fail)
  refine (log_any b _ x (by first | exact hf | exact hf.ext (Ext.drewN _ _))).mono ?_
  rintro e w' ⟨rfl, rfl⟩
  go_wp2_with (fail)
  refine (log_any b _ y (by first | exact hf | exact hf.ext (Ext.drewN _ _))).mono ?_
  rintro e w' ⟨rfl, rfl⟩
  go_wp2_with (fail)
  refine (mul_any b _ x y (by first | exact hf | exact hf.ext (Ext.drewN _ _))).mono ?_
  rintro e w' ⟨rfl, q, rfl⟩
  go_wp2_with (fail)
  refine (log_any b _ (Gf.mul x y) (by first | exact hf | exact hf.ext (Ext.drewN _ _))).mono ?_
  rintro e w' ⟨rfl, rfl⟩
  go_wp2_with (fail)
  refine (pown_any b _ x 255 (by first | exact hf | exact hf.ext (Ext.drewN _ _))).mono ?_
  rintro e w' ⟨rfl, q, rfl⟩
  go_wp2_with (fail)
  refine (awake_any _).mono ?_
  rintro e w2 ⟨rfl, hx2⟩
  go_wp2_with (fail)
  go_ret
  exact ⟨rfl, (hx.thenDrewN _).trans hx2⟩

theorem fieldPowers_any (w : World) (x y : UInt8) (n m : Nat) (hn : n < 4294967296) (hm : m < 4294967296) :
    Calls Try.prog 7 #[.int .u8 (x.toNat : Int), .int .u8 (y.toNat : Int), .int .u32 (n : Int), .int .u32 (m : Int)] w fun e w' => e = .returned (.bool true) ∧ Ext w w' := by
  by_cases hx : x = 0
  · exact fieldPowers_left w x y n m (n / 2) (m / 2) (by simp) (by simp) (by omega) (by omega) (by omega) (by omega) hx
  · by_cases hy : y = 0
    · exact fieldPowers_right w x y n m (n / 2) (m / 2) (by simp) (by simp) (by omega) (by omega) (by omega) (by omega) hx hy
    · exact fieldPowers_both w x y n m (n / 2) (m / 2) (by simp) (by simp) (by omega) (by omega) (by omega) (by omega) hx hy
theorem wf_u32 {a : Int} (h : (Lit.int .u32 a).wf = true) : ∃ n : Nat, a = (n : Int) ∧ n < 4294967296 := by
  have hb := bounds_u32 h
  exact ⟨a.toNat, by omega, by omega⟩
namespace fieldPowers
theorem walk (w : World) (a0 a1 a2 a3 : Int) (w0 : (Lit.int .u8 a0).wf = true) (w1 : (Lit.int .u8 a1).wf = true) (w2 : (Lit.int .u32 a2).wf = true) (w3 : (Lit.int .u32 a3).wf = true) :
    Calls Try.prog 7 #[.int .u8 a0, .int .u8 a1, .int .u32 a2, .int .u32 a3] w fun e w' => e = .returned (.bool true) ∧ Below w.heap.size w w' := by
  obtain ⟨x, rfl⟩ := wf_u8 w0
  obtain ⟨y, rfl⟩ := wf_u8 w1
  obtain ⟨n, rfl, hn⟩ := wf_u32 w2
  obtain ⟨m, rfl, hm⟩ := wf_u32 w3
  exact fieldPowers_any w x y n m hn hm
end fieldPowers

/-! From the walk to the statement. -/
namespace fieldPowers
theorem own : ownKnob Try.prog.godebug = none := by kernel_rfl
theorem laidOut : laidOutB Try.prog = true := by kernel_rfl

set_option maxRecDepth 100000 in
theorem lifted (os : Os) (started : os.Started) (H : Type) (enc : TypeId × Value → H) :
    ReturnsInHanded {} Try.checked os 7 .any (Rows.fieldPowersSpec.pre6 enc Try.prog Try.f7 Rows.fieldPowersRow.domain false) (Rows.fieldPowersSpec.post enc Try.prog Try.f7 false true false false) := by
  refine returnsInHanded_of_change (C := Try.checked) own started (by kernel_rfl) Try.func7
    (ChangeSpec.witness6 (enc := enc) (C := Try.checked) false ⟨#[], #[.int .u8 0, .int .u8 0, .int .u32 0, .int .u32 0], []⟩ 8 (by kernel_rfl) (by kernel_rfl) (by kernel_rfl) (by kernel_rfl)) ?_
  intro W base args ds gs before hval0 hW hcnd _
  have hval : ∀ (j : Nat) t v, Try.f7.params[j]? = some t → args[j]? = some v → Value.okWide Try.prog W .any base t v := hval0
  have hW' := hW
  obtain ⟨p, q, hA0, hV, rfl, hfz, hnd⟩ := hW
  have hA : DataW.TrodAll enc Try.prog W 0 (fun _ => true) true Try.f7.params.toList args.toList ds p := hA0
  rw [Try.params7] at hA hval
  obtain ⟨v0, vs0, d0, ds0, p0, q0, hargs, rfl, rfl, h0, r0⟩ := trodAll_cons hA
  obtain ⟨v1, vs1, d1, ds1, p1, q1, rfl, rfl, rfl, h1, r1⟩ := trodAll_cons r0
  obtain ⟨v2, vs2, d2, ds2, p2, q2, rfl, rfl, rfl, h2, r2⟩ := trodAll_cons r1
  obtain ⟨v3, vs3, d3, ds3, p3, q3, rfl, rfl, rfl, h3, r3⟩ := trodAll_cons r2
  obtain ⟨rfl, rfl, rfl⟩ := trodAll_nil r3
  obtain rfl : args = #[v0, v1, v2, v3] := by cases args; simp_all
  obtain ⟨rfl, rfl⟩ := trodVars_none hV
  obtain ⟨a0, rfl, rfl, rfl, w0⟩ := open_int Try.underlying5 (hval 0 5 v0 rfl rfl) h0
  obtain ⟨a1, rfl, rfl, rfl, w1⟩ := open_int Try.underlying5 (hval 1 5 v1 rfl rfl) h1
  obtain ⟨a2, rfl, rfl, rfl, w2⟩ := open_int Try.underlying46 (hval 2 46 v2 rfl rfl) h2
  obtain ⟨a3, rfl, rfl, rfl, w3⟩ := open_int Try.underlying46 (hval 3 46 v3 rfl rfl) h3
  clear hA0 hval0
  refine (walk W a0 a1 a2 a3 w0 w1 w2 w3).mono fun e W' ⟨he, bel⟩ => ?_
  subst he
  exact ⟨_, rfl, _, _, _, [], _, [], hW', trodAll_mk1 (shut_bool Try.underlying4 _), (trodAll_cons_mk (shut_int Try.underlying5 w0) (trodAll_cons_mk (shut_int Try.underlying5 w1) (trodAll_cons_mk (shut_int Try.underlying46 w2) (trodAll_cons_mk (shut_int Try.underlying46 w3) trodAll_mk0)))), rfl, bel.frame _, fun h => by cases h⟩

theorem over : Rows.fieldPowersRow.holds Try.pinned (OpenSpec.ofChange Rows.fieldPowersSpec) :=
  OpenClaim.holds_of_wide 7 Try.f7 rfl rfl rfl rfl rfl rfl rfl ⟨rfl, rfl, rfl, rfl, rfl⟩ rfl rfl rfl rfl rfl (by kernel_rfl) Try.func7 (by kernel_rfl)
    (of_decide_eq_true (by kernel_rfl)) (by unfold Func.isWrapper; first | (rw [if_pos (by decide +kernel)]; kernel_rfl) | (rw [if_neg (by decide +kernel)]; exact ⟨rfl, rfl⟩))
    (fun os started H enc _ => lifted os started H enc)
end fieldPowers

/-- The statement. -/
theorem fieldPowers_holds : Rows.FieldPowersSaid := fieldPowers.over
#print axioms fieldPowers_holds
end Go.Proofs.Ytegjkcolilkfpaa
