/- FieldTells: for any elements, numbers and lists all calls answer as the document defines; the law returns true. No conditions. -/
import Derived.Test.YtegjkcolilkfpaaAwake
import Derived.Test.YtegjkcolilkfpaaRef2Pow
import Derived.Test.YtegjkcolilkfpaaRef2Lists
import Derived.Test.YtegjkcolilkfpaaHold
namespace Go.Proofs.Ytegjkcolilkfpaa
open Go.ChangeShapes Go.WideShapes Go.ChangeAt Go.RowKit

theorem fieldTells_long (w : World) (x y : UInt8) (k : Int) (A B : Option Addr) (n c m d : Nat) (_hn : n ≤ c) (_hc : c ≤ 9223372036854775807) (_hm : m ≤ d) (_hd : d ≤ 9223372036854775807) (h : 500 < n ∨ 500 < m) :
    Calls Try.prog 4 #[.int .u8 (x.toNat : Int), .int .u8 (y.toNat : Int), .int .i64 k, .slice A n c, .slice B m d] w fun e w' => e = .returned (.bool true) ∧ Ext w w' := by
  by_cases h1 : 500 < n
  · clear h
    go_enter Try.func4, Try.ntmps4
    try dsimp only [List.append]
    go_wp2_with (fail)
    refine (awake_any _).mono ?_
    rintro e w2 ⟨rfl, hx2⟩
    go_wp2_with (fail)
    go_ret
    exact ⟨rfl, hx2⟩
  · have h2 : 500 < m := by omega
    clear h
    go_enter Try.func4, Try.ntmps4
    try dsimp only [List.append]
    go_wp2_with (fail)
    refine (awake_any _).mono ?_
    rintro e w2 ⟨rfl, hx2⟩
    go_wp2_with (fail)
    go_ret
    exact ⟨rfl, hx2⟩

set_option maxRecDepth 100000 in
set_option maxHeartbeats 1000000 in
theorem fieldTells_short (w : World) (x y : UInt8) (k : Int) (hk : k ≤ 9223372036854775807) (A B : Option Addr) (n c m d : Nat) (X Y : List UInt8) (hX : Bs w A n c X) (hY : Bs w B m d Y) (hn : n ≤ 500) (hm : m ≤ 500) :
    Calls Try.prog 4 #[.int .u8 (x.toNat : Int), .int .u8 (y.toNat : Int), .int .i64 k, .slice A n c, .slice B m d] w fun e w' => e = .returned (.bool true) ∧ Ext w w' := by
  have n1 : ¬ 500 < n := by omega
  have n2 : ¬ 500 < m := by omega
  go_enter Try.func4, Try.ntmps4
  try dsimp only [List.append]
  go_wp2_with (fail)
  refine (new_any _).mono ?_
  rintro e w1 ⟨rfl, hf, x1⟩
  generalize hb : w.heap.size = b at *
  clear hb
  go_wp2_with (fail)
  refine (div_any b _ x y hf).mono ?_
  rintro e w' ⟨rfl, q, rfl⟩
  go_wp2_with (fail)
  refine (refDiv_any _ x y).mono ?_
  rintro e w' ⟨rfl, rfl⟩
  go_wp2_with (fail)
  have x2 : Ext w (w1.drewN q) := x1.thenDrewN q
  refine (copyBytes_any _ A n c X (hX.ext x2) (by omega)).mono ?_
  rintro e w2 ⟨v, rfl, hv⟩
  have x3 := x2.trans hv.ext
  have x3' : Ext w1 w2 := (Ext.drewN w1 q).trans hv.ext
  obtain ⟨P, cp, rfl, hP⟩ := hv.bs
  rw [hX.len] at hP ⊢
  clear hv
  go_wp2_with (fail)
  refine (copyBytes_any _ B m d Y (hY.ext x3) (by omega)).mono ?_
  rintro e w3 ⟨v, rfl, hv⟩
  have x4 := x3.trans hv.ext
  have hP4 := hP.ext hv.ext
  have hf4 := hf.ext (x3'.trans hv.ext)
  obtain ⟨Q, cq, rfl, hQ⟩ := hv.bs
  rw [hY.len] at hQ ⊢
  clear hv hP x3'
  go_wp2_with (fail)
  refine (lay_any b _ P Q n cp m cq X Y x hf4 hP4 hQ (by omega)).mono ?_
  rintro e w4 ⟨v, rfl, hv⟩
  have x5 := x4.trans hv.ext
  have hP5 := hP4.ext hv.ext
  have hQ5 := hQ.ext hv.ext
  have hf5 := hf4.ext hv.ext
  obtain ⟨R, cr, rfl, hR⟩ := hv.bs
  rw [Gf.lay_length, hX.len] at hR ⊢
  clear hv hP4 hQ hf4 hf
  go_wp2_with (fail)
  refine (pow_any b _ x k hf5).mono ?_
  rintro e w' ⟨rfl, q5, rfl⟩
  go_wp2_with (fail)
  refine (refPow_any _ x k hk).mono ?_
  rintro e w' ⟨rfl, rfl⟩
  go_wp2_with (fail)
  have x6 := x5.thenDrewN q5
  have dr := Ext.drewN w4 q5
  refine (dot_any b _ P Q n cp m cq X Y (hf5.ext dr) (hP5.ext dr) (hQ5.ext dr)).mono ?_
  rintro e w5 ⟨rfl, hd5⟩
  have d5 : Dr w4 w5 := by obtain ⟨q6, h6⟩ := hd5; exact ⟨_, h6.trans (World.drewN_drewN _ _ _)⟩
  clear hd5 x6 dr
  go_wp2_with (fail)
  have x7 := x5.trans d5.ext
  refine (refDot_any _ A B n c m d X Y (hX.ext x7) (hY.ext x7)).mono ?_
  rintro e w6 ⟨rfl, hd6⟩
  have x8 := x7.trans hd6.ext
  have y8 := d5.ext.trans hd6.ext
  have hR8 := hR.ext y8
  have hP8 := hP5.ext y8
  have hQ8 := hQ5.ext y8
  clear hd6 d5 hR hP5 hQ5 hf5 x7
  go_wp2_with (fail)
  refine (refLay_any _ A B n c m d X Y x (hX.ext x8) (hY.ext x8) (by omega)).mono ?_
  rintro e w7 ⟨v, rfl, hv⟩
  have x9 := x8.trans hv.ext
  have hR9 := hR8.ext hv.ext
  have hP9 := hP8.ext hv.ext
  have hQ9 := hQ8.ext hv.ext
  obtain ⟨S, cs, rfl, hS⟩ := hv.bs
  rw [Gf.lay_length, hX.len] at hS ⊢
  clear hv hR8 hP8 hQ8
  go_wp2_with (fail)
  refine (sameBytes_any _ R S n cr n cs _ _ hR9 hS).mono ?_
  rintro e w' ⟨rfl, rfl⟩
  go_wp2_with (fail)
  refine (sameBytes_any _ P A n cp n c _ _ hP9 (hX.ext x9)).mono ?_
  rintro e w' ⟨rfl, rfl⟩
  go_wp2_with (fail)
  refine (sameBytes_any _ Q B m cq m d _ _ hQ9 (hY.ext x9)).mono ?_
  rintro e w' ⟨rfl, rfl⟩
  go_wp2_with (fail)
  refine (awake_any _).mono ?_
  rintro e w8 ⟨rfl, x10⟩
  go_wp2_with (fail)
  go_ret
  exact ⟨rfl, x9.trans x10⟩
namespace fieldTells
theorem walk (w : World) (a0 a1 a2 : Int) (a3 : Option Addr) (len3 cap3 : Nat) (z3 : List Int) (a4 : Option Addr) (len4 cap4 : Nat) (z4 : List Int) (w0 : (Lit.int .u8 a0).wf = true) (w1 : (Lit.int .u8 a1).wf = true) (w2 : (Lit.int .i64 a2).wf = true) (w3 : IsRow .u8 w a3 len3 cap3 z3) (w4 : IsRow .u8 w a4 len4 cap4 z4) :
    Calls Try.prog 4 #[.int .u8 a0, .int .u8 a1, .int .i64 a2, .slice a3 len3 cap3, .slice a4 len4 cap4] w fun e w' => e = .returned (.bool true) ∧ Below w.heap.size w w' := by
  obtain ⟨x, rfl⟩ := wf_u8 w0
  obtain ⟨y, rfl⟩ := wf_u8 w1
  have hk := bounds_i64 w2
  obtain ⟨X, hX⟩ := w3.bytes
  obtain ⟨Y, hY⟩ := w4.bytes
  by_cases h : 500 < len3 ∨ 500 < len4
  · exact fieldTells_long w x y a2 a3 a4 len3 cap3 len4 cap4 hX.le hX.max hY.le hY.max h
  · exact fieldTells_short w x y a2 (by omega) a3 a4 len3 cap3 len4 cap4 X Y hX hY (by omega) (by omega)
end fieldTells

/-! From the walk to the statement. -/
namespace fieldTells
theorem own : ownKnob Try.prog.godebug = none := by kernel_rfl
theorem laidOut : laidOutB Try.prog = true := by kernel_rfl

set_option maxRecDepth 100000 in
theorem lifted (os : Os) (started : os.Started) (H : Type) (enc : TypeId × Value → H) :
    ReturnsInHanded {} Try.checked os 4 .any (Rows.fieldTellsSpec.pre6 enc Try.prog Try.f4 Rows.fieldTellsRow.domain false) (Rows.fieldTellsSpec.post enc Try.prog Try.f4 false true false false) := by
  refine returnsInHanded_of_change (C := Try.checked) own started (by kernel_rfl) Try.func4
    (ChangeSpec.witness6 (enc := enc) (C := Try.checked) false ⟨#[], #[.int .u8 0, .int .u8 0, .int .i64 0, .slice none 0 0, .slice none 0 0], []⟩ 8 (by kernel_rfl) (by kernel_rfl) (by kernel_rfl) (by kernel_rfl)) ?_
  intro W base args ds gs before hval0 hW hcnd _
  have hval : ∀ (j : Nat) t v, Try.f4.params[j]? = some t → args[j]? = some v → Value.okWide Try.prog W .any base t v := hval0
  have hW' := hW
  obtain ⟨p, q, hA0, hV, rfl, hfz, hnd⟩ := hW
  have hA : DataW.TrodAll enc Try.prog W 0 (fun _ => true) true Try.f4.params.toList args.toList ds p := hA0
  rw [Try.params4] at hA hval
  obtain ⟨v0, vs0, d0, ds0, p0, q0, hargs, rfl, rfl, h0, r0⟩ := trodAll_cons hA
  obtain ⟨v1, vs1, d1, ds1, p1, q1, rfl, rfl, rfl, h1, r1⟩ := trodAll_cons r0
  obtain ⟨v2, vs2, d2, ds2, p2, q2, rfl, rfl, rfl, h2, r2⟩ := trodAll_cons r1
  obtain ⟨v3, vs3, d3, ds3, p3, q3, rfl, rfl, rfl, h3, r3⟩ := trodAll_cons r2
  obtain ⟨v4, vs4, d4, ds4, p4, q4, rfl, rfl, rfl, h4, r4⟩ := trodAll_cons r3
  obtain ⟨rfl, rfl, rfl⟩ := trodAll_nil r4
  obtain rfl : args = #[v0, v1, v2, v3, v4] := by cases args; simp_all
  obtain ⟨rfl, rfl⟩ := trodVars_none hV
  obtain ⟨a0, rfl, rfl, rfl, w0⟩ := open_int Try.underlying5 (hval 0 5 v0 rfl rfl) h0
  obtain ⟨a1, rfl, rfl, rfl, w1⟩ := open_int Try.underlying5 (hval 1 5 v1 rfl rfl) h1
  obtain ⟨a2, rfl, rfl, rfl, w2⟩ := open_int Try.underlying3 (hval 2 3 v2 rfl rfl) h2
  obtain ⟨a3, len3, cap3, rfl⟩ := okWide_slice Try.underlying33 (hval 3 33 v3 rfl rfl)
  have k3 := h3
  have lt3 : ∀ x ∈ p3, x.block < W.heap.size := by obtain ⟨m, hm⟩ := k3; exact DataW.trod_lt m _ _ _ hm
  obtain ⟨z3, w3⟩ : ∃ zs, IsRow .u8 W a3 len3 cap3 zs := IsRow.of_trod Try.underlying33 Try.underlying5 (by kernel_rfl) h3
  obtain ⟨a4, len4, cap4, rfl⟩ := okWide_slice Try.underlying33 (hval 4 33 v4 rfl rfl)
  have k4 := h4
  have lt4 : ∀ x ∈ p4, x.block < W.heap.size := by obtain ⟨m, hm⟩ := k4; exact DataW.trod_lt m _ _ _ hm
  obtain ⟨z4, w4⟩ : ∃ zs, IsRow .u8 W a4 len4 cap4 zs := IsRow.of_trod Try.underlying33 Try.underlying5 (by kernel_rfl) h4
  clear hA0 hval0
  refine (walk W a0 a1 a2 a3 len3 cap3 z3 a4 len4 cap4 z4 w0 w1 w2 w3 w4).mono fun e W' ⟨he, bel⟩ => ?_
  subst he
  exact ⟨_, rfl, _, _, _, [], _, [], hW', trodAll_mk1 (shut_bool Try.underlying4 _), (trodAll_cons_mk (shut_int Try.underlying5 w0) (trodAll_cons_mk (shut_int Try.underlying5 w1) (trodAll_cons_mk (shut_int Try.underlying3 w2) (trodAll_cons_mk (Below.trod laidOut (by kernel_rfl) (of_decide_eq_true (by kernel_rfl)) k3 bel lt3) (trodAll_cons_mk (Below.trod laidOut (by kernel_rfl) (of_decide_eq_true (by kernel_rfl)) k4 bel lt4) trodAll_mk0))))), rfl, bel.frame _, fun h => by cases h⟩

theorem over : Rows.fieldTellsRow.holds Try.pinned (OpenSpec.ofChange Rows.fieldTellsSpec) :=
  OpenClaim.holds_of_wide 4 Try.f4 rfl rfl rfl rfl rfl rfl rfl ⟨rfl, rfl, rfl, rfl, rfl⟩ rfl rfl rfl rfl rfl (by kernel_rfl) Try.func4 (by kernel_rfl)
    (of_decide_eq_true (by kernel_rfl)) (by unfold Func.isWrapper; first | (rw [if_pos (by decide +kernel)]; kernel_rfl) | (rw [if_neg (by decide +kernel)]; exact ⟨rfl, rfl⟩))
    (fun os started H enc _ => lifted os started H enc)
end fieldTells

/-- The statement. -/
theorem fieldTells_holds : Rows.FieldTellsSaid := fieldTells.over
#print axioms fieldTells_holds
end Go.Proofs.Ytegjkcolilkfpaa
