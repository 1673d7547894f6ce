/- FieldNumbers: all products, logarithms and inverses, and the chapter's fixed examples, come out as written: the law returns true. No conditions. -/
import Derived.Test.YtegjkcolilkfpaaAwake
import Derived.Test.YtegjkcolilkfpaaRef2Pow
import Derived.Test.YtegjkcolilkfpaaRef2Lists
import Derived.Test.YtegjkcolilkfpaaHold
namespace Go.Proofs.Ytegjkcolilkfpaa
open Go.ChangeShapes Go.WideShapes Go.ChangeAt Go.RowKit

theorem pow_two_log {u : UInt8} (h : u ≠ 0) : Gf.pow 2 (Gf.glog u) = u := by
  have h2 : (2 : UInt8) ≠ 0 := by decide
  have h3 : Gf.glog 2 = 1 := by decide
  rw [Gf.pow_log h2, h3, Nat.one_mul, (Gf.gexp_glog u h).1]
theorem inv_code {u : UInt8} (h : u ≠ 0) : Gf.mul (Gf.divQ 1 u) u = 1 := by unfold Gf.divQ; rw [if_neg h, Gf.div_mul h]
theorem of_lt (k : Nat) (h : k < 256) : ∃ u : UInt8, k = u.toNat := ⟨UInt8.ofNat k, by rw [UInt8.toNat_ofNat']; omega⟩
theorem Bs.none (w : World) : Bs w none 0 0 [] := ⟨rfl, Nat.le_refl _, by omega, Rd.nil _ _ _⟩

set_option maxRecDepth 100000 in
set_option maxHeartbeats 4000000 in
theorem fieldNumbers_any (w : World) :
    Calls Try.prog 3 #[] w fun e w' => e = .returned (.bool true) ∧ Ext w w' := by
  have d1 : Gf.divE 0 = 20 := by decide
  have d2 : Gf.divE 9 = 0 := by decide
  have d3 : Gf.divQ 0 9 = 0 := by decide
  have d4 : Gf.pow 0 0 = 1 := by decide
  have d5 : Gf.pow 0 5 = 0 := by decide
  have d6 : Gf.pow 7 0 = 1 := by decide
  have d6' : Gf.pow 7 (Int.toNat (-1)) = 1 := by decide
  have d7 : Gf.pow 7 255 = 1 := Gf.pow_255 (by decide)
  have d8 : Gf.dot [] [1] = 0 := by decide
  go_enter Try.func3, Try.ntmps3
  try dsimp only [List.append]
  go_wp2_with (fail)
  refine (new_any _).mono ?_
  rintro e w1 ⟨rfl, hf0, hx⟩
  generalize hb : w.heap.size = b at *
  clear hb
  go_wp2_with (fail)
  go_loopw [2, 3] (fun i _ wr => ∃ k : Nat, k ≤ 256 ∧ i = .int .i64 k ∧ Ext w1 wr) (fun i _ _ => 256 - (intOf i).toNat)
  case atStart => exact ⟨0, by omega, rfl, Ext.refl w1⟩
  case round =>
    obtain ⟨k, hk, rfl, hd⟩ := hrel
    have hf := hf0.ext hd
    by_cases hlt : k < 256
    · obtain ⟨u, rfl⟩ := of_lt k hlt
      have hz : (u.toNat : Int) < 256 := by omega
      have H := Lib.hid hd
      clear hd d1 d2 d3 d4 d5 d6 d6' d7 d8 hf0
      by_cases hu : u = 0
      · have e1 := u8_zero u hu
        have e2 : ¬ 0 < (u.toNat : Int) := by rw [hu]; decide
        have e3 : (Gf.divE u == 0) = false := by rw [hu]; decide
        have e5 : (((Gf.pow 2 (Gf.glog u)).toNat : Int) != (u.toNat : Int)) = true := by rw [hu]; decide
        clear hu
        go_wp2_with (fail)
        go_loopw [4] (fun j wi => ∃ l : Nat, l ≤ 256 ∧ j = .int .i64 l ∧ Ext wr wi) (fun j _ => 256 - (intOf j).toNat)
        case atStart => exact ⟨0, by omega, rfl, Ext.refl wr⟩
        case round =>
          obtain ⟨l, hl, rfl, x0⟩ := hrel
          by_cases hlt2 : l < 256
          · obtain ⟨v, rfl⟩ := of_lt l hlt2
            have hz2 : (v.toNat : Int) < 256 := by omega
            have hxor := xor_u8 u v
            have hx' : bits .xor .u8 (u.toNat : Int) (v.toNat : Int) = ((Gf.add u v).toNat : Int) := hxor
            clear hxor
            replace hf := hf.ext x0
            go_wp2_with (fail)
            refine (mul_any b _ u v hf).mono ?_
            rintro e v1 ⟨rfl, hd⟩
            have y0 := Dr.ext hd
            replace hf := hf.ext y0
            replace x0 := Ext.trans x0 y0
            clear y0
            clear hd
            go_wp2_with (fail)
            refine (refMul_any _ u v).mono ?_
            rintro e w' ⟨rfl, rfl⟩
            go_wp2_with (fail)
            refine (add_any b _ u v hf).mono ?_
            rintro e w' ⟨rfl, rfl⟩
            go_wp2_with (fail)
            exact ⟨⟨v.toNat + 1, by omega, by go_num, x0⟩, by simp [intOf]; omega⟩
          · have hz2 : ¬ (l : Int) < 256 := by omega
            replace hf := hf.ext x0
            go_wp2_with (fail)
            refine (log_any b _ u hf).mono ?_
            rintro e w' ⟨rfl, rfl⟩
            go_wp2_with (fail)
            refine (refLog_any _ u).mono ?_
            rintro e w' ⟨rfl, rfl⟩
            go_wp2_with (fail)
            refine (inv_any b _ u hf).mono ?_
            rintro e v1 ⟨rfl, hd⟩
            have y0 := Dr.ext hd
            replace hf := hf.ext y0
            replace x0 := Ext.trans x0 y0
            clear y0
            clear hd
            go_wp2_with (fail)
            refine (pown_any b _ 2 (Gf.glog u) hf).mono ?_
            rintro e v2 ⟨rfl, hd⟩
            have y0 := Dr.ext hd
            replace hf := hf.ext y0
            replace x0 := Ext.trans x0 y0
            clear y0
            clear hd
            go_wp2_with (fail)
            all_goals first
              | exact ⟨⟨u.toNat + 1, by omega, by go_num, H.out.trans x0⟩, by simp [intOf]; omega⟩
              | exact ⟨⟨1, by omega, rfl, H.out.trans x0⟩, by simp [intOf]; omega⟩

      · have e1 := u8_nonzero u hu
        have e2 : 0 < (u.toNat : Int) := by
          have := e1
          rw [beq_eq_false_iff_ne] at this
          omega
        have e3 : Gf.divE u = 0 := by unfold Gf.divE; rw [if_neg hu]
        have e4 := inv_code hu
        have e5 := pow_two_log hu
        clear hu
        go_wp2_with (fail)
        go_loopw [4] (fun j wi => ∃ l : Nat, l ≤ 256 ∧ j = .int .i64 l ∧ Ext wr wi) (fun j _ => 256 - (intOf j).toNat)
        case atStart => exact ⟨0, by omega, rfl, Ext.refl wr⟩
        case round =>
          obtain ⟨l, hl, rfl, x0⟩ := hrel
          by_cases hlt2 : l < 256
          · obtain ⟨v, rfl⟩ := of_lt l hlt2
            have hz2 : (v.toNat : Int) < 256 := by omega
            have hxor := xor_u8 u v
            have hx' : bits .xor .u8 (u.toNat : Int) (v.toNat : Int) = ((Gf.add u v).toNat : Int) := hxor
            clear hxor
            replace hf := hf.ext x0
            go_wp2_with (fail)
            refine (mul_any b _ u v hf).mono ?_
            rintro e v1 ⟨rfl, hd⟩
            have y0 := Dr.ext hd
            replace hf := hf.ext y0
            replace x0 := Ext.trans x0 y0
            clear y0
            clear hd
            go_wp2_with (fail)
            refine (refMul_any _ u v).mono ?_
            rintro e w' ⟨rfl, rfl⟩
            go_wp2_with (fail)
            refine (add_any b _ u v hf).mono ?_
            rintro e w' ⟨rfl, rfl⟩
            go_wp2_with (fail)
            exact ⟨⟨v.toNat + 1, by omega, by go_num, x0⟩, by simp [intOf]; omega⟩
          · have hz2 : ¬ (l : Int) < 256 := by omega
            replace hf := hf.ext x0
            go_wp2_with (fail)
            refine (log_any b _ u hf).mono ?_
            rintro e w' ⟨rfl, rfl⟩
            go_wp2_with (fail)
            refine (refLog_any _ u).mono ?_
            rintro e w' ⟨rfl, rfl⟩
            go_wp2_with (fail)
            refine (inv_any b _ u hf).mono ?_
            rintro e v1 ⟨rfl, hd⟩
            have y0 := Dr.ext hd
            replace hf := hf.ext y0
            replace x0 := Ext.trans x0 y0
            clear y0
            clear hd
            go_wp2_with (fail)
            refine (mul_any b _ (Gf.divQ 1 u) u hf).mono ?_
            rintro e v2 ⟨rfl, hd⟩
            have y0 := Dr.ext hd
            replace hf := hf.ext y0
            replace x0 := Ext.trans x0 y0
            clear y0
            clear hd
            go_wp2_with (fail)
            refine (pown_any b _ 2 (Gf.glog u) hf).mono ?_
            rintro e v3 ⟨rfl, hd⟩
            have y0 := Dr.ext hd
            replace hf := hf.ext y0
            replace x0 := Ext.trans x0 y0
            clear y0
            clear hd
            go_wp2_with (fail)
            all_goals first
              | exact ⟨⟨u.toNat + 1, by omega, by go_num, H.out.trans x0⟩, by simp [intOf]; omega⟩
              | exact ⟨⟨1, by omega, rfl, H.out.trans x0⟩, by simp [intOf]; omega⟩

    · have hz : ¬ (k : Int) < 256 := by omega
      have x0 := hx.trans hd
      clear hd hf0
      go_wp2_with (fail)
      refine (div_any b _ 0 0 hf).mono ?_
      rintro e v1 ⟨rfl, hd⟩
      have y0 := Dr.ext hd
      replace hf := hf.ext y0
      replace x0 := Ext.trans x0 y0
      clear y0
      clear hd
      go_wp2_with (fail)
      refine (div_any b _ 0 9 hf).mono ?_
      rintro e v2 ⟨rfl, hd⟩
      have y0 := Dr.ext hd
      replace hf := hf.ext y0
      replace x0 := Ext.trans x0 y0
      clear y0
      clear hd
      go_wp2_with (fail)
      refine (pown_any b _ 0 0 hf).mono ?_
      rintro e v3 ⟨rfl, hd⟩
      have y0 := Dr.ext hd
      replace hf := hf.ext y0
      replace x0 := Ext.trans x0 y0
      clear y0
      clear hd
      go_wp2_with (fail)
      refine (pown_any b _ 0 5 hf).mono ?_
      rintro e v4 ⟨rfl, hd⟩
      have y0 := Dr.ext hd
      replace hf := hf.ext y0
      replace x0 := Ext.trans x0 y0
      clear y0
      clear hd
      go_wp2_with (fail)
      refine (pow_any b _ 7 (-1) hf).mono ?_
      rintro e v5 ⟨rfl, hd⟩
      have y0 := Dr.ext hd
      replace hf := hf.ext y0
      replace x0 := Ext.trans x0 y0
      clear y0
      clear hd
      go_wp2_with (fail)
      refine (pown_any b _ 7 255 hf).mono ?_
      rintro e v6 ⟨rfl, hd⟩
      have y0 := Dr.ext hd
      replace hf := hf.ext y0
      replace x0 := Ext.trans x0 y0
      clear y0
      clear hd
      go_wp2_with (fail)
      have y0 := Ext.alloc v6 (.cells #[Value.int IntKind.u8 1] 5)
      have h1 := Bs.lit v6 _ rfl [1] #[Value.int IntKind.u8 1] 5 1 rfl rfl (by omega)
      replace hf := hf.ext y0
      replace x0 := Ext.trans x0 y0
      clear y0
      go_wp2_with (fail)
      refine (dot_any b _ none _ 0 0 1 1 [] [1] hf (Bs.none _) h1).mono ?_
      rintro e v7 ⟨rfl, hd⟩
      have y0 := Dr.ext hd
      replace hf := hf.ext y0
      replace x0 := Ext.trans x0 y0
      clear y0
      clear hd
      clear h1
      go_wp2_with (fail)
      have y0 := Ext.alloc v7 (.cells #[Value.int IntKind.u8 1] 5)
      have h1 := Bs.lit v7 _ rfl [1] #[Value.int IntKind.u8 1] 5 1 rfl rfl (by omega)
      replace hf := hf.ext y0
      replace x0 := Ext.trans x0 y0
      clear y0
      go_wp2_with (fail)
      refine (lay_any b _ none _ 0 0 1 1 [] [1] 1 hf (Bs.none _) h1 (by omega)).mono ?_
      rintro e v8 ⟨v, rfl, hv⟩
      have y0 := hv.ext
      replace hf := hf.ext y0
      replace x0 := Ext.trans x0 y0
      clear y0
      obtain ⟨L, cl, rfl, hL⟩ := hv.bs
      rw [show (Gf.lay [] 1 [1]).length = 0 from rfl] at hL ⊢
      clear hv
      clear h1
      go_wp2_with (fail)
      refine (awake_any _).mono ?_
      rintro e v9 ⟨rfl, hx0⟩
      have y0 := hx0
      replace hf := hf.ext y0
      replace hL := hL.ext y0
      replace x0 := Ext.trans x0 y0
      clear y0
      clear hx0
      go_wp2_with (fail)
      go_ret
      exact ⟨rfl, x0⟩
namespace fieldNumbers
theorem walk (w : World) :
    Calls Try.prog 3 #[] w fun e w' => e = .returned (.bool true) ∧ Below w.heap.size w w' := fieldNumbers_any w
end fieldNumbers

/-! From the walk to the statement. -/
namespace fieldNumbers
theorem own : ownKnob Try.prog.godebug = none := by kernel_rfl
theorem laidOut : laidOutB Try.prog = true := by kernel_rfl

set_option maxRecDepth 100000 in
theorem lifted (os : Os) (started : os.Started) (H : Type) (enc : TypeId × Value → H) :
    ReturnsInHanded {} Try.checked os 3 .any (Rows.fieldNumbersSpec.pre6 enc Try.prog Try.f3 Rows.fieldNumbersRow.domain false) (Rows.fieldNumbersSpec.post enc Try.prog Try.f3 false true false false) := by
  refine returnsInHanded_of_change (C := Try.checked) own started (by kernel_rfl) Try.func3
    (ChangeSpec.witness6 (enc := enc) (C := Try.checked) false ⟨#[], #[], []⟩ 8 (by kernel_rfl) (by kernel_rfl) (by kernel_rfl) (by kernel_rfl)) ?_
  intro W base args ds gs before hval0 hW hcnd _
  have hval : ∀ (j : Nat) t v, Try.f3.params[j]? = some t → args[j]? = some v → Value.okWide Try.prog W .any base t v := hval0
  have hW' := hW
  obtain ⟨p, q, hA0, hV, rfl, hfz, hnd⟩ := hW
  have hA : DataW.TrodAll enc Try.prog W 0 (fun _ => true) true Try.f3.params.toList args.toList ds p := hA0
  rw [Try.params3] at hA hval
  obtain ⟨rfl, rfl, rfl⟩ := trodAll_none hA
  obtain ⟨rfl, rfl⟩ := trodVars_none hV
  clear hA0 hval0
  refine (walk W).mono fun e W' ⟨he, bel⟩ => ?_
  subst he
  exact ⟨_, rfl, _, _, _, [], _, [], hW', trodAll_mk1 (shut_bool Try.underlying4 _), rfl, rfl, bel.frame _, fun h => by cases h⟩

theorem over : Rows.fieldNumbersRow.holds Try.pinned (OpenSpec.ofChange Rows.fieldNumbersSpec) :=
  OpenClaim.holds_of_wide 3 Try.f3 rfl rfl rfl rfl rfl rfl rfl ⟨rfl, rfl, rfl, rfl, rfl⟩ rfl rfl rfl rfl rfl (by kernel_rfl) Try.func3 (by kernel_rfl)
    (of_decide_eq_true (by kernel_rfl)) (by unfold Func.isWrapper; first | (rw [if_pos (by decide +kernel)]; kernel_rfl) | (rw [if_neg (by decide +kernel)]; exact ⟨rfl, rfl⟩))
    (fun os started H enc _ => lifted os started H enc)
end fieldNumbers

/-- The statement. -/
theorem fieldNumbers_holds : Rows.FieldNumbersSaid := fieldNumbers.over
#print axioms fieldNumbers_holds
end Go.Proofs.Ytegjkcolilkfpaa
