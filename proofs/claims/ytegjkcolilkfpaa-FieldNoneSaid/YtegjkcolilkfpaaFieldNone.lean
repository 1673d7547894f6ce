/- FieldNone: a field that New did not make answers nothing and ErrNil: the law returns true. No conditions. -/
import Derived.Test.YtegjkcolilkfpaaAwake
import Derived.Test.YtegjkcolilkfpaaHold
namespace Go.Proofs.Ytegjkcolilkfpaa
open Go.ChangeShapes Go.WideShapes Go.ChangeAt Go.RowKit

/-- What is no field that New made: none, or one that is not marked. -/
def NotMade (w : World) (p : Value) : Prop := p = .pointer none ∨ ∃ b, p = .pointer (some ⟨b, 0, none⟩) ∧ w.cell? ⟨b, 0, none⟩ = some (.bool false)
theorem NotMade.ext {w w' : World} {p : Value} (h : NotMade w p) (hx : Ext w w') : NotMade w' p := by
  rcases h with h | ⟨b, h, hc⟩
  · exact .inl h
  · exact .inr ⟨b, h, hx.cell hc⟩

theorem is_no_nil (w : World) : Calls Try.prog 28 #[.pointer none] w fun e w' => e = .returned (.bool false) ∧ w = w' := by
  go_enter Try.func28, Try.ntmps28
  go_wp2
  go_ret
  exact ⟨rfl, rfl⟩
theorem is_no (w : World) (p : Value) (h : NotMade w p) : Calls Try.prog 28 #[p] w fun e w' => e = .returned (.bool false) ∧ w = w' := by
  rcases h with rfl | ⟨b, rfl, hc⟩
  · exact is_no_nil w
  · go_enter Try.func28, Try.ntmps28
    go_wp2
    go_ret
    exact ⟨rfl, rfl⟩
theorem none_add (w : World) (p : Value) (x y : Int) (h : NotMade w p) : Calls Try.prog 13 #[p, .int .u8 x, .int .u8 y] w fun e w' => e = .returned (.int .u8 0) ∧ w = w' := by
  go_enter Try.func13, Try.ntmps13
  go_wp2_with (go_at_call 28; refine (is_no _ _ h).mono ?_; rintro e w' ⟨rfl, rfl⟩)
  go_ret
  exact ⟨rfl, rfl⟩
theorem none_mul (w : World) (p : Value) (x y : Int) (h : NotMade w p) : Calls Try.prog 11 #[p, .int .u8 x, .int .u8 y] w fun e w' => e = .returned (.int .u8 0) ∧ w = w' := by
  go_enter Try.func11, Try.ntmps11
  go_wp2_with (go_at_call 28; refine (is_no _ _ h).mono ?_; rintro e w' ⟨rfl, rfl⟩)
  go_ret
  exact ⟨rfl, rfl⟩
theorem none_div (w : World) (p : Value) (x y : Int) (h : NotMade w p) : Calls Try.prog 18 #[p, .int .u8 x, .int .u8 y] w fun e w' => e = .returned (.tuple #[.int .u8 0, .int .i64 1]) ∧ w = w' := by
  go_enter Try.func18, Try.ntmps18
  go_wp2_with (go_at_call 28; refine (is_no _ _ h).mono ?_; rintro e w' ⟨rfl, rfl⟩)
  go_ret2
  exact ⟨rfl, rfl⟩
theorem none_inv (w : World) (p : Value) (x : Int) (h : NotMade w p) : Calls Try.prog 16 #[p, .int .u8 x] w fun e w' => e = .returned (.tuple #[.int .u8 0, .int .i64 1]) ∧ w = w' := by
  go_enter Try.func16, Try.ntmps16
  go_wp2_with (go_at_call 18; refine (none_div _ _ 1 x h).mono ?_; rintro e w' ⟨rfl, rfl⟩)
  go_ret2
  exact ⟨rfl, rfl⟩
theorem none_log (w : World) (p : Value) (x : Int) (h : NotMade w p) : Calls Try.prog 14 #[p, .int .u8 x] w fun e w' => e = .returned (.tuple #[.int .i64 0, .int .i64 1]) ∧ w = w' := by
  go_enter Try.func14, Try.ntmps14
  go_wp2_with (go_at_call 28; refine (is_no _ _ h).mono ?_; rintro e w' ⟨rfl, rfl⟩)
  go_ret2
  exact ⟨rfl, rfl⟩
theorem none_pow (w : World) (p : Value) (x n : Int) (h : NotMade w p) : Calls Try.prog 17 #[p, .int .u8 x, .int .i64 n] w fun e w' => e = .returned (.int .u8 0) ∧ w = w' := by
  go_enter Try.func17, Try.ntmps17
  go_wp2_with (go_at_call 28; refine (is_no _ _ h).mono ?_; rintro e w' ⟨rfl, rfl⟩)
  go_ret
  exact ⟨rfl, rfl⟩
theorem none_lay (w : World) (p o c x : Value) (h : NotMade w p) : Calls Try.prog 20 #[p, o, c, x] w fun e w' => e = .returned (.slice none 0 0) ∧ w = w' := by
  go_enter Try.func20, Try.ntmps20
  go_wp2_with (go_at_call 28; refine (is_no _ _ h).mono ?_; rintro e w' ⟨rfl, rfl⟩)
  go_ret
  exact ⟨rfl, rfl⟩
theorem xor_none : bits .xor .u8 0 0 = 0 := by decide
theorem none_dot (w : World) (p : Value) (A : Option Addr) (n c : Nat) (x : List UInt8) (h : NotMade w p) (hx : Bs w A n c x) : Calls Try.prog 19 #[p, .slice A n c, .slice A n c] w fun e w' => e = .returned (.int .u8 0) ∧ Dr w w' := by
  have hm1 := hx.max
  have hm2 := hx.le
  have hno : ¬ n < n := by omega
  go_enter Try.func19, Try.ntmps19
  go_wp2
  go_loopw [7, 14] (fun s i wr => ∃ k : Nat, k ≤ n ∧ i = .int .i64 k ∧ s = .int .u8 0 ∧ Dr w wr) (fun _ i _ => n - (intOf i).toNat)
  case atStart => exact ⟨0, by omega, rfl, rfl, Dr.refl w⟩
  case round =>
    obtain ⟨k, hk1, rfl, rfl, hd⟩ := hrel
    by_cases hlt : k < n
    · obtain ⟨b1, o1, rfl, hc1⟩ := (hx.ext hd.ext).rd.byte hlt
      have i1 : (k : Int) < n := by omega
      have h1 := h.ext hd.ext
      go_wp2
      go_quiet ((go_at_call 11; exact Calls.quiet_of_same ((none_mul _ p _ _ (h1.ext (Ext.drewN _ _))).mono fun _ _ h => ⟨h.1, h.2.symm⟩)))
      go_wp2
      refine ⟨⟨k + 1, by omega, by go_num, ?_, hd.more _⟩, by simp [intOf]; omega⟩
      rw [xor_none]
    · go_wp2
      go_ret
      exact ⟨rfl, hd⟩

def fnone : Array Value := (.bool false :: (List.replicate 510 (Value.int .u8 0) ++ List.replicate 256 (Value.int .i64 0))).toArray
theorem run_build_none (w : World) : (Instr.build 42 #[]).run Try.prog w = .ok (.agg fnone) w := by kernel_rfl

set_option maxRecDepth 100000 in
set_option maxHeartbeats 1000000 in
theorem fieldNone_any (w : World) (x y : Int) (n : Int) (A : Option Addr) (l c : Nat) (X : List UInt8) (hX : Bs w A l c X) :
    Calls Try.prog 5 #[.int .u8 x, .int .u8 y, .int .i64 n, .slice A l c] w fun e w' => e = .returned (.bool true) ∧ Ext w w' := by
  have o1 : bits .or .u8 0 0 = 0 := by decide
  go_enter Try.func5, Try.ntmps5
  try dsimp only [List.append]
  go_wp2_with (
    refine wpList_build (o := ⟨some 19, .build 42 #[], _, _, _, _⟩) rfl 42 #[] rfl #[] ?_ (.agg fnone) (run_build_none _) ?_
    · simp)
  have hcell : ∀ j, j < 2 → ∃ p, ((w.alloc (.cells fnone 42)).alloc (.cells #[.pointer none, .pointer (some ⟨w.heap.size, 0, none⟩)] 22)).cell? ⟨w.heap.size + 1, j, none⟩ = some p ∧ NotMade ((w.alloc (.cells fnone 42)).alloc (.cells #[.pointer none, .pointer (some ⟨w.heap.size, 0, none⟩)] 22)) p := by
    intro j hj
    have hc : ∀ i, ((w.alloc (.cells fnone 42)).alloc (.cells #[.pointer none, .pointer (some ⟨w.heap.size, 0, none⟩)] 22)).cell? ⟨w.heap.size + 1, i, none⟩ = (#[Value.pointer none, .pointer (some ⟨w.heap.size, 0, none⟩)])[i]? := fun i => by
      have := World.cell?_alloc_new (w.alloc (.cells fnone 42)) #[Value.pointer none, .pointer (some ⟨w.heap.size, 0, none⟩)] 22 i
      rw [World.size_alloc] at this
      exact this
    by_cases h0 : j = 0
    · subst h0
      exact ⟨.pointer none, by rw [hc]; rfl, .inl rfl⟩
    · obtain rfl : j = 1 := by omega
      refine ⟨.pointer (some ⟨w.heap.size, 0, none⟩), by rw [hc]; rfl, .inr ⟨_, rfl, ?_⟩⟩
      rw [World.cell?_alloc_lt _ _ _ (by simp), World.cell?_alloc_new]
      rfl
  have x0 : Ext w ((w.alloc (.cells fnone 42)).alloc (.cells #[.pointer none, .pointer (some ⟨w.heap.size, 0, none⟩)] 22)) := (Ext.alloc _ _).thenAlloc _
  generalize ((w.alloc (.cells fnone 42)).alloc (.cells #[.pointer none, .pointer (some ⟨w.heap.size, 0, none⟩)] 22)) = W at *
  generalize w.heap.size + 1 = g at *
  replace hX := hX.ext x0
  go_loopw [23] (fun i wr => ∃ k : Nat, k ≤ 2 ∧ i = .int .i64 k ∧ Ext W wr) (fun i _ => 2 - (intOf i).toNat)
  case atStart => exact ⟨0, by omega, rfl, Ext.refl W⟩
  case round =>
    obtain ⟨k, hk, rfl, hd⟩ := hrel
    by_cases hlt : k < 2
    · obtain ⟨p, hc, hp⟩ := hcell k hlt
      replace hc := Ext.cell hd hc
      replace hp := hp.ext hd
      replace hX := hX.ext hd
      have i1 : (k : Int) < 2 := by omega
      have H := Lib.hid hd
      clear hcell x0 hd
      have x0 : Ext wr wr := Ext.refl wr
      go_wp2_with (fail)
      refine (none_div _ p x y hp).mono ?_
      rintro e w' ⟨rfl, rfl⟩
      go_wp2_with (fail)
      refine (none_inv _ p x hp).mono ?_
      rintro e w' ⟨rfl, rfl⟩
      go_wp2_with (fail)
      refine (none_log _ p x hp).mono ?_
      rintro e w' ⟨rfl, rfl⟩
      go_wp2_with (fail)
      refine (none_add _ p x y hp).mono ?_
      rintro e w' ⟨rfl, rfl⟩
      go_wp2_with (fail)
      refine (none_mul _ p x y hp).mono ?_
      rintro e w' ⟨rfl, rfl⟩
      go_wp2_with (fail)
      refine (none_pow _ p x n hp).mono ?_
      rintro e w' ⟨rfl, rfl⟩
      go_wp2_with (fail)
      refine (none_dot _ p A l c X hp hX).mono ?_
      rintro e v1 ⟨rfl, hd⟩
      have y0 := Dr.ext hd
      replace hX := hX.ext y0
      replace hp := hp.ext y0
      replace x0 := Ext.trans x0 y0
      clear y0
      clear hd
      go_wp2_with (fail)
      refine (none_lay _ p _ _ _ hp).mono ?_
      rintro e w' ⟨rfl, rfl⟩
      go_wp2_with (fail)
      exact ⟨⟨k + 1, by omega, by go_num, H.out.trans x0⟩, by simp [intOf]; omega⟩
    · have i1 : ¬ (k : Int) < 2 := by omega
      clear hcell
      go_wp2_with (fail)
      refine (awake_any _).mono ?_
      rintro e w2 ⟨rfl, hx2⟩
      go_wp2_with (fail)
      go_ret
      exact ⟨rfl, (Ext.trans x0 hd).trans hx2⟩
namespace fieldNone
theorem walk (w : World) (a0 a1 a2 : Int) (a3 : Option Addr) (len3 cap3 : Nat) (z3 : List Int) (_w0 : (Lit.int .u8 a0).wf = true) (_w1 : (Lit.int .u8 a1).wf = true) (_w2 : (Lit.int .i64 a2).wf = true) (w3 : IsRow .u8 w a3 len3 cap3 z3) :
    Calls Try.prog 5 #[.int .u8 a0, .int .u8 a1, .int .i64 a2, .slice a3 len3 cap3] w fun e w' => e = .returned (.bool true) ∧ Below w.heap.size w w' := by
  obtain ⟨X, hX⟩ := w3.bytes
  exact fieldNone_any w a0 a1 a2 a3 len3 cap3 X hX
end fieldNone

/-! From the walk to the statement. -/
namespace fieldNone
theorem own : ownKnob Try.prog.godebug = none := by kernel_rfl
theorem laidOut : laidOutB Try.prog = true := by kernel_rfl

set_option maxRecDepth 100000 in
theorem lifted (os : Os) (started : os.Started) (H : Type) (enc : TypeId × Value → H) :
    ReturnsInHanded {} Try.checked os 5 .any (Rows.fieldNoneSpec.pre6 enc Try.prog Try.f5 Rows.fieldNoneRow.domain false) (Rows.fieldNoneSpec.post enc Try.prog Try.f5 false true false false) := by
  refine returnsInHanded_of_change (C := Try.checked) own started (by kernel_rfl) Try.func5
    (ChangeSpec.witness6 (enc := enc) (C := Try.checked) false ⟨#[], #[.int .u8 0, .int .u8 0, .int .i64 0, .slice none 0 0], []⟩ 8 (by kernel_rfl) (by kernel_rfl) (by kernel_rfl) (by kernel_rfl)) ?_
  intro W base args ds gs before hval0 hW hcnd _
  have hval : ∀ (j : Nat) t v, Try.f5.params[j]? = some t → args[j]? = some v → Value.okWide Try.prog W .any base t v := hval0
  have hW' := hW
  obtain ⟨p, q, hA0, hV, rfl, hfz, hnd⟩ := hW
  have hA : DataW.TrodAll enc Try.prog W 0 (fun _ => true) true Try.f5.params.toList args.toList ds p := hA0
  rw [Try.params5] at hA hval
  obtain ⟨v0, vs0, d0, ds0, p0, q0, hargs, rfl, rfl, h0, r0⟩ := trodAll_cons hA
  obtain ⟨v1, vs1, d1, ds1, p1, q1, rfl, rfl, rfl, h1, r1⟩ := trodAll_cons r0
  obtain ⟨v2, vs2, d2, ds2, p2, q2, rfl, rfl, rfl, h2, r2⟩ := trodAll_cons r1
  obtain ⟨v3, vs3, d3, ds3, p3, q3, rfl, rfl, rfl, h3, r3⟩ := trodAll_cons r2
  obtain ⟨rfl, rfl, rfl⟩ := trodAll_nil r3
  obtain rfl : args = #[v0, v1, v2, v3] := by cases args; simp_all
  obtain ⟨rfl, rfl⟩ := trodVars_none hV
  obtain ⟨a0, rfl, rfl, rfl, w0⟩ := open_int Try.underlying5 (hval 0 5 v0 rfl rfl) h0
  obtain ⟨a1, rfl, rfl, rfl, w1⟩ := open_int Try.underlying5 (hval 1 5 v1 rfl rfl) h1
  obtain ⟨a2, rfl, rfl, rfl, w2⟩ := open_int Try.underlying3 (hval 2 3 v2 rfl rfl) h2
  obtain ⟨a3, len3, cap3, rfl⟩ := okWide_slice Try.underlying33 (hval 3 33 v3 rfl rfl)
  have k3 := h3
  have lt3 : ∀ x ∈ p3, x.block < W.heap.size := by obtain ⟨m, hm⟩ := k3; exact DataW.trod_lt m _ _ _ hm
  obtain ⟨z3, w3⟩ : ∃ zs, IsRow .u8 W a3 len3 cap3 zs := IsRow.of_trod Try.underlying33 Try.underlying5 (by kernel_rfl) h3
  clear hA0 hval0
  refine (walk W a0 a1 a2 a3 len3 cap3 z3 w0 w1 w2 w3).mono fun e W' ⟨he, bel⟩ => ?_
  subst he
  exact ⟨_, rfl, _, _, _, [], _, [], hW', trodAll_mk1 (shut_bool Try.underlying4 _), (trodAll_cons_mk (shut_int Try.underlying5 w0) (trodAll_cons_mk (shut_int Try.underlying5 w1) (trodAll_cons_mk (shut_int Try.underlying3 w2) (trodAll_cons_mk (Below.trod laidOut (by kernel_rfl) (of_decide_eq_true (by kernel_rfl)) k3 bel lt3) trodAll_mk0)))), rfl, bel.frame _, fun h => by cases h⟩

theorem over : Rows.fieldNoneRow.holds Try.pinned (OpenSpec.ofChange Rows.fieldNoneSpec) :=
  OpenClaim.holds_of_wide 5 Try.f5 rfl rfl rfl rfl rfl rfl rfl ⟨rfl, rfl, rfl, rfl, rfl⟩ rfl rfl rfl rfl rfl (by kernel_rfl) Try.func5 (by kernel_rfl)
    (of_decide_eq_true (by kernel_rfl)) (by unfold Func.isWrapper; first | (rw [if_pos (by decide +kernel)]; kernel_rfl) | (rw [if_neg (by decide +kernel)]; exact ⟨rfl, rfl⟩))
    (fun os started H enc _ => lifted os started H enc)
end fieldNone

/-- The statement. -/
theorem fieldNone_holds : Rows.FieldNoneSaid := fieldNone.over
#print axioms fieldNone_holds
end Go.Proofs.Ytegjkcolilkfpaa
