/- FieldOnce: powers of 2 go through all elements but nought, each once; so do the multiples of any element but nought: the law returns true. No conditions. -/
import Derived.Test.YtegjkcolilkfpaaAwake
import Derived.Test.YtegjkcolilkfpaaHold
namespace Go.Proofs.Ytegjkcolilkfpaa
open Go.ChangeShapes Go.WideShapes Go.ChangeAt Go.RowKit

/-- A row of 256 truths. -/
def brow (f : Nat → Bool) : Array Value := ((List.range 256).map fun j => Value.bool (f j)).toArray
theorem brow_get (f : Nat → Bool) (j : Nat) (h : j < 256) : (brow f)[j]? = some (.bool (f j)) := by simp [brow, h]
theorem brow_size (f : Nat → Bool) : (brow f).size = 256 := by simp [brow]
theorem brow_set (f : Nat → Bool) (x : UInt8) : (brow f).setIfInBounds x.toNat (.bool true) = brow fun j => f j || x.toNat == j := by
  apply Array.ext (by simp [brow_size])
  intro j h1 h2
  rw [brow_size] at h2
  apply Option.some_inj.1
  rw [← Array.getElem?_eq_getElem, ← Array.getElem?_eq_getElem, brow_get _ _ h2, Array.getElem?_setIfInBounds, brow_size]
  have hx := x.toNat_lt
  by_cases e : x.toNat = j
  · rw [if_pos e, if_pos (by omega), e]; simp
  · rw [if_neg e, brow_get _ _ h2, beq_eq_false_iff_ne.2 e, Bool.or_false]
def bfalse : Array Value := (List.replicate 256 (Value.bool false)).toArray
theorem bfalse_eq : bfalse = brow fun _ => false := by
  unfold bfalse brow
  refine congrArg List.toArray ?_
  rw [List.map_const', List.length_range]
theorem run_alloc_row (w : World) : (Instr.alloc 49 true (.tuple #[])).run Try.prog w = .ok (.pointer (some ⟨w.heap.size, 0, none⟩)) (w.alloc (.cells bfalse 49)) := by kernel_rfl
theorem wpList_alloc {P : Program} {ops : Array Oper} {Q : Exit → Act → World → Prop} {rest : List Oper} {o : Oper} {a : Act} {w w' : World} (hgd : o.guard = none) (t : TypeId) (ho : o.op = .alloc t) (v : Value)
    (hr : (Instr.alloc t true (.tuple #[])).run P w = .ok v w') (h : wpList P ops Q rest (a.put o.dst v) w') : wpList P ops Q (o :: rest) a w :=
  wpList_val hgd v (by unfold execOp; simp only [ho, Sem.run_bind, hr, Result.andThen_ok, Sem.run_pure]) h

/-- Which powers, which multiples have come when k rounds are done. -/
def seenTo (k j : Nat) : Bool := (List.range k).any fun i => (Gf.gexp i).toNat == j
def timesTo (a : UInt8) (k j : Nat) : Bool := (List.range k).any fun i => (Gf.mul a (UInt8.ofNat (i + 1))).toNat == j
theorem seenTo_succ (k : Nat) : (fun j => seenTo k j || (Gf.gexp k).toNat == j) = seenTo (k + 1) := by
  funext j; simp [seenTo, List.range_succ]
theorem timesTo_succ (a : UInt8) (k : Nat) : (fun j => timesTo a k j || (Gf.mul a (UInt8.ofNat (k + 1))).toNat == j) = timesTo a (k + 1) := by
  funext j; simp [timesTo, List.range_succ]
theorem seenTo_new {k : Nat} (h : k < 255) : seenTo k (Gf.gexp k).toNat = false := by
  rw [Bool.eq_false_iff]
  intro e
  simp only [seenTo, List.any_eq_true, List.mem_range, beq_iff_eq] at e
  obtain ⟨i, hi, e⟩ := e
  have := Gf.gexp_inj (i := i) (j := k) (by omega) h (UInt8.toNat_inj.1 e)
  omega
theorem timesTo_new {a : UInt8} (ha : a ≠ 0) {k : Nat} (h : k < 255) : timesTo a k (Gf.mul a (UInt8.ofNat (k + 1))).toNat = false := by
  rw [Bool.eq_false_iff]
  intro e
  simp only [timesTo, List.any_eq_true, List.mem_range, beq_iff_eq] at e
  obtain ⟨i, hi, e⟩ := e
  have h1 := UInt8.toNat_inj.1 e
  rw [Gf.mul_comm a, Gf.mul_comm a] at h1
  have h2 := congrArg UInt8.toNat (Gf.mul_right_cancel ha h1)
  rw [UInt8.toNat_ofNat', UInt8.toNat_ofNat'] at h2
  omega

structure OnceAt (w wr : World) (b g : Nat) (a : UInt8) (k : Nat) : Prop where
  ext : Ext w wr
  field : FieldAt wr b
  seen : wr.heap[g]? = some (.cells (brow (seenTo k)) 49 (0, 0))
  times : wr.heap[g + 1]? = some (.cells (brow (timesTo a k)) 49 (0, 0))
theorem OnceAt.start {w w1 : World} {b : Nat} {a : UInt8} (hx : Ext w w1) (hf : FieldAt w1 b) :
    OnceAt w ((w1.alloc (.cells bfalse 49)).alloc (.cells bfalse 49)) b w1.heap.size a 0 := by
  have e1 : brow (seenTo 0) = bfalse := by rw [bfalse_eq]; rfl
  have e2 : brow (timesTo a 0) = bfalse := by rw [bfalse_eq]; rfl
  refine ⟨(hx.thenAlloc _).thenAlloc _, (hf.ext (Ext.alloc _ _)).ext (Ext.alloc _ _), ?_, ?_⟩
  · rw [e1, Below.heap_alloc _ _ _ (by simp)]; exact heap_alloc_new w1 _
  · rw [e2]
    have := heap_alloc_new (w1.alloc (.cells bfalse 49)) (.cells bfalse 49)
    simpa using this
theorem field_ne {w : World} {b g : Nat} {f : Nat → Bool} (hf : FieldAt w b) (hg : w.heap[g]? = some (.cells (brow f) 49 (0, 0))) : b ≠ g := by
  rintro rfl
  have h1 := hf.exp 0 (by omega)
  rw [cell_of_row w b (1 + 0) _ _ _ hg, brow_get _ _ (by omega)] at h1
  injection h1 with h1
  cases h1
theorem FieldAt.far {w : World} {b : Nat} (hf : FieldAt w b) {p : Addr} (hp : b ≠ p.block) (v : Value) : FieldAt (w.setCell p v) b := by
  have h : ∀ j, (w.setCell p v).cell? ⟨b, j, none⟩ = w.cell? ⟨b, j, none⟩ := fun j => World.cell?_setCell_other _ _ _ _ (fun e => hp (by rw [e]))
  exact ⟨by rw [h]; exact hf.made, fun i hi => by rw [h]; exact hf.exp i hi, fun x => by rw [h]; exact hf.log x⟩
theorem OnceAt.step {w wr : World} {b g : Nat} {a : UInt8} {k : Nat} (h : OnceAt w wr b g a k) (hg : w.heap.size ≤ g) (q q' : Nat) :
    OnceAt w ((((wr.drewN q).setCell ⟨g, (Gf.gexp k).toNat, none⟩ (.bool true)).setCell ⟨g + 1, (Gf.mul a (UInt8.ofNat (k + 1))).toNat, none⟩ (.bool true)).drewN q') b g a (k + 1) := by
  have n1 := field_ne h.field h.seen
  have n2 := field_ne h.field h.times
  have h1 := heap_setCell_same (wr.drewN q) g (Gf.gexp k).toNat _ _ (.bool true) h.seen
  have h2 := heap_setCell_other (wr.drewN q) ⟨g, (Gf.gexp k).toNat, none⟩ (g + 1) (.bool true) (by show g + 1 ≠ g; omega)
  refine ⟨?_, ?_, ?_, ?_⟩
  · exact Ext.thenDrewN (Below.setCell (Below.setCell (h.ext.thenDrewN q) hg _) (by show w.heap.size ≤ g + 1; omega) _) _
  · exact ((((h.field.ext (Ext.drewN wr q)).far n1 _).far n2 _).ext (Ext.drewN _ _))
  · rw [brow_set, seenTo_succ] at h1
    have h3 := heap_setCell_other ((wr.drewN q).setCell ⟨g, (Gf.gexp k).toNat, none⟩ (.bool true)) ⟨g + 1, (Gf.mul a (UInt8.ofNat (k + 1))).toNat, none⟩ g (.bool true) (by show g ≠ g + 1; omega)
    exact h3.trans h1
  · have h4 := heap_setCell_same _ (g + 1) (Gf.mul a (UInt8.ofNat (k + 1))).toNat _ _ (.bool true) (h2.trans h.times)
    rw [brow_set, timesTo_succ] at h4
    exact h4

theorem fieldOnce_zero (w : World) (x : UInt8) (hx : x = 0) :
    Calls Try.prog 8 #[.int .u8 (x.toNat : Int)] w fun e w' => e = .returned (.bool true) ∧ Ext w w' := by
  have k1 := u8_zero x hx
  clear hx
  go_enter Try.func8, Try.ntmps8
  go_wp2_with (fail)
  refine (awake_any _).mono ?_
  rintro e w2 ⟨rfl, hx2⟩
  go_wp2_with (fail)
  go_ret
  exact ⟨rfl, hx2⟩

set_option maxRecDepth 100000 in
set_option maxHeartbeats 1000000 in
theorem fieldOnce_nz (w : World) (x : UInt8) (hx : x ≠ 0) :
    Calls Try.prog 8 #[.int .u8 (x.toNat : Int)] w fun e w' => e = .returned (.bool true) ∧ Ext w w' := by
  have k1 := u8_nonzero x hx
  have Hx := Lib.hid hx
  clear hx
  go_enter Try.func8, Try.ntmps8
  go_wp2_with (fail)
  refine (new_any _).mono ?_
  rintro e w1 ⟨rfl, hf, hx⟩
  generalize hb : w.heap.size = b at *
  have Hb := Lib.hid hb
  clear hb
  have hsz := hx.size
  go_wp2_with (first
    | (refine wpList_alloc (o := ⟨some 4, .alloc 49, _, _, _, _⟩) rfl 49 rfl _ (run_alloc_row _) ?_)
    | (refine wpList_alloc (o := ⟨some 5, .alloc 49, _, _, _, _⟩) rfl 49 rfl _ (run_alloc_row _) ?_))
  have hst := OnceAt.start (a := x) hx hf
  generalize hg : w1.heap.size = g at *
  have Hg := Lib.hid hg
  clear hg
  go_loopw [6, 7, 8] (fun s i _ wr => ∃ k : Nat, k ≤ 255 ∧ i = .int .i64 k ∧ s = .int .u8 ((Gf.gexp k).toNat : Int) ∧ OnceAt w wr b g x k) (fun _ i _ _ => 255 - (intOf i).toNat)
  case atStart => exact ⟨0, by omega, rfl, rfl, hst⟩
  case round =>
    obtain ⟨k, hk, rfl, rfl, hr⟩ := hrel
    clear hst hf
    by_cases hlt : k < 255
    · have hz : (k : Int) < 255 := by omega
      obtain ⟨u, hu, hu'⟩ : ∃ u : UInt8, UInt8.ofNat (k + 1) = u ∧ (u.toNat : Int) = (k : Int) + 1 := ⟨_, rfl, by rw [UInt8.toNat_ofNat']; omega⟩
      have hun : u ≠ 0 := by rintro rfl; simp at hu'; omega
      have hm := fun q => mul_any b (wr.drewN q) x u (hr.field.ext (Ext.drewN _ _))
      have hm0 := mul_any b wr x u hr.field
      rw [hu'] at hm0
      have hm2 := fun W => mul_any b W (Gf.gexp k) 2
      have Hm0 := Lib.hid hm0
      have c1 : wr.cell? ⟨g, (Gf.gexp k).toNat, none⟩ = some (.bool false) := by
        rw [cell_of_row wr g _ _ _ _ hr.seen, brow_get _ _ (Gf.gexp k).toNat_lt, seenTo_new hlt]
      have z1 : wr.frozen? ⟨g, (Gf.gexp k).toNat, none⟩ = false := frozen_of_row wr g _ _ _ hr.seen
      have c2 : wr.cell? ⟨g + 1, (Gf.mul x u).toNat, none⟩ = some (.bool false) := by
        rw [cell_of_row wr (g + 1) _ _ _ _ hr.times, brow_get _ _ (Gf.mul x u).toNat_lt, ← hu, timesTo_new Hx.out hlt]
      have z2 : wr.frozen? ⟨g + 1, (Gf.mul x u).toNat, none⟩ = false := frozen_of_row wr (g + 1) _ _ _ hr.times
      have i1 := u8_int_lt (Gf.gexp k)
      have i2 := u8_int_lt (Gf.mul x u)
      have e1 := u8_nonzero _ (Gf.gexp_ne k)
      have e2 := u8_nonzero _ (Gf.mul_ne Hx.out hun)
      have Hr := Lib.hid hr
      have Hu := Lib.hid hu
      have hfar : ∀ q, FieldAt (((wr.drewN q).setCell ⟨g, (Gf.gexp k).toNat, none⟩ (.bool true)).setCell ⟨g + 1, (Gf.mul x u).toNat, none⟩ (.bool true)) b := fun q =>
        ((hr.field.ext (Ext.drewN wr q)).far (field_ne hr.field hr.seen) _).far (field_ne hr.field hr.times) _
      have Hfar := Lib.hid hfar
      clear hm hm0 hm2 hr hu hu' hun hfar
      go_wp2_with (fail)
      refine Hm0.out.mono ?_
      rintro e w' ⟨rfl, q, rfl⟩
      clear Hm0
      go_wp2_with (fail)
      refine (mul_any b _ (Gf.gexp k) 2 (Hfar.out q)).mono ?_
      rintro e w' ⟨rfl, q', rfl⟩
      go_wp2_with (fail)
      refine ⟨⟨k + 1, by omega, by go_num, ?_, ?_⟩, by simp [intOf]; omega⟩
      · rw [← Gf.xt_mul, Gf.gexp_succ]
      · have := Hr.out.step hsz q q'
        rw [Hu.out] at this
        exact this
    · have hz : ¬ (k : Int) < 255 := by omega
      obtain rfl : k = 255 := by omega
      have h1 : Gf.gexp 255 = 1 := Gf.gexp_255
      have Hr := Lib.hid hr.ext
      clear hr
      go_wp2_with (fail)
      refine (awake_any _).mono ?_
      rintro e w2 ⟨rfl, hx2⟩
      go_wp2_with (fail)
      go_ret
      exact ⟨rfl, Hr.out.trans hx2⟩
theorem fieldOnce_any (w : World) (x : UInt8) :
    Calls Try.prog 8 #[.int .u8 (x.toNat : Int)] w fun e w' => e = .returned (.bool true) ∧ Ext w w' := by
  by_cases hx : x = 0
  · exact fieldOnce_zero w x hx
  · exact fieldOnce_nz w x hx
namespace fieldOnce
theorem walk (w : World) (a0 : Int) (w0 : (Lit.int .u8 a0).wf = true) :
    Calls Try.prog 8 #[.int .u8 a0] w fun e w' => e = .returned (.bool true) ∧ Below w.heap.size w w' := by
  obtain ⟨x, rfl⟩ := wf_u8 w0
  exact fieldOnce_any w x
end fieldOnce

/-! From the walk to the statement. -/
namespace fieldOnce
theorem own : ownKnob Try.prog.godebug = none := by kernel_rfl
theorem laidOut : laidOutB Try.prog = true := by kernel_rfl

set_option maxRecDepth 100000 in
theorem lifted (os : Os) (started : os.Started) (H : Type) (enc : TypeId × Value → H) :
    ReturnsInHanded {} Try.checked os 8 .any (Rows.fieldOnceSpec.pre6 enc Try.prog Try.f8 Rows.fieldOnceRow.domain false) (Rows.fieldOnceSpec.post enc Try.prog Try.f8 false true false false) := by
  refine returnsInHanded_of_change (C := Try.checked) own started (by kernel_rfl) Try.func8
    (ChangeSpec.witness6 (enc := enc) (C := Try.checked) false ⟨#[], #[.int .u8 0], []⟩ 8 (by kernel_rfl) (by kernel_rfl) (by kernel_rfl) (by kernel_rfl)) ?_
  intro W base args ds gs before hval0 hW hcnd _
  have hval : ∀ (j : Nat) t v, Try.f8.params[j]? = some t → args[j]? = some v → Value.okWide Try.prog W .any base t v := hval0
  have hW' := hW
  obtain ⟨p, q, hA0, hV, rfl, hfz, hnd⟩ := hW
  have hA : DataW.TrodAll enc Try.prog W 0 (fun _ => true) true Try.f8.params.toList args.toList ds p := hA0
  rw [Try.params8] at hA hval
  obtain ⟨v0, vs0, d0, ds0, p0, q0, hargs, rfl, rfl, h0, r0⟩ := trodAll_cons hA
  obtain ⟨rfl, rfl, rfl⟩ := trodAll_nil r0
  obtain rfl : args = #[v0] := by cases args; simp_all
  obtain ⟨rfl, rfl⟩ := trodVars_none hV
  obtain ⟨a0, rfl, rfl, rfl, w0⟩ := open_int Try.underlying5 (hval 0 5 v0 rfl rfl) h0
  clear hA0 hval0
  refine (walk W a0 w0).mono fun e W' ⟨he, bel⟩ => ?_
  subst he
  exact ⟨_, rfl, _, _, _, [], _, [], hW', trodAll_mk1 (shut_bool Try.underlying4 _), (trodAll_cons_mk (shut_int Try.underlying5 w0) trodAll_mk0), rfl, bel.frame _, fun h => by cases h⟩

theorem over : Rows.fieldOnceRow.holds Try.pinned (OpenSpec.ofChange Rows.fieldOnceSpec) :=
  OpenClaim.holds_of_wide 8 Try.f8 rfl rfl rfl rfl rfl rfl rfl ⟨rfl, rfl, rfl, rfl, rfl⟩ rfl rfl rfl rfl rfl (by kernel_rfl) Try.func8 (by kernel_rfl)
    (of_decide_eq_true (by kernel_rfl)) (by unfold Func.isWrapper; first | (rw [if_pos (by decide +kernel)]; kernel_rfl) | (rw [if_neg (by decide +kernel)]; exact ⟨rfl, rfl⟩))
    (fun os started H enc _ => lifted os started H enc)
end fieldOnce

/-- The statement. -/
theorem fieldOnce_holds : Rows.FieldOnceSaid := fieldOnce.over
#print axioms fieldOnce_holds
end Go.Proofs.Ytegjkcolilkfpaa
