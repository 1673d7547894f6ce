/- Several texts in one: A journal's eight cells in a box: loaded, stored, copied, handed back. No statement of the seat is proved here. A region that draws its order and ends in an operation that waits, through others, for what is taken ahead of it. No program in sight. -/
import Derived.Test.YtaaegbccejjjcaaCt19
import Derived.Deep.MidRow
import Derived.Test.YtaaegbccejjjcaaCt8
namespace Go.Proofs.Ytaaegbccejjjcaa
open Go.RowKit Go.Maps Go.Sort Go.Shelf

/-- The eight cells. -/
abbrev jc (g : Nat) (half from_ next life : Int) (bs rs : Value) (ov : Bool) : List Value := [dptr g, .int .i64 half, .int .i64 from_, .int .i64 next, .int .i64 life, bs, rs, .bool ov]
/-- Box p has them. -/
structure Jv (w : World) (p g : Nat) (half from_ next life : Int) (bs rs : Value) (ov : Bool) : Prop where
  blk : w.heap[p]? = some (.cells (jc g half from_ next life bs rs ov).toArray 50 (0, 0))
section
variable {w w' : World} {p g : Nat} {half from_ next life : Int} {bs rs : Value} {ov : Bool}
theorem Jv.lt (h : Jv w p g half from_ next life bs rs ov) : p < w.heap.size := (Array.getElem?_eq_some_iff.1 h.blk).1
theorem Jv.ext (h : Jv w p g half from_ next life bs rs ov) (hx : Ext w w') : Jv w' p g half from_ next life bs rs ov := ⟨(hx.block p h.lt).trans h.blk⟩
theorem Jv.ch {Z : Nat → Prop} (h : Jv w p g half from_ next life bs rs ov) (k : Ch Z w w') (hz : ¬ Z p) : Jv w' p g half from_ next life bs rs ov := ⟨(k.block p h.lt hz).trans h.blk⟩
theorem Jv.far (h : Jv w p g half from_ next life bs rs ov) {a : Addr} (ha : a.block ≠ p) (u : Value) : Jv (w.setCell a u) p g half from_ next life bs rs ov := ⟨(heap_setCell_other w a p u (fun e => ha e.symm)).trans h.blk⟩
theorem Jv.c0 (h : Jv w p g half from_ next life bs rs ov) : w.cell? ⟨p, 0, none⟩ = some (dptr g) := by rw [cell_of_row w _ _ _ _ _ h.blk]; rfl
theorem Jv.c1 (h : Jv w p g half from_ next life bs rs ov) : w.cell? ⟨p, 1, none⟩ = some (.int .i64 half) := by rw [cell_of_row w _ _ _ _ _ h.blk]; rfl
theorem Jv.c2 (h : Jv w p g half from_ next life bs rs ov) : w.cell? ⟨p, 2, none⟩ = some (.int .i64 from_) := by rw [cell_of_row w _ _ _ _ _ h.blk]; rfl
theorem Jv.c3 (h : Jv w p g half from_ next life bs rs ov) : w.cell? ⟨p, 3, none⟩ = some (.int .i64 next) := by rw [cell_of_row w _ _ _ _ _ h.blk]; rfl
theorem Jv.c4 (h : Jv w p g half from_ next life bs rs ov) : w.cell? ⟨p, 4, none⟩ = some (.int .i64 life) := by rw [cell_of_row w _ _ _ _ _ h.blk]; rfl
theorem Jv.c5 (h : Jv w p g half from_ next life bs rs ov) : w.cell? ⟨p, 5, none⟩ = some bs := by rw [cell_of_row w _ _ _ _ _ h.blk]; rfl
theorem Jv.c6 (h : Jv w p g half from_ next life bs rs ov) : w.cell? ⟨p, 6, none⟩ = some rs := by rw [cell_of_row w _ _ _ _ _ h.blk]; rfl
theorem Jv.c7 (h : Jv w p g half from_ next life bs rs ov) : w.cell? ⟨p, 7, none⟩ = some (.bool ov) := by rw [cell_of_row w _ _ _ _ _ h.blk]; rfl
theorem Jv.fz (h : Jv w p g half from_ next life bs rs ov) (k : Nat) : w.frozen? ⟨p, k, none⟩ = false := frozen_of_row w _ _ _ _ h.blk
theorem Jv.s2 (h : Jv w p g half from_ next life bs rs ov) (x : Int) : Jv (w.setCell ⟨p, 2, none⟩ (.int .i64 x)) p g half x next life bs rs ov := ⟨heap_setCell_same w p 2 _ _ (.int .i64 x) h.blk⟩
theorem Jv.s3 (h : Jv w p g half from_ next life bs rs ov) (x : Int) : Jv (w.setCell ⟨p, 3, none⟩ (.int .i64 x)) p g half from_ x life bs rs ov := ⟨heap_setCell_same w p 3 _ _ (.int .i64 x) h.blk⟩
theorem Jv.s4 (h : Jv w p g half from_ next life bs rs ov) (x : Int) : Jv (w.setCell ⟨p, 4, none⟩ (.int .i64 x)) p g half from_ next x bs rs ov := ⟨heap_setCell_same w p 4 _ _ (.int .i64 x) h.blk⟩
theorem Jv.s5 (h : Jv w p g half from_ next life bs rs ov) (x : Value) : Jv (w.setCell ⟨p, 5, none⟩ x) p g half from_ next life x rs ov := ⟨heap_setCell_same w p 5 _ _ x h.blk⟩
theorem Jv.s6 (h : Jv w p g half from_ next life bs rs ov) (x : Value) : Jv (w.setCell ⟨p, 6, none⟩ x) p g half from_ next life bs x ov := ⟨heap_setCell_same w p 6 _ _ x h.blk⟩
theorem Jv.s7 (h : Jv w p g half from_ next life bs rs ov) (x : Bool) : Jv (w.setCell ⟨p, 7, none⟩ (.bool x)) p g half from_ next life bs rs x := ⟨heap_setCell_same w p 7 _ _ (.bool x) h.blk⟩
end
theorem jour_under : ∃ d, Try.prog.underlying 50 = some d ∧ d.isRow = true := ⟨_, Try.underlying50, rfl⟩
theorem jour_info : (Try.prog.info? 50).map (·.size) = some 8 := by kernel_rfl
theorem Jv.loadV {w : World} {p g : Nat} {half from_ next life : Int} {bs rs : Value} {ov : Bool} (h : Jv w p g half from_ next life bs rs ov) : (loadVar 50 ⟨p, 0, none⟩).run Try.prog w = .ok (.agg (jc g half from_ next life bs rs ov).toArray) w := by
  obtain ⟨d, hd, hr⟩ := jour_under
  refine run_loadVar_mid w p 0 50 (jc g half from_ next life bs rs ov) d (fun j v hv => ?_) hd hr jour_info
  rw [cell_of_row w _ _ _ _ _ h.blk, Nat.zero_add]
  simpa using hv
theorem Jv.load {w : World} {p g : Nat} {half from_ next life : Int} {bs rs : Value} {ov : Bool} (h : Jv w p g half from_ next life bs rs ov) : (Instr.loadAt 50 (.pointer (some ⟨p, 0, none⟩))).run Try.prog w = .ok (.agg (jc g half from_ next life bs rs ov).toArray) w := by
  simp only [Instr.loadAt, Instr.sureAddr, Sem.run_bind, Sem.run_pure, Result.andThen_ok, h.loadV]
def zjour : Obj := .cells #[.pointer none, .int .i64 0, .int .i64 0, .int .i64 0, .int .i64 0, .slice none 0 0, .slice none 0 0, .bool false] 50 (0, 0)
theorem run_alloc_jour (w : World) : (Instr.alloc 50 true (.tuple #[])).run Try.prog w = .ok (.pointer (some ⟨w.heap.size, 0, none⟩)) (w.alloc zjour) := by kernel_rfl
theorem setCells_eight {w : World} {p : Nat} {a b c d e f g h : Value} {T : TypeId} (hb : w.heap[p]? = some (.cells #[a, b, c, d, e, f, g, h] T (0, 0))) (vs : List Value) (hv : vs.length = 8) : (w.setCells p 0 vs).heap[p]? = some (.cells vs.toArray T (0, 0)) := by
  match vs, hv with
  | [a', b', c', d', e', f', g', h'], _ =>
    have h1 := heap_setCell_same w p 0 _ _ a' hb
    simp only [List.setIfInBounds_toArray, List.set_cons_zero, List.set_cons_succ] at h1
    have h2 := heap_setCell_same _ p 1 _ _ b' h1
    simp only [List.setIfInBounds_toArray, List.set_cons_zero, List.set_cons_succ] at h2
    have h3 := heap_setCell_same _ p 2 _ _ c' h2
    simp only [List.setIfInBounds_toArray, List.set_cons_zero, List.set_cons_succ] at h3
    have h4 := heap_setCell_same _ p 3 _ _ d' h3
    simp only [List.setIfInBounds_toArray, List.set_cons_zero, List.set_cons_succ] at h4
    have h5 := heap_setCell_same _ p 4 _ _ e' h4
    simp only [List.setIfInBounds_toArray, List.set_cons_zero, List.set_cons_succ] at h5
    have h6 := heap_setCell_same _ p 5 _ _ f' h5
    simp only [List.setIfInBounds_toArray, List.set_cons_zero, List.set_cons_succ] at h6
    have h7 := heap_setCell_same _ p 6 _ _ g' h6
    simp only [List.setIfInBounds_toArray, List.set_cons_zero, List.set_cons_succ] at h7
    have h8 := heap_setCell_same _ p 7 _ _ h' h7
    simp only [List.setIfInBounds_toArray, List.set_cons_zero, List.set_cons_succ] at h8
    exact h8
theorem ch_setCells {Z : Nat → Prop} {a : World} {k : Nat} (hk : Z k ∨ a.heap.size ≤ k) : ∀ (vs : List Value) (o : Nat) (w : World), Ch Z a w → Ch Z a (w.setCells k o vs)
  | [], _, _, h => h
  | v :: r, o, w, h => by
    rw [World.setCells]
    exact ch_setCells hk r (o + 1) _ (h.set (p := ⟨k, o, none⟩) hk v)
/-- Eight cells are stored over a box. -/
theorem jour_store {w : World} {p : Nat} {a b c d e f g' h' : Value} (hb : w.heap[p]? = some (.cells #[a, b, c, d, e, f, g', h'] 50 (0, 0))) (g : Nat) (half from_ next life : Int) (bs rs : Value) (ov : Bool) (h1 : bs.oneCell' = true) (h2 : rs.oneCell' = true) :
    ∃ w', (Instr.storeAt 50 (.pointer (some ⟨p, 0, none⟩)) (.agg (jc g half from_ next life bs rs ov).toArray)).run Try.prog w = .ok () w' ∧ Jv w' p g half from_ next life bs rs ov ∧ Ch (fun q => q = p) w w' := by
  have hth : w.there p 0 8 := fun j hj => ⟨by
    rw [cell_of_row _ _ _ _ _ _ hb]
    have hl : 0 + j < (#[a, b, c, d, e, f, g', h'] : Array Value).size := by show 0 + j < 8; omega
    rw [Array.getElem?_eq_getElem hl]; rfl, frozen_of_row _ _ _ _ _ hb⟩
  have hall : (jc g half from_ next life bs rs ov).toArray.all (·.oneCell') = true := all_oneCell_toArray (fun v hv => by
    simp only [jc, List.mem_cons, List.not_mem_nil, or_false] at hv
    rcases hv with rfl | rfl | rfl | rfl | rfl | rfl | rfl | rfl <;> first | rfl | assumption)
  have hr := run_storeVar_mid (P := Try.prog) w p 0 50 (jc g half from_ next life bs rs ov).toArray hth jour_info hall
  exact ⟨w.setCells p 0 (jc g half from_ next life bs rs ov), by simp only [Instr.storeAt, Instr.sureAddr, Sem.run_bind, Sem.run_pure, Result.andThen_ok, hr], ⟨setCells_eight hb _ rfl⟩, ch_setCells (Z := fun q => q = p) (.inl rfl) _ _ _ (Ch.refl _ _)⟩
/-- A new variable of a journal, written. -/
theorem jour_copy (w : World) (g : Nat) (half from_ next life : Int) (bs rs : Value) (ov : Bool) (h1 : bs.oneCell' = true) (h2 : rs.oneCell' = true) :
    ∃ w', (Instr.storeAt 50 (.pointer (some ⟨w.heap.size, 0, none⟩)) (.agg (jc g half from_ next life bs rs ov).toArray)).run Try.prog (w.alloc zjour) = .ok () w' ∧ Jv w' w.heap.size g half from_ next life bs rs ov ∧ Ext w w' := by
  obtain ⟨w', e, hv, hc⟩ := jour_store (w := w.alloc zjour) (heap_alloc_new w zjour) g half from_ next life bs rs ov h1 h2
  exact ⟨w', e, hv, hc.ext (Ext.alloc w _) (fun q hq => by rw [hq]; exact Nat.le_refl _)⟩
theorem one_slice (A : Option Addr) (n c : Nat) : (Value.slice A n c).oneCell' = true := rfl
theorem results_cellJ {fn : Func} {p : Tmp} {ty : TypeId} (h : fn.results = #[.cell p ty]) (tmps : Array Value) (P : Program) (w : World) :
    (results fn tmps).run P w = ((asAddr (tmps.getD p undef)).run P w).andThen fun a w1 => (loadVar ty a).run P w1 := by
  simp only [results, h]
  simp [Sem.run_bind, Result.andThen]
theorem jour_results {fn : Func} {t : Tmp} (h : fn.results = #[.cell t 50]) (tmps : Array Value) {w : World} {p g : Nat} {half from_ next life : Int} {bs rs : Value} {ov : Bool} (hv : Jv w p g half from_ next life bs rs ov) (ht : tmps.getD t undef = .pointer (some ⟨p, 0, none⟩)) : (results fn tmps).run Try.prog w = .ok (.agg (jc g half from_ next life bs rs ov).toArray) w := by
  have hl := hv.loadV
  rw [results_cellJ h, ht]
  simp [asAddr, Result.andThen, hl]
end Go.Proofs.Ytaaegbccejjjcaa
namespace Go.Proofs.Ytaaegbccejjjcaa
open Go
section
variable {P : Program} {ops : Array Oper} {Q : Exit → Act → World → Prop} {md : Region.Mode} {S : World → Prop} {t : Nat}
/-- Number t waits for the first of the list, that one for the next, the last for number i. -/
def chainW (md : Region.Mode) (ops : Array Oper) : Nat → List Nat → Nat → Bool
  | t, [], i => Region.waitsFor md ops t i
  | t, a :: L, i => Region.waitsFor md ops t a && chainW md ops a L i
theorem chainW_next {L : List Nat} {i : Nat} : ∀ {t : Nat}, chainW md ops t L i = true → ∀ x ∈ t :: L, ∃ y, (y ∈ L ∨ y = i) ∧ Region.waitsFor md ops x y = true := by
  induction L with
  | nil =>
    intro t h x hx
    have e : x = t := by simpa using hx
    subst e
    exact ⟨i, Or.inr rfl, h⟩
  | cons a L ih =>
    intro t h x hx
    unfold chainW at h
    rw [Bool.and_eq_true] at h
    rcases List.mem_cons.1 hx with rfl | hx
    · exact ⟨a, Or.inl (List.mem_cons_self ..), h.1⟩
    · obtain ⟨y, hy, hw⟩ := ih h.2 x hx
      rcases hy with hy | hy
      · exact ⟨y, Or.inl (List.mem_cons_of_mem _ hy), hw⟩
      · exact ⟨y, Or.inr hy, hw⟩
theorem late_chain {L : List Nat} {i j : Nat} {listed : Array Bool} (hch : chainW md ops t L i = true) (hl : ∀ x ∈ t :: L, listed.getD x true = false) (hr : i ∈ Region.ready md ops listed) (hj : j ∈ Region.ready md ops listed) : ∀ x ∈ t :: L, j ≠ x := by
  rintro x hx rfl
  obtain ⟨y, hy, hw⟩ := chainW_next hch j hx
  have hyl : listed.getD y true = false := by
    rcases hy with hy | rfl
    · exact hl y (List.mem_cons_of_mem _ hy)
    · exact (mem_ready.1 hr).1
  obtain ⟨_, oj, hoj, hall⟩ := mem_ready.1 hj
  obtain ⟨o', ho', e, he, hb, hon⟩ := Region.waitsFor_spec hw
  have : o' = oj := Option.some.inj (ho'.symm.trans hoj)
  subst this
  have h2 := hall e he hb
  rw [hon, getD_both hyl] at h2
  cases h2
/-- Take number i, for which number t waits through the list, first. -/
theorem takeC (L : List Nat) {i : Nat} {oi : Oper} {v : Value} {f : Nat} {listed : Array Bool} {a : Act} {w : World} (hi : ops[i]? = some oi)
    (hs : Region.noSelect ops = true) (hf : Region.free md ops listed i = true) (hr : (Region.ready md ops listed).contains i = true) (hch : chainW md ops t L i = true) (hti : t ≠ i)
    (hQ : ∀ c a w, Q (.panic c) (a.put oi.dst v) w → Q (.panic c) a w) (ht : ((t :: L).all fun x => !listed.getD x true) = true) (hy : YieldsIf P ops S oi v a) (hS : S w)
    (h : wpAnyT P md ops Q S t f (listed.setIfInBounds i true) (a.put oi.dst v) w) : wpAnyT P md ops Q S t (f + 1) listed a w :=
  firstT (S' := S) (I := fun listed => ∀ x ∈ t :: L, listed.getD x true = false) hi (Region.noSelect_spec hs) hQ
    (fun _ _ hl hr hj _ x hx => getD_set_in (hl x hx) (late_chain hch hl hr hj x hx))
    (fun _ j w' hl hr hj hji h1 => by
      have hjt := late_chain hch hl hr hj t (List.mem_cons_self ..)
      have h2 := h1 (getD_set_in (getD_set_in (hl t (List.mem_cons_self ..)) (Ne.symm hti)) hjt)
      exact ⟨h2, fun _ => h2⟩)
    f listed a w (fun x hx => by have := List.all_eq_true.1 ht x hx; simpa using this) (Region.free_spec hi hf) (by simpa using hr) hy hS (fun _ => hS) h
end
end Go.Proofs.Ytaaegbccejjjcaa
