/- Several texts in one: FindNumbers: contracts at its values; its body in parts. No statement of the seat is proved here. Numbers that begin with none of nought lie in no box of noughts. No statement of the seat is proved here. A region that draws its order and ends in an operation that waits, through others, for what is taken ahead of it. No program in sight. -/
import Derived.Test.YtfpglkacjecoeaaCt24
import Derived.Test.YtfpglkacjecoeaaCt25
import Derived.Test.YtfpglkacjecoeaaCt9
namespace Go.Proofs.Ytfpglkacjecoeaa
open Go.RowKit

theorem begin_nu (W : World) : Calls Try.prog 8 #[.int .i64 1099511627776, .int .i64 1099511627776, .int .i64 4, .int .i64 2] W fun e w' => ∃ A n c B m d C k e9, e = .returned (.tuple #[fval n0.stripe n0.version n0.need n0.phase (.slice A n c) (.slice B m d) (.slice C k e9), .int .i64 0]) ∧ Fd w' n0 A n c B m d C k e9 ∧ Ext W w' := by
  have h := fBegin_any W 1099511627776 1099511627776 4 2
  rw [nu_begin.1, nu_begin.2.1] at h
  refine h.mono ?_
  rintro e w' ⟨U, V, S, rfl, ⟨A, n, c, B, m, d, C, k, e9, rfl, rfl, rfl, hd⟩, hx, _⟩
  exact ⟨A, n, c, B, m, d, C, k, e9, rfl, hd, hx⟩
/-- Begin at what may not be. -/
theorem begin_not (W : World) (s v n need : Int) (h : ¬ Finds.named s v n need) : Calls Try.prog 8 #[.int .i64 s, .int .i64 v, .int .i64 n, .int .i64 need] W fun e w' => ∃ A n c B m d C k e9, e = .returned (.tuple #[fval Finds.nought.stripe Finds.nought.version Finds.nought.need Finds.nought.phase (.slice A n c) (.slice B m d) (.slice C k e9), .int .i64 140]) ∧ Fd w' Finds.nought A n c B m d C k e9 ∧ Ext W w' := by
  have h0 := fBegin_any W s v n need
  rw [show Finds.beginF s v n need = Finds.nought from if_neg h, show Finds.beginE s v n need = 140 from if_neg h] at h0
  refine h0.mono ?_
  rintro e w' ⟨U, V, S, rfl, ⟨A, n, c, B, m, d, C, k, e9, rfl, rfl, rfl, hd⟩, hx, _⟩
  exact ⟨A, n, c, B, m, d, C, k, e9, rfl, hd, hx⟩
theorem fd_small {w : World} {f : Finds.F} {A : Option Addr} {n c : Nat} {B : Option Addr} {m d : Nat} {C : Option Addr} {k e : Nat} (h : Fd w f A n c B m d C k e) (h1 : f.marks.length ≤ 1000) (h2 : f.which.length ≤ 1000) : n ≤ 1000 ∧ m ≤ 1000 := by
  rw [← h.u.len, ← h.v.len]
  exact ⟨h1, h2⟩
/-- Told that errs. -/
theorem told_not (W : World) (f : Finds.F) (A : Option Addr) (n c : Nat) (B : Option Addr) (m d : Nat) (C : Option Addr) (k e : Nat) (h : Fd W f A n c B m d C k e) (h1 : f.marks.length ≤ 1000) (h2 : f.which.length ≤ 1000) (i : Int) (h3 : Finds.toldE f i = 140) (h4 : Finds.toldF f i 0 [] = f) :
    Calls Try.prog 10 #[fval f.stripe f.version f.need f.phase (.slice A n c) (.slice B m d) (.slice C k e), .int .i64 i, .int .i64 0, .slice none 0 0] W fun e w' => ∃ A n c B m d C k e9, e = .returned (.tuple #[fval f.stripe f.version f.need f.phase (.slice A n c) (.slice B m d) (.slice C k e9), .int .i64 140]) ∧ Fd w' f A n c B m d C k e9 ∧ Ext W w' := by
  have h0 := fTold_any W f A n c B m d C k e h (fd_small h h1 h2).1 (fd_small h h1 h2).2 i 0 none 0 0 [] (bs_none W)
  rw [h3, h4] at h0
  refine h0.mono ?_
  rintro e w' ⟨U, V, S, rfl, ⟨A, n, c, B, m, d, C, k, e9, rfl, rfl, rfl, hd⟩, hx, _⟩
  exact ⟨A, n, c, B, m, d, C, k, e9, rfl, hd, hx⟩
theorem lose_nu (W : World) (A : Option Addr) (n c : Nat) (B : Option Addr) (m d : Nat) (C : Option Addr) (k e : Nat) (h : Fd W n1 A n c B m d C k e) (i : Int) (f' : Finds.F) (er : Int) (h3 : Finds.loseF n1 i = f') (h4 : Finds.toldE n1 i = er) :
    Calls Try.prog 15 #[fval n1.stripe n1.version n1.need n1.phase (.slice A n c) (.slice B m d) (.slice C k e), .int .i64 i] W (GivesL f' er W) := by
  have h0 := fLose_any W n1 A n c B m d C k e h (fd_small h (by decide) (by decide)).1 (fd_small h (by decide) (by decide)).2 i
  rw [h3, h4] at h0
  exact h0
theorem data_nu (W : World) (b fb K N : Nat) (hC : Cd W b fb K N) (f : Finds.F) (A : Option Addr) (n c : Nat) (B : Option Addr) (m d : Nat) (C : Option Addr) (k e : Nat) (h : Fd W f A n c B m d C k e) (h1 : f.marks.length ≤ 1000) (h2 : f.which.length ≤ 1000) (er : Int) (h3 : dataE f K N (decE K N f.which f.shards) = er) :
    Calls Try.prog 14 #[cptr b, fval f.stripe f.version f.need f.phase (.slice A n c) (.slice B m d) (.slice C k e)] W (GivesME (dataM f K N (decM K N f.which f.shards)) er W) := by
  have h0 := fData_any W b fb K N hC f A n c B m d C k e h (fd_small h h1 h2).1 (fd_small h h1 h2).2
  rw [h3] at h0
  exact h0
theorem data_nil (W : World) (f : Finds.F) (A : Option Addr) (n c : Nat) (B : Option Addr) (m d : Nat) (C : Option Addr) (k e : Nat) (h : Fd W f A n c B m d C k e) (h1 : f.marks.length ≤ 1000) (h2 : f.which.length ≤ 1000) (h3 : dataE f 0 0 40 = 40) :
    Calls Try.prog 14 #[.pointer none, fval f.stripe f.version f.need f.phase (.slice A n c) (.slice B m d) (.slice C k e)] W (GivesME [] 40 W) := by
  have h0 := fData_none W f A n c B m d C k e h (fd_small h h1 h2).1 (fd_small h h1 h2).2
  rw [h3] at h0
  exact h0
theorem told_nought (W : World) : Calls Try.prog 10 #[fval 0 0 0 0 (.slice none 0 0) (.slice none 0 0) (.slice none 0 0), .int .i64 0, .int .i64 0, .slice none 0 0] W fun e w' => ∃ A n c B m d C k e9, e = .returned (.tuple #[fval Finds.nought.stripe Finds.nought.version Finds.nought.need Finds.nought.phase (.slice A n c) (.slice B m d) (.slice C k e9), .int .i64 140]) ∧ Fd w' Finds.nought A n c B m d C k e9 ∧ Ext W w' :=
  told_not W Finds.nought none 0 0 none 0 0 none 0 0 ⟨Is.none W, Is.none W, Mx.none W⟩ (by decide) (by decide) 0 nu_told_nought.1 nu_told_nought.2
theorem data_nought (W : World) (b fb : Nat) (hC : Cd W b fb 2 4) : Calls Try.prog 14 #[cptr b, fval 0 0 0 0 (.slice none 0 0) (.slice none 0 0) (.slice none 0 0)] W (GivesME (dataM Finds.nought 2 4 (decM 2 4 Finds.nought.which Finds.nought.shards)) 140 W) :=
  data_nu W b fb 2 4 hC Finds.nought none 0 0 none 0 0 none 0 0 ⟨Is.none W, Is.none W, Mx.none W⟩ (by decide) (by decide) 140 nu_data.2.2.2.2.2
theorem fd_nought (w : World) : Fd w Finds.nought none 0 0 none 0 0 none 0 0 := ⟨Is.none w, Is.none w, Mx.none w⟩
theorem opg (W : World) : Os13 (((W.alloc (.cells #[.int .u8 1] 5)).alloc (.cells #[] 5)).alloc (.cells #[.bool false, .int .i64 0, .int .i64 0, .slice none 0 0, .bool false, .int .i64 1, .int .i64 0, .slice (some ⟨W.heap.size, 0, none⟩) 1 1, .bool false, .int .i64 2, .int .i64 120, .slice (some ⟨W.heap.size + 1, 0, none⟩) 0 0, .bool false, .int .i64 0, .int .i64 60, .slice none 0 0] 37)) (some ⟨W.heap.size + 1 + 1, 0, none⟩) 4 4
    (fun k => if k = 0 then ⟨false, 0, 0, none, 0, 0, []⟩ else if k = 1 then ⟨false, 1, 0, some ⟨W.heap.size, 0, none⟩, 1, 1, [1]⟩ else if k = 2 then ⟨false, 2, 120, some ⟨W.heap.size + 1, 0, none⟩, 0, 0, []⟩ else ⟨false, 0, 60, none, 0, 0, []⟩) := by
  have hb := (((bs_lit W rfl [1] #[.int .u8 1] 5 (n := 1) rfl rfl (by omega)).ext (Ext.alloc _ (.cells #[] 5))).ext (Ext.alloc _ (.cells #[.bool false, .int .i64 0, .int .i64 0, .slice none 0 0, .bool false, .int .i64 1, .int .i64 0, .slice (some ⟨W.heap.size, 0, none⟩) 1 1, .bool false, .int .i64 2, .int .i64 120, .slice (some ⟨W.heap.size + 1, 0, none⟩) 0 0, .bool false, .int .i64 0, .int .i64 60, .slice none 0 0] 37)))
  have hc0 : ∀ V : World, Bs V (some ⟨W.heap.size + 1, 0, none⟩) 0 0 [] := fun V => ⟨rfl, Nat.le_refl _, by omega, Rd.nil _ _ _⟩
  refine os_cells _ (W.heap.size + 1 + 1) _ (0, 0) (by have := heap_alloc_new ((W.alloc (.cells #[.int .u8 1] 5)).alloc (.cells #[] 5)) (.cells #[.bool false, .int .i64 0, .int .i64 0, .slice none 0 0, .bool false, .int .i64 1, .int .i64 0, .slice (some ⟨W.heap.size, 0, none⟩) 1 1, .bool false, .int .i64 2, .int .i64 120, .slice (some ⟨W.heap.size + 1, 0, none⟩) 0 0, .bool false, .int .i64 0, .int .i64 60, .slice none 0 0] 37); simpa using this) 4 _ (by omega) (fun k hk => ?_)
  match k, hk with
  | 0, _ => exact ⟨rfl, rfl, rfl, rfl, bs_none _⟩
  | 1, _ => exact ⟨rfl, rfl, rfl, rfl, hb⟩
  | 2, _ => exact ⟨rfl, rfl, rfl, rfl, hc0 _⟩
  | 3, _ => exact ⟨rfl, rfl, rfl, rfl, bs_none _⟩
theorem oph (W : World) : Os13 (W.alloc (.cells #[.bool false, .int .i64 3, .int .i64 0, .slice none 0 0, .bool false, .int .i64 1, .int .i64 0, .slice none 0 0, .bool false, .int .i64 2, .int .i64 0, .slice none 0 0] 37)) (some ⟨W.heap.size, 0, none⟩) 3 3 (fun k => if k = 0 then ⟨false, 3, 0, none, 0, 0, []⟩ else if k = 1 then ⟨false, 1, 0, none, 0, 0, []⟩ else ⟨false, 2, 0, none, 0, 0, []⟩) := by
  refine os_cells _ W.heap.size _ (0, 0) (heap_alloc_new W _) 3 _ (by omega) (fun k hk => ?_)
  match k, hk with
  | 0, _ => exact ⟨rfl, rfl, rfl, rfl, bs_none _⟩
  | 1, _ => exact ⟨rfl, rfl, rfl, rfl, bs_none _⟩
  | 2, _ => exact ⟨rfl, rfl, rfl, rfl, bs_none _⟩
theorem told_g (w : World) (A : Option Addr) (n c : Nat) (B : Option Addr) (m d : Nat) (C : Option Addr) (k e : Nat) (h : Fd w n0 A n c B m d C k e) : Calls Try.prog 11 #[fval n0.stripe n0.version n0.need n0.phase (.slice A n c) (.slice B m d) (.slice C k e), .slice (some ⟨w.heap.size + 1 + 1, 0, none⟩) 4 4] (((w.alloc (.cells #[.int .u8 1] 5)).alloc (.cells #[] 5)).alloc (.cells #[.bool false, .int .i64 0, .int .i64 0, .slice none 0 0, .bool false, .int .i64 1, .int .i64 0, .slice (some ⟨w.heap.size, 0, none⟩) 1 1, .bool false, .int .i64 2, .int .i64 120, .slice (some ⟨w.heap.size + 1, 0, none⟩) 0 0, .bool false, .int .i64 0, .int .i64 60, .slice none 0 0] 37)) fun e w' => GivesT13 n1 (((w.alloc (.cells #[.int .u8 1] 5)).alloc (.cells #[] 5)).alloc (.cells #[.bool false, .int .i64 0, .int .i64 0, .slice none 0 0, .bool false, .int .i64 1, .int .i64 0, .slice (some ⟨w.heap.size, 0, none⟩) 1 1, .bool false, .int .i64 2, .int .i64 120, .slice (some ⟨w.heap.size + 1, 0, none⟩) 0 0, .bool false, .int .i64 0, .int .i64 60, .slice none 0 0] 37)) e w' := told_at w n0 n1 A n c B m d C k e h nu_begin.2.2 _ 4 4 _ _ (((Ext.alloc _ _).thenAlloc _).thenAlloc _) (opg w) (fun i hi => by match i, hi with | 0, _ => exact ⟨show (0 : Int) ≤ 0 by decide, show (0 : Int) < 4 by decide⟩ | 1, _ => exact ⟨show (0 : Int) ≤ 1 by decide, show (1 : Int) < 4 by decide⟩ | 2, _ => exact ⟨show (0 : Int) ≤ 2 by decide, show (2 : Int) < 4 by decide⟩ | 3, _ => exact ⟨show (0 : Int) ≤ 0 by decide, show (0 : Int) < 4 by decide⟩) nu_g.1
theorem told_h (w : World) (A : Option Addr) (n c : Nat) (B : Option Addr) (m d : Nat) (C : Option Addr) (k e : Nat) (h : Fd w n1 A n c B m d C k e) : Calls Try.prog 11 #[fval n1.stripe n1.version n1.need n1.phase (.slice A n c) (.slice B m d) (.slice C k e), .slice (some ⟨w.heap.size, 0, none⟩) 3 3] (w.alloc (.cells #[.bool false, .int .i64 3, .int .i64 0, .slice none 0 0, .bool false, .int .i64 1, .int .i64 0, .slice none 0 0, .bool false, .int .i64 2, .int .i64 0, .slice none 0 0] 37)) fun e w' => GivesT13 n2 (w.alloc (.cells #[.bool false, .int .i64 3, .int .i64 0, .slice none 0 0, .bool false, .int .i64 1, .int .i64 0, .slice none 0 0, .bool false, .int .i64 2, .int .i64 0, .slice none 0 0] 37)) e w' := told_at w n1 n2 A n c B m d C k e h nu_g.2 _ 3 3 _ _ (Ext.alloc _ _) (oph w) (fun i hi => by match i, hi with | 0, _ => exact ⟨show (0 : Int) ≤ 3 by decide, show (3 : Int) < 4 by decide⟩ | 1, _ => exact ⟨show (0 : Int) ≤ 1 by decide, show (1 : Int) < 4 by decide⟩ | 2, _ => exact ⟨show (0 : Int) ≤ 2 by decide, show (2 : Int) < 4 by decide⟩) nu_h.1
/-- The part of a body behind so many steps. -/
def tailAt : Nat → Code → Code
  | 0, c => c
  | n + 1, .seq _ b => tailAt n b
  | _ + 1, c => c
def bodyOf (f : Func) : Code := f.body.getD Code.skip
end Go.Proofs.Ytfpglkacjecoeaa
namespace Go.Proofs.Ytfpglkacjecoeaa
open Go.RowKit

theorem is_put {w w2 : World} {y : Nat} {A : Option Addr} {n c : Nat} {l : List Int} (h : Is w A n c l) (hn : 0 < n) (h0 : Il.get l 0 ≠ 0) (hz : w.heap[y]? = some zfind) (far : ∀ q, q ≠ y → w2.heap[q]? = w.heap[q]?) : Is w2 A n c l := by
  have hz2 : w.heap[y]? = some (.cells #[.int .i64 0, .int .i64 0, .int .i64 0, .int .i64 0, .slice none 0 0, .slice none 0 0, .slice none 0 0] 27 (0, 0)) := hz
  obtain ⟨b0, o0, e0, hc0⟩ := h.rd.intAt hn
  have hby : b0 ≠ y := fun e => by
    rw [e, cell_of_row w _ _ _ _ _ hz2] at hc0
    match o0, hc0 with
    | 0, hc0 => injection hc0 with hc0; injection hc0 with _ h1; exact h0 h1.symm
    | 1, hc0 => injection hc0 with hc0; injection hc0 with _ h1; exact h0 h1.symm
    | 2, hc0 => injection hc0 with hc0; injection hc0 with _ h1; exact h0 h1.symm
    | 3, hc0 => injection hc0 with hc0; injection hc0 with _ h1; exact h0 h1.symm
    | 4, hc0 => injection hc0 with hc0; cases hc0
    | 5, hc0 => injection hc0 with hc0; cases hc0
    | 6, hc0 => injection hc0 with hc0; cases hc0
    | k + 7, hc0 => simp at hc0
  refine ⟨h.len, h.le, h.max, h.rd.1, fun hn' => ?_⟩
  obtain ⟨b, off, e, hc⟩ := h.rd.2 hn'
  rw [e0] at e
  injection e with e
  injection e with e1 e2
  refine ⟨b, off, by rw [e0, e1, e2], fun j u hu => ?_⟩
  rw [World.cell?_of_block (a := ⟨b, off + j, none⟩) (far b (by rw [← e1]; exact hby))]
  exact hc j u hu
end Go.Proofs.Ytfpglkacjecoeaa
namespace Go.Proofs.Ytfpglkacjecoeaa
open Go
section
variable {P : Program} {ops : Array Oper} {Q : Exit → Act → World → Prop} {md : Region.Mode} {S : World → Prop} {t : Nat}
/-- Number t waits for the first of the list, that one for the next, the last for number i. -/
def chainW (md : Region.Mode) (ops : Array Oper) : Nat → List Nat → Nat → Bool
  | t, [], i => Region.waitsFor md ops t i
  | t, a :: L, i => Region.waitsFor md ops t a && chainW md ops a L i
theorem chainW_next {L : List Nat} {i : Nat} : ∀ {t : Nat}, chainW md ops t L i = true → ∀ x ∈ t :: L, ∃ y, (y ∈ L ∨ y = i) ∧ Region.waitsFor md ops x y = true := by
  induction L with
  | nil =>
    intro t h x hx
    have e : x = t := by simpa using hx
    subst e
    exact ⟨i, Or.inr rfl, h⟩
  | cons a L ih =>
    intro t h x hx
    unfold chainW at h
    rw [Bool.and_eq_true] at h
    rcases List.mem_cons.1 hx with rfl | hx
    · exact ⟨a, Or.inl (List.mem_cons_self ..), h.1⟩
    · obtain ⟨y, hy, hw⟩ := ih h.2 x hx
      rcases hy with hy | hy
      · exact ⟨y, Or.inl (List.mem_cons_of_mem _ hy), hw⟩
      · exact ⟨y, Or.inr hy, hw⟩
theorem late_chain {L : List Nat} {i j : Nat} {listed : Array Bool} (hch : chainW md ops t L i = true) (hl : ∀ x ∈ t :: L, listed.getD x true = false) (hr : i ∈ Region.ready md ops listed) (hj : j ∈ Region.ready md ops listed) : ∀ x ∈ t :: L, j ≠ x := by
  rintro x hx rfl
  obtain ⟨y, hy, hw⟩ := chainW_next hch j hx
  have hyl : listed.getD y true = false := by
    rcases hy with hy | rfl
    · exact hl y (List.mem_cons_of_mem _ hy)
    · exact (mem_ready.1 hr).1
  obtain ⟨_, oj, hoj, hall⟩ := mem_ready.1 hj
  obtain ⟨o', ho', e, he, hb, hon⟩ := Region.waitsFor_spec hw
  have : o' = oj := Option.some.inj (ho'.symm.trans hoj)
  subst this
  have h2 := hall e he hb
  rw [hon, getD_both hyl] at h2
  cases h2
/-- Take number i, for which number t waits through the list, first. -/
theorem takeC (L : List Nat) {i : Nat} {oi : Oper} {v : Value} {f : Nat} {listed : Array Bool} {a : Act} {w : World} (hi : ops[i]? = some oi)
    (hs : Region.noSelect ops = true) (hf : Region.free md ops listed i = true) (hr : (Region.ready md ops listed).contains i = true) (hch : chainW md ops t L i = true) (hti : t ≠ i)
    (hQ : ∀ c a w, Q (.panic c) (a.put oi.dst v) w → Q (.panic c) a w) (ht : ((t :: L).all fun x => !listed.getD x true) = true) (hy : YieldsIf P ops S oi v a) (hS : S w)
    (h : wpAnyT P md ops Q S t f (listed.setIfInBounds i true) (a.put oi.dst v) w) : wpAnyT P md ops Q S t (f + 1) listed a w :=
  firstT (S' := S) (I := fun listed => ∀ x ∈ t :: L, listed.getD x true = false) hi (Region.noSelect_spec hs) hQ
    (fun _ _ hl hr hj _ x hx => getD_set_in (hl x hx) (late_chain hch hl hr hj x hx))
    (fun _ j w' hl hr hj hji h1 => by
      have hjt := late_chain hch hl hr hj t (List.mem_cons_self ..)
      have h2 := h1 (getD_set_in (getD_set_in (hl t (List.mem_cons_self ..)) (Ne.symm hti)) hjt)
      exact ⟨h2, fun _ => h2⟩)
    f listed a w (fun x hx => by have := List.all_eq_true.1 ht x hx; simpa using this) (Region.free_spec hi hf) (by simpa using hr) hy hS (fun _ => hS) h
end
end Go.Proofs.Ytfpglkacjecoeaa
