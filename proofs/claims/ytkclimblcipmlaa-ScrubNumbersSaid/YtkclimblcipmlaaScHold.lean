/- Scrubbings in boxes of the laws' own; the contract of the laws' takes. -/
import Derived.Test.YtkclimblcipmlaaScTake
namespace Go.Proofs.Ytkclimblcipmlaa
open Go.RowKit

/-- A list that lies in an elder block, or in one that holds whole numbers. -/
def Lo (b0 : Nat) (w : World) (n : Nat) (A : Option Addr) : Prop := 0 < n → ∃ b o, A = some ⟨b, o, none⟩ ∧ (b < b0 ∨ ∃ cs fr, w.heap[b]? = some (.cells cs 3 fr))
theorem Lo.ext {b0 : Nat} {w w' : World} {n : Nat} {A : Option Addr} (h : Lo b0 w n A) (hx : Ext w w') : Lo b0 w' n A := fun hn => by
  obtain ⟨b, o, e, hb⟩ := h hn
  refine ⟨b, o, e, hb.imp id ?_⟩
  rintro ⟨cs, fr, hb⟩
  exact ⟨cs, fr, (hx.block b (Array.getElem?_eq_some_iff.1 hb).1).trans hb⟩
theorem Fr.lo {b0 N : Nat} {w : World} {n : Nat} {A : Option Addr} (h : Fr N w n A) : Lo b0 w n A := fun hn => by
  obtain ⟨b, o, cs, fr, e, hb, _⟩ := h hn
  exact ⟨b, o, e, .inr ⟨cs, fr, hb⟩⟩
theorem Pass.lo {b0 N : Nat} {w w' : World} {er : Int} {n0 n : Nat} {A0 A : Option Addr} (h : Pass N w' er A0 n0 A n) (h0 : Lo b0 w n0 A0) (hx : Ext w w') : Lo b0 w' n A := by
  rcases h with ⟨rfl, rfl, _⟩ | h
  · exact h0.ext hx
  · exact h.lo
theorem Pass.fr {N : Nat} {w : World} {n0 n : Nat} {A0 A : Option Addr} (h : Pass N w 0 A0 n0 A n) : Fr N w n A := h.resolve_left (fun q => q.2.2 rfl)
/-- The lists of a scrubbing. -/
structure Ls (b0 : Nat) (w : World) (s : Scrubs.S) (A : Option Addr) (n c : Nat) (B : Option Addr) (m d : Nat) : Prop where
  u : Is w A n c s.urged
  b : Is w B m d s.busy
  lu : Lo b0 w n A
  lb : Lo b0 w m B
section
variable {b0 : Nat} {w w' : World} {s : Scrubs.S} {A : Option Addr} {n c : Nat} {B : Option Addr} {m d : Nat}
theorem Ls.ext (h : Ls b0 w s A n c B m d) (hx : Ext w w') : Ls b0 w' s A n c B m d := ⟨h.u.ext hx, h.b.ext hx, h.lu.ext hx, h.lb.ext hx⟩
theorem Is.only {l : List Int} (h : Is w A n c l) (hl : Lo b0 w n A) {q : Nat} (hq : b0 ≤ q) (hty : ∀ cs fr, w.heap[q]? ≠ some (.cells cs 3 fr)) (ho : ∀ b, b ≠ q → w'.heap[b]? = w.heap[b]?) : Is w' A n c l ∧ Lo b0 w' n A := by
  have key : 0 < n → ∃ b o, A = some ⟨b, o, .none⟩ ∧ b ≠ q ∧ (b < b0 ∨ ∃ cs fr, w.heap[b]? = some (.cells cs 3 fr)) := fun hn => by
    obtain ⟨b, o, e, hb⟩ := hl hn
    refine ⟨b, o, e, ?_, hb⟩
    rintro rfl
    rcases hb with hb | ⟨cs, fr, hb⟩
    · omega
    · exact hty cs fr hb
  refine ⟨⟨h.len, h.le, h.max, h.rd.1, fun hn => ?_⟩, fun hn => ?_⟩
  · obtain ⟨b, o, e, hc⟩ := h.rd.2 hn
    obtain ⟨b', o', e', hne, _⟩ := key hn
    rw [e] at e'
    injection e' with e'
    injection e' with e1 e2 _
    subst e1 e2
    exact ⟨b, o, e, fun j u hu => (World.cell?_of_block (ho b hne)).trans (hc j u hu)⟩
  · obtain ⟨b, o, e, hne, hb⟩ := key hn
    exact ⟨b, o, e, hb.imp id (fun ⟨cs, fr, hb⟩ => ⟨cs, fr, (ho b hne).trans hb⟩)⟩
theorem Ls.only (h : Ls b0 w s A n c B m d) {q : Nat} (hq : b0 ≤ q) (hty : ∀ cs fr, w.heap[q]? ≠ some (.cells cs 3 fr)) (ho : ∀ b, b ≠ q → w'.heap[b]? = w.heap[b]?) : Ls b0 w' s A n c B m d :=
  ⟨(Is.only h.u h.lu hq hty ho).1, (Is.only h.b h.lb hq hty ho).1, (Is.only h.u h.lu hq hty ho).2, (Is.only h.b h.lb hq hty ho).2⟩
theorem four_other (w : World) (g : Nat) (cu : Int) (qu : Bool) (U B : Value) : ∀ b, b ≠ g → (four w g cu qu U B).heap[b]? = w.heap[b]? := fun b hb =>
  (((heap_setCell_other _ ⟨g, 3, none⟩ b _ hb).trans (heap_setCell_other _ ⟨g, 2, none⟩ b _ hb)).trans (heap_setCell_other _ ⟨g, 1, none⟩ b _ hb)).trans (heap_setCell_other _ ⟨g, 0, none⟩ b _ hb)
theorem Sb.noInt {g : Nat} {cu : Int} {qu : Bool} {U B : Value} (h : Sb w g cu qu U B) : ∀ cs fr, w.heap[g]? ≠ some (.cells cs 3 fr) := fun cs fr e => by
  rw [h.blk] at e
  injection e with e
  injection e with _ e _
  exact absurd e (by decide)
theorem Ls.put (h : Ls b0 w s A n c B m d) {g : Nat} {cu : Int} {qu : Bool} {U V : Value} (hb : Sb w g cu qu U V) (hg : b0 ≤ g) (cu' : Int) (qu' : Bool) (U' V' : Value) : Ls b0 (four w g cu' qu' U' V') s A n c B m d :=
  h.only hg hb.noInt (four_other w g cu' qu' U' V')
theorem Sb.put {g q : Nat} {cu : Int} {qu : Bool} {U V : Value} (h : Sb w q cu qu U V) (hg : q ≠ g) (cu' : Int) (qu' : Bool) (U' V' : Value) : Sb (four w g cu' qu' U' V') q cu qu U V := ⟨(four_other w g cu' qu' U' V' q hg).trans h.blk⟩
end
theorem Ls.none (b0 : Nat) (w : World) (cu : Int) (qu : Bool) : Ls b0 w ⟨cu, qu, [], []⟩ none 0 0 none 0 0 := ⟨Is.none w, Is.none w, fun h => absurd h (Nat.lt_irrefl 0), fun h => absurd h (Nat.lt_irrefl 0)⟩
/-- What a world that began ahead of b0 sees of it is as it was. -/
def Past (b0 : Nat) (w w' : World) : Prop := ∀ w0 : World, Ext w0 w → w0.heap.size ≤ b0 → Ext w0 w'
theorem Past.trans {b0 : Nat} {w w1 w2 : World} (h : Past b0 w w1) (h2 : Past b0 w1 w2) : Past b0 w w2 := fun w0 hx hs => h2 w0 (h w0 hx hs) hs
theorem Ext.past {b0 : Nat} {w w' : World} (h : Ext w w') : Past b0 w w' := fun _ hx _ => hx.trans h
theorem Past.four {b0 : Nat} {w w' : World} (h : Past b0 w w') {g : Nat} (hg : b0 ≤ g) (cu : Int) (qu : Bool) (U B : Value) : Past b0 w (four w' g cu qu U B) := fun w0 hx hs => (h w0 hx hs).four (by omega) _ _ _ _
theorem Past.ext {b0 : Nat} {w w1 w' : World} (h : Past b0 w w1) (hx : Ext w1 w') : Past b0 w w' := fun w0 h0 hs => (h w0 h0 hs).trans hx
theorem GivesS.ls {s : Scrubs.S} {er : Int} {A0 : Option Addr} {n0 : Nat} {B0 : Option Addr} {m0 b0 : Nat} {w w' : World} {e : Ending} (h : GivesS s er A0 n0 B0 m0 w e w') (h1 : Lo b0 w n0 A0) (h2 : Lo b0 w m0 B0) :
    ∃ A n c B m d, e = .returned (.tuple #[sval s.cur s.queue (.slice A n c) (.slice B m d), .int .i64 er]) ∧ Ls b0 w' s A n c B m d ∧ Ext w w' := by
  obtain ⟨A, n, c, B, m, d, rfl, hu, hb, hx, p1, p2⟩ := h
  exact ⟨A, n, c, B, m, d, rfl, ⟨hu, hb, p1.lo h1 hx, p2.lo h2 hx⟩, hx⟩
theorem GivesN.ls {s : Scrubs.S} {x er : Int} {A0 : Option Addr} {n0 : Nat} {B0 : Option Addr} {m0 b0 : Nat} {w w' : World} {e : Ending} (h : GivesN s x er A0 n0 B0 m0 w e w') (h1 : Lo b0 w n0 A0) (h2 : Lo b0 w m0 B0) :
    ∃ A n c B m d, e = .returned (.tuple #[sval s.cur s.queue (.slice A n c) (.slice B m d), .int .i64 x, .int .i64 er]) ∧ Ls b0 w' s A n c B m d ∧ Ext w w' := by
  obtain ⟨A, n, c, B, m, d, rfl, hu, hb, hx, p1, p2⟩ := h
  exact ⟨A, n, c, B, m, d, rfl, ⟨hu, hb, p1.lo h1 hx, p2.lo h2 hx⟩, hx⟩
theorem GivesS.fr {s : Scrubs.S} {A0 : Option Addr} {n0 : Nat} {B0 : Option Addr} {m0 b0 : Nat} {w w' : World} {e : Ending} (h : GivesS s 0 A0 n0 B0 m0 w e w') :
    ∃ A n c B m d, e = .returned (.tuple #[sval s.cur s.queue (.slice A n c) (.slice B m d), .int .i64 0]) ∧ Ls b0 w' s A n c B m d ∧ Fr w.heap.size w' n A ∧ Fr w.heap.size w' m B ∧ Ext w w' := by
  obtain ⟨A, n, c, B, m, d, rfl, hu, hb, hx, p1, p2⟩ := h
  exact ⟨A, n, c, B, m, d, rfl, ⟨hu, hb, p1.fr.lo, p2.fr.lo⟩, p1.fr, p2.fr, hx⟩
/-- A scrubbing in box g. -/
def Hs (b0 : Nat) (w : World) (g : Nat) (s : Scrubs.S) : Prop := ∃ A n c B m d, Sb w g s.cur s.queue (.slice A n c) (.slice B m d) ∧ Ls b0 w s A n c B m d
theorem Hs.ext {b0 : Nat} {w w' : World} {g : Nat} {s : Scrubs.S} (h : Hs b0 w g s) (hx : Ext w w') : Hs b0 w' g s := by
  obtain ⟨A, n, c, B, m, d, h1, h2⟩ := h
  exact ⟨A, n, c, B, m, d, h1.ext hx, h2.ext hx⟩
/-- The laws' takes: does Take tell that? The scrubbing in the box turns. -/
def takesB (s : Scrubs.S) (l : List Int) (x : Int) : Bool := Scrubs.takeE s l == 0 && Scrubs.takeN s l == x
set_option maxRecDepth 100000 in
set_option maxHeartbeats 4000000 in
theorem takes_law (b0 : Nat) (w : World) (g : Nat) (s : Scrubs.S) (x : Int) (C : Option Addr) (k e0 : Nat) (l : List Int) (hl : Is w C k e0 l) (hs : Hs b0 w g s) (hg : b0 ≤ g) :
    Calls Try.prog 33 #[.pointer (some ⟨g, 0, none⟩), .int .i64 x, .slice C k e0] w fun e w' => e = .returned (.bool (takesB s l x)) ∧ Hs b0 w' g (Scrubs.takeS s l) ∧ Past b0 w w' := by
  obtain ⟨A, n, c, B, m, d, sb, ls⟩ := hs
  have q1 := ls.u.max
  have q2 := ls.u.le
  have q3 := ls.b.max
  have q4 := ls.b.le
  have q5 := hl.max
  have q6 := hl.le
  have k0 := sb.c0
  have k1 := sb.c1
  have k2 := sb.c2
  have k3 := sb.c3
  have HT := Lib.hid (scTake_any w s A n c B m d C k e0 l ls.u ls.b hl)
  have LU := Lib.hid ls.lu
  have LB := Lib.hid ls.lb
  have SB := Lib.hid sb
  clear sb ls hl
  unfold takesB
  generalize Scrubs.takeS s l = s' at *
  generalize Scrubs.takeE s l = er at *
  generalize Scrubs.takeN s l = y at *
  go_enter Try.func33, Try.ntmps33
  go_wp2_with (fail)
  refine HT.out.mono ?_
  intro e w1 hn
  obtain ⟨A1, n1, c1, B1, m1, d1, rfl, ls, x1⟩ := hn.ls LU.out LB.out
  clear hn
  have sb := SB.out.ext (x1.trans (Ext.alloc w1 (.cells #[.int .i64 s'.cur, .bool s'.queue, .slice A1 n1 c1, .slice B1 m1 d1] 24)))
  have h0 := sb.c0
  have h1 := sb.c1
  have h2 := sb.c2
  have h3 := sb.c3
  have h4 := sb.fz
  have SB1 := Lib.hid sb
  have LS := Lib.hid (ls.ext (Ext.alloc w1 (.cells #[.int .i64 s'.cur, .bool s'.queue, .slice A1 n1 c1, .slice B1 m1 d1] 24)))
  have X1 := Lib.hid x1
  clear sb ls x1
  go_wp2_with (fail)
  all_goals
    go_ret
    exact ⟨ret_bool (by simp_all), ⟨A1, n1, c1, B1, m1, d1, SB1.out.whole _ _ _ _, LS.out.put SB1.out hg _ _ _ _⟩, (X1.out.thenAlloc _).past.four hg _ _ _ _⟩
end Go.Proofs.Ytkclimblcipmlaa
