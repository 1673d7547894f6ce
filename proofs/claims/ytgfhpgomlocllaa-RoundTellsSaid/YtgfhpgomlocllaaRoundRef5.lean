/- The state of the document's Told and Lose behind their loop: the round, the result's box, the new round with its own row. -/
import Derived.Test.YtgfhpgomlocllaaRoundRef3
import Derived.Test.YtgfhpgomlocllaaStep
namespace Go.Proofs.Ytgfhpgomlocllaa
open Go.RowKit

theorem Bx.grown {w w' : World} {g : Nat} {s v d p : Int} {S : Value} (h : Bx w g s v d p S) {row : Option Nat} (hg : w.grownBy w' row) (hne : some g ≠ row) : Bx w' g s v d p S := ⟨(hg.block g h.lt hne).trans h.blk⟩
/-- Behind the loop. -/
structure Tb (w W : World) (g h base : Nat) (s v d p : Int) (A : Option Addr) (n c : Nat) (D : Option Addr) (e : Nat) (M : List Int) (q : Int) : Prop where
  tw : Two w W g s v d p (.slice A n c)
  bx : Bx W h s v d q (.slice D n e)
  own : W.ownsRow base 3 1 (.slice D n e) n (icells M)
  hg : g + 1 < h
  hb : h < base
section
variable {w W W' : World} {g h base : Nat} {s v d p : Int} {A : Option Addr} {n c : Nat} {D : Option Addr} {e : Nat} {M : List Int} {q : Int}
theorem Tb.ext (t : Tb w W g h base s v d p A n c D e M q) (hx : Ext W W') : Tb w W' g h base s v d p A n c D e M q := ⟨t.tw.ext hx, t.bx.ext hx, ownsRow_ext t.own hx, t.hg, t.hb⟩
theorem Tb.set3 (t : Tb w W g h base s v d p A n c D e M q) (q' : Int) : Tb w (W.setCell ⟨h, 3, none⟩ (.int .i64 q')) g h base s v d p A n c D e M q' :=
  ⟨t.tw.far (by show g + 1 < h; exact t.hg) _, t.bx.set3 q', ownsRow_far t.own (p := ⟨h, 3, none⟩) (by show h < base; exact t.hb) _, t.hg, t.hb⟩
theorem Tb.is_ (t : Tb w W g h base s v d p A n c D e M q) : Is W D n e M := (Own.mk (base := base) (e := 3) t.own).ints
theorem Tb.grow (t : Tb w W g h base s v d p A n c D e M q) : ∀ u : Ex W, u.w.cell? ⟨g, 3, none⟩ = some (.int .i64 p) ∧ u.w.cell? ⟨h, 0, none⟩ = some (.int .i64 s) ∧ u.w.cell? ⟨h, 1, none⟩ = some (.int .i64 v) ∧ u.w.cell? ⟨h, 2, none⟩ = some (.int .i64 d) ∧ u.w.cell? ⟨h, 3, none⟩ = some (.int .i64 q) ∧ u.w.cell? ⟨h, 4, none⟩ = some (.slice D n e) :=
  fun u => have t' := t.ext u.ext; ⟨t'.tw.a.c3, t'.bx.c0, t'.bx.c1, t'.bx.c2, t'.bx.c3, t'.bx.c4⟩
theorem Tb.many (t : Tb w W g h base s v d p A n c D e M q) (hn : n ≤ 1000000) (kd : Int) (u : World) (hu : Ext W u) :
    Calls Try.prog 43 #[.agg #[.int .i64 s, .int .i64 v, .int .i64 d, .int .i64 q, .slice D n e], .int .i64 kd] u fun r w' => r = .returned (.int .i64 (Rounds.many M kd)) ∧ Ext u w' :=
  refMany_any u s v d q M D n e (t.is_.ext hu) hn kd
theorem Tb.fin (t : Tb w W g h base s v d p A n c D e M q) (r : Rounds.R) (hr : (⟨s, v, d, q, M⟩ : Rounds.R) = r) :
    GivesR A n r 0 w (.returned (.tuple #[.agg #[.int .i64 s, .int .i64 v, .int .i64 d, .int .i64 q, .slice D n e], .int .i64 0]))
      (((((W.setCell ⟨g + 1, 0, none⟩ (.int .i64 s)).setCell ⟨g + 1, 1, none⟩ (.int .i64 v)).setCell ⟨g + 1, 2, none⟩ (.int .i64 d)).setCell ⟨g + 1, 3, none⟩ (.int .i64 q)).setCell ⟨g + 1, 4, none⟩ (.slice D n e)) := by
  subst hr
  have h1 := t.tw.base
  have h2 := t.hg
  have h3 := t.hb
  refine ⟨D, n, e, rfl, Is.done t.own (by omega) _ _ _ _ _, FreshOr.own t.own (by omega), ?_⟩
  exact t.tw.x.five (by omega) _ _ _ _ _
end
/-- In the loop. -/
structure Tl (w w1 W : World) (g h base : Nat) (s v d p : Int) (A : Option Addr) (n c : Nat) (V : Value) (k : Nat) (xs : List Int) : Prop where
  tw : Two w W g s v d p (.slice A n c)
  x : Ext w1 W
  bx : Bx W h s v d p V
  own : W.ownsRow base 3 1 V k (icells xs)
  base_ : base ≤ W.heap.size
section
variable {w w1 W W' : World} {g h base : Nat} {s v d p : Int} {A : Option Addr} {n c : Nat} {V V' : Value} {k : Nat} {xs : List Int}
theorem Tl.grown {Wb : World} (t : Tl w w1 W g h base s v d p A n c V k xs) (hg : g + 1 < h) (hb : h < base) (h1 : w1.heap.size ≤ h) (hx : Ext W Wb) (x : Int) (hgr : Wb.grownBy W' V.ownBlock) :
    Bx W' h s v d p V ∧ (W'.ownsRow base 3 1 V' (k + 1) (icells xs ++ [.int .i64 x]) → Tl w w1 (W'.setCell ⟨h, 4, none⟩ V') g h base s v d p A n c V' (k + 1) (xs ++ [x])) := by
  have hr := own_row t.own
  have hne : ∀ q, q < base → some q ≠ V.ownBlock := fun q hq e => by have := hr q e.symm; omega
  have b1 := (t.bx.ext hx).grown hgr (hne h hb)
  refine ⟨b1, fun hown => ?_⟩
  have hgb := t.tw.base
  have hsz := hgr.size
  have ta : Two w W' g s v d p (.slice A n c) := ⟨(t.tw.a.ext hx).grown hgr (hne g (by omega)), (t.tw.b.ext hx).grown hgr (hne (g + 1) (by omega)), (t.tw.x.trans hx).ofGrown hgr (fun q hq => by have := hr q hq; omega), hgb⟩
  refine ⟨ta.far (by show g + 1 < h; exact hg) _, ?_, b1.set4 V', ?_, ?_⟩
  · exact Ext.set_ ((t.x.trans hx).ofGrown hgr (fun q hq => by have := hr q hq; omega)) (by show w1.heap.size ≤ h; exact h1) _
  · have := ownsRow_far hown (p := ⟨h, 4, none⟩) (by show h < base; exact hb) V'
    rw [icells_append]
    exact this
  · have := t.base_
    have := hx.size
    simp at hsz ⊢
    omega
theorem Tl.cell {Wb : World} (t : Tl w w1 W g h base s v d p A n c V k xs) (hx : Ext W Wb) (hgr : Wb.grownBy W' V.ownBlock) {q : Addr} {u : Value} (hc : W.cell? q = some u) (hq : q.block < base) : W'.cell? q = some u :=
  hgr.cell (hx.cell hc) (fun e => by have := own_row t.own q.block e.symm; omega)
end
end Go.Proofs.Ytgfhpgomlocllaa
