/- A round in a box of the call's own. -/
import Derived.Test.YtgfhpgomlocllaaRoundBegin
namespace Go.Proofs.Ytgfhpgomlocllaa
open Go.RowKit

/-- Block g holds a round. -/
structure Bx (w : World) (g : Nat) (s v d p : Int) (S : Value) : Prop where
  blk : w.heap[g]? = some (.cells #[.int .i64 s, .int .i64 v, .int .i64 d, .int .i64 p, S] 25 (0, 0))
section
variable {w : World} {g : Nat} {s v d p : Int} {S : Value}
theorem Bx.lt (h : Bx w g s v d p S) : g < w.heap.size := (Array.getElem?_eq_some_iff.1 h.blk).1
theorem Bx.c0 (h : Bx w g s v d p S) : w.cell? ⟨g, 0, none⟩ = some (.int .i64 s) := by rw [cell_of_row w _ _ _ _ _ h.blk]; rfl
theorem Bx.c1 (h : Bx w g s v d p S) : w.cell? ⟨g, 1, none⟩ = some (.int .i64 v) := by rw [cell_of_row w _ _ _ _ _ h.blk]; rfl
theorem Bx.c2 (h : Bx w g s v d p S) : w.cell? ⟨g, 2, none⟩ = some (.int .i64 d) := by rw [cell_of_row w _ _ _ _ _ h.blk]; rfl
theorem Bx.c3 (h : Bx w g s v d p S) : w.cell? ⟨g, 3, none⟩ = some (.int .i64 p) := by rw [cell_of_row w _ _ _ _ _ h.blk]; rfl
theorem Bx.c4 (h : Bx w g s v d p S) : w.cell? ⟨g, 4, none⟩ = some S := by rw [cell_of_row w _ _ _ _ _ h.blk]; rfl
theorem Bx.fz (h : Bx w g s v d p S) (j : Nat) : w.frozen? ⟨g, j, none⟩ = false := frozen_of_row w _ _ _ _ h.blk
theorem Bx.ext {w' : World} (h : Bx w g s v d p S) (hx : Ext w w') : Bx w' g s v d p S := ⟨(hx.block g h.lt).trans h.blk⟩
theorem Bx.set3 (h : Bx w g s v d p S) (q : Int) : Bx (w.setCell ⟨g, 3, none⟩ (.int .i64 q)) g s v d q S := ⟨heap_setCell_same w g 3 _ _ (.int .i64 q) h.blk⟩
theorem Bx.set4 (h : Bx w g s v d p S) (T : Value) : Bx (w.setCell ⟨g, 4, none⟩ T) g s v d p T := ⟨heap_setCell_same w g 4 _ _ T h.blk⟩
theorem Bx.far (h : Bx w g s v d p S) {q : Addr} (hq : q.block ≠ g) (u : Value) : Bx (w.setCell q u) g s v d p S := ⟨(heap_setCell_other w q g u (fun e => hq e.symm)).trans h.blk⟩
theorem Bx.whole (h : Bx w g s v d p S) (s' v' d' p' : Int) (S' : Value) :
    Bx (((((w.setCell ⟨g, 0, none⟩ (.int .i64 s')).setCell ⟨g, 1, none⟩ (.int .i64 v')).setCell ⟨g, 2, none⟩ (.int .i64 d')).setCell ⟨g, 3, none⟩ (.int .i64 p')).setCell ⟨g, 4, none⟩ S') g s' v' d' p' S' :=
  ⟨heap_setCell_same _ g 4 _ _ S' (heap_setCell_same _ g 3 _ _ (.int .i64 p') (heap_setCell_same _ g 2 _ _ (.int .i64 d') (heap_setCell_same _ g 1 _ _ (.int .i64 v') (heap_setCell_same w g 0 _ _ (.int .i64 s') h.blk))))⟩
end
theorem Bx.new (w : World) (s v d p : Int) (S : Value) {g : Nat} (hg : w.heap.size = g) : Bx (w.alloc (.cells #[.int .i64 s, .int .i64 v, .int .i64 d, .int .i64 p, S] 25)) g s v d p S := ⟨by rw [← hg]; exact heap_alloc_new w _⟩
/-- Where a method begins: the round in its box, a box for the result. -/
structure Two (w W : World) (g : Nat) (s v d p : Int) (S : Value) : Prop where
  a : Bx W g s v d p S
  b : Bx W (g + 1) 0 0 0 0 (.slice none 0 0)
  x : Ext w W
  base : w.heap.size ≤ g
theorem Two.start (w : World) (s v d p : Int) (S : Value) :
    Two w ((w.alloc (.cells #[.int .i64 s, .int .i64 v, .int .i64 d, .int .i64 p, S] 25)).alloc (.cells #[.int .i64 0, .int .i64 0, .int .i64 0, .int .i64 0, .slice none 0 0] 25)) w.heap.size s v d p S :=
  ⟨(Bx.new w s v d p S rfl).ext (Ext.alloc _ _), Bx.new _ 0 0 0 0 _ (by simp), (Ext.alloc _ _).thenAlloc _, Nat.le_refl _⟩
theorem Two.ext {w W W' : World} {g : Nat} {s v d p : Int} {S : Value} (h : Two w W g s v d p S) (hx : Ext W W') : Two w W' g s v d p S := ⟨h.a.ext hx, h.b.ext hx, h.x.trans hx, h.base⟩
theorem Two.set3 {w W : World} {g : Nat} {s v d p : Int} {S : Value} (h : Two w W g s v d p S) (q : Int) : Two w (W.setCell ⟨g, 3, none⟩ (.int .i64 q)) g s v d q S :=
  ⟨h.a.set3 q, h.b.far (by show g ≠ g + 1; omega) _, h.x.set_ h.base _, h.base⟩
theorem Two.set4 {w W : World} {g : Nat} {s v d p : Int} {S : Value} (h : Two w W g s v d p S) (T : Value) : Two w (W.setCell ⟨g, 4, none⟩ T) g s v d p T :=
  ⟨h.a.set4 T, h.b.far (by show g ≠ g + 1; omega) _, h.x.set_ h.base _, h.base⟩
theorem Two.far {w W : World} {g : Nat} {s v d p : Int} {S : Value} (h : Two w W g s v d p S) {q : Addr} (hq : g + 1 < q.block) (u : Value) : Two w (W.setCell q u) g s v d p S :=
  ⟨h.a.far (by omega) _, h.b.far (by omega) _, h.x.set_ (by have := h.base; omega) _, h.base⟩
/-- The end: the round is stored into the result's box. -/
theorem Two.done {w W : World} {g : Nat} {s v d p : Int} {S : Value} (h : Two w W g s v d p S) :
    Ext w (((((W.setCell ⟨g + 1, 0, none⟩ (.int .i64 s)).setCell ⟨g + 1, 1, none⟩ (.int .i64 v)).setCell ⟨g + 1, 2, none⟩ (.int .i64 d)).setCell ⟨g + 1, 3, none⟩ (.int .i64 p)).setCell ⟨g + 1, 4, none⟩ S) := by
  have hb : w.heap.size ≤ g + 1 := by have := h.base; omega
  exact ((((h.x.set_ (p := ⟨g + 1, 0, none⟩) hb _).set_ (p := ⟨g + 1, 1, none⟩) hb _).set_ (p := ⟨g + 1, 2, none⟩) hb _).set_ (p := ⟨g + 1, 3, none⟩) hb _).set_ (p := ⟨g + 1, 4, none⟩) hb _
theorem Is.five {W : World} {q n c : Nat} {D : Option Addr} {l : List Int} (h : Is W D n c l) (hp : 0 < n → ∀ b, D.map (·.block) = some b → q ≠ b) (a0 a1 a2 a3 a4 : Value) :
    Is (((((W.setCell ⟨q, 0, .none⟩ a0).setCell ⟨q, 1, .none⟩ a1).setCell ⟨q, 2, .none⟩ a2).setCell ⟨q, 3, .none⟩ a3).setCell ⟨q, 4, .none⟩ a4) D n c l :=
  ((((h.off (p := ⟨q, 0, .none⟩) hp _).off (p := ⟨q, 1, .none⟩) hp _).off (p := ⟨q, 2, .none⟩) hp _).off (p := ⟨q, 3, .none⟩) hp _).off (p := ⟨q, 4, .none⟩) hp _
theorem Ext.five {w W : World} {q : Nat} (h : Ext w W) (hq : w.heap.size ≤ q) (a0 a1 a2 a3 a4 : Value) :
    Ext w (((((W.setCell ⟨q, 0, none⟩ a0).setCell ⟨q, 1, none⟩ a1).setCell ⟨q, 2, none⟩ a2).setCell ⟨q, 3, none⟩ a3).setCell ⟨q, 4, none⟩ a4) :=
  ((((h.set_ (p := ⟨q, 0, none⟩) hq _).set_ (p := ⟨q, 1, none⟩) hq _).set_ (p := ⟨q, 2, none⟩) hq _).set_ (p := ⟨q, 3, none⟩) hq _).set_ (p := ⟨q, 4, none⟩) hq _
theorem Is.done {W : World} {base g n c : Nat} {D : Option Addr} {l : List Int} (h : W.ownsRow base 3 1 (.slice D n c) n (icells l)) (hg : g + 1 < base) (a0 a1 a2 a3 a4 : Value) :
    Is (((((W.setCell ⟨g + 1, 0, .none⟩ a0).setCell ⟨g + 1, 1, .none⟩ a1).setCell ⟨g + 1, 2, .none⟩ a2).setCell ⟨g + 1, 3, .none⟩ a3).setCell ⟨g + 1, 4, .none⟩ a4) D n c l :=
  (Own.mk (base := base) (e := 3) (ownsRow_far (ownsRow_far (ownsRow_far (ownsRow_far (ownsRow_far h (p := ⟨g + 1, 0, .none⟩) hg _) (p := ⟨g + 1, 1, .none⟩) hg _) (p := ⟨g + 1, 2, .none⟩) hg _) (p := ⟨g + 1, 3, .none⟩) hg _) (p := ⟨g + 1, 4, .none⟩) hg _)).ints
end Go.Proofs.Ytgfhpgomlocllaa
