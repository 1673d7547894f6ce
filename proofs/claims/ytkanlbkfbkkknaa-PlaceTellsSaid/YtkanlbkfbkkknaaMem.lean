/- More words for memory: stores into what is new, rows that grow, draws. No statement of the seat is proved here. -/
import Derived.Test.YtkanlbkfbkkknaaInts
namespace Go.Proofs.Ytkanlbkfbkkknaa
open Go.RowKit

theorem Ext.set_ {w w1 : World} (h : Ext w w1) {p : Addr} (hp : w.heap.size ≤ p.block) (v : Value) : Ext w (w1.setCell p v) := Below.setCell h hp v
/-- A row of one's own is not touched by a store below. -/
theorem ownsRow_far {w : World} {base size n : Nat} {e : TypeId} {v : Value} {xs : List Value} (h : w.ownsRow base e size v n xs) {p : Addr} (hp : p.block < base) (u : Value) : (w.setCell p u).ownsRow base e size v n xs := ownsRow_setCell_below h hp u

theorem Is.grown {w w' : World} {A : Option Addr} {n c : Nat} {l : List Int} (h : Is w A n c l) {row : Option Nat} (hg : w.grownBy w' row) (ho : 0 < n → ∀ b, (A.map (·.block)) = some b → row ≠ some b) : Is w' A n c l := by
  refine ⟨h.len, h.le, h.max, h.rd.1, fun hn => ?_⟩
  obtain ⟨b, off, e, hc⟩ := h.rd.2 hn
  refine ⟨b, off, e, fun j u hu => hg.cell (hc j u hu) ?_⟩
  subst e
  exact fun e => ho hn b rfl e.symm
/-- Another row of the call's own grows. -/
theorem ownsRow_grown {w w' : World} {base size n : Nat} {e : TypeId} {v : Value} {xs : List Value} {row : Option Nat} (h : w.ownsRow base e size v n xs) (hg : w.grownBy w' row) (hv : v.ownBlock = none ∨ v.ownBlock ≠ row) : w'.ownsRow base e size v n xs := by
  refine ⟨h.1, ?_⟩
  rcases h.2 with h1 | ⟨b, cap, cur, h1, h2, h3, h4⟩
  · exact .inl h1
  · refine .inr ⟨b, cap, cur, h1, h2, ?_, h4⟩
    have hb : b < w.heap.size := (Array.getElem?_eq_some_iff.1 h3).1
    rw [hg.block b hb ?_]
    · exact h3
    · intro e
      subst h1
      rcases hv with hv | hv
      · simp [Value.ownBlock] at hv
      · exact hv (by simpa [Value.ownBlock] using e)
/-- Two rows of the call's own that are apart. -/
theorem apart_symm {u v : Value} (h : u.ownBlock = none ∨ u.ownBlock ≠ v.ownBlock) : v.ownBlock = none ∨ v.ownBlock ≠ u.ownBlock := by
  rcases h with h | h
  · rw [h]
    cases hv : v.ownBlock with
    | none => exact .inl rfl
    | some q => exact .inr (by simp)
  · exact .inr (Ne.symm h)
theorem apart_step {u v v' : Value} {N : Nat} (h : u.ownBlock = none ∨ u.ownBlock ≠ v.ownBlock) (hat : v'.ownBlock = v.ownBlock ∨ v'.ownBlock = some N) (hlt : ∀ q, u.ownBlock = some q → q < N) : u.ownBlock = none ∨ u.ownBlock ≠ v'.ownBlock := by
  rcases hat with e | e <;> rw [e]
  · exact h
  · exact .inr (fun hu => by have := hlt _ hu; omega)
theorem cell_two (w : World) (x y : Value) (t s : TypeId) : ((w.alloc (.cells #[x] t)).alloc (.cells #[y] s)).cell? ⟨w.heap.size + 1, 0, none⟩ = some y := by
  have h : w.heap.size + 1 = (w.alloc (.cells #[x] t)).heap.size := by simp
  rw [h, World.cell?_alloc_new]; rfl
theorem Ext.drew (w : World) : Ext w w.drew := Below.drew (Ext.refl w)
theorem Ext.thenDrew {w w1 : World} (h : Ext w w1) : Ext w w1.drew := h.trans (Ext.drew _)
theorem Is.up {w : World} {A : Option Addr} {n c : Nat} {l : List Int} (h : Is w A n c l) (o : Obj) : Is (w.alloc o) A n c l := h.ext (Ext.alloc _ _)
theorem Is.drw {w : World} {A : Option Addr} {n c : Nat} {l : List Int} (h : Is w A n c l) : Is w.drew A n c l := h.ext (Ext.drew _)
theorem Is.drwN {w : World} {A : Option Addr} {n c : Nat} {l : List Int} (h : Is w A n c l) (q : Nat) : Is (w.drewN q) A n c l := h.ext (Ext.drewN _ _)
/-- One number, written out. -/
theorem is_one (w : World) (t : TypeId) (k : Int) {g : Nat} (hg : w.heap.size = g) : Is (w.alloc (.cells #[.int .i64 k] t)) (some ⟨g, 0, none⟩) 1 1 [k] := Is.lit w g hg [k] _ t 1 rfl rfl (by omega)
end Go.Proofs.Ytkanlbkfbkkknaa
