/- The blocks of a matrix of one's own. No statement of the seat is proved here. -/
import Derived.Test.YtiianhlppkocgaaMq
namespace Go.Proofs.Ytiianhlppkocgaa
open Go.RowKit

/-- The blocks of a matrix of one's own. -/
def Foot (v : Value) (cs : List Value) (q : Nat) : Prop := v.ownBlock = some q ∨ ∃ (i : Nat) (u : Value), cs[i]? = some u ∧ u.ownBlock = some q
theorem Mq.foot {w : World} {base n : Nat} {P : Nat → Prop} {v : Value} {cs : List Value} {m : Gm.L} (h : Mq w base P v n cs m) {q : Nat} (hq : Foot v cs q) : base ≤ q ∧ q < w.heap.size := by
  rcases hq with hq | ⟨i, u, hu, hq⟩
  · exact h.own.lt q hq
  · exact h.block hu hq
/-- What grows another block leaves it as it is. -/
theorem Mq.grown {w w' : World} {base n : Nat} {P : Nat → Prop} {v : Value} {cs : List Value} {m : Gm.L} {row : Option Nat} (h : Mq w base P v n cs m) (hg : w.grownBy w' row) (hr : ∀ q, row = some q → ¬ Foot v cs q) : Mq w' base P v n cs m := by
  have one : ∀ {size : Nat} {e : TypeId} {u : Value} {k : Nat} {xs : List Value}, w.ownsRow base e size u k xs → (∀ q, u.ownBlock = some q → Foot v cs q) → w'.ownsRow base e size u k xs := fun {size e u k xs} ho hf => by
    refine ownsRow_grown ho hg ?_
    cases hq : u.ownBlock with
    | none => exact .inl rfl
    | some q => exact .inr (fun e2 => hr q e2.symm (hf q hq))
  exact ⟨h.len, one h.own (fun q hq => .inl hq), fun i hi => by
    obtain ⟨A, c, e, ho⟩ := h.row i hi
    exact ⟨A, c, e, one ho (fun q hq => .inr ⟨i, _, e, hq⟩)⟩, h.cool, h.hot, h.apart⟩
end Go.Proofs.Ytiianhlppkocgaa
