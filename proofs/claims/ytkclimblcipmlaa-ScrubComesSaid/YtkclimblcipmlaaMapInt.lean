/- A map of whole numbers that the call makes: which keys have the number 1. -/
import Derived.Test.YtkclimblcipmlaaMem
import Derived.Maps.OwnOps
import Derived.Maps.OwnSet
namespace Go.Proofs.Ytkclimblcipmlaa
open Go.RowKit Go.Maps

theorem int_law : Keyed Try.prog 3 := int_keyed Try.underlying3
theorem int_zero (w : World) : (zeroValue 3).run Try.prog w = .ok (.int .i64 0) w := by kernel_rfl
/-- Block M is a map of at most n entries; each key that meets C has the number 1. -/
def Mp (w : World) (M n : Nat) (C : Int → Prop) : Prop := ∃ D : DataW Nat, w.ownsMap Try.prog 3 (plainElem Try.prog 3) M n D ∧ ∀ x, C x → D.atKey (.int .i64 x) (.lit (.int .i64 0)) = .lit (.int .i64 1)
variable {w w' : World} {M n : Nat} {C : Int → Prop}
theorem Mp.made (w : World) : Mp (w.alloc (.map #[] 0)) w.heap.size 0 (fun _ => False) := ⟨_, World.ownsMap_made _ _ _ _, fun _ h => h.elim⟩
theorem Mp.blk (h : Mp w M n C) : ∃ es k, w.heap[M]? = some (.map es k) := by
  obtain ⟨D, ⟨es, k, hb, _⟩, _⟩ := h
  exact ⟨es, k, hb⟩
theorem Mp.lt (h : Mp w M n C) : M < w.heap.size := by
  obtain ⟨es, k, hb⟩ := h.blk
  exact (Array.getElem?_eq_some_iff.1 hb).1
theorem Mp.same (h : Mp w M n C) (hb : w'.heap[M]? = w.heap[M]?) : Mp w' M n C := by
  obtain ⟨D, ⟨es, k, e, h2⟩, h3⟩ := h
  exact ⟨D, ⟨es, k, hb.trans e, h2⟩, h3⟩
theorem Mp.ext (h : Mp w M n C) (hx : Ext w w') : Mp w' M n C := h.same (hx.block M h.lt)
theorem Mp.put {D : DataW Nat} {y : Int} (h : w.ownsMap Try.prog 3 (plainElem Try.prog 3) M n D) (hC : ∀ x, C x → D.atKey (.int .i64 x) (.lit (.int .i64 0)) = .lit (.int .i64 1))
    (h' : w'.ownsMap Try.prog 3 (plainElem Try.prog 3) M (n + 1) (D.put (.int .i64 y) (.lit (.int .i64 1)))) : Mp w' M (n + 1) (fun x => C x ∨ x = y) := by
  refine ⟨_, h', fun x hx => ?_⟩
  by_cases e : x = y
  · subst e
    exact atKey_put_same h.isMap (by trivial) _ _
  · rw [atKey_put_other (fun h => e (by injection h))]
    exact hC x (hx.resolve_right e)
end Go.Proofs.Ytkclimblcipmlaa
