/- A region that draws its order and ends in a store: two operations of which either may come up next. No program in sight. -/
import Derived.Test.YtaaegbccejjjcaaCt8
namespace Go.Proofs.Ytaaegbccejjjcaa
open Go
section
variable {P : Program} {ops : Array Oper} {Q : Exit → Act → World → Prop} {md : Region.Mode} {S : World → Prop} {t : Nat}
/-- What is asked of number i if it comes up. -/
abbrev Upcoming (P : Program) (md : Region.Mode) (ops : Array Oper) (Q : Exit → Act → World → Prop) (S : World → Prop) (t f : Nat) (listed : Array Bool) (a : Act) (w : World) (i : Nat) (o : Oper) : Prop :=
  ∀ K' : Act → World → Prop, Shut (∀ a w, ((listed.setIfInBounds i true).getD t true = false → S w) → wpAnyT P md ops Q S t f (listed.setIfInBounds i true) a w → K' a w) → if Region.wanted o (yielded ops a.tmps) = true then Oper.wp P o a w K' Q else K' (a.put o.dst undef) w
/-- Numbers i and j may come up, in either order. -/
theorem twoT {i j : Nat} {oi oj : Oper} {f : Nat} {listed : Array Bool} {a : Act} {w : World} (hi : ops[i]? = some oi) (hj : ops[j]? = some oj) (hr : Region.ready md ops listed = [i, j])
    (h1 : Upcoming P md ops Q S t f listed a w i oi) (h2 : Upcoming P md ops Q S t f listed a w j oj) : wpAnyT P md ops Q S t (f + 1) listed a w := by
  refine ⟨fun h0 => (by rw [h0] at hr; cases hr), fun k hk => ?_⟩
  rw [hr] at hk
  have e : k = i ∨ k = j := by simpa using hk
  rcases e with rfl | rfl
  · exact wpOp_step hi (fun K' hK => h1 K' (fun a w hS hW => hK a w ⟨hS, hW⟩))
  · exact wpOp_step hj (fun K' hK => h2 K' (fun a w hS hW => hK a w ⟨hS, hW⟩))
end
end Go.Proofs.Ytaaegbccejjjcaa
