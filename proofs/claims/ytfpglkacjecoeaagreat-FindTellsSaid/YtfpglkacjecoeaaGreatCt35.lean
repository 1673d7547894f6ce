/- Several texts in one: A region that draws its order and ends in a store: two operations of which either may come up next. No program in sight. A region that draws its order and ends in a store: three operations of which any may come up next. No program in sight. A region that draws its order and ends in an operation that waits, through others, for what is taken ahead of it. No program in sight. -/
import Derived.Test.YtfpglkacjecoeaaGreatCt9
namespace Go.Proofs.YtfpglkacjecoeaaGreat
open Go
section
variable {P : Program} {ops : Array Oper} {Q : Exit → Act → World → Prop} {md : Region.Mode} {S : World → Prop} {t : Nat}
/-- What is asked of number i if it comes up. -/
abbrev Upcoming (P : Program) (md : Region.Mode) (ops : Array Oper) (Q : Exit → Act → World → Prop) (S : World → Prop) (t f : Nat) (listed : Array Bool) (a : Act) (w : World) (i : Nat) (o : Oper) : Prop :=
  ∀ K' : Act → World → Prop, Shut (∀ a w, ((listed.setIfInBounds i true).getD t true = false → S w) → wpAnyT P md ops Q S t f (listed.setIfInBounds i true) a w → K' a w) → if Region.wanted o (yielded ops a.tmps) = true then Oper.wp P o a w K' Q else K' (a.put o.dst undef) w
/-- Numbers i and j may come up, in either order. -/
theorem twoT {i j : Nat} {oi oj : Oper} {f : Nat} {listed : Array Bool} {a : Act} {w : World} (hi : ops[i]? = some oi) (hj : ops[j]? = some oj) (hr : Region.ready md ops listed = [i, j])
    (h1 : Upcoming P md ops Q S t f listed a w i oi) (h2 : Upcoming P md ops Q S t f listed a w j oj) : wpAnyT P md ops Q S t (f + 1) listed a w := by
  refine ⟨fun h0 => (by rw [h0] at hr; cases hr), fun k hk => ?_⟩
  rw [hr] at hk
  have e : k = i ∨ k = j := by simpa using hk
  rcases e with rfl | rfl
  · exact wpOp_step hi (fun K' hK => h1 K' (fun a w hS hW => hK a w ⟨hS, hW⟩))
  · exact wpOp_step hj (fun K' hK => h2 K' (fun a w hS hW => hK a w ⟨hS, hW⟩))
end
end Go.Proofs.YtfpglkacjecoeaaGreat
namespace Go.Proofs.YtfpglkacjecoeaaGreat
open Go
section
variable {P : Program} {ops : Array Oper} {Q : Exit → Act → World → Prop} {md : Region.Mode} {S : World → Prop} {t : Nat}
theorem threeT {i j k : Nat} {oi oj ok : Oper} {f : Nat} {listed : Array Bool} {a : Act} {w : World} (hi : ops[i]? = some oi) (hj : ops[j]? = some oj) (hk : ops[k]? = some ok) (hr : Region.ready md ops listed = [i, j, k])
    (h1 : Upcoming P md ops Q S t f listed a w i oi) (h2 : Upcoming P md ops Q S t f listed a w j oj) (h3 : Upcoming P md ops Q S t f listed a w k ok) : wpAnyT P md ops Q S t (f + 1) listed a w := by
  refine ⟨fun h0 => (by rw [h0] at hr; cases hr), fun x hx => ?_⟩
  rw [hr] at hx
  have e : x = i ∨ x = j ∨ x = k := by simpa using hx
  rcases e with rfl | rfl | rfl
  · exact wpOp_step hi (fun K' hK => h1 K' (fun a w hS hW => hK a w ⟨hS, hW⟩))
  · exact wpOp_step hj (fun K' hK => h2 K' (fun a w hS hW => hK a w ⟨hS, hW⟩))
  · exact wpOp_step hk (fun K' hK => h3 K' (fun a w hS hW => hK a w ⟨hS, hW⟩))
end
end Go.Proofs.YtfpglkacjecoeaaGreat
namespace Go.Proofs.YtfpglkacjecoeaaGreat
open Go
section
variable {P : Program} {ops : Array Oper} {Q : Exit → Act → World → Prop} {md : Region.Mode} {S : World → Prop} {t : Nat}
/-- Number t waits for the first of the list, that one for the next, the last for number i. -/
def chainW (md : Region.Mode) (ops : Array Oper) : Nat → List Nat → Nat → Bool
  | t, [], i => Region.waitsFor md ops t i
  | t, a :: L, i => Region.waitsFor md ops t a && chainW md ops a L i
theorem chainW_next {L : List Nat} {i : Nat} : ∀ {t : Nat}, chainW md ops t L i = true → ∀ x ∈ t :: L, ∃ y, (y ∈ L ∨ y = i) ∧ Region.waitsFor md ops x y = true := by
  induction L with
  | nil =>
    intro t h x hx
    have e : x = t := by simpa using hx
    subst e
    exact ⟨i, Or.inr rfl, h⟩
  | cons a L ih =>
    intro t h x hx
    unfold chainW at h
    rw [Bool.and_eq_true] at h
    rcases List.mem_cons.1 hx with rfl | hx
    · exact ⟨a, Or.inl (List.mem_cons_self ..), h.1⟩
    · obtain ⟨y, hy, hw⟩ := ih h.2 x hx
      rcases hy with hy | hy
      · exact ⟨y, Or.inl (List.mem_cons_of_mem _ hy), hw⟩
      · exact ⟨y, Or.inr hy, hw⟩
theorem late_chain {L : List Nat} {i j : Nat} {listed : Array Bool} (hch : chainW md ops t L i = true) (hl : ∀ x ∈ t :: L, listed.getD x true = false) (hr : i ∈ Region.ready md ops listed) (hj : j ∈ Region.ready md ops listed) : ∀ x ∈ t :: L, j ≠ x := by
  rintro x hx rfl
  obtain ⟨y, hy, hw⟩ := chainW_next hch j hx
  have hyl : listed.getD y true = false := by
    rcases hy with hy | rfl
    · exact hl y (List.mem_cons_of_mem _ hy)
    · exact (mem_ready.1 hr).1
  obtain ⟨_, oj, hoj, hall⟩ := mem_ready.1 hj
  obtain ⟨o', ho', e, he, hb, hon⟩ := Region.waitsFor_spec hw
  have : o' = oj := Option.some.inj (ho'.symm.trans hoj)
  subst this
  have h2 := hall e he hb
  rw [hon, getD_both hyl] at h2
  cases h2
/-- Take number i, for which number t waits through the list, first. -/
theorem takeC (L : List Nat) {i : Nat} {oi : Oper} {v : Value} {f : Nat} {listed : Array Bool} {a : Act} {w : World} (hi : ops[i]? = some oi)
    (hs : Region.noSelect ops = true) (hf : Region.free md ops listed i = true) (hr : (Region.ready md ops listed).contains i = true) (hch : chainW md ops t L i = true) (hti : t ≠ i)
    (hQ : ∀ c a w, Q (.panic c) (a.put oi.dst v) w → Q (.panic c) a w) (ht : ((t :: L).all fun x => !listed.getD x true) = true) (hy : YieldsIf P ops S oi v a) (hS : S w)
    (h : wpAnyT P md ops Q S t f (listed.setIfInBounds i true) (a.put oi.dst v) w) : wpAnyT P md ops Q S t (f + 1) listed a w :=
  firstT (S' := S) (I := fun listed => ∀ x ∈ t :: L, listed.getD x true = false) hi (Region.noSelect_spec hs) hQ
    (fun _ _ hl hr hj _ x hx => getD_set_in (hl x hx) (late_chain hch hl hr hj x hx))
    (fun _ j w' hl hr hj hji h1 => by
      have hjt := late_chain hch hl hr hj t (List.mem_cons_self ..)
      have h2 := h1 (getD_set_in (getD_set_in (hl t (List.mem_cons_self ..)) (Ne.symm hti)) hjt)
      exact ⟨h2, fun _ => h2⟩)
    f listed a w (fun x hx => by have := List.all_eq_true.1 ht x hx; simpa using this) (Region.free_spec hi hf) (by simpa using hr) hy hS (fun _ => hS) h
end
end Go.Proofs.YtfpglkacjecoeaaGreat
