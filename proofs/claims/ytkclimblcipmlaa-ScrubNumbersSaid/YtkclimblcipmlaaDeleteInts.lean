/- The contract of slices.Delete at []int, of one place, on a list of one's own: the kit's contract, laid at this program. -/
import Derived.Test.YtkclimblcipmlaaSortInts
import Derived.Test.YtkclimblcipmlaaLays
namespace Go.Proofs.Ytkclimblcipmlaa
open Go.RowKit Go.Shelf Go.Sort

theorem delete_own (w : World) (base n c i : Nat) (A : Option Addr) (l : List Int) (hl : l.length = n) (hi : i < n) (h : w.ownsRow base 3 1 (.slice A n c) n (icells l)) :
    Calls Try.prog 29 #[.slice A n c, .int .i64 (i : Int), .int .i64 ((i : Int) + 1)] w fun e w' => e = .returned (.slice A (n - 1) c) ∧ w'.ownsRow base 3 1 (.slice A (n - 1) c) (n - 1) (icells (l.eraseIdx i)) ∧ w.grownBy w' (Value.slice A n c).ownBlock := by
  obtain ⟨g, rfl, _, _⟩ := own_addr h (by omega)
  obtain ⟨hH, hb, hnc, hcm⟩ := own_holds hl h
  have hs := Any.slices_Delete_int_arr laysDelete g 0 c i (i + 1) l.toArray w hH (by simpa [hl] using hnc) (by unfold maxLen at hcm; omega) (by omega) (by simp; omega)
  rw [show l.toArray.size = n by simpa using hl] at hs
  rw [show ((i + 1 : Nat) : Int) = (i : Int) + 1 by omega] at hs
  refine hs.mono ?_
  rintro e w' ⟨rfl, q, rfl⟩
  have e1 : n - (i + 1 - i) = n - 1 := by omega
  have e2 : i + 1 - i = 1 := by omega
  rw [e1, e2]
  refine ⟨rfl, ?_⟩
  have hp := own_put (q := q) (m := l.take i ++ l.drop (i + 1) ++ List.replicate 1 0) hl h (by simp; omega) #[]
  have e3 : ∀ W : World, grow W #[] = W := fun W => by simp [grow]
  rw [e3] at hp
  refine ⟨?_, hp.2⟩
  obtain ⟨⟨h1, h2⟩, _⟩ := hp
  rcases h2 with ⟨h2, _⟩ | ⟨g', c', cur, e, hb, hg, hnc, hcm, hcs, hct⟩
  · cases h2
  injection e with e4 e5 e6
  injection e4 with e4
  injection e4 with e4 _ _
  subst e4 e6
  have he : l.eraseIdx i = l.take i ++ l.drop (i + 1) := List.eraseIdx_eq_take_drop_succ l i
  refine ⟨by rw [icells_length, List.length_eraseIdx_of_lt (by omega)]; omega, .inr ⟨g, c, cur, rfl, hb, hg, by omega, hcm, hcs, ?_⟩⟩
  rw [he]
  have := congrArg (List.take ((n - 1) * 1)) hct
  rw [List.take_take, Nat.min_eq_left (by omega)] at this
  rw [this, icells_append (l.take i ++ l.drop (i + 1)), List.take_append_of_le_length (by rw [icells_length]; simp; omega)]
  exact List.take_of_length_le (by rw [icells_length]; simp; omega)
end Go.Proofs.Ytkclimblcipmlaa
