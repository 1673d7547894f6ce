/- The contract of place.Move, whatever it is asked. -/
import Derived.Test.YtkanlbkfbkkknaaPlaceMoveOk
import Derived.Test.YtkanlbkfbkkknaaPlMore
namespace Go.Proofs.Ytkanlbkfbkkknaa
open Go.RowKit

theorem NewPs.nil {w w' : World} (h : Ext w w') : NewPs w w' (.slice none 0 0) [] := ⟨OwnPs.nil _ _ _ _, h⟩
theorem NewInts.nil {w w' : World} (h : Ext w w') : NewInts w w' (.slice none 0 0) [] := ⟨World.ownsRow_nil _ _ _ _, h⟩
theorem move_any (w : World) (A : Option Addr) (n c : Nat) (l : List Pl.P) (hl : Ps w A n c l) (a b : Int) :
    Calls Try.prog 12 #[.slice A n c, .int .i64 a, .int .i64 b] w fun r w' => ∃ v s, r = .returned (.tuple #[v, s, .int .i64 (Pl.moveE l a b)]) ∧ NewPs w w' v (Pl.moveL l a b) ∧ NewInts w w' s (Pl.moveG l a b) := by
  unfold Pl.moveE Pl.moveL Pl.moveG
  by_cases h : Pl.All l
  · by_cases hm : Pl.MayMove l a b
    · rw [if_pos h, if_pos hm, if_pos ⟨h, hm⟩, if_pos ⟨h, hm⟩]
      exact move_ok w A n c l hl a b h hm
    · refine (move_no w A n c l hl a b h hm).mono ?_
      rintro r w' ⟨rfl, hx⟩
      rw [if_pos h, if_neg hm, if_neg (fun h => hm h.2), if_neg (fun h => hm h.2)]
      exact ⟨_, _, rfl, NewPs.nil hx, NewInts.nil hx⟩
  · refine (move_arg w A n c l hl a b h).mono ?_
    rintro r w' ⟨rfl, hx⟩
    rw [if_neg h, if_neg (fun h' => h h'.1), if_neg (fun h' => h h'.1)]
    exact ⟨_, _, rfl, NewPs.nil hx, NewInts.nil hx⟩
end Go.Proofs.Ytkanlbkfbkkknaa
