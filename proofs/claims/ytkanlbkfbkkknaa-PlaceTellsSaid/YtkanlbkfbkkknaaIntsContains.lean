/- The contract of slices.Contains at []int. -/
import Derived.Test.YtkanlbkfbkkknaaIntsIndex
namespace Go.Proofs.Ytkanlbkfbkkknaa
open Go.RowKit

theorem contains_any (w : World) (A : Option Addr) (n c : Nat) (l : List Int) (v : Int) (hl : Is w A n c l) :
    Calls Try.prog 40 #[.slice A n c, .int .i64 v] w fun e w' => e = .returned (.bool (decide (v ∈ l))) ∧ w = w' := by
  go_enter Try.func40, Try.ntmps40
  go_wp2_with (fail)
  refine (index_any _ A n c l v hl).mono ?_
  rintro e w' ⟨rfl, rfl⟩
  go_wp2_with (fail)
  go_ret
  exact ⟨ret_bool (show decide (0 ≤ Il.idx l v) = decide (v ∈ l) by rw [decide_eq_decide]; exact Il.idx_mem l v), rfl⟩
end Go.Proofs.Ytkanlbkfbkkknaa
