/- The contracts of round.want and round.marked: numbers alone. -/
import Derived.Test.YtgfhpgomlocllaaRound1
import Derived.BigQuiet
namespace Go.Proofs.Ytgfhpgomlocllaa
open Go.RowKit

set_option maxHeartbeats 2000000 in
theorem want_any (w : World) (p m : Int) :
    Calls Try.prog 41 #[.int .i64 p, .int .i64 m] w fun r w' => r = .returned (.int .u8 (Rounds.want p m)) ∧ w = w' := by
  go_enter Try.func41, Try.ntmps41
  go_wp2
  all_goals
    go_ret
    first
      | exact ⟨ret_int (by simp_all [Rounds.want]), rfl⟩
      | exact ⟨ret_int (by simp_all [Rounds.want]; omega), rfl⟩

set_option maxRecDepth 100000 in
set_option maxHeartbeats 4000000 in
theorem marked_any (w : World) (p m o e : Int) :
    Calls Try.prog 37 #[.int .i64 p, .int .i64 m, .int .u8 o, .int .i64 e] w fun r w' => r = .returned (.int .i64 (Rounds.marked p m o e)) ∧ w = w' := by
  go_enter Try.func37, Try.ntmps37
  try dsimp only [List.append]
  go_wp2
  all_goals
    go_ret
    first
      | exact ⟨ret_int (by simp_all [Rounds.marked]), rfl⟩
      | exact ⟨ret_int (by simp_all [Rounds.marked]; omega), rfl⟩
      | skip
end Go.Proofs.Ytgfhpgomlocllaa
