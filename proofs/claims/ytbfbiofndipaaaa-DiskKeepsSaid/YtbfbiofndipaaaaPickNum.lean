/- The contract of Pick. -/
import Derived.Test.YtbfbiofndipaaaaBase
namespace Go.Proofs.Ytbfbiofndipaaaa
open Go.RowKit

theorem tmod_nat (n m : Nat) : (n : Int).tmod (m : Int) = ((n % m : Nat) : Int) := by
  rw [Int.tmod_eq_emod_of_nonneg (by omega)]; simp
/-- A number from 0 to n - 1. -/
def pick (x : Int) (n : Nat) : Int := if n = 0 then 0 else if x.tmod n < 0 then x.tmod n + n else x.tmod n
theorem pick_range (x : Int) (n : Nat) (h : 0 < n) : 0 ≤ pick x n ∧ pick x n < n := by
  unfold pick
  rw [if_neg (by omega)]
  have h1 := Int.tmod_lt_of_pos x (show (0 : Int) < n by omega)
  have h2 : -(n : Int) < x.tmod n := by
    have := Int.lt_tmod_of_pos x (show (0 : Int) < n by omega)
    omega
  split <;> omega
set_option maxHeartbeats 1000000 in
theorem pick_any (w : World) (x : Int) (n : Nat) (hn : n ≤ 1000000) :
    Calls Try.prog 12 #[.int .i64 x, .int .i64 (n : Int)] w fun r w' => r = .returned (.int .i64 (pick x n)) ∧ w = w' := by
  by_cases h0 : n = 0
  · subst h0
    go_enter Try.func12, Try.ntmps12
    go_wp2
    go_ret
    exact ⟨rfl, rfl⟩
  · have hb : -(n : Int) < x.tmod n ∧ x.tmod n < n := by
      have h1 := Int.tmod_lt_of_pos x (show (0 : Int) < n by omega)
      have := Int.lt_tmod_of_pos x (show (0 : Int) < n by omega)
      omega
    have hp : pick x n = if x.tmod n < 0 then x.tmod n + n else x.tmod n := by unfold pick; rw [if_neg h0]
    rw [hp]
    have hn0 : ¬ (n : Int) ≤ 0 := by omega
    generalize ht : x.tmod (n : Int) = t at *
    by_cases hneg : t < 0
    · rw [if_pos hneg]
      clear hp
      go_enter Try.func12, Try.ntmps12
      go_wp2
      go_ret
      exact ⟨rfl, rfl⟩
    · rw [if_neg hneg]
      clear hp
      go_enter Try.func12, Try.ntmps12
      go_wp2
      go_ret
      exact ⟨rfl, rfl⟩
end Go.Proofs.Ytbfbiofndipaaaa
