/- The document's many and mark: contracts. -/
import Derived.Test.YtgfhpgomlocllaaExq
import Derived.Test.YtgfhpgomlocllaaRoundBox
import Derived.Test.YtgfhpgomlocllaaRoundWant
namespace Go.Proofs.Ytgfhpgomlocllaa
open Go.RowKit

set_option maxHeartbeats 1000000 in
theorem refMany_any (w : World) (s v d p : Int) (l : List Int) (A : Option Addr) (n c : Nat) (hl : Is w A n c l) (hn : n ≤ 1000000) (kd : Int) :
    Calls Try.prog 43 #[.agg #[.int .i64 s, .int .i64 v, .int .i64 d, .int .i64 p, .slice A n c], .int .i64 kd] w fun r w' => r = .returned (.int .i64 (Rounds.many l kd)) ∧ Ext w w' := by
  have hmx := hl.max
  have hle := hl.le
  have L := Lib.hid hl.len
  go_enter Try.func43, Try.ntmps43
  go_wp2
  have x0 : Ext w (w.alloc (.cells #[.int .i64 s, .int .i64 v, .int .i64 d, .int .i64 p, .slice A n c] 25)) := Ext.alloc _ _
  have bx := Bx.new w s v d p (.slice A n c) rfl
  generalize (w.alloc (.cells #[.int .i64 s, .int .i64 v, .int .i64 d, .int .i64 p, .slice A n c] 25)) = W at *
  generalize hg : w.heap.size = g at *
  clear hg
  have c4 := bx.c4
  have hl1 := hl.ext x0
  clear bx
  go_loop [5, 6] (fun q i => ∃ k : Nat, k ≤ n ∧ i = .int .i64 k ∧ q = .int .i64 (Rounds.many (l.take k) kd)) (fun _ i => n - (intOf i).toNat)
  case atStart => exact ⟨0, by omega, rfl, rfl⟩
  case round =>
    obtain ⟨k, hk', rfl, rfl⟩ := hrel
    by_cases hlt : k < n
    · have q1 : (k : Int) < n := by omega
      obtain ⟨b, o, rfl, hc⟩ := hl1.rd.intAt hlt
      have hc0 := Rounds.many_ge (l.take k) kd
      have hc1 := Rounds.many_le (l.take k) kd
      have hc2 : (l.take k).length ≤ k := List.length_take_le _ _
      have hsn : Rounds.many (l.take (k + 1)) kd = Rounds.many (l.take k) kd + if Il.get l k = kd then 1 else 0 := by
        rw [Rounds.take_snoc (by rw [L.out]; exact hlt), Rounds.many_snoc]
      generalize Il.get l k = mk at *
      generalize Rounds.many (l.take k) kd = q at *
      have HSN := Lib.hid hsn
      clear hsn
      by_cases hin : mk = kd
      · subst hin
        rw [if_pos rfl] at HSN
        go_wp2_with (fail)
        go_round
        case rel => exact ⟨k + 1, by omega, by go_num, by rw [HSN.out]⟩
        case measure => simp [intOf]; omega
      · have e1 : (mk == kd) = false := by rw [beq_eq_false_iff_ne]; exact hin
        rw [if_neg hin, Int.add_zero] at HSN
        clear hin
        go_wp2_with (fail)
        go_round
        case rel => exact ⟨k + 1, by omega, by go_num, by rw [HSN.out]⟩
        case measure => simp [intOf]; omega
    · have q1 : ¬ (k : Int) < n := by omega
      have hall : l.take k = l := List.take_of_length_le (by rw [L.out]; omega)
      rw [hall]
      clear hall
      go_wp2_with (fail)
      go_ret
      exact ⟨rfl, x0⟩

set_option maxRecDepth 100000 in
set_option maxHeartbeats 4000000 in
theorem refMark_1 (w : World) (m o e : Int) :
    Calls Try.prog 42 #[.int .i64 1, .int .i64 m, .int .u8 o, .int .i64 e] w fun r w' => r = .returned (.int .i64 (Rounds.marked 1 m o e)) ∧ w = w' := by
  go_enter Try.func42, Try.ntmps42
  try dsimp only [List.append]
  go_wp2
  all_goals
    go_ret
    first
      | exact ⟨ret_int (by simp_all [Rounds.marked]), rfl⟩
      | exact ⟨ret_int (by simp_all [Rounds.marked]; omega), rfl⟩
set_option maxRecDepth 100000 in
set_option maxHeartbeats 4000000 in
theorem refMark_2 (w : World) (m o e : Int) :
    Calls Try.prog 42 #[.int .i64 2, .int .i64 m, .int .u8 o, .int .i64 e] w fun r w' => r = .returned (.int .i64 (Rounds.marked 2 m o e)) ∧ w = w' := by
  go_enter Try.func42, Try.ntmps42
  try dsimp only [List.append]
  go_wp2
  all_goals
    go_ret
    first
      | exact ⟨ret_int (by simp_all [Rounds.marked]), rfl⟩
      | exact ⟨ret_int (by simp_all [Rounds.marked]; omega), rfl⟩
set_option maxRecDepth 100000 in
set_option maxHeartbeats 4000000 in
theorem refMark_3 (w : World) (m o e : Int) :
    Calls Try.prog 42 #[.int .i64 3, .int .i64 m, .int .u8 o, .int .i64 e] w fun r w' => r = .returned (.int .i64 (Rounds.marked 3 m o e)) ∧ w = w' := by
  go_enter Try.func42, Try.ntmps42
  try dsimp only [List.append]
  go_wp2
  all_goals
    go_ret
    first
      | exact ⟨ret_int (by simp_all [Rounds.marked]), rfl⟩
      | exact ⟨ret_int (by simp_all [Rounds.marked]; omega), rfl⟩
set_option maxRecDepth 100000 in
set_option maxHeartbeats 4000000 in
theorem refMark_5 (w : World) (m o e : Int) :
    Calls Try.prog 42 #[.int .i64 5, .int .i64 m, .int .u8 o, .int .i64 e] w fun r w' => r = .returned (.int .i64 (Rounds.marked 5 m o e)) ∧ w = w' := by
  go_enter Try.func42, Try.ntmps42
  try dsimp only [List.append]
  go_wp2
  all_goals
    go_ret
    first
      | exact ⟨ret_int (by simp_all [Rounds.marked]), rfl⟩
      | exact ⟨ret_int (by simp_all [Rounds.marked]; omega), rfl⟩
set_option maxRecDepth 100000 in
set_option maxHeartbeats 4000000 in
theorem refMark_else (w : World) (p m o e : Int) (hp : 1 ≤ p) (h1 : p ≠ 1) (h2 : p ≠ 2) (h3 : p ≠ 3) (h5 : p ≠ 5) :
    Calls Try.prog 42 #[.int .i64 p, .int .i64 m, .int .u8 o, .int .i64 e] w fun r w' => r = .returned (.int .i64 (Rounds.marked p m o e)) ∧ w = w' := by
  have g : Rounds.marked p m o e = m := by simp [Rounds.marked, h1, h2, h3, h5]
  rw [g]
  have f1 : ¬ p ≤ 2 := by omega
  have f3 : (p == 3) = false := by rw [beq_eq_false_iff_ne]; exact h3
  have f5 : (p == 5) = false := by rw [beq_eq_false_iff_ne]; exact h5
  clear g h1 h2 h3 h5 hp
  go_enter Try.func42, Try.ntmps42
  try dsimp only [List.append]
  go_wp2
  go_ret
  exact ⟨rfl, rfl⟩
theorem refMark_any (w : World) (p m o e : Int) (hp : 1 ≤ p) :
    Calls Try.prog 42 #[.int .i64 p, .int .i64 m, .int .u8 o, .int .i64 e] w fun r w' => r = .returned (.int .i64 (Rounds.marked p m o e)) ∧ w = w' := by
  by_cases h1 : p = 1
  · subst h1; exact refMark_1 w m o e
  · by_cases h2 : p = 2
    · subst h2; exact refMark_2 w m o e
    · by_cases h3 : p = 3
      · subst h3; exact refMark_3 w m o e
      · by_cases h5 : p = 5
        · subst h5; exact refMark_5 w m o e
        · exact refMark_else w p m o e hp h1 h2 h3 h5
end Go.Proofs.Ytgfhpgomlocllaa
