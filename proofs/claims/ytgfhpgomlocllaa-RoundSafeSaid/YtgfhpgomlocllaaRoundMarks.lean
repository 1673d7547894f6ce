/- The contract of the laws' marks: how many are of a kind. -/
import Derived.Test.YtgfhpgomlocllaaRoundBools
namespace Go.Proofs.Ytgfhpgomlocllaa
open Go.ChangeShapes Go.WideShapes Go.ChangeAt Go.RowKit

set_option maxRecDepth 100000 in
set_option maxHeartbeats 4000000 in
theorem marks_any (w : World) (r : Rounds.R) (A : Option Addr) (n c : Nat) (hl : Is w A n c r.marks) (hn : n ≤ 1000000) (x : Int) :
    Calls Try.prog 35 #[rval r A n c, .int .i64 x] w fun e w' => e = .returned (.int .i64 (Rounds.many r.marks x)) ∧ Ext w w' := by
  obtain ⟨s, v, d, p, l⟩ := r
  have hl' : Is w A n c l := hl
  have hmx := hl'.max
  have hle := hl'.le
  have hlen := hl'.len
  show Calls Try.prog 35 #[.agg #[.int .i64 s, .int .i64 v, .int .i64 d, .int .i64 p, .slice A n c], .int .i64 x] w fun e w' => e = .returned (.int .i64 (Rounds.many l x)) ∧ Ext w w'
  rw [Rounds.manyTo_all, hlen]
  have bx := Bx.new w s v d p (.slice A n c) rfl
  have c4 := bx.c4
  have x1 : Ext w (w.alloc (.cells #[.int .i64 s, .int .i64 v, .int .i64 d, .int .i64 p, .slice A n c] 25)) := Ext.alloc _ _
  have hl1 := hl'.ext x1
  have X1 := Lib.hid x1
  have HL := Lib.hid hl1
  clear hl hl' hl1 x1 bx
  go_enter Try.func35, Try.ntmps35
  try dsimp only [List.append]
  go_wp2_with (fail)
  clear c4
  generalize (w.alloc (.cells #[.int .i64 s, .int .i64 v, .int .i64 d, .int .i64 p, .slice A n c] 25)) = W at *
  go_loopw [5, 11] (fun s5 s11 wr => ∃ k : Nat, k ≤ n ∧ s11 = .int .i64 k ∧ s5 = .int .i64 ((Rounds.manyTo l x k : Nat) : Int) ∧ W = wr) (fun _ i _ => n - (intOf i).toNat)
  case atStart => exact ⟨0, by omega, rfl, rfl, rfl⟩
  case round =>
    obtain ⟨k, hk, rfl, rfl, rfl⟩ := hrel
    have hb := Rounds.manyTo_le l x k
    by_cases hkn : k < n
    · have q1 : (k : Int) < n := by omega
      obtain ⟨b, o, rfl, hc⟩ := HL.out.rd.intAt hkn
      have hs : Rounds.manyTo l x (k + 1) = Rounds.manyTo l x k + if Il.get l k = x then 1 else 0 := rfl
      have HS := Lib.hid hs
      clear hs
      generalize hm : Rounds.manyTo l x k = m at *
      generalize hy : Il.get l k = y at *
      by_cases e : y = x
      · have e0 : (y == x) = true := by rw [beq_iff_eq]; exact e
        have E := Lib.hid e
        clear e hm hy
        go_wp2_with (fail)
        exact ⟨⟨k + 1, by omega, rfl, by rw [HS.out, if_pos E.out]; simp, trivial⟩, by simp only [intOf]; omega⟩
      · have e0 : (y == x) = false := by rw [beq_eq_false_iff_ne]; exact e
        have E := Lib.hid e
        clear e hm hy
        go_wp2_with (fail)
        exact ⟨⟨k + 1, by omega, rfl, by rw [HS.out, if_neg E.out]; simp, trivial⟩, by simp only [intOf]; omega⟩
    · have hkk : k = n := by omega
      subst hkk
      go_wp2_with (fail)
      go_ret
      exact ⟨rfl, X1.out⟩
end Go.Proofs.Ytgfhpgomlocllaa
