/- The contracts of Pick and of the laws' begun. -/
import Derived.Test.YtgfhpgomlocllaaRoundLow
import Derived.Test.YtgfhpgomlocllaaRounds3
namespace Go.Proofs.Ytgfhpgomlocllaa
open Go.RowKit

theorem tmod_nat (n m : Nat) : (n : Int).tmod (m : Int) = ((n % m : Nat) : Int) := by
  rw [Int.tmod_eq_emod_of_nonneg (by omega)]; simp
/-- A number from 0 to n - 1. -/
def pick (x : Int) (n : Nat) : Int := if n = 0 then 0 else if x.tmod n < 0 then x.tmod n + n else x.tmod n
theorem pick_range (x : Int) (n : Nat) (h : 0 < n) : 0 ≤ pick x n ∧ pick x n < n := by
  unfold pick
  rw [if_neg (by omega)]
  have h1 := Int.tmod_lt_of_pos x (show (0 : Int) < n by omega)
  have h2 : -(n : Int) < x.tmod n := by
    have := Int.lt_tmod_of_pos x (show (0 : Int) < n by omega)
    omega
  split <;> omega
set_option maxHeartbeats 1000000 in
theorem pick_any (w : World) (x : Int) (n : Nat) (hn : n ≤ 1000000) :
    Calls Try.prog 34 #[.int .i64 x, .int .i64 (n : Int)] w fun r w' => r = .returned (.int .i64 (pick x n)) ∧ w = w' := by
  by_cases h0 : n = 0
  · subst h0
    go_enter Try.func34, Try.ntmps34
    go_wp2
    go_ret
    exact ⟨rfl, rfl⟩
  · have hb : -(n : Int) < x.tmod n ∧ x.tmod n < n := by
      have h1 := Int.tmod_lt_of_pos x (show (0 : Int) < n by omega)
      have := Int.lt_tmod_of_pos x (show (0 : Int) < n by omega)
      omega
    have hp : pick x n = if x.tmod n < 0 then x.tmod n + n else x.tmod n := by unfold pick; rw [if_neg h0]
    rw [hp]
    have hn0 : ¬ (n : Int) ≤ 0 := by omega
    generalize ht : x.tmod (n : Int) = t at *
    by_cases hneg : t < 0
    · rw [if_pos hneg]
      clear hp
      go_enter Try.func34, Try.ntmps34
      go_wp2
      go_ret
      exact ⟨rfl, rfl⟩
    · rw [if_neg hneg]
      clear hp
      go_enter Try.func34, Try.ntmps34
      go_wp2
      go_ret
      exact ⟨rfl, rfl⟩

/-- The round that the laws begin with. -/
def manyOf (a : UInt8) : Nat := 1 + a.toNat % 12
def beg (a b : UInt8) : Rounds.R := Rounds.begun 5 9 ((1 + b.toNat % manyOf a : Nat) : Int) (manyOf a)
def GivesB (a b : UInt8) (w : World) (e : Ending) (w' : World) : Prop := ∃ B n d, e = .returned (.tuple #[rval (beg a b) B n d, .int .i64 (manyOf a : Nat), .bool true]) ∧ Is w' B n d (beg a b).marks ∧ FreshOr w none 0 B n ∧ Ext w w'
set_option maxRecDepth 100000 in
set_option maxHeartbeats 2000000 in
theorem begun_any (w : World) (a b : UInt8) :
    Calls Try.prog 10 #[.int .u8 (a.toNat : Int), .int .u8 (b.toNat : Int)] w (GivesB a b w) := by
  have la := a.toNat_lt
  have lb := b.toNat_lt
  go_enter Try.func10, Try.ntmps10
  try dsimp only [List.append]
  go_wp2_with (fail)
  obtain ⟨N, hN, N1, N2, N3⟩ : ∃ N : Nat, 1 + (a.toNat : Int) % 12 = (N : Int) ∧ 1 ≤ N ∧ N ≤ 12 ∧ N = manyOf a := ⟨manyOf a, by unfold manyOf; omega, by unfold manyOf; omega, by unfold manyOf; omega, rfl⟩
  rw [hN]
  obtain ⟨D, hD, D1, D2, D3⟩ : ∃ D : Nat, wrap64 (1 + (b.toNat : Int) % (N : Int)) = (D : Int) ∧ 1 ≤ D ∧ D ≤ N ∧ D = 1 + b.toNat % N := by
    have h1 : (b.toNat : Int) % (N : Int) = ((b.toNat % N : Nat) : Int) := by simp
    have h2 := Nat.mod_lt b.toNat (show 0 < N by omega)
    refine ⟨1 + b.toNat % N, ?_, by omega, by omega, rfl⟩
    rw [h1, IntWalk.wrap64_in _ (by omega)]
    omega
  rw [hD]
  have hb : beg a b = Rounds.begun 5 9 (D : Int) N := by unfold beg; rw [← N3, ← D3]
  have HB := Lib.hid hb
  have HN := Lib.hid N3
  clear hN hD D3 N3 la lb hb
  have hnm : Rounds.named 5 9 (N : Int) (D : Int) := by unfold Rounds.named; omega
  have bx := Bx.new w 0 0 0 0 (.slice none 0 0) rfl
  have hlt : w.heap.size < (w.alloc (.cells #[.int .i64 0, .int .i64 0, .int .i64 0, .int .i64 0, .slice none 0 0] 25)).heap.size := by simp
  have HL := Lib.hid hlt
  refine (begin_ok _ 5 9 D N hnm).mono ?_
  rintro x w1 ⟨B, n, c, rfl, hI, hfr, x1⟩
  have bx := bx.ext x1
  have X1 := Lib.hid ((Ext.alloc w _).trans x1)
  have hoff : 0 < n → ∀ q, B.map (·.block) = some q → w.heap.size ≠ q := hfr.off (Is.none w) (Nat.le_refl _) HL.out
  have HO := Lib.hid hoff
  have HF := Lib.hid (hfr.from_ (Ext.alloc w _))
  have hl : (Rounds.begun 5 9 (D : Int) N) = ⟨5, 9, D, 1, List.replicate N 0⟩ := rfl
  rw [hl] at hI ⊢
  clear hnm hlt HL hfr x1 hl hoff
  generalize hg : w.heap.size = g at *
  have HG := Lib.hid hg
  clear hg
  have bx2 := bx.ext (Ext.alloc w1 (.cells #[.int .i64 5, .int .i64 9, .int .i64 D, .int .i64 1, .slice B n c] 25))
  have c0 := bx2.c0
  have c1 := bx2.c1
  have c2 := bx2.c2
  have c3 := bx2.c3
  have c4 := bx2.c4
  have f0 := bx2.fz 0
  have f1 := bx2.fz 1
  have f2 := bx2.fz 2
  have f3 := bx2.fz 3
  have f4 := bx2.fz 4
  have l0 := bx.lt
  have k0 := bx.c0
  have k1 := bx.c1
  have k2 := bx.c2
  have k3 := bx.c3
  have k4 := bx.c4
  have m0 := bx.fz 0
  have m1 := bx.fz 1
  have m2 := bx.fz 2
  have m3 := bx.fz 3
  have m4 := bx.fz 4
  have BX := Lib.hid bx
  clear bx bx2
  go_wp2_with (fail)
  have fb := (BX.out.whole 5 9 D 1 (.slice B n c)).ext (Ext.alloc _ (.cells #[.int .i64 5, .int .i64 9, .int .i64 D, .int .i64 1, .slice B n c] 25))
  refine bodyPost_ret (v := .tuple #[.agg #[.int .i64 5, .int .i64 9, .int .i64 D, .int .i64 1, .slice B n c], .int .i64 N, .bool true]) (by simp [results, Try.results10, go_sem, fb.c0, fb.c1, fb.c2, fb.c3, fb.c4]) rfl ?_
  unfold GivesB
  rw [HB.out, ← HN.out]
  exact ⟨B, n, c, rfl, (hI.five HO.out _ _ _ _ _).ext (Ext.alloc _ _), HF.out, (X1.out.five (by rw [HG.out]; exact Nat.le_refl _) _ _ _ _ _).thenAlloc _⟩
end Go.Proofs.Ytgfhpgomlocllaa
