/- The contract of the document's own Pow. -/
import Derived.Test.YtiianhlppkocgaaRef2Mul
namespace Go.Proofs.Ytiianhlppkocgaa
open Go.RowKit

set_option maxRecDepth 100000 in
set_option maxHeartbeats 400000 in
theorem refPow_low (w : World) (x : UInt8) (n : Int) (hn : n ≤ 0) :
    Calls Try.prog 60 #[.int .u8 (x.toNat : Int), .int .i64 n] w fun e w' => e = .returned (.int .u8 1) ∧ w = w' := by
  have h1 : ¬ 0 < n := by omega
  go_enter Try.func60, Try.ntmps60
  go_wp2
  go_loop [0, 1, 5] (fun a m s => m = .int .i64 n ∧ s = .int .u8 1) (fun _ _ _ => 0)
  case atStart => exact ⟨rfl, rfl⟩
  case round =>
    obtain ⟨rfl, rfl⟩ := hrel
    go_wp2
    go_ret
    exact ⟨rfl, rfl⟩
theorem emod_facts (k : Nat) : (k % 2 = 1 → (((k : Int) % 2 == 1) = true)) ∧ (¬ k % 2 = 1 → (((k : Int) % 2 == 1) = false)) := by
  constructor
  · intro h; rw [beq_iff_eq]; omega
  · intro h; rw [beq_eq_false_iff_ne]; omega
set_option maxRecDepth 100000 in
set_option maxHeartbeats 400000 in
theorem refPow_nat (w : World) (x : UInt8) (n : Nat) (hmax : n ≤ 9223372036854775807) :
    Calls Try.prog 60 #[.int .u8 (x.toNat : Int), .int .i64 (n : Int)] w fun e w' => e = .returned (.int .u8 ((Gf.pow x n).toNat : Int)) ∧ w = w' := by
  go_enter Try.func60, Try.ntmps60
  go_wp2
  go_loop [0, 1, 5] (fun a m s => ∃ (k : Nat) (a' x' : UInt8), k ≤ n ∧ a = .int .u8 (a'.toNat : Int) ∧ m = .int .i64 k ∧ s = .int .u8 (x'.toNat : Int) ∧ Gf.mul x' (Gf.pow a' k) = Gf.pow x n) (fun _ m _ => (intOf m).toNat)
  case atStart => exact ⟨n, x, 1, by omega, rfl, rfl, rfl, Gf.one_mul _⟩
  case round =>
    obtain ⟨k, a', x', hk, rfl, rfl, rfl, hinv⟩ := hrel
    have Hinv := Lib.hid hinv
    clear hinv
    by_cases hlt : 0 < k
    · have hz : 0 < (k : Int) := by omega
      have hp : Gf.pow a' k = Gf.mul (if k % 2 = 1 then a' else 1) (Gf.pow (Gf.mul a' a') (k / 2)) := by
        rw [Gf.pow_square]
        by_cases ho : k % 2 = 1
        · rw [if_pos ho]
          conv => lhs; rw [show k = 2 * (k / 2) + 1 by omega]
          rw [Gf.pow, Gf.mul_comm]
        · rw [if_neg ho, Gf.one_mul]
          conv => lhs; rw [show k = 2 * (k / 2) by omega]
      have Hp := Lib.hid hp
      clear hp
      by_cases ho : k % 2 = 1
      · have h1 := (emod_facts k).1 ho
        have Ho := Lib.hid ho
        clear ho
        go_wp2_with (first
          | (go_at_call_of 45 (Value.int .u8 (x'.toNat : Int)); refine (refMul_any _ x' a').mono ?_; rintro e w' ⟨rfl, rfl⟩)
          | (go_at_call 45; refine (refMul_any _ a' a').mono ?_; rintro e w' ⟨rfl, rfl⟩))
        refine ⟨⟨k / 2, Gf.mul a' a', Gf.mul x' a', by omega, rfl, by go_num, rfl, ?_⟩, by simp [intOf]; omega⟩
        rw [← Hinv.out, Hp.out, if_pos Ho.out, Gf.mul_assoc]
      · have h1 := (emod_facts k).2 ho
        have Ho := Lib.hid ho
        clear ho
        go_wp2_with (go_at_call 45; refine (refMul_any _ a' a').mono ?_; rintro e w' ⟨rfl, rfl⟩)
        refine ⟨⟨k / 2, Gf.mul a' a', x', by omega, rfl, by go_num, rfl, ?_⟩, by simp [intOf]; omega⟩
        rw [← Hinv.out, Hp.out, if_neg Ho.out, Gf.one_mul]
    · have hz : ¬ 0 < (k : Int) := by omega
      obtain rfl : k = 0 := by omega
      go_wp2
      go_ret
      exact ⟨ret_int (show (x'.toNat : Int) = ((Gf.pow x n).toNat : Int) by rw [← Hinv.out, Gf.pow, Gf.mul_one]), rfl⟩
theorem refPow_any (w : World) (x : UInt8) (n : Int) (hmax : n ≤ 9223372036854775807) :
    Calls Try.prog 60 #[.int .u8 (x.toNat : Int), .int .i64 n] w fun e w' => e = .returned (.int .u8 ((Gf.pow x n.toNat).toNat : Int)) ∧ w = w' := by
  by_cases hn : n ≤ 0
  · rw [show n.toNat = 0 by omega]
    exact refPow_low w x n hn
  · obtain ⟨m, rfl⟩ := Int.eq_ofNat_of_zero_le (show 0 ≤ n by omega)
    rw [Int.toNat_natCast]
    exact refPow_nat w x m (by omega)
end Go.Proofs.Ytiianhlppkocgaa
