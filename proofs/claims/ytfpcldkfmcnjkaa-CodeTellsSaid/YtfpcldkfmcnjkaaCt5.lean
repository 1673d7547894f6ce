/- Several texts in one: The contract of the document's own product. The contract of the document's own Pow. -/
import Derived.Test.YtfpcldkfmcnjkaaCt2
namespace Go.Proofs.Ytfpcldkfmcnjkaa
open Go.RowKit

def rA (a b : Nat) : Nat → Nat
  | 0 => 0
  | i + 1 => if b / 2 ^ i % 2 = 1 then rA a b i ^^^ (a * 2 ^ i) else rA a b i
def rB (p : Nat) : Nat → Nat
  | 0 => p
  | t + 1 => if rB p t / 2 ^ (14 - t) % 2 = 1 then rB p t ^^^ (285 * 2 ^ (14 - t - 8)) else rB p t

theorem shr_nat (y k : Nat) : ((y : Int) / 2 ^ k).tmod 2 = ((y / 2 ^ k % 2 : Nat) : Int) := by
  have e : ((y : Int) / 2 ^ k) = ((y / 2 ^ k : Nat) : Int) := by simp
  rw [e]
  generalize y / 2 ^ k = z
  rw [Int.tmod_eq_emod_of_nonneg (by omega)]
  simp
theorem shr_yes {y k : Nat} (h : (((y : Int) / 2 ^ k).tmod 2 == 1) = true) : y / 2 ^ k % 2 = 1 := by
  rw [shr_nat, beq_iff_eq] at h
  exact_mod_cast h
theorem shr_no {y k : Nat} (h : (((y : Int) / 2 ^ k).tmod 2 == 1) = false) : ¬ y / 2 ^ k % 2 = 1 := by
  rw [shr_nat, beq_eq_false_iff_ne] at h
  intro e
  rw [e] at h
  exact h rfl
theorem pow_le_of {k : Nat} (h : k ≤ 7) : 2 ^ k ≤ 128 := by
  have : 2 ^ k ≤ 2 ^ 7 := Nat.pow_le_pow_right (by omega) h
  exact this
theorem rA_lt (a b : Nat) (ha : a < 256) : ∀ k, k ≤ 8 → rA a b k < 2 ^ 15
  | 0, _ => by unfold rA; omega
  | k + 1, h => by
    have ih := rA_lt a b ha k (by omega)
    have hp := pow_le_of (k := k) (by omega)
    have hm : a * 2 ^ k ≤ 255 * 128 := Nat.mul_le_mul (by omega) hp
    unfold rA
    split
    · exact Nat.xor_lt_two_pow ih (by omega)
    · exact ih
theorem rA_yes {a b k : Nat} (ha : a < 256) (hk : k < 8) (h : (((b : Int) / 2 ^ k).tmod 2 == 1) = true) :
    bits .xor .i64 (rA a b k : Int) (wrap64 ((a : Int) * 2 ^ k)) = (rA a b (k + 1) : Int) := by
  have hp := pow_le_of (k := k) (by omega)
  have hm : a * 2 ^ k ≤ 255 * 128 := Nat.mul_le_mul (by omega) hp
  have e : ((a : Int) * 2 ^ k) = ((a * 2 ^ k : Nat) : Int) := by simp
  have hr := rA_lt a b ha k (by omega)
  rw [e, IntWalk.wrap64_in _ (by omega), xor_i64 _ _ (by omega) (by omega)]
  conv => rhs; unfold rA
  rw [if_pos (shr_yes h)]
theorem rA_no {a b k : Nat} (h : (((b : Int) / 2 ^ k).tmod 2 == 1) = false) : (rA a b k : Int) = (rA a b (k + 1) : Int) := by
  conv => rhs; unfold rA
  rw [if_neg (shr_no h)]

theorem rB_lt (p : Nat) (hp : p < 2 ^ 15) : ∀ t, t ≤ 7 → rB p t < 2 ^ 15
  | 0, _ => hp
  | t + 1, h => by
    have ih := rB_lt p hp t (by omega)
    have h2 := pow_le_of (k := 14 - t - 8) (by omega)
    unfold rB
    split
    · by_cases e : t = 0
      · subst e; exact Nat.xor_lt_two_pow ih (by omega)
      · have h3 : 2 ^ (14 - t - 8) ≤ 2 ^ 5 := Nat.pow_le_pow_right (by omega) (by omega)
        exact Nat.xor_lt_two_pow ih (by omega)
    · exact ih
theorem rB_yes {p t : Nat} (hp : p < 2 ^ 15) (ht : t < 7) (h : (((rB p t : Nat) : Int) / 2 ^ (14 - t)).tmod 2 = 1) :
    bits .xor .i64 (rB p t : Int) (wrap64 (285 * 2 ^ (14 - t - 8))) = (rB p (t + 1) : Int) := by
  have h2 := pow_le_of (k := 14 - t - 8) (by omega)
  have e : ((285 : Int) * 2 ^ (14 - t - 8)) = ((285 * 2 ^ (14 - t - 8) : Nat) : Int) := by simp
  have hr := rB_lt p hp t (by omega)
  rw [e, IntWalk.wrap64_in _ (by omega), xor_i64 _ _ (by omega) (by omega)]
  conv => rhs; unfold rB
  rw [if_pos (shr_yes (by rw [h]; rfl))]
theorem rB_no {p t : Nat} (h : (((rB p t : Nat) : Int) / 2 ^ (14 - t)).tmod 2 ≠ 1) : (rB p t : Int) = (rB p (t + 1) : Int) := by
  conv => rhs; unfold rB
  rw [if_neg (shr_no (beq_eq_false_iff_ne.2 h))]

/-! What the loops come to is the product. -/
theorem bit_test (p i : Nat) : (p / 2 ^ i % 2 = 1) = (p.testBit i = true) := by
  rw [Nat.testBit_eq_decide_div_mod_eq]; simp
theorem rB_xor (p q : Nat) : ∀ t, rB (p ^^^ q) t = rB p t ^^^ rB q t
  | 0 => rfl
  | t + 1 => by
    have ih := rB_xor p q t
    unfold rB
    rw [ih]
    simp only [bit_test, Nat.testBit_xor]
    generalize rB p t = x
    generalize rB q t = y
    generalize 285 * 2 ^ (14 - t - 8) = z
    cases x.testBit (14 - t) <;> cases y.testBit (14 - t) <;> simp only [Bool.xor_false, Bool.xor_true, Bool.not_false, Bool.not_true, Bool.false_eq_true, ↓reduceIte]
    · rw [Nat.xor_assoc]
    · rw [Nat.xor_assoc, Nat.xor_assoc, Nat.xor_comm y z]
    · rw [Nat.xor_comm y z, Nat.xor_assoc, ← Nat.xor_assoc z, Nat.xor_self, Nat.zero_xor]
def ps (a b : UInt8) : Nat → UInt8
  | 0 => 0
  | k + 1 => ps a b k ^^^ Gf.bitv b k (Gf.xts k a)
theorem ps_mul (a b : UInt8) : ps a b 8 = Gf.mul a b := by
  simp only [ps, Gf.mul, Gf.sum8, UInt8.zero_xor]
theorem rB_base (a : UInt8) (k : Nat) (hk : k < 8) : rB (a.toNat * 2 ^ k) 7 % 256 = (Gf.xts k a).toNat := by
  have hc : (List.range 256).all (fun i => (List.range 8).all fun k => rB (i * 2 ^ k) 7 % 256 == (Gf.xts k (UInt8.ofNat i)).toNat) = true := by decide +kernel
  have h1 := List.all_eq_true.1 hc a.toNat (List.mem_range.2 a.toNat_lt)
  have h2 := List.all_eq_true.1 h1 k (List.mem_range.2 hk)
  simpa using h2
theorem rAB (a b : UInt8) : ∀ k, k ≤ 8 → rB (rA a.toNat b.toNat k) 7 % 256 = (ps a b k).toNat
  | 0, _ => by simp only [rA, ps]; decide
  | k + 1, h => by
    have ih := rAB a b k (by omega)
    have hb := rB_base a k (by omega)
    simp only [ps, rA, Gf.bitv, bit_test]
    cases hbit : b.toNat.testBit k
    · simp only [Bool.false_eq_true, ↓reduceIte, UInt8.xor_zero]
      exact ih
    · simp only [↓reduceIte]
      rw [rB_xor, UInt8.toNat_xor, ← ih, ← hb]
      exact Nat.xor_mod_two_pow (n := 8)
theorem ref_mul (a b : UInt8) : rB (rA a.toNat b.toNat 8) 7 % 256 = (Gf.mul a b).toNat := by rw [rAB a b 8 (by omega), ps_mul]

set_option maxRecDepth 100000 in
set_option maxHeartbeats 1000000 in
theorem refMul_any (w : World) (x y : UInt8) :
    Calls Try.prog 76 #[.int .u8 (x.toNat : Int), .int .u8 (y.toNat : Int)] w fun e w' => e = .returned (.int .u8 ((Gf.mul x y).toNat : Int)) ∧ w = w' := by
  have hx := u8_int_lt x
  have hy := u8_int_lt y
  rw [← ref_mul]
  have hp15 := rA_lt x.toNat y.toNat x.toNat_lt 8 (by omega)
  go_enter Try.func76, Try.ntmps76
  go_wp2
  go_loop [5, 6] (fun p i => ∃ k : Nat, k ≤ 8 ∧ i = .int .i64 k ∧ p = .int .i64 (rA x.toNat y.toNat k : Int)) (fun _ i => 8 - (intOf i).toNat)
  case atStart => exact ⟨0, by omega, rfl, rfl⟩
  case round =>
    obtain ⟨k, hk, rfl, rfl⟩ := hrel
    by_cases hlt : k < 8
    · have hz : (k : Int) < 8 := by omega
      clear hp15
      go_wp2
      · refine ⟨⟨k + 1, by omega, by go_num, ?_⟩, by simp [intOf]; omega⟩
        rw [rA_yes x.toNat_lt hlt (by assumption)]
      · refine ⟨⟨k + 1, by omega, by go_num, ?_⟩, by simp [intOf]; omega⟩
        rw [← rA_no (by assumption)]
    · have hz : ¬ (k : Int) < 8 := by omega
      obtain rfl : k = 8 := by omega
      generalize hp : rA x.toNat y.toNat 8 = p at *
      have Hp := Lib.hid hp
      clear hp
      go_wp2
      go_loop [5, 7] (fun q i => ∃ t : Nat, t ≤ 7 ∧ i = .int .i64 (14 - (t : Int)) ∧ q = .int .i64 (rB p t : Int)) (fun _ i => (intOf i - 7).toNat)
      case atStart => exact ⟨0, by omega, rfl, rfl⟩
      case round =>
        obtain ⟨t, ht, rfl, rfl⟩ := hrel
        by_cases hlt : t < 7
        · have hz : 8 ≤ 14 - (t : Int) := by omega
          by_cases hbit : ((rB p t : Int) / 2 ^ (14 - t)).tmod 2 = 1
          · have hb := rB_yes hp15 hlt hbit
            have H := Lib.hid hb
            have h1 : (((rB p t : Int) / 2 ^ (14 - t)).tmod 2 == 1) = true := by rw [hbit]; rfl
            clear hb hbit hp15
            go_wp2
            refine ⟨⟨t + 1, by omega, by rw [show (14 : Int) - (t : Int) - 1 = 14 - ((t + 1 : Nat) : Int) by omega], ?_⟩, by simp [intOf]; omega⟩
            rw [H.out]
          · have h1 : (((rB p t : Int) / 2 ^ (14 - t)).tmod 2 == 1) = false := by rw [beq_eq_false_iff_ne]; exact hbit
            have H := Lib.hid (rB_no hbit)
            clear hbit hp15
            go_wp2
            refine ⟨⟨t + 1, by omega, by rw [show (14 : Int) - (t : Int) - 1 = 14 - ((t + 1 : Nat) : Int) by omega], ?_⟩, by simp [intOf]; omega⟩
            rw [← H.out]
        · have hz : ¬ 8 ≤ 14 - (t : Int) := by omega
          go_wp2
          go_ret
          obtain rfl : t = 7 := by omega
          exact ⟨ret_int (show ((rB p 7 : Nat) : Int) % 256 = ((rB (rA x.toNat y.toNat 8) 7 % 256 : Nat) : Int) by rw [Hp.out]; simp), rfl⟩
end Go.Proofs.Ytfpcldkfmcnjkaa
namespace Go.Proofs.Ytfpcldkfmcnjkaa
open Go.RowKit

set_option maxRecDepth 100000 in
set_option maxHeartbeats 400000 in
theorem refPow_low (w : World) (x : UInt8) (n : Int) (hn : n ≤ 0) :
    Calls Try.prog 87 #[.int .u8 (x.toNat : Int), .int .i64 n] w fun e w' => e = .returned (.int .u8 1) ∧ w = w' := by
  have h1 : ¬ 0 < n := by omega
  go_enter Try.func87, Try.ntmps87
  go_wp2
  go_loop [0, 1, 5] (fun a m s => m = .int .i64 n ∧ s = .int .u8 1) (fun _ _ _ => 0)
  case atStart => exact ⟨rfl, rfl⟩
  case round =>
    obtain ⟨rfl, rfl⟩ := hrel
    go_wp2
    go_ret
    exact ⟨rfl, rfl⟩
theorem emod_facts (k : Nat) : (k % 2 = 1 → (((k : Int) % 2 == 1) = true)) ∧ (¬ k % 2 = 1 → (((k : Int) % 2 == 1) = false)) := by
  constructor
  · intro h; rw [beq_iff_eq]; omega
  · intro h; rw [beq_eq_false_iff_ne]; omega
set_option maxRecDepth 100000 in
set_option maxHeartbeats 400000 in
theorem refPow_nat (w : World) (x : UInt8) (n : Nat) (hmax : n ≤ 9223372036854775807) :
    Calls Try.prog 87 #[.int .u8 (x.toNat : Int), .int .i64 (n : Int)] w fun e w' => e = .returned (.int .u8 ((Gf.pow x n).toNat : Int)) ∧ w = w' := by
  go_enter Try.func87, Try.ntmps87
  go_wp2
  go_loop [0, 1, 5] (fun a m s => ∃ (k : Nat) (a' x' : UInt8), k ≤ n ∧ a = .int .u8 (a'.toNat : Int) ∧ m = .int .i64 k ∧ s = .int .u8 (x'.toNat : Int) ∧ Gf.mul x' (Gf.pow a' k) = Gf.pow x n) (fun _ m _ => (intOf m).toNat)
  case atStart => exact ⟨n, x, 1, by omega, rfl, rfl, rfl, Gf.one_mul _⟩
  case round =>
    obtain ⟨k, a', x', hk, rfl, rfl, rfl, hinv⟩ := hrel
    have Hinv := Lib.hid hinv
    clear hinv
    by_cases hlt : 0 < k
    · have hz : 0 < (k : Int) := by omega
      have hp : Gf.pow a' k = Gf.mul (if k % 2 = 1 then a' else 1) (Gf.pow (Gf.mul a' a') (k / 2)) := by
        rw [Gf.pow_square]
        by_cases ho : k % 2 = 1
        · rw [if_pos ho]
          conv => lhs; rw [show k = 2 * (k / 2) + 1 by omega]
          rw [Gf.pow, Gf.mul_comm]
        · rw [if_neg ho, Gf.one_mul]
          conv => lhs; rw [show k = 2 * (k / 2) by omega]
      have Hp := Lib.hid hp
      clear hp
      by_cases ho : k % 2 = 1
      · have h1 := (emod_facts k).1 ho
        have Ho := Lib.hid ho
        clear ho
        go_wp2_with (first
          | (go_at_call_of 76 (Value.int .u8 (x'.toNat : Int)); refine (refMul_any _ x' a').mono ?_; rintro e w' ⟨rfl, rfl⟩)
          | (go_at_call 76; refine (refMul_any _ a' a').mono ?_; rintro e w' ⟨rfl, rfl⟩))
        refine ⟨⟨k / 2, Gf.mul a' a', Gf.mul x' a', by omega, rfl, by go_num, rfl, ?_⟩, by simp [intOf]; omega⟩
        rw [← Hinv.out, Hp.out, if_pos Ho.out, Gf.mul_assoc]
      · have h1 := (emod_facts k).2 ho
        have Ho := Lib.hid ho
        clear ho
        go_wp2_with (go_at_call 76; refine (refMul_any _ a' a').mono ?_; rintro e w' ⟨rfl, rfl⟩)
        refine ⟨⟨k / 2, Gf.mul a' a', x', by omega, rfl, by go_num, rfl, ?_⟩, by simp [intOf]; omega⟩
        rw [← Hinv.out, Hp.out, if_neg Ho.out, Gf.one_mul]
    · have hz : ¬ 0 < (k : Int) := by omega
      obtain rfl : k = 0 := by omega
      go_wp2
      go_ret
      exact ⟨ret_int (show (x'.toNat : Int) = ((Gf.pow x n).toNat : Int) by rw [← Hinv.out, Gf.pow, Gf.mul_one]), rfl⟩
theorem refPow_any (w : World) (x : UInt8) (n : Int) (hmax : n ≤ 9223372036854775807) :
    Calls Try.prog 87 #[.int .u8 (x.toNat : Int), .int .i64 n] w fun e w' => e = .returned (.int .u8 ((Gf.pow x n.toNat).toNat : Int)) ∧ w = w' := by
  by_cases hn : n ≤ 0
  · rw [show n.toNat = 0 by omega]
    exact refPow_low w x n hn
  · obtain ⟨m, rfl⟩ := Int.eq_ofNat_of_zero_le (show 0 ≤ n by omega)
    rw [Int.toNat_natCast]
    exact refPow_nat w x m (by omega)
end Go.Proofs.Ytfpcldkfmcnjkaa
