/- Several texts in one: The field of 256 elements, in plain words: polynomials over two elements, modulo 285; it is a field; powers of 2 go through all but nought. No program in sight. Words of our own for memory that is read, and small facts on bytes; no statement of the seat is proved here. What every statement's last step uses: how arguments that came in are opened. -/
import Derived.Test.YtfpglkacjecoeaaGreatChecked
import Derived.WalkKit
import Derived.WalkLawsBesides
import Derived.WalkSpells
import Derived.BigQuiet
import Derived.Lib.Hide
import Derived.Deep.DeepFit
import Derived.Deep.LoopGhost
import Derived.Deep.OwnShut
import Derived.Deep.Light
import Derived.Deep.RegionWith
import Derived.Deep.RegionHeld3
import Derived.BigRegion
import Derived.Deep.AppendLies
import Derived.Maps.AppendAt
import Derived.Test.YtfpglkacjecoeaaGreatRows
import Derived.ProofKit
import Derived.OpenShut
import Derived.ShutString
import Derived.ChangeOld
namespace Gf

def bitv (b : UInt8) (i : Nat) (x : UInt8) : UInt8 := if b.toNat.testBit i then x else 0
/-- Twice an element. -/
def xt (x : UInt8) : UInt8 := (x <<< 1) ^^^ bitv x 7 29
def xts : Nat → UInt8 → UInt8
  | 0, x => x
  | n + 1, x => xts n (xt x)
def sum8 (f : Nat → UInt8) : UInt8 := f 0 ^^^ f 1 ^^^ f 2 ^^^ f 3 ^^^ f 4 ^^^ f 5 ^^^ f 6 ^^^ f 7
/-- A product, bit by bit. -/
def mul (a b : UInt8) : UInt8 := sum8 fun i => bitv b i (xts i a)

theorem all256 (p : UInt8 → Bool) (h : (List.range 256).all (fun i => p (UInt8.ofNat i)) = true) (x : UInt8) : p x = true := by
  have := List.all_eq_true.1 h x.toNat (List.mem_range.2 x.toNat_lt)
  simpa using this

theorem xor_mid (a b c d : UInt8) : (a ^^^ b) ^^^ (c ^^^ d) = (a ^^^ c) ^^^ (b ^^^ d) := by
  rw [UInt8.xor_assoc, UInt8.xor_assoc, ← UInt8.xor_assoc b, ← UInt8.xor_assoc c, UInt8.xor_comm b c]

theorem bitv_zero (b : UInt8) (i : Nat) : bitv b i 0 = 0 := by unfold bitv; split <;> rfl
theorem bitv_add (b : UInt8) (i : Nat) (x y : UInt8) : bitv b i (x ^^^ y) = bitv b i x ^^^ bitv b i y := by unfold bitv; split <;> simp
theorem bitv_xor (b c : UInt8) (i : Nat) (x : UInt8) : bitv (b ^^^ c) i x = bitv b i x ^^^ bitv c i x := by
  unfold bitv
  rw [UInt8.toNat_xor, Nat.testBit_xor]
  cases b.toNat.testBit i <;> cases c.toNat.testBit i <;> simp
theorem xt_zero : xt 0 = 0 := by decide
theorem xt_add (x y : UInt8) : xt (x ^^^ y) = xt x ^^^ xt y := by
  unfold xt
  rw [bitv_xor, UInt8.shiftLeft_xor, xor_mid]
theorem xt_bitv (b : UInt8) (i : Nat) (x : UInt8) : xt (bitv b i x) = bitv b i (xt x) := by unfold bitv; split <;> simp [xt_zero]
theorem xts_add (n : Nat) : ∀ x y, xts n (x ^^^ y) = xts n x ^^^ xts n y := by
  induction n with
  | zero => intro x y; rfl
  | succ n ih => intro x y; simp only [xts, xt_add, ih]
theorem xts_zero (n : Nat) : xts n 0 = 0 := by
  induction n with
  | zero => rfl
  | succ n ih => simp only [xts, xt_zero, ih]
theorem xts_bitv (n : Nat) (b : UInt8) (i : Nat) (x : UInt8) : xts n (bitv b i x) = bitv b i (xts n x) := by unfold bitv; split <;> simp [xts_zero]
theorem xts_plus (n m : Nat) : ∀ x, xts (n + m) x = xts m (xts n x) := by
  induction n with
  | zero => intro x; simp [xts]
  | succ n ih => intro x; rw [Nat.add_right_comm]; simp only [xts, ih]
theorem xts_comm (n m : Nat) (x : UInt8) : xts n (xts m x) = xts m (xts n x) := by rw [← xts_plus, ← xts_plus, Nat.add_comm]

theorem sum8_congr {f g : Nat → UInt8} (h : ∀ i, f i = g i) : sum8 f = sum8 g := by unfold sum8; simp only [h]
theorem sum8_add (f g : Nat → UInt8) : sum8 (fun i => f i ^^^ g i) = sum8 f ^^^ sum8 g := by
  unfold sum8
  simp only [xor_mid]
theorem xts_sum8 (n : Nat) (f : Nat → UInt8) : xts n (sum8 f) = sum8 fun i => xts n (f i) := by unfold sum8; simp only [xts_add]

theorem mul_add (a b c : UInt8) : mul a (b ^^^ c) = mul a b ^^^ mul a c := by
  unfold mul; rw [← sum8_add]; exact sum8_congr fun i => bitv_xor b c i _
theorem add_mul (a b c : UInt8) : mul (a ^^^ b) c = mul a c ^^^ mul b c := by
  unfold mul; rw [← sum8_add]; exact sum8_congr fun i => by rw [xts_add, bitv_add]
theorem mul_zero (a : UInt8) : mul a 0 = 0 := by unfold mul sum8 bitv; simp
theorem zero_mul (a : UInt8) : mul 0 a = 0 := by unfold mul sum8; simp [xts_zero, bitv_zero]
theorem mul_xts (n : Nat) (a b : UInt8) : mul (xts n a) b = xts n (mul a b) := by
  unfold mul
  rw [xts_sum8]
  exact sum8_congr fun i => by rw [xts_bitv, xts_comm]
theorem mul_bitv (b : UInt8) (i : Nat) (x y : UInt8) : mul (bitv b i x) y = bitv b i (mul x y) := by unfold bitv; split <;> simp [zero_mul]
theorem one_mul (b : UInt8) : mul 1 b = b := by
  have h : (List.range 256).all (fun i => mul 1 (UInt8.ofNat i) == UInt8.ofNat i) = true := by decide +kernel
  simpa using all256 (fun b => mul 1 b == b) h b
theorem bits_of (a : UInt8) : (sum8 fun i => bitv a i (xts i 1)) = a := one_mul a
theorem sum8_mul (f : Nat → UInt8) (b : UInt8) : mul (sum8 f) b = sum8 fun i => mul (f i) b := by unfold sum8; simp only [add_mul]
theorem mul_other (a b : UInt8) : mul a b = sum8 fun i => bitv a i (xts i b) := by
  have h : mul (sum8 fun i => bitv a i (xts i 1)) b = sum8 fun i => bitv a i (xts i b) := by
    rw [sum8_mul]
    exact sum8_congr fun i => by rw [mul_bitv, mul_xts, one_mul]
  rwa [bits_of] at h
theorem mul_comm (a b : UInt8) : mul a b = mul b a := by rw [mul_other]; rfl
theorem mul_one (a : UInt8) : mul a 1 = a := by rw [mul_comm, one_mul]
theorem mul_assoc (a b c : UInt8) : mul (mul a b) c = mul a (mul b c) := by
  rw [mul_other a b, mul_other a (mul b c), sum8_mul]
  exact sum8_congr fun i => by rw [mul_bitv, mul_xts]

theorem xt_mul (x : UInt8) : xt x = mul x 2 := by
  have h : xts 1 (mul x 1) = mul (xts 1 x) 1 := (mul_xts 1 x 1).symm
  rw [mul_one] at h
  rw [mul_comm]
  have e : (2 : UInt8) = xts 1 1 := by decide
  rw [e, mul_xts, one_mul]
  rfl

/-! Powers of 2, and logarithms. -/
def gexp (n : Nat) : UInt8 := xts n 1
def expT : List UInt8 := [1, 2, 4, 8, 16, 32, 64, 128, 29, 58, 116, 232, 205, 135, 19, 38, 76, 152, 45, 90, 180, 117, 234, 201, 143, 3, 6, 12, 24, 48, 96, 192, 157, 39, 78, 156, 37, 74, 148, 53, 106, 212, 181, 119, 238, 193, 159, 35, 70, 140, 5, 10, 20, 40, 80, 160, 93, 186, 105, 210, 185, 111, 222, 161, 95, 190, 97, 194, 153, 47, 94, 188, 101, 202, 137, 15, 30, 60, 120, 240, 253, 231, 211, 187, 107, 214, 177, 127, 254, 225, 223, 163, 91, 182, 113, 226, 217, 175, 67, 134, 17, 34, 68, 136, 13, 26, 52, 104, 208, 189, 103, 206, 129, 31, 62, 124, 248, 237, 199, 147, 59, 118, 236, 197, 151, 51, 102, 204, 133, 23, 46, 92, 184, 109, 218, 169, 79, 158, 33, 66, 132, 21, 42, 84, 168, 77, 154, 41, 82, 164, 85, 170, 73, 146, 57, 114, 228, 213, 183, 115, 230, 209, 191, 99, 198, 145, 63, 126, 252, 229, 215, 179, 123, 246, 241, 255, 227, 219, 171, 75, 150, 49, 98, 196, 149, 55, 110, 220, 165, 87, 174, 65, 130, 25, 50, 100, 200, 141, 7, 14, 28, 56, 112, 224, 221, 167, 83, 166, 81, 162, 89, 178, 121, 242, 249, 239, 195, 155, 43, 86, 172, 69, 138, 9, 18, 36, 72, 144, 61, 122, 244, 245, 247, 243, 251, 235, 203, 139, 11, 22, 44, 88, 176, 125, 250, 233, 207, 131, 27, 54, 108, 216, 173, 71, 142]
def logT : List Nat := [0, 0, 1, 25, 2, 50, 26, 198, 3, 223, 51, 238, 27, 104, 199, 75, 4, 100, 224, 14, 52, 141, 239, 129, 28, 193, 105, 248, 200, 8, 76, 113, 5, 138, 101, 47, 225, 36, 15, 33, 53, 147, 142, 218, 240, 18, 130, 69, 29, 181, 194, 125, 106, 39, 249, 185, 201, 154, 9, 120, 77, 228, 114, 166, 6, 191, 139, 98, 102, 221, 48, 253, 226, 152, 37, 179, 16, 145, 34, 136, 54, 208, 148, 206, 143, 150, 219, 189, 241, 210, 19, 92, 131, 56, 70, 64, 30, 66, 182, 163, 195, 72, 126, 110, 107, 58, 40, 84, 250, 133, 186, 61, 202, 94, 155, 159, 10, 21, 121, 43, 78, 212, 229, 172, 115, 243, 167, 87, 7, 112, 192, 247, 140, 128, 99, 13, 103, 74, 222, 237, 49, 197, 254, 24, 227, 165, 153, 119, 38, 184, 180, 124, 17, 68, 146, 217, 35, 32, 137, 46, 55, 63, 209, 91, 149, 188, 207, 205, 144, 135, 151, 178, 220, 252, 190, 97, 242, 86, 211, 171, 20, 42, 93, 158, 132, 60, 57, 83, 71, 109, 65, 162, 31, 45, 67, 216, 183, 123, 164, 118, 196, 23, 73, 236, 127, 12, 111, 246, 108, 161, 59, 82, 41, 157, 85, 170, 251, 96, 134, 177, 187, 204, 62, 90, 203, 89, 95, 176, 156, 169, 160, 81, 11, 245, 22, 235, 122, 117, 44, 215, 79, 174, 213, 233, 230, 231, 173, 232, 116, 214, 244, 234, 168, 80, 88, 175]
def glog (x : UInt8) : Nat := logT.getD x.toNat 0

theorem xts_one (n : Nat) (x : UInt8) : xts (n + 1) x = xt (xts n x) := by rw [xts_plus]; rfl
theorem gexp_zero : gexp 0 = 1 := rfl
theorem gexp_succ (n : Nat) : gexp (n + 1) = xt (gexp n) := xts_one n 1
theorem gexp_add (i j : Nat) : gexp (i + j) = mul (gexp i) (gexp j) := by
  unfold gexp
  rw [mul_xts, one_mul, Nat.add_comm, xts_plus]
theorem expT_ok : ∀ i, i < 255 → expT.getD i 0 = gexp i := by
  have h : (List.range 254).all (fun i => expT.getD (i + 1) 0 == xt (expT.getD i 0)) = true := by decide +kernel
  intro i
  induction i with
  | zero => intro _; rfl
  | succ i ih =>
    intro hi
    have h1 := List.all_eq_true.1 h i (List.mem_range.2 (by omega))
    rw [gexp_succ, ← ih (by omega)]
    simpa using h1
theorem gexp_255 : gexp 255 = 1 := by
  rw [gexp_succ 254, ← expT_ok 254 (by omega)]
  decide
theorem gexp_period (n : Nat) : gexp (n + 255) = gexp n := by rw [gexp_add, gexp_255, mul_one]
theorem gexp_mod (n : Nat) : gexp (n % 255) = gexp n := by
  induction n using Nat.strongRecOn with
  | ind n ih =>
    by_cases h : n < 255
    · rw [Nat.mod_eq_of_lt h]
    · have h1 := ih (n - 255) (by omega)
      have e : n = (n - 255) + 255 := by omega
      rw [e, Nat.add_mod_right, gexp_period, h1]
theorem gexp_glog (x : UInt8) (h : x ≠ 0) : gexp (glog x) = x ∧ glog x < 255 := by
  have hc : (List.range 256).all (fun i => UInt8.ofNat i == 0 || expT.getD (logT.getD i 0) 0 == UInt8.ofNat i && decide (logT.getD i 0 < 255)) = true := by decide +kernel
  have h1 := List.all_eq_true.1 hc x.toNat (List.mem_range.2 x.toNat_lt)
  simp only [UInt8.ofNat_toNat, Bool.or_eq_true, beq_iff_eq, Bool.and_eq_true, decide_eq_true_eq] at h1
  rcases h1 with h1 | ⟨h1, h2⟩
  · exact absurd h1 h
  · refine ⟨?_, h2⟩
    show gexp (logT.getD x.toNat 0) = x
    rw [← expT_ok _ h2]
    exact h1
theorem glog_lt (x : UInt8) : glog x < 255 := by
  by_cases h : x = 0
  · subst h; decide
  · exact (gexp_glog x h).2
theorem glog_gexp (i : Nat) (h : i < 255) : glog (gexp i) = i := by
  have hc : (List.range 255).all (fun i => logT.getD (expT.getD i 0).toNat 0 == i) = true := by decide +kernel
  have h1 := List.all_eq_true.1 hc i (List.mem_range.2 h)
  rw [expT_ok i h] at h1
  simpa [glog] using h1
theorem gexp_ne (i : Nat) : gexp i ≠ 0 := by
  have hc : (List.range 255).all (fun i => expT.getD i 0 != 0) = true := by decide +kernel
  have hm := Nat.mod_lt i (show 0 < 255 by omega)
  have h1 := List.all_eq_true.1 hc (i % 255) (List.mem_range.2 hm)
  rw [expT_ok _ hm, gexp_mod] at h1
  simpa using h1
theorem gexp_inj {i j : Nat} (hi : i < 255) (hj : j < 255) (h : gexp i = gexp j) : i = j := by
  rw [← glog_gexp i hi, ← glog_gexp j hj, h]
theorem glog_one : glog 1 = 0 := by decide

theorem mul_eq_zero {a b : UInt8} (h : mul a b = 0) : a = 0 ∨ b = 0 := by
  by_cases ha : a = 0
  · exact .inl ha
  · by_cases hb : b = 0
    · exact .inr hb
    · have h1 := gexp_glog a ha
      have h2 := gexp_glog b hb
      rw [← h1.1, ← h2.1, ← gexp_add] at h
      exact absurd h (gexp_ne _)
theorem mul_ne {a b : UInt8} (ha : a ≠ 0) (hb : b ≠ 0) : mul a b ≠ 0 := fun h => (mul_eq_zero h).elim ha hb

/-- The product by way of logarithms. -/
theorem mul_log {a b : UInt8} (ha : a ≠ 0) (hb : b ≠ 0) : gexp (glog a + glog b) = mul a b := by
  rw [gexp_add, (gexp_glog a ha).1, (gexp_glog b hb).1]

def inv (a : UInt8) : UInt8 := if a = 0 then 0 else gexp (255 - glog a)
theorem mul_inv {a : UInt8} (ha : a ≠ 0) : mul a (inv a) = 1 := by
  unfold inv
  rw [if_neg ha]
  have h1 := gexp_glog a ha
  have e : gexp (glog a + (255 - glog a)) = 1 := by rw [show glog a + (255 - glog a) = 255 by omega, gexp_255]
  rwa [gexp_add, h1.1] at e
theorem inv_mul {a : UInt8} (ha : a ≠ 0) : mul (inv a) a = 1 := by rw [mul_comm, mul_inv ha]
def div (a b : UInt8) : UInt8 := mul a (inv b)
theorem div_mul {a b : UInt8} (hb : b ≠ 0) : mul (div a b) b = a := by unfold div; rw [mul_assoc, inv_mul hb, mul_one]
theorem mul_right_cancel {a b c : UInt8} (hc : c ≠ 0) (h : mul a c = mul b c) : a = b := by
  have h1 : mul (mul a c) (inv c) = mul (mul b c) (inv c) := by rw [h]
  rwa [mul_assoc, mul_assoc, mul_inv hc, mul_one, mul_one] at h1
theorem div_log {a b : UInt8} (ha : a ≠ 0) (hb : b ≠ 0) : gexp (glog a + 255 - glog b) = div a b := by
  unfold div inv
  rw [if_neg hb, show glog a + 255 - glog b = glog a + (255 - glog b) by have := glog_lt b; omega, gexp_add, (gexp_glog a ha).1]

/-- A power. -/
def pow (a : UInt8) : Nat → UInt8
  | 0 => 1
  | n + 1 => mul (pow a n) a
theorem pow_add (a : UInt8) (n m : Nat) : pow a (n + m) = mul (pow a n) (pow a m) := by
  induction m with
  | zero => simp [pow, mul_one]
  | succ m ih => rw [← Nat.add_assoc]; simp only [pow]; rw [ih, mul_assoc]
theorem pow_mul (a b : UInt8) (n : Nat) : pow (mul a b) n = mul (pow a n) (pow b n) := by
  induction n with
  | zero => simp [pow, mul_one]
  | succ n ih =>
    simp only [pow]
    rw [ih, mul_assoc, mul_assoc, ← mul_assoc (pow b n), mul_comm (pow b n) a, mul_assoc a]
theorem pow_log {a : UInt8} (ha : a ≠ 0) (n : Nat) : pow a n = gexp (glog a * n) := by
  induction n with
  | zero => rfl
  | succ n ih => rw [pow, ih, Nat.mul_succ, gexp_add, (gexp_glog a ha).1]
theorem pow_zero_base (n : Nat) (h : 0 < n) : pow 0 n = 0 := by
  cases n with
  | zero => omega
  | succ n => simp [pow, mul_zero]
theorem pow_255 {a : UInt8} (ha : a ≠ 0) : pow a 255 = 1 := by
  rw [pow_log ha, ← gexp_mod, Nat.mul_mod_left]; rfl
theorem pow_square (a : UInt8) (n : Nat) : pow (mul a a) n = pow a (2 * n) := by
  rw [Nat.two_mul, pow_add, pow_mul]
theorem mod_255 (a n : Nat) : a * (n % 255) % 255 = a * n % 255 := by
  rw [Nat.mul_mod, Nat.mod_mod, ← Nat.mul_mod]
theorem pow_code {a : UInt8} (ha : a ≠ 0) (n : Nat) : gexp (glog a * (n % 255) % 255) = pow a n := by
  rw [mod_255, gexp_mod, pow_log ha]
theorem glog_mul {a b : UInt8} (ha : a ≠ 0) (hb : b ≠ 0) : glog (mul a b) = (glog a + glog b) % 255 := by
  rw [← mul_log ha hb, ← gexp_mod, glog_gexp _ (Nat.mod_lt _ (by omega))]
theorem add_self (a : UInt8) : a ^^^ a = 0 := UInt8.xor_self

/-- A sum. -/
def add (x y : UInt8) : UInt8 := x ^^^ y
theorem add_comm (x y : UInt8) : add x y = add y x := UInt8.xor_comm x y
theorem add_assoc (x y z : UInt8) : add (add x y) z = add x (add y z) := UInt8.xor_assoc x y z
theorem add_zero (x : UInt8) : add x 0 = x := UInt8.xor_zero
theorem add_own (x : UInt8) : add x x = 0 := UInt8.xor_self
theorem mul_sum (x y z : UInt8) : mul x (add y z) = add (mul x y) (mul x z) := mul_add x y z
theorem pow_two (x : UInt8) : pow x 2 = mul x x := by simp only [pow, one_mul]
theorem square_sum (x y : UInt8) : pow (add x y) 2 = add (pow x 2) (pow y 2) := by
  rw [pow_two, pow_two, pow_two]
  show mul (x ^^^ y) (x ^^^ y) = mul x x ^^^ mul y y
  rw [mul_add, add_mul, add_mul, mul_comm y x, UInt8.xor_assoc, ← UInt8.xor_assoc (mul x y), UInt8.xor_self, UInt8.zero_xor]
/-- What a quotient is told as. -/
def divQ (x y : UInt8) : UInt8 := if y = 0 then 0 else div x y
def divE (y : UInt8) : Int := if y = 0 then 20 else 0

/-! Lists. -/
/-- The byte at a place; nought where there is none. -/
def get (l : List UInt8) (k : Nat) : UInt8 := l.getD k 0
def dotTo (a b : List UInt8) : Nat → UInt8
  | 0 => 0
  | k + 1 => dotTo a b k ^^^ mul (get a k) (get b k)
def dot (a b : List UInt8) : UInt8 := dotTo a b (min a.length b.length)
/-- The byte at a place of 'lay'. -/
def layAt (out : List UInt8) (c : UInt8) (x : List UInt8) (i : Nat) : UInt8 := if i < x.length then get out i ^^^ mul c (get x i) else get out i
def lay (out : List UInt8) (c : UInt8) (x : List UInt8) : List UInt8 := (List.range out.length).map (layAt out c x)
/-- 'lay' when k places are done. -/
def layTo (out : List UInt8) (c : UInt8) (x : List UInt8) (k : Nat) : List UInt8 := (List.range out.length).map fun i => if i < k then layAt out c x i else get out i
theorem lay_length (out : List UInt8) (c : UInt8) (x : List UInt8) : (lay out c x).length = out.length := by simp [lay]
theorem layTo_length (out : List UInt8) (c : UInt8) (x : List UInt8) (k : Nat) : (layTo out c x k).length = out.length := by simp [layTo]
theorem get_of_lt {l : List UInt8} {k : Nat} (h : k < l.length) : get l k = l[k] := by simp [get, h]
theorem get_of_ge {l : List UInt8} {k : Nat} (h : l.length ≤ k) : get l k = 0 := by simp [get, h]
theorem ext_get {l m : List UInt8} (hl : l.length = m.length) (h : ∀ k, k < l.length → get l k = get m k) : l = m := by
  apply List.ext_getElem hl
  intro i h1 h2
  have := h i h1
  rwa [get_of_lt h1, get_of_lt h2] at this
theorem get_map_range {n k : Nat} (f : Nat → UInt8) (h : k < n) : get ((List.range n).map f) k = f k := by simp [get, h]
theorem layTo_zero (out : List UInt8) (c : UInt8) (x : List UInt8) : layTo out c x 0 = out := by
  refine ext_get (layTo_length _ _ _ _) fun k hk => ?_
  rw [layTo_length] at hk
  unfold layTo
  rw [get_map_range _ hk, if_neg (by omega)]
theorem layTo_full (out : List UInt8) (c : UInt8) (x : List UInt8) {k : Nat} (hk : out.length ≤ k ∨ x.length ≤ k) : layTo out c x k = lay out c x := by
  refine ext_get (by rw [layTo_length, lay_length]) fun i hi => ?_
  rw [layTo_length] at hi
  unfold layTo lay
  rw [get_map_range _ hi, get_map_range _ hi]
  by_cases h : i < k
  · rw [if_pos h]
  · rw [if_neg h]
    unfold layAt
    rw [if_neg (by omega)]
theorem layTo_get (out : List UInt8) (c : UInt8) (x : List UInt8) {k i : Nat} (hi : i < out.length) (hk : k ≤ i) : get (layTo out c x k) i = get out i := by
  unfold layTo
  rw [get_map_range _ hi, if_neg (by omega)]
theorem get_set {l : List UInt8} {k i : Nat} (v : UInt8) (hk : k < l.length) : get (l.set k v) i = if k = i then v else get l i := by
  unfold get
  rw [List.getD_eq_getElem?_getD, List.getD_eq_getElem?_getD, List.getElem?_set]
  by_cases e : k = i
  · rw [if_pos e, if_pos e, if_pos hk]; rfl
  · rw [if_neg e, if_neg e]
theorem layTo_step (out : List UInt8) (c : UInt8) (x : List UInt8) {k : Nat} (hk : k < out.length) (hx : k < x.length) : layTo out c x (k + 1) = (layTo out c x k).set k (get out k ^^^ mul c (get x k)) := by
  refine ext_get (by rw [List.length_set, layTo_length, layTo_length]) fun i hi => ?_
  rw [layTo_length] at hi
  rw [get_set _ (by rw [layTo_length]; exact hk)]
  unfold layTo
  rw [get_map_range _ hi, get_map_range _ hi]
  by_cases e : k = i
  · subst e
    rw [if_pos rfl, if_pos (by omega)]
    unfold layAt
    rw [if_pos hx]
  · rw [if_neg e]
    by_cases h : i < k
    · rw [if_pos h, if_pos (by omega)]
    · rw [if_neg h, if_neg (by omega)]
def layPre (out : List UInt8) (c : UInt8) (x : List UInt8) (k : Nat) : List UInt8 := (List.range k).map (layAt out c x)
theorem layPre_succ (out : List UInt8) (c : UInt8) (x : List UInt8) (k : Nat) : layPre out c x (k + 1) = layPre out c x k ++ [layAt out c x k] := by
  simp [layPre, List.range_succ]
theorem layPre_length (out : List UInt8) (c : UInt8) (x : List UInt8) (k : Nat) : (layPre out c x k).length = k := by simp [layPre]

/-! Dot and Lay together. -/
theorem dotTo_comm (a b : List UInt8) : ∀ k, dotTo a b k = dotTo b a k
  | 0 => rfl
  | k + 1 => by rw [dotTo, dotTo, dotTo_comm a b k, mul_comm]
theorem dot_comm (a b : List UInt8) : dot a b = dot b a := by unfold dot; rw [Nat.min_comm, dotTo_comm]
theorem lay_get (out : List UInt8) (c : UInt8) (x : List UInt8) {i : Nat} (h : i < out.length) : get (lay out c x) i = layAt out c x i := get_map_range _ h
theorem layAt_all {out x : List UInt8} (c : UInt8) {i : Nat} : layAt out c x i = get out i ^^^ mul c (get x i) := by
  unfold layAt
  by_cases h : i < x.length
  · rw [if_pos h]
  · rw [if_neg h, get_of_ge (l := x) (by omega), mul_zero, UInt8.xor_zero]
theorem dotTo_sum (x y z : List UInt8) : ∀ k, k ≤ x.length → dotTo (lay x 1 y) z k = dotTo x z k ^^^ dotTo y z k
  | 0, _ => by rw [dotTo, dotTo, dotTo]; rfl
  | k + 1, h => by
    rw [dotTo, dotTo, dotTo, dotTo_sum x y z k (by omega), lay_get _ _ _ (by omega), layAt_all, one_mul, add_mul, xor_mid]
theorem dot_sum {x y : List UInt8} (h : x.length = y.length) : dot (lay x 1 y) x = add (dot x x) (dot y x) := by
  unfold dot add
  rw [lay_length, ← h, dotTo_sum x y x _ (by omega)]
theorem get_zeros (n i : Nat) : get (List.replicate n 0) i = 0 := by
  unfold get
  rw [List.getD_eq_getElem?_getD, List.getElem?_replicate]
  split <;> rfl
theorem dotTo_scaled (c : UInt8) (x y : List UInt8) (n : Nat) : ∀ k, k ≤ n → dotTo (lay (List.replicate n 0) c x) y k = mul c (dotTo x y k)
  | 0, _ => by rw [dotTo, dotTo, mul_zero]
  | k + 1, h => by
    rw [dotTo, dotTo, dotTo_scaled c x y n k (by omega), lay_get _ _ _ (by rw [List.length_replicate]; omega), layAt_all, get_zeros, UInt8.zero_xor, mul_assoc, ← mul_add]
theorem dot_scaled (c : UInt8) {x y : List UInt8} {n : Nat} (hx : x.length = n) (hy : y.length = n) : dot (lay (List.replicate n 0) c x) y = mul c (dot x y) := by
  unfold dot
  rw [lay_length, List.length_replicate, hx, hy, dotTo_scaled c x y n _ (by omega)]
theorem lay_twice (a : List UInt8) (c d : UInt8) (b : List UInt8) : lay (lay a c b) d b = lay a (add c d) b := by
  refine ext_get (by rw [lay_length, lay_length, lay_length]) fun i hi => ?_
  rw [lay_length, lay_length] at hi
  rw [lay_get _ _ _ (by rw [lay_length]; exact hi), lay_get _ _ _ hi, layAt_all, lay_get _ _ _ hi, layAt_all, layAt_all]
  show _ = get a i ^^^ mul (c ^^^ d) (get b i)
  rw [add_mul, UInt8.xor_assoc]
theorem lay_zero (a b : List UInt8) : lay a 0 b = a := by
  refine ext_get (lay_length _ _ _) fun i hi => ?_
  rw [lay_length] at hi
  rw [lay_get _ _ _ hi, layAt_all, zero_mul, UInt8.xor_zero]
theorem lay_back (a : List UInt8) (c : UInt8) (b : List UInt8) : lay (lay a c b) c b = a := by rw [lay_twice, add_own, lay_zero]
end Gf
namespace Go.Proofs.YtfpglkacjecoeaaGreat
open Go.RowKit

theorem ret_int {k : IntKind} {a b : Int} (h : a = b) : Ending.returned (.int k a) = .returned (.int k b) := by rw [h]
theorem ret_bool {a b : Bool} (h : a = b) : Ending.returned (.bool a) = .returned (.bool b) := by rw [h]

theorem ret_ii {k l : IntKind} {a b c d : Int} (h : a = b) (h' : c = d) : Ending.returned (.tuple #[.int k a, .int l c]) = .returned (.tuple #[.int k b, .int l d]) := by rw [h, h']

theorem xor_u8 (x y : UInt8) : bits .xor .u8 (x.toNat : Int) (y.toNat : Int) = ((x ^^^ y).toNat : Int) := by
  rw [u8_xor_nat _ _ x.toNat_lt y.toNat_lt, UInt8.toNat_xor]
theorem eq_u8 (x y : UInt8) : ((x.toNat : Int) == (y.toNat : Int)) = (x == y) := by
  by_cases h : x = y
  · subst h; simp
  · have h1 : x.toNat ≠ y.toNat := fun e => h (UInt8.toNat_inj.1 e)
    have h2 : (x.toNat : Int) ≠ (y.toNat : Int) := by omega
    rw [beq_eq_false_iff_ne.2 h, beq_eq_false_iff_ne.2 h2]
theorem ne_u8 (x y : UInt8) : ((x.toNat : Int) != (y.toNat : Int)) = (x != y) := by
  unfold bne; rw [eq_u8]
theorem u8_zero (x : UInt8) (h : x = 0) : ((x.toNat : Int) == 0) = true := by subst h; rfl
theorem u8_nonzero (x : UInt8) (h : x ≠ 0) : ((x.toNat : Int) == 0) = false := by
  have := eq_u8 x 0
  rw [beq_eq_false_iff_ne.2 h] at this
  exact this
theorem u8_zero' (x : UInt8) (h : x = 0) : ((x.toNat : Int) != 0) = false := by unfold bne; rw [u8_zero x h]; rfl
theorem u8_nonzero' (x : UInt8) (h : x ≠ 0) : ((x.toNat : Int) != 0) = true := by unfold bne; rw [u8_nonzero x h]; rfl
theorem u8_int_lt (x : UInt8) : (x.toNat : Int) < 256 := by have := x.toNat_lt; omega
theorem xor_i64 (a b : Nat) (ha : a < 2 ^ 62) (hb : b < 2 ^ 62) : bits .xor .i64 (a : Int) (b : Int) = ((a ^^^ b : Nat) : Int) := by
  have hx : a ^^^ b < 2 ^ 62 := Nat.xor_lt_two_pow ha hb
  show IntKind.i64.wrap ((BitVec.ofInt 64 (a : Int) ^^^ BitVec.ofInt 64 (b : Int)).toNat : Int) = _
  rw [BitVec.toNat_xor, ofInt_u64 a (by omega), ofInt_u64 b (by omega), IntWalk.i64_in _ (by omega)]
theorem wrap_u8_nat (n : Nat) : IntKind.u8.wrap (n : Int) = ((UInt8.ofNat n).toNat : Int) := by
  rw [IntKind.wrap_u8']
  simp

/-- The world has grown: what was there is as it was. -/
abbrev Ext (w w' : World) : Prop := Below w.heap.size w w'
theorem Ext.refl (w : World) : Ext w w := Below.refl _ _
theorem Ext.trans {a b c : World} (h : Ext a b) (k : Ext b c) : Ext a c := Below.trans h (Below.mono k h.size)
theorem Ext.cell {w w' : World} (h : Ext w w') {p : Addr} {v : Value} (hc : w.cell? p = some v) : w'.cell? p = some v := by
  rw [Below.cell h (World.block_lt_of_cell? _ _ hc)]; exact hc
theorem Ext.frozen {w w' : World} (h : Ext w w') {p : Addr} {v : Value} (hc : w.cell? p = some v) : w'.frozen? p = w.frozen? p :=
  Below.frozen h (World.block_lt_of_cell? _ _ hc)
theorem Ext.drewN (w : World) (n : Nat) : Ext w (w.drewN n) := ⟨rfl, rfl, rfl, Nat.le_refl _, fun _ _ => rfl⟩
theorem Ext.thenDrewN {w w1 : World} (h : Ext w w1) (n : Nat) : Ext w (w1.drewN n) := Ext.trans h (Ext.drewN w1 n)
theorem Ext.alloc (w : World) (o : Obj) : Ext w (w.alloc o) := (Below.refl _ _).alloc (Nat.le_refl _) o
theorem Ext.thenAlloc {w w1 : World} (h : Ext w w1) (o : Obj) : Ext w (w1.alloc o) := Ext.trans h (Ext.alloc w1 o)

/-- The world has moved on by draws alone. -/
def Dr (w w' : World) : Prop := ∃ q, w' = w.drewN q
theorem Dr.refl (w : World) : Dr w w := ⟨0, rfl⟩
theorem Dr.more {w w' : World} (h : Dr w w') (n : Nat) : Dr w (w'.drewN n) := by obtain ⟨q, rfl⟩ := h; exact ⟨q + n, World.drewN_drewN _ _ _⟩
theorem Dr.ext {w w' : World} (h : Dr w w') : Ext w w' := by obtain ⟨q, rfl⟩ := h; exact Ext.drewN _ _
theorem Dr.trans {a b c : World} (h : Dr a b) (k : Dr b c) : Dr a c := by obtain ⟨q, rfl⟩ := k; exact h.more q

/-- A slice's address and length: its cells are xs (elements of 'size' cells). -/
def Rd (w : World) (size : Nat) (A : Option Addr) (n : Nat) (xs : List Value) : Prop :=
  xs.length = n * size ∧ (0 < n → ∃ b off, A = some ⟨b, off, none⟩ ∧ ∀ j u, xs[j]? = some u → w.cell? ⟨b, off + j, none⟩ = some u)
theorem Rd.ext {w w' : World} {size n : Nat} {A : Option Addr} {xs : List Value} (h : Rd w size A n xs) (hx : Ext w w') : Rd w' size A n xs :=
  ⟨h.1, fun hn => by
    obtain ⟨b, off, e, hc⟩ := h.2 hn
    exact ⟨b, off, e, fun j u hu => hx.cell (hc j u hu)⟩⟩
theorem Rd.nil (w : World) (size : Nat) (A : Option Addr) : Rd w size A 0 [] := ⟨by simp, fun h => absurd h (by omega)⟩
theorem Rd.of_own {w : World} {base size n c : Nat} {e : TypeId} {A : Option Addr} {xs : List Value} (h : w.ownsRow base e size (.slice A n c) n xs) : Rd w size A n xs := by
  refine ⟨h.1, fun hn => ?_⟩
  rcases h.2 with ⟨h1, h2⟩ | ⟨g, cap, cur, hv, _, hg, _, _, _, ht⟩
  · omega
  · injection hv with hA hn' hc
    subst hA
    refine ⟨g, 0, rfl, fun j u hu => ?_⟩
    have := h.cells (g := g) rfl j u hu
    have e : (⟨g, 0, none⟩ : Addr).add j = ⟨g, j, none⟩ := by unfold Addr.add; split <;> simp_all
    rw [e] at this
    simpa using this
theorem Rd.at_ {w : World} {n : Nat} {A : Option Addr} {xs : List Value} (h : Rd w 1 A n xs) {k : Nat} (hk : k < n) :
    ∃ b off u, A = some ⟨b, off, none⟩ ∧ xs[k]? = some u ∧ w.cell? ⟨b, off + k, none⟩ = some u := by
  obtain ⟨b, off, e, hc⟩ := h.2 (by omega)
  have hl : k < xs.length := by have := h.1; omega
  exact ⟨b, off, xs[k], e, List.getElem?_eq_getElem hl, hc k _ (List.getElem?_eq_getElem hl)⟩

theorem Rd.lit (w : World) (cs : Array Value) (t : TypeId) : Rd (w.alloc (.cells cs t)) 1 (some ⟨w.heap.size, 0, none⟩) cs.size cs.toList := by
  refine ⟨by simp, fun _ => ⟨w.heap.size, 0, rfl, fun j u hu => ?_⟩⟩
  rw [Nat.zero_add, World.cell?_alloc_new]
  simpa using hu

/-- Bytes as cells. -/
def bcells (l : List UInt8) : List Value := l.map fun x => .int .u8 (x.toNat : Int)
theorem bcells_length (l : List UInt8) : (bcells l).length = l.length := by simp [bcells]
theorem bcells_append (l m : List UInt8) : bcells (l ++ m) = bcells l ++ bcells m := by simp [bcells]
theorem bcells_one (l : List UInt8) : ∀ u ∈ bcells l, u.oneCell' = true := by
  intro u hu
  simp only [bcells, List.mem_map] at hu
  obtain ⟨x, _, rfl⟩ := hu
  rfl
theorem Rd.byte {w : World} {n : Nat} {A : Option Addr} {l : List UInt8} (h : Rd w 1 A n (bcells l)) {k : Nat} (hk : k < n) :
    ∃ b off, A = some ⟨b, off, none⟩ ∧ w.cell? ⟨b, off + k, none⟩ = some (.int .u8 ((Gf.get l k).toNat : Int)) := by
  obtain ⟨b, off, u, e, hu, hc⟩ := h.at_ hk
  refine ⟨b, off, e, ?_⟩
  rw [hc]
  simp only [bcells, List.getElem?_map, Option.map_eq_some_iff] at hu
  obtain ⟨x, hx, rfl⟩ := hu
  simp [Gf.get, hx]

/-- A slice of bytes. -/
structure Bs (w : World) (A : Option Addr) (n c : Nat) (l : List UInt8) : Prop where
  len : l.length = n
  le : n ≤ c
  max : c ≤ 9223372036854775807
  rd : Rd w 1 A n (bcells l)
theorem Bs.ext {w w' : World} {A : Option Addr} {n c : Nat} {l : List UInt8} (h : Bs w A n c l) (hx : Ext w w') : Bs w' A n c l := ⟨h.len, h.le, h.max, h.rd.ext hx⟩

/-- A slice of the call's own: in a block from 'base' on, or none. -/
structure Own (base : Nat) (w : World) (e : TypeId) (size : Nat) (A : Option Addr) (n c : Nat) (xs : List Value) : Prop where
  own : w.ownsRow base e size (.slice A n c) n xs
theorem Own.rd {base n c size : Nat} {w : World} {e : TypeId} {A : Option Addr} {xs : List Value} (h : Own base w e size A n c xs) : Rd w size A n xs := Rd.of_own h.own
theorem ownsRow_slice {w : World} {base size n : Nat} {e : TypeId} {v : Value} {xs : List Value} (h : w.ownsRow base e size v n xs) : ∃ A c, v = .slice A n c ∧ n ≤ c ∧ c ≤ 9223372036854775807 := by
  rcases h.2 with ⟨rfl, rfl⟩ | ⟨g, cap, cur, rfl, _, _, h1, h2, _⟩
  · exact ⟨_, _, rfl, Nat.le_refl _, by omega⟩
  · exact ⟨_, _, rfl, h1, by unfold maxLen at h2; omega⟩
theorem Own.caps {base n c size : Nat} {w : World} {e : TypeId} {A : Option Addr} {xs : List Value} (h : Own base w e size A n c xs) : n ≤ c ∧ c ≤ 9223372036854775807 := by
  rcases h.own.2 with ⟨h1, h2⟩ | ⟨g, cap, cur, h1, _, _, h2, h3, _⟩
  · injection h1 with _ h3 h4
    omega
  · injection h1 with _ h4 h5
    unfold maxLen at h3
    omega
theorem Own.bs {base n c : Nat} {w : World} {e : TypeId} {A : Option Addr} {l : List UInt8} (h : Own base w e 1 A n c (bcells l)) : Bs w A n c l :=
  ⟨by have := h.own.1; rw [bcells_length] at this; omega, h.caps.1, h.caps.2, h.rd⟩
theorem own_addr {w : World} {base size n c : Nat} {e : TypeId} {A : Option Addr} {xs : List Value} (h : w.ownsRow base e size (.slice A n c) n xs) (hn : 0 < n) : ∃ g, A = some ⟨g, 0, none⟩ ∧ base ≤ g ∧ g < w.heap.size := by
  obtain ⟨g, cap, hv, h1, h2⟩ := h.form hn
  injection hv with hA
  exact ⟨g, hA, h1, h2⟩
theorem ownsRow_ext {w w' : World} {base size n : Nat} {e : TypeId} {v : Value} {xs : List Value} (h : w.ownsRow base e size v n xs) (hx : Ext w w') : w'.ownsRow base e size v n xs := by
  refine ⟨h.1, ?_⟩
  rcases h.2 with h1 | ⟨g, cap, cur, h1, h2, h3, h4⟩
  · exact .inl h1
  · refine .inr ⟨g, cap, cur, h1, h2, ?_, h4⟩
    rw [hx.block g ?_]
    · exact h3
    · rcases Nat.lt_or_ge g w.heap.size with hl | hl
      · exact hl
      · rw [Array.getElem?_eq_none hl] at h3; cases h3
theorem Own.ext {base n c size : Nat} {w w' : World} {e : TypeId} {A : Option Addr} {xs : List Value} (h : Own base w e size A n c xs) (hx : Ext w w') : Own base w' e size A n c xs := ⟨ownsRow_ext h.own hx⟩
theorem ownsRow_base {w : World} {base base' size n : Nat} {e : TypeId} {v : Value} {xs : List Value} (h : w.ownsRow base e size v n xs) (hb : base' ≤ base) : w.ownsRow base' e size v n xs := by
  refine ⟨h.1, ?_⟩
  rcases h.2 with h1 | ⟨g, cap, cur, h1, h2, h4⟩
  · exact .inl h1
  · exact .inr ⟨g, cap, cur, h1, by omega, h4⟩
/-- What was owned from 'base' on may be written: what lies below stays. -/
theorem Ext.ofGrown {w0 w w' : World} {row : Option Nat} (h : Ext w0 w) (hg : w.grownBy w' row) (hr : ∀ k, row = some k → w0.heap.size ≤ k) : Ext w0 w' := Below.grown h hg h.size hr
theorem own_row {w : World} {base size n : Nat} {e : TypeId} {v : Value} {xs : List Value} (h : w.ownsRow base e size v n xs) : ∀ k, v.ownBlock = some k → base ≤ k := fun k hk => (h.lt k hk).1

section append
variable {P : Program} (w : World)
theorem addr_add (b off j : Nat) : (⟨b, off, none⟩ : Addr).add j = ⟨b, off + j, none⟩ := by unfold Addr.add; split <;> simp_all
theorem run_append_none (base : Nat) (t ty e : TypeId) (i : TypeInfo) (size : Nat) (ht : P.underlying t = some (.slice e)) (hi : P.info? e = some i)
    (v : Value) (n : Nat) (xs : List Value) (hown : w.ownsRow base e size v n xs) (c : Nat) : (Builtin.append_ #[t, t] ty #[v, .slice none 0 c]).run P w = .ok v w := by
  rcases hown.2 with ⟨rfl, rfl⟩ | ⟨g, cap, cur, rfl, _, _, hnc, _⟩
  · simp [Builtin.append_, run_underlying ht, sizeOf, typeInfo, hi, Builtin.lenOf, Builtin.firstCells]
  · simp [Builtin.append_, run_underlying ht, sizeOf, typeInfo, hi, Builtin.lenOf, Builtin.firstCells, hnc, storeCells]
theorem run_append_rd (base : Nat) (t ty e : TypeId) (i : TypeInfo) (z : Value) (size bytes : Nat) (ht : P.underlying t = some (.slice e)) (hi : P.info? e = some i) (hz : i.zero = some z)
    (hsize : i.size = size) (hby : i.bytes = bytes) (hzs : z.cells.size = size) (hsz : 0 < size)
    (v : Value) (n : Nat) (xs : List Value) (hown : w.ownsRow base e size v n xs)
    (A : Option Addr) (m c : Nat) (news : List Value) (hr : Rd w size A m news) (h1 : ∀ u ∈ news, u.oneCell' = true)
    (hbytes : (n + m) * bytes ≤ 140737488355328) (h63 : n + m ≤ maxLen) (hbase : base ≤ w.heap.size) :
    ∃ v' w', (Builtin.append_ #[t, t] ty #[v, .slice A m c]).run P w = .ok v' w' ∧ w'.ownsRow base e size v' (n + m) (xs ++ news) ∧ w.grownBy w' v.ownBlock ∧
      (v'.ownBlock = v.ownBlock ∨ v'.ownBlock = some w.heap.size) := by
  rcases A with _ | ad
  · have hm : m = 0 := by
      rcases Nat.eq_zero_or_pos m with h0 | h0
      · exact h0
      · obtain ⟨b, off, h, _⟩ := hr.2 h0
        cases h
    subst hm
    have hn : news = [] := List.eq_nil_of_length_eq_zero (by simpa using hr.1)
    subst hn
    exact ⟨v, w, run_append_none w base t ty e i size ht hi v n xs hown c, by simpa using hown, World.grownBy.refl w _, .inl rfl⟩
  · have hcells : ∀ j u, news[j]? = some u → w.cell? (ad.add j) = some u := by
      intro j u hu
      rcases Nat.eq_zero_or_pos m with h0 | h0
      · subst h0
        have hn : news = [] := List.eq_nil_of_length_eq_zero (by simpa using hr.1)
        subst hn
        simp at hu
      · obtain ⟨b, off, h, hc⟩ := hr.2 h0
        injection h with h
        subst h
        rw [addr_add]
        exact hc j u hu
    obtain ⟨v', w', hrun, h2, h3, _, h5⟩ := run_append_own_at (P := P) w base t ty e i z size bytes ht hi hz hsize hby hzs hsz v n xs hown ad m c news hr.1 hcells h1 h63 hbytes hbase
    exact ⟨v', w', hrun, h2, h3, h5⟩

/-- 'append(s, x...)', s of the call's own, x whatever can be read. -/
theorem wp_append_rd {o : Oper} {a : Act} {K : Act → World → Prop} {Q : Exit → Act → World → Prop} (s x : Operand) (t : TypeId)
    (ho : o.op = .call { callee := .builtin .append, args := #[s, x], argTypes := #[t, t] })
    (base : Nat) (e : TypeId) (i : TypeInfo) (z : Value) (size bytes : Nat) (ht : P.underlying t = some (.slice e)) (hi : P.info? e = some i) (hz : i.zero = some z)
    (hsize : i.size = size) (hby : i.bytes = bytes) (hzs : z.cells.size = size) (hsz : 0 < size)
    (v : Value) (n : Nat) (xs : List Value) (hs : a.eval s = v) (hown : w.ownsRow base e size v n xs)
    (A : Option Addr) (m c : Nat) (news : List Value) (hx : a.eval x = .slice A m c) (hr : Rd w size A m news) (h1 : ∀ u ∈ news, u.oneCell' = true)
    (hbytes : (n + m) * bytes ≤ 140737488355328) (h63 : n + m ≤ maxLen) (hbase : base ≤ w.heap.size)
    (h : ∀ v' w', w'.ownsRow base e size v' (n + m) (xs ++ news) → w.grownBy w' v.ownBlock → (v'.ownBlock = v.ownBlock ∨ v'.ownBlock = some w.heap.size) → K (a.put o.dst v') w') : o.wp P a w K Q := by
  obtain ⟨v', w', hrun, h2, h3, h4⟩ := run_append_rd (P := P) w base t o.type e i z size bytes ht hi hz hsize hby hzs hsz v n xs hown A m c news hr h1 hbytes h63 hbase
  unfold Oper.wp execOp
  simp only [ho, resolve, invoke, builtin, Sem.run_bind, Sem.run_pure, Result.andThen_ok, List.map_toArray, List.map_cons, List.map_nil, hs, hx, hrun]
  exact h v' w' h2 h3 h4
theorem wpList_append_rd {ops : Array Oper} {rest : List Oper} {o : Oper} {a : Act} {Q : Exit → Act → World → Prop} (hgd : o.guard = none) (s x : Operand) (t : TypeId)
    (ho : o.op = .call { callee := .builtin .append, args := #[s, x], argTypes := #[t, t] })
    (base : Nat) (e : TypeId) (i : TypeInfo) (z : Value) (size bytes : Nat) (ht : P.underlying t = some (.slice e)) (hi : P.info? e = some i) (hz : i.zero = some z)
    (hsize : i.size = size) (hby : i.bytes = bytes) (hzs : z.cells.size = size) (hsz : 0 < size)
    (v : Value) (n : Nat) (xs : List Value) (hs : a.eval s = v) (hown : w.ownsRow base e size v n xs)
    (A : Option Addr) (m c : Nat) (news : List Value) (hx : a.eval x = .slice A m c) (hr : Rd w size A m news) (h1 : ∀ u ∈ news, u.oneCell' = true)
    (hbytes : (n + m) * bytes ≤ 140737488355328) (h63 : n + m ≤ maxLen) (hbase : base ≤ w.heap.size)
    (h : ∀ v' w', w'.ownsRow base e size v' (n + m) (xs ++ news) → w.grownBy w' v.ownBlock → (v'.ownBlock = v.ownBlock ∨ v'.ownBlock = some w.heap.size) → wpList P ops Q rest (a.put o.dst v') w') : wpList P ops Q (o :: rest) a w :=
  wpList_plain hgd fun _ hK => wp_append_rd w s x t ho base e i z size bytes ht hi hz hsize hby hzs hsz v n xs hs hown A m c news hx hr h1 hbytes h63 hbase fun v' w' h2 h3 h4 => hK _ _ (h v' w' h2 h3 h4)
end append

/-- Bytes as a text. -/
def textOf (l : List UInt8) : ByteArray := ⟨l.toArray⟩
theorem strOfNums_text (l : List UInt8) : strOfNums (l.map fun x => (x.toNat : Int)) = textOf l := by
  have h : (l.map fun x => (x.toNat : Int)).map (fun n => UInt8.ofNat n.toNat) = l := by
    induction l with
    | nil => rfl
    | cons x l ih => rw [List.map_cons, List.map_cons, ih, Int.toNat_natCast, UInt8.ofNat_toNat]
  unfold strOfNums textOf
  rw [h]
theorem run_text {P : Program} (w : World) (src dst e : TypeId) (hs : P.underlying src = some (.slice e)) (he : P.underlying e = some (.int .u8)) (hd : P.underlying dst = some .string)
    (A : Option Addr) (n c : Nat) (l : List UInt8) (h : Bs w A n c l) : (convert src dst (.slice A n c)).run P w = .ok (.string (textOf l)) w := by
  rcases A with _ | ad
  · have hl : l = [] := by
      rcases Nat.eq_zero_or_pos n with h0 | h0
      · exact List.eq_nil_of_length_eq_zero (by rw [h.len]; exact h0)
      · obtain ⟨b, off, h, _⟩ := h.rd.2 h0
        cases h
    rw [run_convert_bytes_nil w src e hs he _ _ dst hd, hl]
    rfl
  · by_cases h0 : 0 < n
    · obtain ⟨b, off, hA, hc⟩ := h.rd.2 h0
      injection hA with hA
      subst hA
      rw [run_convert_bytes_arg w src e hs he b off n c (l.map fun x => (x.toNat : Int)) (by simp [h.len]) ?_ dst hd, strOfNums_text]
      intro i hi
      have hil : i < l.length := by rw [h.len]; exact hi
      rw [hc i (.int .u8 (l[i].toNat : Int)) (by simp [bcells, hil])]
      simp [hil]
    · have hn : n = 0 := by omega
      subst hn
      have hl : l = [] := List.eq_nil_of_length_eq_zero h.len
      subst hl
      have hld : (loadCells ad 0).run P w = .ok (([] : List Int).map (Value.int .u8)).toArray w := by simpa using run_loadCells_list (P := P) w ad [] (fun j v hj => by simp at hj)
      rw [run_convert_bytes_string w src dst e _ 0 c hs he hd, run_bytesToString w ad 0 c [] hld]
      rfl
theorem text_eq (l m : List UInt8) : ((textOf l).toList == (textOf m).toList) = (l == m) := by
  have h : ∀ l : List UInt8, (textOf l).toList = l := fun l => by
    unfold textOf
    exact ByteArray.toList_mk l
  rw [h, h]

/-- The first bytes of a slice of bytes. -/
theorem Bs.take {w : World} {A : Option Addr} {n c k : Nat} {l : List UInt8} (h : Bs w A n c l) (hk : k ≤ n) : Bs w A k c (l.take k) := by
  refine ⟨by rw [List.length_take, h.len]; omega, by have := h.le; omega, h.max, ?_, fun h0 => ?_⟩
  · rw [bcells_length, List.length_take, h.len]; omega
  · obtain ⟨b, off, e, hc⟩ := h.rd.2 (by omega)
    refine ⟨b, off, e, fun j u hu => hc j u ?_⟩
    simp only [bcells, List.getElem?_map, List.getElem?_take] at hu ⊢
    split at hu
    · exact hu
    · simp at hu
end Go.Proofs.YtfpglkacjecoeaaGreat
namespace Go.Proofs.YtfpglkacjecoeaaGreat
open Go.ChangeShapes Go.WideShapes Go.ChangeAt Go.RowKit

/-- A slice of integers that came in: nil, or a row of 'cap' cells, the numbers 'zs' (the first 'len' are its elements). -/
def IsRow (k : IntKind) (w : World) (a : Option Addr) (len cap : Nat) (zs : List Int) : Prop :=
  (a = none ∧ len = 0 ∧ cap = 0 ∧ zs = []) ∨
  ∃ x, a = some x ∧ len ≤ cap ∧ cap ≤ maxLen ∧ zs.length = cap ∧ (∀ i, i < zs.length → w.cell? (x.add i) = some (.int k (zs.getD i 0))) ∧ ∀ n ∈ zs, (Lit.int k n).wf = true
theorem IsRow.of_trod {H : Type} {enc : TypeId × Value → H} {W : World} {t e : TypeId} {k : IntKind} {a : Option Addr} {len cap : Nat} {d : DataW H} {p : List MemPlace} (ht : Tryz.prog.underlying t = some (.slice e)) (he : Tryz.prog.underlying e = some (.int k)) (hc : Tryz.prog.cellsOf e = 1)
    (h : DataW.Trod enc Tryz.prog W 0 (fun _ => true) true t (.slice a len cap) d p) : ∃ zs, IsRow k W a len cap zs := by
  obtain ⟨fuel, hf⟩ := h
  rcases open_ints ht he hc hf with ⟨hcs, _⟩ | ⟨x, l, c, zs, hcs, _, hl, hm, hz, _, hcell, hwz⟩
  · simp [Value.cells] at hcs
    obtain ⟨rfl, rfl, rfl⟩ := hcs
    exact ⟨[], .inl ⟨rfl, rfl, rfl, rfl⟩⟩
  · simp [Value.cells] at hcs
    obtain ⟨rfl, rfl, rfl⟩ := hcs
    exact ⟨zs, .inr ⟨_, rfl, hl, hm, by simpa using hz, hcell, hwz⟩⟩
theorem wf_u8 {a : Int} (h : (Lit.int .u8 a).wf = true) : ∃ x : UInt8, a = (x.toNat : Int) := by
  have hb := bounds_u8 h
  refine ⟨UInt8.ofNat a.toNat, ?_⟩
  rw [UInt8.toNat_ofNat']
  omega
theorem IsRow.bytes {w : World} {a : Option Addr} {len cap : Nat} {zs : List Int} (h : IsRow .u8 w a len cap zs) : ∃ l, Bs w a len cap l := by
  rcases h with ⟨rfl, rfl, rfl, rfl⟩ | ⟨x, rfl, hl, hm, hz, hc, hw⟩
  · exact ⟨[], rfl, Nat.le_refl _, by omega, Rd.nil _ _ _⟩
  · refine ⟨(zs.take len).map fun n => UInt8.ofNat n.toNat, by simp; omega, hl, by unfold maxLen at hm; omega, by simp [bcells]; omega, fun hn => ?_⟩
    have h0 := hc 0 (by omega)
    obtain ⟨b, off, sp⟩ := x
    have hsp : sp = none := by
      cases sp with
      | none => rfl
      | some s =>
        have : (⟨b, off, some s⟩ : Addr).add 0 = ⟨b, off, some s⟩ := by unfold Addr.add; split <;> simp_all
        rw [this] at h0
        unfold World.cell? at h0
        split at h0 <;> simp at h0
    subst hsp
    refine ⟨b, off, rfl, fun j u hu => ?_⟩
    simp only [bcells, List.getElem?_map, Option.map_eq_some_iff] at hu
    obtain ⟨v, ⟨n, hn', rfl⟩, rfl⟩ := hu
    have hj : j < zs.length := by
      rcases Nat.lt_or_ge j zs.length with h | h
      · exact h
      · rw [List.getElem?_take] at hn'
        split at hn'
        · rw [List.getElem?_eq_none h] at hn'; cases hn'
        · cases hn'
    have hj' : zs[j]? = some n := by
      rw [List.getElem?_take] at hn'
      split at hn'
      · exact hn'
      · cases hn'
    have hcj := hc j hj
    rw [addr_add] at hcj
    rw [hcj]
    have hd : zs.getD j 0 = n := by simp [hj']
    have hwn := bounds_u8 (hw n (List.mem_of_getElem? hj'))
    rw [hd, UInt8.toNat_ofNat']
    congr 2
    omega
end Go.Proofs.YtfpglkacjecoeaaGreat
