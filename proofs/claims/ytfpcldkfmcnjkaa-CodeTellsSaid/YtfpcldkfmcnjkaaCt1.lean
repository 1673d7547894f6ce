/- Several texts in one: The field of 256 elements, in plain words: polynomials over two elements, modulo 285; it is a field; powers of 2 go through all but nought. No program in sight. Matrices over the field of 256 elements, as functions of two numbers, in plain words. No program in sight. Rows made leading, column by column, in plain words: rank and inverse. No program in sight. Cauchy matrices, products and picked rows, in plain words. No program in sight. The laws of matrices in plain words: products, inverses, rows, ranks. No program in sight. Codes in plain words: the matrix of a code, what its rows tell of shards. No program in sight. -/
namespace Gf

def bitv (b : UInt8) (i : Nat) (x : UInt8) : UInt8 := if b.toNat.testBit i then x else 0
/-- Twice an element. -/
def xt (x : UInt8) : UInt8 := (x <<< 1) ^^^ bitv x 7 29
def xts : Nat → UInt8 → UInt8
  | 0, x => x
  | n + 1, x => xts n (xt x)
def sum8 (f : Nat → UInt8) : UInt8 := f 0 ^^^ f 1 ^^^ f 2 ^^^ f 3 ^^^ f 4 ^^^ f 5 ^^^ f 6 ^^^ f 7
/-- A product, bit by bit. -/
def mul (a b : UInt8) : UInt8 := sum8 fun i => bitv b i (xts i a)

theorem all256 (p : UInt8 → Bool) (h : (List.range 256).all (fun i => p (UInt8.ofNat i)) = true) (x : UInt8) : p x = true := by
  have := List.all_eq_true.1 h x.toNat (List.mem_range.2 x.toNat_lt)
  simpa using this

theorem xor_mid (a b c d : UInt8) : (a ^^^ b) ^^^ (c ^^^ d) = (a ^^^ c) ^^^ (b ^^^ d) := by
  rw [UInt8.xor_assoc, UInt8.xor_assoc, ← UInt8.xor_assoc b, ← UInt8.xor_assoc c, UInt8.xor_comm b c]

theorem bitv_zero (b : UInt8) (i : Nat) : bitv b i 0 = 0 := by unfold bitv; split <;> rfl
theorem bitv_add (b : UInt8) (i : Nat) (x y : UInt8) : bitv b i (x ^^^ y) = bitv b i x ^^^ bitv b i y := by unfold bitv; split <;> simp
theorem bitv_xor (b c : UInt8) (i : Nat) (x : UInt8) : bitv (b ^^^ c) i x = bitv b i x ^^^ bitv c i x := by
  unfold bitv
  rw [UInt8.toNat_xor, Nat.testBit_xor]
  cases b.toNat.testBit i <;> cases c.toNat.testBit i <;> simp
theorem xt_zero : xt 0 = 0 := by decide
theorem xt_add (x y : UInt8) : xt (x ^^^ y) = xt x ^^^ xt y := by
  unfold xt
  rw [bitv_xor, UInt8.shiftLeft_xor, xor_mid]
theorem xt_bitv (b : UInt8) (i : Nat) (x : UInt8) : xt (bitv b i x) = bitv b i (xt x) := by unfold bitv; split <;> simp [xt_zero]
theorem xts_add (n : Nat) : ∀ x y, xts n (x ^^^ y) = xts n x ^^^ xts n y := by
  induction n with
  | zero => intro x y; rfl
  | succ n ih => intro x y; simp only [xts, xt_add, ih]
theorem xts_zero (n : Nat) : xts n 0 = 0 := by
  induction n with
  | zero => rfl
  | succ n ih => simp only [xts, xt_zero, ih]
theorem xts_bitv (n : Nat) (b : UInt8) (i : Nat) (x : UInt8) : xts n (bitv b i x) = bitv b i (xts n x) := by unfold bitv; split <;> simp [xts_zero]
theorem xts_plus (n m : Nat) : ∀ x, xts (n + m) x = xts m (xts n x) := by
  induction n with
  | zero => intro x; simp [xts]
  | succ n ih => intro x; rw [Nat.add_right_comm]; simp only [xts, ih]
theorem xts_comm (n m : Nat) (x : UInt8) : xts n (xts m x) = xts m (xts n x) := by rw [← xts_plus, ← xts_plus, Nat.add_comm]

theorem sum8_congr {f g : Nat → UInt8} (h : ∀ i, f i = g i) : sum8 f = sum8 g := by unfold sum8; simp only [h]
theorem sum8_add (f g : Nat → UInt8) : sum8 (fun i => f i ^^^ g i) = sum8 f ^^^ sum8 g := by
  unfold sum8
  simp only [xor_mid]
theorem xts_sum8 (n : Nat) (f : Nat → UInt8) : xts n (sum8 f) = sum8 fun i => xts n (f i) := by unfold sum8; simp only [xts_add]

theorem mul_add (a b c : UInt8) : mul a (b ^^^ c) = mul a b ^^^ mul a c := by
  unfold mul; rw [← sum8_add]; exact sum8_congr fun i => bitv_xor b c i _
theorem add_mul (a b c : UInt8) : mul (a ^^^ b) c = mul a c ^^^ mul b c := by
  unfold mul; rw [← sum8_add]; exact sum8_congr fun i => by rw [xts_add, bitv_add]
theorem mul_zero (a : UInt8) : mul a 0 = 0 := by unfold mul sum8 bitv; simp
theorem zero_mul (a : UInt8) : mul 0 a = 0 := by unfold mul sum8; simp [xts_zero, bitv_zero]
theorem mul_xts (n : Nat) (a b : UInt8) : mul (xts n a) b = xts n (mul a b) := by
  unfold mul
  rw [xts_sum8]
  exact sum8_congr fun i => by rw [xts_bitv, xts_comm]
theorem mul_bitv (b : UInt8) (i : Nat) (x y : UInt8) : mul (bitv b i x) y = bitv b i (mul x y) := by unfold bitv; split <;> simp [zero_mul]
theorem one_mul (b : UInt8) : mul 1 b = b := by
  have h : (List.range 256).all (fun i => mul 1 (UInt8.ofNat i) == UInt8.ofNat i) = true := by decide +kernel
  simpa using all256 (fun b => mul 1 b == b) h b
theorem bits_of (a : UInt8) : (sum8 fun i => bitv a i (xts i 1)) = a := one_mul a
theorem sum8_mul (f : Nat → UInt8) (b : UInt8) : mul (sum8 f) b = sum8 fun i => mul (f i) b := by unfold sum8; simp only [add_mul]
theorem mul_other (a b : UInt8) : mul a b = sum8 fun i => bitv a i (xts i b) := by
  have h : mul (sum8 fun i => bitv a i (xts i 1)) b = sum8 fun i => bitv a i (xts i b) := by
    rw [sum8_mul]
    exact sum8_congr fun i => by rw [mul_bitv, mul_xts, one_mul]
  rwa [bits_of] at h
theorem mul_comm (a b : UInt8) : mul a b = mul b a := by rw [mul_other]; rfl
theorem mul_one (a : UInt8) : mul a 1 = a := by rw [mul_comm, one_mul]
theorem mul_assoc (a b c : UInt8) : mul (mul a b) c = mul a (mul b c) := by
  rw [mul_other a b, mul_other a (mul b c), sum8_mul]
  exact sum8_congr fun i => by rw [mul_bitv, mul_xts]

theorem xt_mul (x : UInt8) : xt x = mul x 2 := by
  have h : xts 1 (mul x 1) = mul (xts 1 x) 1 := (mul_xts 1 x 1).symm
  rw [mul_one] at h
  rw [mul_comm]
  have e : (2 : UInt8) = xts 1 1 := by decide
  rw [e, mul_xts, one_mul]
  rfl

/-! Powers of 2, and logarithms. -/
def gexp (n : Nat) : UInt8 := xts n 1
def expT : List UInt8 := [1, 2, 4, 8, 16, 32, 64, 128, 29, 58, 116, 232, 205, 135, 19, 38, 76, 152, 45, 90, 180, 117, 234, 201, 143, 3, 6, 12, 24, 48, 96, 192, 157, 39, 78, 156, 37, 74, 148, 53, 106, 212, 181, 119, 238, 193, 159, 35, 70, 140, 5, 10, 20, 40, 80, 160, 93, 186, 105, 210, 185, 111, 222, 161, 95, 190, 97, 194, 153, 47, 94, 188, 101, 202, 137, 15, 30, 60, 120, 240, 253, 231, 211, 187, 107, 214, 177, 127, 254, 225, 223, 163, 91, 182, 113, 226, 217, 175, 67, 134, 17, 34, 68, 136, 13, 26, 52, 104, 208, 189, 103, 206, 129, 31, 62, 124, 248, 237, 199, 147, 59, 118, 236, 197, 151, 51, 102, 204, 133, 23, 46, 92, 184, 109, 218, 169, 79, 158, 33, 66, 132, 21, 42, 84, 168, 77, 154, 41, 82, 164, 85, 170, 73, 146, 57, 114, 228, 213, 183, 115, 230, 209, 191, 99, 198, 145, 63, 126, 252, 229, 215, 179, 123, 246, 241, 255, 227, 219, 171, 75, 150, 49, 98, 196, 149, 55, 110, 220, 165, 87, 174, 65, 130, 25, 50, 100, 200, 141, 7, 14, 28, 56, 112, 224, 221, 167, 83, 166, 81, 162, 89, 178, 121, 242, 249, 239, 195, 155, 43, 86, 172, 69, 138, 9, 18, 36, 72, 144, 61, 122, 244, 245, 247, 243, 251, 235, 203, 139, 11, 22, 44, 88, 176, 125, 250, 233, 207, 131, 27, 54, 108, 216, 173, 71, 142]
def logT : List Nat := [0, 0, 1, 25, 2, 50, 26, 198, 3, 223, 51, 238, 27, 104, 199, 75, 4, 100, 224, 14, 52, 141, 239, 129, 28, 193, 105, 248, 200, 8, 76, 113, 5, 138, 101, 47, 225, 36, 15, 33, 53, 147, 142, 218, 240, 18, 130, 69, 29, 181, 194, 125, 106, 39, 249, 185, 201, 154, 9, 120, 77, 228, 114, 166, 6, 191, 139, 98, 102, 221, 48, 253, 226, 152, 37, 179, 16, 145, 34, 136, 54, 208, 148, 206, 143, 150, 219, 189, 241, 210, 19, 92, 131, 56, 70, 64, 30, 66, 182, 163, 195, 72, 126, 110, 107, 58, 40, 84, 250, 133, 186, 61, 202, 94, 155, 159, 10, 21, 121, 43, 78, 212, 229, 172, 115, 243, 167, 87, 7, 112, 192, 247, 140, 128, 99, 13, 103, 74, 222, 237, 49, 197, 254, 24, 227, 165, 153, 119, 38, 184, 180, 124, 17, 68, 146, 217, 35, 32, 137, 46, 55, 63, 209, 91, 149, 188, 207, 205, 144, 135, 151, 178, 220, 252, 190, 97, 242, 86, 211, 171, 20, 42, 93, 158, 132, 60, 57, 83, 71, 109, 65, 162, 31, 45, 67, 216, 183, 123, 164, 118, 196, 23, 73, 236, 127, 12, 111, 246, 108, 161, 59, 82, 41, 157, 85, 170, 251, 96, 134, 177, 187, 204, 62, 90, 203, 89, 95, 176, 156, 169, 160, 81, 11, 245, 22, 235, 122, 117, 44, 215, 79, 174, 213, 233, 230, 231, 173, 232, 116, 214, 244, 234, 168, 80, 88, 175]
def glog (x : UInt8) : Nat := logT.getD x.toNat 0

theorem xts_one (n : Nat) (x : UInt8) : xts (n + 1) x = xt (xts n x) := by rw [xts_plus]; rfl
theorem gexp_zero : gexp 0 = 1 := rfl
theorem gexp_succ (n : Nat) : gexp (n + 1) = xt (gexp n) := xts_one n 1
theorem gexp_add (i j : Nat) : gexp (i + j) = mul (gexp i) (gexp j) := by
  unfold gexp
  rw [mul_xts, one_mul, Nat.add_comm, xts_plus]
theorem expT_ok : ∀ i, i < 255 → expT.getD i 0 = gexp i := by
  have h : (List.range 254).all (fun i => expT.getD (i + 1) 0 == xt (expT.getD i 0)) = true := by decide +kernel
  intro i
  induction i with
  | zero => intro _; rfl
  | succ i ih =>
    intro hi
    have h1 := List.all_eq_true.1 h i (List.mem_range.2 (by omega))
    rw [gexp_succ, ← ih (by omega)]
    simpa using h1
theorem gexp_255 : gexp 255 = 1 := by
  rw [gexp_succ 254, ← expT_ok 254 (by omega)]
  decide
theorem gexp_period (n : Nat) : gexp (n + 255) = gexp n := by rw [gexp_add, gexp_255, mul_one]
theorem gexp_mod (n : Nat) : gexp (n % 255) = gexp n := by
  induction n using Nat.strongRecOn with
  | ind n ih =>
    by_cases h : n < 255
    · rw [Nat.mod_eq_of_lt h]
    · have h1 := ih (n - 255) (by omega)
      have e : n = (n - 255) + 255 := by omega
      rw [e, Nat.add_mod_right, gexp_period, h1]
theorem gexp_glog (x : UInt8) (h : x ≠ 0) : gexp (glog x) = x ∧ glog x < 255 := by
  have hc : (List.range 256).all (fun i => UInt8.ofNat i == 0 || expT.getD (logT.getD i 0) 0 == UInt8.ofNat i && decide (logT.getD i 0 < 255)) = true := by decide +kernel
  have h1 := List.all_eq_true.1 hc x.toNat (List.mem_range.2 x.toNat_lt)
  simp only [UInt8.ofNat_toNat, Bool.or_eq_true, beq_iff_eq, Bool.and_eq_true, decide_eq_true_eq] at h1
  rcases h1 with h1 | ⟨h1, h2⟩
  · exact absurd h1 h
  · refine ⟨?_, h2⟩
    show gexp (logT.getD x.toNat 0) = x
    rw [← expT_ok _ h2]
    exact h1
theorem glog_lt (x : UInt8) : glog x < 255 := by
  by_cases h : x = 0
  · subst h; decide
  · exact (gexp_glog x h).2
theorem glog_gexp (i : Nat) (h : i < 255) : glog (gexp i) = i := by
  have hc : (List.range 255).all (fun i => logT.getD (expT.getD i 0).toNat 0 == i) = true := by decide +kernel
  have h1 := List.all_eq_true.1 hc i (List.mem_range.2 h)
  rw [expT_ok i h] at h1
  simpa [glog] using h1
theorem gexp_ne (i : Nat) : gexp i ≠ 0 := by
  have hc : (List.range 255).all (fun i => expT.getD i 0 != 0) = true := by decide +kernel
  have hm := Nat.mod_lt i (show 0 < 255 by omega)
  have h1 := List.all_eq_true.1 hc (i % 255) (List.mem_range.2 hm)
  rw [expT_ok _ hm, gexp_mod] at h1
  simpa using h1
theorem gexp_inj {i j : Nat} (hi : i < 255) (hj : j < 255) (h : gexp i = gexp j) : i = j := by
  rw [← glog_gexp i hi, ← glog_gexp j hj, h]
theorem glog_one : glog 1 = 0 := by decide

theorem mul_eq_zero {a b : UInt8} (h : mul a b = 0) : a = 0 ∨ b = 0 := by
  by_cases ha : a = 0
  · exact .inl ha
  · by_cases hb : b = 0
    · exact .inr hb
    · have h1 := gexp_glog a ha
      have h2 := gexp_glog b hb
      rw [← h1.1, ← h2.1, ← gexp_add] at h
      exact absurd h (gexp_ne _)
theorem mul_ne {a b : UInt8} (ha : a ≠ 0) (hb : b ≠ 0) : mul a b ≠ 0 := fun h => (mul_eq_zero h).elim ha hb

/-- The product by way of logarithms. -/
theorem mul_log {a b : UInt8} (ha : a ≠ 0) (hb : b ≠ 0) : gexp (glog a + glog b) = mul a b := by
  rw [gexp_add, (gexp_glog a ha).1, (gexp_glog b hb).1]

def inv (a : UInt8) : UInt8 := if a = 0 then 0 else gexp (255 - glog a)
theorem mul_inv {a : UInt8} (ha : a ≠ 0) : mul a (inv a) = 1 := by
  unfold inv
  rw [if_neg ha]
  have h1 := gexp_glog a ha
  have e : gexp (glog a + (255 - glog a)) = 1 := by rw [show glog a + (255 - glog a) = 255 by omega, gexp_255]
  rwa [gexp_add, h1.1] at e
theorem inv_mul {a : UInt8} (ha : a ≠ 0) : mul (inv a) a = 1 := by rw [mul_comm, mul_inv ha]
def div (a b : UInt8) : UInt8 := mul a (inv b)
theorem div_mul {a b : UInt8} (hb : b ≠ 0) : mul (div a b) b = a := by unfold div; rw [mul_assoc, inv_mul hb, mul_one]
theorem mul_right_cancel {a b c : UInt8} (hc : c ≠ 0) (h : mul a c = mul b c) : a = b := by
  have h1 : mul (mul a c) (inv c) = mul (mul b c) (inv c) := by rw [h]
  rwa [mul_assoc, mul_assoc, mul_inv hc, mul_one, mul_one] at h1
theorem div_log {a b : UInt8} (ha : a ≠ 0) (hb : b ≠ 0) : gexp (glog a + 255 - glog b) = div a b := by
  unfold div inv
  rw [if_neg hb, show glog a + 255 - glog b = glog a + (255 - glog b) by have := glog_lt b; omega, gexp_add, (gexp_glog a ha).1]

/-- A power. -/
def pow (a : UInt8) : Nat → UInt8
  | 0 => 1
  | n + 1 => mul (pow a n) a
theorem pow_add (a : UInt8) (n m : Nat) : pow a (n + m) = mul (pow a n) (pow a m) := by
  induction m with
  | zero => simp [pow, mul_one]
  | succ m ih => rw [← Nat.add_assoc]; simp only [pow]; rw [ih, mul_assoc]
theorem pow_mul (a b : UInt8) (n : Nat) : pow (mul a b) n = mul (pow a n) (pow b n) := by
  induction n with
  | zero => simp [pow, mul_one]
  | succ n ih =>
    simp only [pow]
    rw [ih, mul_assoc, mul_assoc, ← mul_assoc (pow b n), mul_comm (pow b n) a, mul_assoc a]
theorem pow_log {a : UInt8} (ha : a ≠ 0) (n : Nat) : pow a n = gexp (glog a * n) := by
  induction n with
  | zero => rfl
  | succ n ih => rw [pow, ih, Nat.mul_succ, gexp_add, (gexp_glog a ha).1]
theorem pow_zero_base (n : Nat) (h : 0 < n) : pow 0 n = 0 := by
  cases n with
  | zero => omega
  | succ n => simp [pow, mul_zero]
theorem pow_255 {a : UInt8} (ha : a ≠ 0) : pow a 255 = 1 := by
  rw [pow_log ha, ← gexp_mod, Nat.mul_mod_left]; rfl
theorem pow_square (a : UInt8) (n : Nat) : pow (mul a a) n = pow a (2 * n) := by
  rw [Nat.two_mul, pow_add, pow_mul]
theorem mod_255 (a n : Nat) : a * (n % 255) % 255 = a * n % 255 := by
  rw [Nat.mul_mod, Nat.mod_mod, ← Nat.mul_mod]
theorem pow_code {a : UInt8} (ha : a ≠ 0) (n : Nat) : gexp (glog a * (n % 255) % 255) = pow a n := by
  rw [mod_255, gexp_mod, pow_log ha]
theorem glog_mul {a b : UInt8} (ha : a ≠ 0) (hb : b ≠ 0) : glog (mul a b) = (glog a + glog b) % 255 := by
  rw [← mul_log ha hb, ← gexp_mod, glog_gexp _ (Nat.mod_lt _ (by omega))]
theorem add_self (a : UInt8) : a ^^^ a = 0 := UInt8.xor_self

/-- A sum. -/
def add (x y : UInt8) : UInt8 := x ^^^ y
theorem add_comm (x y : UInt8) : add x y = add y x := UInt8.xor_comm x y
theorem add_assoc (x y z : UInt8) : add (add x y) z = add x (add y z) := UInt8.xor_assoc x y z
theorem add_zero (x : UInt8) : add x 0 = x := UInt8.xor_zero
theorem add_own (x : UInt8) : add x x = 0 := UInt8.xor_self
theorem mul_sum (x y z : UInt8) : mul x (add y z) = add (mul x y) (mul x z) := mul_add x y z
theorem pow_two (x : UInt8) : pow x 2 = mul x x := by simp only [pow, one_mul]
theorem square_sum (x y : UInt8) : pow (add x y) 2 = add (pow x 2) (pow y 2) := by
  rw [pow_two, pow_two, pow_two]
  show mul (x ^^^ y) (x ^^^ y) = mul x x ^^^ mul y y
  rw [mul_add, add_mul, add_mul, mul_comm y x, UInt8.xor_assoc, ← UInt8.xor_assoc (mul x y), UInt8.xor_self, UInt8.zero_xor]
/-- What a quotient is told as. -/
def divQ (x y : UInt8) : UInt8 := if y = 0 then 0 else div x y
def divE (y : UInt8) : Int := if y = 0 then 20 else 0

/-! Lists. -/
/-- The byte at a place; nought where there is none. -/
def get (l : List UInt8) (k : Nat) : UInt8 := l.getD k 0
def dotTo (a b : List UInt8) : Nat → UInt8
  | 0 => 0
  | k + 1 => dotTo a b k ^^^ mul (get a k) (get b k)
def dot (a b : List UInt8) : UInt8 := dotTo a b (min a.length b.length)
/-- The byte at a place of 'lay'. -/
def layAt (out : List UInt8) (c : UInt8) (x : List UInt8) (i : Nat) : UInt8 := if i < x.length then get out i ^^^ mul c (get x i) else get out i
def lay (out : List UInt8) (c : UInt8) (x : List UInt8) : List UInt8 := (List.range out.length).map (layAt out c x)
/-- 'lay' when k places are done. -/
def layTo (out : List UInt8) (c : UInt8) (x : List UInt8) (k : Nat) : List UInt8 := (List.range out.length).map fun i => if i < k then layAt out c x i else get out i
theorem lay_length (out : List UInt8) (c : UInt8) (x : List UInt8) : (lay out c x).length = out.length := by simp [lay]
theorem layTo_length (out : List UInt8) (c : UInt8) (x : List UInt8) (k : Nat) : (layTo out c x k).length = out.length := by simp [layTo]
theorem get_of_lt {l : List UInt8} {k : Nat} (h : k < l.length) : get l k = l[k] := by simp [get, h]
theorem get_of_ge {l : List UInt8} {k : Nat} (h : l.length ≤ k) : get l k = 0 := by simp [get, h]
theorem ext_get {l m : List UInt8} (hl : l.length = m.length) (h : ∀ k, k < l.length → get l k = get m k) : l = m := by
  apply List.ext_getElem hl
  intro i h1 h2
  have := h i h1
  rwa [get_of_lt h1, get_of_lt h2] at this
theorem get_map_range {n k : Nat} (f : Nat → UInt8) (h : k < n) : get ((List.range n).map f) k = f k := by simp [get, h]
theorem layTo_zero (out : List UInt8) (c : UInt8) (x : List UInt8) : layTo out c x 0 = out := by
  refine ext_get (layTo_length _ _ _ _) fun k hk => ?_
  rw [layTo_length] at hk
  unfold layTo
  rw [get_map_range _ hk, if_neg (by omega)]
theorem layTo_full (out : List UInt8) (c : UInt8) (x : List UInt8) {k : Nat} (hk : out.length ≤ k ∨ x.length ≤ k) : layTo out c x k = lay out c x := by
  refine ext_get (by rw [layTo_length, lay_length]) fun i hi => ?_
  rw [layTo_length] at hi
  unfold layTo lay
  rw [get_map_range _ hi, get_map_range _ hi]
  by_cases h : i < k
  · rw [if_pos h]
  · rw [if_neg h]
    unfold layAt
    rw [if_neg (by omega)]
theorem layTo_get (out : List UInt8) (c : UInt8) (x : List UInt8) {k i : Nat} (hi : i < out.length) (hk : k ≤ i) : get (layTo out c x k) i = get out i := by
  unfold layTo
  rw [get_map_range _ hi, if_neg (by omega)]
theorem get_set {l : List UInt8} {k i : Nat} (v : UInt8) (hk : k < l.length) : get (l.set k v) i = if k = i then v else get l i := by
  unfold get
  rw [List.getD_eq_getElem?_getD, List.getD_eq_getElem?_getD, List.getElem?_set]
  by_cases e : k = i
  · rw [if_pos e, if_pos e, if_pos hk]; rfl
  · rw [if_neg e, if_neg e]
theorem layTo_step (out : List UInt8) (c : UInt8) (x : List UInt8) {k : Nat} (hk : k < out.length) (hx : k < x.length) : layTo out c x (k + 1) = (layTo out c x k).set k (get out k ^^^ mul c (get x k)) := by
  refine ext_get (by rw [List.length_set, layTo_length, layTo_length]) fun i hi => ?_
  rw [layTo_length] at hi
  rw [get_set _ (by rw [layTo_length]; exact hk)]
  unfold layTo
  rw [get_map_range _ hi, get_map_range _ hi]
  by_cases e : k = i
  · subst e
    rw [if_pos rfl, if_pos (by omega)]
    unfold layAt
    rw [if_pos hx]
  · rw [if_neg e]
    by_cases h : i < k
    · rw [if_pos h, if_pos (by omega)]
    · rw [if_neg h, if_neg (by omega)]
def layPre (out : List UInt8) (c : UInt8) (x : List UInt8) (k : Nat) : List UInt8 := (List.range k).map (layAt out c x)
theorem layPre_succ (out : List UInt8) (c : UInt8) (x : List UInt8) (k : Nat) : layPre out c x (k + 1) = layPre out c x k ++ [layAt out c x k] := by
  simp [layPre, List.range_succ]
theorem layPre_length (out : List UInt8) (c : UInt8) (x : List UInt8) (k : Nat) : (layPre out c x k).length = k := by simp [layPre]

/-! Dot and Lay together. -/
theorem dotTo_comm (a b : List UInt8) : ∀ k, dotTo a b k = dotTo b a k
  | 0 => rfl
  | k + 1 => by rw [dotTo, dotTo, dotTo_comm a b k, mul_comm]
theorem dot_comm (a b : List UInt8) : dot a b = dot b a := by unfold dot; rw [Nat.min_comm, dotTo_comm]
theorem lay_get (out : List UInt8) (c : UInt8) (x : List UInt8) {i : Nat} (h : i < out.length) : get (lay out c x) i = layAt out c x i := get_map_range _ h
theorem layAt_all {out x : List UInt8} (c : UInt8) {i : Nat} : layAt out c x i = get out i ^^^ mul c (get x i) := by
  unfold layAt
  by_cases h : i < x.length
  · rw [if_pos h]
  · rw [if_neg h, get_of_ge (l := x) (by omega), mul_zero, UInt8.xor_zero]
theorem dotTo_sum (x y z : List UInt8) : ∀ k, k ≤ x.length → dotTo (lay x 1 y) z k = dotTo x z k ^^^ dotTo y z k
  | 0, _ => by rw [dotTo, dotTo, dotTo]; rfl
  | k + 1, h => by
    rw [dotTo, dotTo, dotTo, dotTo_sum x y z k (by omega), lay_get _ _ _ (by omega), layAt_all, one_mul, add_mul, xor_mid]
theorem dot_sum {x y : List UInt8} (h : x.length = y.length) : dot (lay x 1 y) x = add (dot x x) (dot y x) := by
  unfold dot add
  rw [lay_length, ← h, dotTo_sum x y x _ (by omega)]
theorem get_zeros (n i : Nat) : get (List.replicate n 0) i = 0 := by
  unfold get
  rw [List.getD_eq_getElem?_getD, List.getElem?_replicate]
  split <;> rfl
theorem dotTo_scaled (c : UInt8) (x y : List UInt8) (n : Nat) : ∀ k, k ≤ n → dotTo (lay (List.replicate n 0) c x) y k = mul c (dotTo x y k)
  | 0, _ => by rw [dotTo, dotTo, mul_zero]
  | k + 1, h => by
    rw [dotTo, dotTo, dotTo_scaled c x y n k (by omega), lay_get _ _ _ (by rw [List.length_replicate]; omega), layAt_all, get_zeros, UInt8.zero_xor, mul_assoc, ← mul_add]
theorem dot_scaled (c : UInt8) {x y : List UInt8} {n : Nat} (hx : x.length = n) (hy : y.length = n) : dot (lay (List.replicate n 0) c x) y = mul c (dot x y) := by
  unfold dot
  rw [lay_length, List.length_replicate, hx, hy, dotTo_scaled c x y n _ (by omega)]
theorem lay_twice (a : List UInt8) (c d : UInt8) (b : List UInt8) : lay (lay a c b) d b = lay a (add c d) b := by
  refine ext_get (by rw [lay_length, lay_length, lay_length]) fun i hi => ?_
  rw [lay_length, lay_length] at hi
  rw [lay_get _ _ _ (by rw [lay_length]; exact hi), lay_get _ _ _ hi, layAt_all, lay_get _ _ _ hi, layAt_all, layAt_all]
  show _ = get a i ^^^ mul (c ^^^ d) (get b i)
  rw [add_mul, UInt8.xor_assoc]
theorem lay_zero (a b : List UInt8) : lay a 0 b = a := by
  refine ext_get (lay_length _ _ _) fun i hi => ?_
  rw [lay_length] at hi
  rw [lay_get _ _ _ hi, layAt_all, zero_mul, UInt8.xor_zero]
theorem lay_back (a : List UInt8) (c : UInt8) (b : List UInt8) : lay (lay a c b) c b = a := by rw [lay_twice, add_own, lay_zero]
end Gf
namespace Gm
open Gf
/-- A sum of so many. -/
def sum (f : Nat → UInt8) : Nat → UInt8
  | 0 => 0
  | n + 1 => sum f n ^^^ f n
theorem sum_congr {f g : Nat → UInt8} : ∀ {n : Nat}, (∀ k, k < n → f k = g k) → sum f n = sum g n
  | 0, _ => rfl
  | n + 1, h => by rw [sum, sum, sum_congr (fun k hk => h k (by omega)), h n (by omega)]
theorem sum_zero {f : Nat → UInt8} : ∀ {n : Nat}, (∀ k, k < n → f k = 0) → sum f n = 0
  | 0, _ => rfl
  | n + 1, h => by rw [sum, sum_zero (fun k hk => h k (by omega)), h n (by omega)]; rfl
theorem sum_add (f g : Nat → UInt8) : ∀ n : Nat, sum (fun k => f k ^^^ g k) n = sum f n ^^^ sum g n
  | 0 => UInt8.xor_zero.symm
  | n + 1 => by rw [sum, sum, sum, sum_add f g n, xor_mid]
theorem mul_sum (c : UInt8) (f : Nat → UInt8) : ∀ n : Nat, mul c (sum f n) = sum (fun k => mul c (f k)) n
  | 0 => mul_zero c
  | n + 1 => by rw [sum, sum, mul_add, mul_sum c f n]
theorem sum_mul (f : Nat → UInt8) (c : UInt8) : ∀ n : Nat, mul (sum f n) c = sum (fun k => mul (f k) c) n
  | 0 => zero_mul c
  | n + 1 => by rw [sum, sum, add_mul, sum_mul f c n]
theorem sum_swap (f : Nat → Nat → UInt8) (n : Nat) : ∀ m : Nat, sum (fun i => sum (f i) m) n = sum (fun j => sum (fun i => f i j) n) m
  | 0 => by show sum (fun _ => 0) n = 0; exact sum_zero fun _ _ => rfl
  | m + 1 => by
    have h : (fun i => sum (f i) (m + 1)) = fun i => sum (f i) m ^^^ f i m := rfl
    rw [h, sum_add, sum_swap f n m]
    rfl
theorem sum_one {f : Nat → UInt8} {k : Nat} : ∀ {n : Nat}, k < n → (∀ j, j < n → j ≠ k → f j = 0) → sum f n = f k
  | 0, h, _ => absurd h (Nat.not_lt_zero _)
  | n + 1, hk, h => by
    rw [sum]
    by_cases e : k = n
    · subst e
      rw [sum_zero (fun j hj => h j (by omega) (by omega)), UInt8.zero_xor]
    · rw [sum_one (k := k) (by omega) (fun j hj hne => h j (by omega) hne), h n (by omega) (Ne.symm e), UInt8.xor_zero]

abbrev M := Nat → Nat → UInt8
def prod (n : Nat) (A B : M) : M := fun i j => sum (fun k => mul (A i k) (B k j)) n
def one : M := fun i j => if i = j then 1 else 0
def Eq2 (n m : Nat) (A B : M) : Prop := ∀ i, i < n → ∀ j, j < m → A i j = B i j
theorem Eq2.refl (n m : Nat) (A : M) : Eq2 n m A A := fun _ _ _ _ => rfl
theorem Eq2.symm {n m : Nat} {A B : M} (h : Eq2 n m A B) : Eq2 n m B A := fun i hi j hj => (h i hi j hj).symm
theorem Eq2.trans {n m : Nat} {A B C : M} (h : Eq2 n m A B) (k : Eq2 n m B C) : Eq2 n m A C := fun i hi j hj => (h i hi j hj).trans (k i hi j hj)
theorem prod_assoc (n m : Nat) (A B C : M) : prod m (prod n A B) C = prod n A (prod m B C) := by
  funext i j
  show sum (fun k => mul (sum (fun l => mul (A i l) (B l k)) n) (C k j)) m = sum (fun l => mul (A i l) (sum (fun k => mul (B l k) (C k j)) m)) n
  have h1 : (fun k => mul (sum (fun l => mul (A i l) (B l k)) n) (C k j)) = fun k => sum (fun l => mul (mul (A i l) (B l k)) (C k j)) n := by funext k; rw [sum_mul]
  have h2 : (fun l => mul (A i l) (sum (fun k => mul (B l k) (C k j)) m)) = fun l => sum (fun k => mul (mul (A i l) (B l k)) (C k j)) m := by
    funext l; rw [mul_sum]; exact sum_congr fun k _ => by rw [mul_assoc]
  rw [h1, h2, sum_swap]
theorem prod_congr {r n m : Nat} {A A' B B' : M} (ha : Eq2 r n A A') (hb : Eq2 n m B B') : Eq2 r m (prod n A B) (prod n A' B') :=
  fun i hi j hj => sum_congr fun k hk => by rw [ha i hi k hk, hb k hk j hj]
theorem prod_one {n : Nat} (A : M) {i j : Nat} (hj : j < n) : prod n A one i j = A i j := by
  show sum _ n = _
  rw [sum_one (k := j) hj (fun k _ hne => by simp only [one]; rw [if_neg hne, mul_zero])]
  simp only [one]; rw [if_pos trivial, mul_one]
theorem one_prod {n : Nat} (A : M) {i : Nat} (hi : i < n) (j : Nat) : prod n one A i j = A i j := by
  show sum _ n = _
  rw [sum_one (k := i) hi (fun k _ hne => by simp only [one]; rw [if_neg (Ne.symm hne), zero_mul])]
  simp only [one]; rw [if_pos trivial, one_mul]
theorem add_prod (n : Nat) (A B C : M) : prod n (fun i j => A i j ^^^ B i j) C = fun i j => prod n A C i j ^^^ prod n B C i j := by
  funext i j
  show sum _ n = sum _ n ^^^ sum _ n
  rw [← sum_add]
  exact sum_congr fun k _ => by rw [add_mul]

/-- Two matrices that undo each other. -/
structure Undo (n : Nat) (T S : M) : Prop where
  l : Eq2 n n (prod n S T) one
  r : Eq2 n n (prod n T S) one
theorem Undo.one (n : Nat) : Undo n one one := ⟨fun _ hi j _ => one_prod _ hi j, fun _ hi j _ => one_prod _ hi j⟩
theorem Undo.symm {n : Nat} {T S : M} (h : Undo n T S) : Undo n S T := ⟨h.r, h.l⟩
theorem Undo.step {n : Nat} {T S E F : M} (h : Undo n T S) (e : Undo n E F) : Undo n (prod n E T) (prod n S F) := by
  constructor
  · rw [prod_assoc, ← prod_assoc n n F E T]
    exact (prod_congr (Eq2.refl n n S) ((prod_congr e.l (Eq2.refl n n T)).trans fun _ hi j _ => one_prod T hi j)).trans h.l
  · rw [prod_assoc, ← prod_assoc n n T S F]
    exact (prod_congr (Eq2.refl n n E) ((prod_congr h.r (Eq2.refl n n F)).trans fun _ hi j _ => one_prod F hi j)).trans e.r
/-- Rows changed about. -/
def permE (s : Nat → Nat) : M := fun i j => if s i = j then 1 else 0
theorem permE_prod {n : Nat} {s : Nat → Nat} (A : M) {i : Nat} (hs : s i < n) (j : Nat) : prod n (permE s) A i j = A (s i) j := by
  show sum _ n = _
  rw [sum_one (k := s i) hs (fun k _ hne => by simp only [permE]; rw [if_neg (Ne.symm hne), zero_mul])]
  simp only [permE]; rw [if_pos trivial, one_mul]
theorem permE_undo {n : Nat} {s : Nat → Nat} (hs : ∀ i, i < n → s i < n) (hss : ∀ i, s (s i) = i) : Undo n (permE s) (permE s) := by
  have h : Eq2 n n (prod n (permE s) (permE s)) Gm.one := fun i hi j _ => by
    rw [permE_prod _ (hs i hi)]
    simp only [permE, Gm.one, hss]
  exact ⟨h, h⟩
/-- A row times an element. -/
def scaleE (p : Nat) (c : UInt8) : M := fun i j => if i = j then (if i = p then c else 1) else 0
theorem scaleE_prod {n : Nat} (p : Nat) (c : UInt8) (A : M) {i : Nat} (hi : i < n) (j : Nat) : prod n (scaleE p c) A i j = if i = p then mul c (A i j) else A i j := by
  show sum _ n = _
  rw [sum_one (k := i) hi (fun k _ hne => by simp only [scaleE]; rw [if_neg (Ne.symm hne), zero_mul])]
  simp only [scaleE]; rw [if_pos trivial]
  split
  · rfl
  · rw [one_mul]
theorem scaleE_undo {n p : Nat} {c d : UInt8} (h : mul c d = 1) : Undo n (scaleE p c) (scaleE p d) := by
  have h' : mul d c = 1 := by rw [mul_comm, h]
  have g : ∀ c d : UInt8, mul c d = 1 → Eq2 n n (prod n (scaleE p c) (scaleE p d)) Gm.one := fun c d h i hi j _ => by
    rw [scaleE_prod p c _ hi]
    by_cases e : i = j
    · subst e
      by_cases e2 : i = p
      · simp [scaleE, Gm.one, e2, h]
      · simp [scaleE, Gm.one, e2]
    · by_cases e2 : i = p
      · subst e2; simp [scaleE, Gm.one, e, mul_zero]
      · simp [scaleE, Gm.one, e, e2]
  exact ⟨g d c h', g c d h⟩
/-- One row, each time times an element, added to all others. -/
def clearE (p : Nat) (d : Nat → UInt8) : M := fun i j => Gm.one i j ^^^ (if i ≠ p ∧ j = p then d i else 0)
theorem clearE_prod {n p : Nat} (hp : p < n) (d : Nat → UInt8) (A : M) {i : Nat} (hi : i < n) (j : Nat) : prod n (clearE p d) A i j = if i = p then A i j else A i j ^^^ mul (d i) (A p j) := by
  have h : prod n (clearE p d) A = fun i j => prod n Gm.one A i j ^^^ prod n (fun i j => if i ≠ p ∧ j = p then d i else 0) A i j := add_prod n _ _ A
  rw [h]
  show prod n Gm.one A i j ^^^ prod n _ A i j = _
  rw [one_prod A hi]
  by_cases e : i = p
  · rw [if_pos e]
    show _ ^^^ sum _ n = _
    rw [sum_zero (fun k _ => by simp only []; rw [if_neg (fun hh => hh.1 e), zero_mul]), UInt8.xor_zero]
  · rw [if_neg e]
    show _ ^^^ sum _ n = _
    rw [sum_one (k := p) hp (fun k _ hne => by simp only []; rw [if_neg (fun hh => hne hh.2), zero_mul])]
    simp only []
    rw [if_pos ⟨e, trivial⟩]
theorem clearE_undo {n p : Nat} (hp : p < n) (d : Nat → UInt8) : Undo n (clearE p d) (clearE p d) := by
  have h : Eq2 n n (prod n (clearE p d) (clearE p d)) Gm.one := fun i hi j _ => by
    rw [clearE_prod hp d _ hi]
    by_cases e : i = p
    · subst e
      rw [if_pos rfl]
      simp only [clearE]
      rw [if_neg (fun hh => hh.1 rfl), UInt8.xor_zero]
    · rw [if_neg e]
      simp only [clearE]
      by_cases ej : j = p
      · subst ej
        rw [if_pos ⟨e, rfl⟩, if_neg (fun hh => hh.1 rfl), UInt8.xor_zero]
        simp only [Gm.one]
        rw [if_neg e, if_pos trivial, mul_one, UInt8.zero_xor, UInt8.xor_self]
      · rw [if_neg (fun hh => ej hh.2), if_neg (fun hh => ej hh.2), UInt8.xor_zero, UInt8.xor_zero]
        have hz : Gm.one p j = 0 := by simp only [Gm.one]; rw [if_neg (Ne.symm ej)]
        rw [hz, mul_zero, UInt8.xor_zero]
  exact ⟨h, h⟩

/-- The rows are sums of k rows. -/
def Spans (n m k : Nat) (A : M) : Prop := ∃ C V : M, Eq2 n m A (prod k C V)
/-- More unknowns than equations: there is a row, not nought, that makes nought of it. -/
theorem kernel : ∀ (k r : Nat) (X : M), k < r → ∃ y : Nat → UInt8, (∃ i, i < r ∧ y i ≠ 0) ∧ ∀ j, j < k → sum (fun i => mul (y i) (X i j)) r = 0
  | 0, r, X, h => ⟨fun _ => 1, ⟨0, h, by decide⟩, fun j hj => absurd hj (Nat.not_lt_zero _)⟩
  | k + 1, r, X, h => by
    by_cases hz : ∃ p, p < r ∧ X p k ≠ 0
    · obtain ⟨p, hp, hx⟩ := hz
      -- rows but p, cleared of column k by row p
      let s : Nat → Nat := fun i => if i < p then i else i + 1
      have sr : ∀ i, i < r - 1 → s i < r ∧ s i ≠ p := fun i hi => by
        show (if i < p then i else i + 1) < r ∧ (if i < p then i else i + 1) ≠ p
        split <;> omega
      let q : Nat → UInt8 := fun i => mul (X (s i) k) (inv (X p k))
      obtain ⟨y, ⟨i0, hi0, hy0⟩, hy⟩ := kernel k (r - 1) (fun i j => X (s i) j ^^^ mul (q i) (X p j)) (by omega)
      let yp : UInt8 := sum (fun i => mul (y i) (q i)) (r - 1)
      let z : Nat → UInt8 := fun i => if i = p then yp else if i < p then y i else y (i - 1)
      have hs : ∀ f : Nat → UInt8, sum f r = f p ^^^ sum (fun i => f (s i)) (r - 1) := by
        intro f
        have key : ∀ n, sum f (n + 1) = if n < p then sum (fun i => f (s i)) (n + 1) else f p ^^^ sum (fun i => f (s i)) n := by
          intro n
          induction n with
          | zero =>
            by_cases e : 0 < p
            · rw [if_pos e]
              show 0 ^^^ f 0 = 0 ^^^ f (if 0 < p then 0 else 0 + 1)
              rw [if_pos e]
            · rw [if_neg e]
              have e0 : p = 0 := by omega
              show 0 ^^^ f 0 = f p ^^^ 0
              rw [e0, UInt8.zero_xor, UInt8.xor_zero]
          | succ n ih =>
            show sum f (n + 1) ^^^ f (n + 1) = _
            rw [ih]
            by_cases e : n + 1 < p
            · rw [if_pos (by omega), if_pos e]
              show _ = sum (fun i => f (s i)) (n + 1) ^^^ f (if n + 1 < p then n + 1 else n + 1 + 1)
              rw [if_pos e]
            · rw [if_neg e]
              by_cases e2 : n < p
              · rw [if_pos e2]
                have e3 : n + 1 = p := by omega
                rw [e3, UInt8.xor_comm]
              · rw [if_neg e2]
                show _ = f p ^^^ (sum (fun i => f (s i)) n ^^^ f (if n < p then n else n + 1))
                rw [if_neg e2, UInt8.xor_assoc]
        have h1 := key (r - 1)
        rw [show r - 1 + 1 = r by omega] at h1
        rw [h1]
        by_cases e : r - 1 < p
        · omega
        · rw [if_neg e]
      have hzs : ∀ i, i < r - 1 → z (s i) = y i := fun i hi => by
        show (if s i = p then yp else if s i < p then y (s i) else y (s i - 1)) = y i
        rw [if_neg (sr i hi).2]
        by_cases e : i < p
        · have : s i = i := if_pos e
          rw [this, if_pos e]
        · have : s i = i + 1 := if_neg e
          rw [this, if_neg (by omega), Nat.add_sub_cancel]
      refine ⟨z, ⟨s i0, (sr i0 hi0).1, by rw [hzs i0 hi0]; exact hy0⟩, fun j hj => ?_⟩
      rw [hs]
      have hzp : z p = yp := if_pos rfl
      have e1 : sum (fun i => mul (z (s i)) (X (s i) j)) (r - 1) = sum (fun i => mul (y i) (X (s i) j)) (r - 1) := sum_congr fun i hi => by rw [hzs i hi]
      rw [hzp, e1]
      have e2 : mul yp (X p j) = sum (fun i => mul (y i) (mul (q i) (X p j))) (r - 1) := by
        show mul (sum _ _) _ = _
        rw [sum_mul]
        exact sum_congr fun i _ => by rw [mul_assoc]
      rw [e2, ← sum_add]
      by_cases ej : j = k
      · subst ej
        refine sum_zero fun i _ => ?_
        rw [← mul_add]
        have : mul (q i) (X p j) = X (s i) j := by
          show mul (mul (X (s i) j) (inv (X p j))) (X p j) = _
          rw [mul_assoc, inv_mul hx, mul_one]
        rw [this, UInt8.xor_self, mul_zero]
      · have := hy j (by omega)
        rw [← this]
        exact sum_congr fun i _ => by rw [← mul_add, UInt8.xor_comm]
    · obtain ⟨y, hy0, hy⟩ := kernel k r X (by omega)
      refine ⟨y, hy0, fun j hj => ?_⟩
      by_cases ej : j = k
      · subst ej
        refine sum_zero fun i hi => ?_
        have : X i j = 0 := by
          rcases Classical.em (X i j = 0) with h0 | h0
          · exact h0
          · exact absurd ⟨i, hi, h0⟩ hz
        rw [this, mul_zero]
      · exact hy j (by omega)
/-- The unit of r rows is no sum of less than r rows. -/
theorem unit_spans {r m k : Nat} {X : M} (p : Nat → Nat) (hp : ∀ i, i < r → p i < m) (hX : ∀ i, i < r → ∀ j, j < r → X i (p j) = one i j) (h : Spans r m k X) : r ≤ k := by
  rcases Nat.lt_or_ge k r with hk | hk
  · obtain ⟨C, V, hCV⟩ := h
    obtain ⟨y, ⟨i0, hi0, hy0⟩, hy⟩ := kernel k r C hk
    exfalso
    apply hy0
    have h1 : sum (fun i => mul (y i) (X i (p i0))) r = y i0 := by
      rw [sum_one (k := i0) hi0 (fun j hj hne => by rw [hX j hj i0 hi0]; simp only [one]; rw [if_neg hne, mul_zero]), hX i0 hi0 i0 hi0]
      simp only [one]; rw [if_pos trivial, mul_one]
    rw [← h1]
    have h2 : sum (fun i => mul (y i) (X i (p i0))) r = sum (fun i => mul (y i) (sum (fun t => mul (C i t) (V t (p i0))) k)) r := sum_congr fun i hi => by rw [hCV i hi _ (hp i0 hi0)]; rfl
    rw [h2]
    have h3 : (fun i => mul (y i) (sum (fun t => mul (C i t) (V t (p i0))) k)) = fun i => sum (fun t => mul (mul (y i) (C i t)) (V t (p i0))) k := by
      funext i; rw [mul_sum]; exact sum_congr fun t _ => by rw [mul_assoc]
    rw [h3, sum_swap]
    refine sum_zero fun t ht => ?_
    have := hy t ht
    have h4 : sum (fun i => mul (mul (y i) (C i t)) (V t (p i0))) r = mul (sum (fun i => mul (y i) (C i t)) r) (V t (p i0)) := by rw [sum_mul]
    rw [h4, this, zero_mul]
  · exact hk
theorem spans_of_prod {n m q k : Nat} {A B D : M} (h : Spans q m k B) (ha : Eq2 n m A (prod q D B)) : Spans n m k A := by
  obtain ⟨C, V, hCV⟩ := h
  refine ⟨prod q D C, V, ha.trans ?_⟩
  rw [prod_assoc]
  exact prod_congr (Eq2.refl n q D) hCV
theorem spans_prod {n m q k : Nat} {A B D : M} (h : Spans n q k A) (ha : Eq2 n m D (prod q A B)) : Spans n m k D := by
  obtain ⟨C, V, hCV⟩ := h
  refine ⟨C, prod q V B, ha.trans ?_⟩
  rw [← prod_assoc]
  exact prod_congr hCV (Eq2.refl q m B)
end Gm
namespace Gm
open Gf
abbrev L := List (List UInt8)
def row (m : L) (i : Nat) : List UInt8 := m.getD i []
def at_ (m : L) : M := fun i j => get (row m i) j
/-- So many rows, so many columns. -/
structure Rect (n c : Nat) (m : L) : Prop where
  len : m.length = n
  wid : ∀ i, i < n → (row m i).length = c
theorem row_of_lt {m : L} {i : Nat} (h : i < m.length) : row m i = m[i] := by simp [row, h]
theorem row_set {m : L} {p i : Nat} (r : List UInt8) (hp : p < m.length) : row (m.set p r) i = if p = i then r else row m i := by
  unfold row
  rw [List.getD_eq_getElem?_getD, List.getD_eq_getElem?_getD, List.getElem?_set]
  by_cases e : p = i
  · rw [if_pos e, if_pos e, if_pos hp]; rfl
  · rw [if_neg e, if_neg e]
theorem row_range {n i : Nat} (f : Nat → List UInt8) (h : i < n) : row ((List.range n).map f) i = f i := by simp [row, h]
theorem rows_ext {m m' : L} (hl : m.length = m'.length) (h : ∀ i, i < m.length → row m i = row m' i) : m = m' := by
  apply List.ext_getElem hl
  intro i h1 h2
  have := h i h1
  rwa [row_of_lt h1, row_of_lt h2] at this
theorem Rect.ext {n c : Nat} {m m' : L} (h : Rect n c m) (h' : Rect n c m') (e : Eq2 n c (at_ m) (at_ m')) : m = m' := by
  refine rows_ext (by rw [h.len, h'.len]) fun i hi => ?_
  rw [h.len] at hi
  exact ext_get (by rw [h.wid i hi, h'.wid i hi]) fun j hj => e i hi j (by rwa [h.wid i hi] at hj)
def swapL (m : L) (p q : Nat) : L := (m.set p (row m q)).set q (row m p)
def swapI (p q i : Nat) : Nat := if i = p then q else if i = q then p else i
theorem swapI_swapI (p q i : Nat) : swapI p q (swapI p q i) = i := by unfold swapI; split <;> split <;> simp_all
theorem swapI_lt {p q i n : Nat} (hp : p < n) (hq : q < n) (hi : i < n) : swapI p q i < n := by unfold swapI; split <;> (try split) <;> omega
theorem row_swapL {m : L} {p q i : Nat} (hp : p < m.length) (hq : q < m.length) : row (swapL m p q) i = row m (swapI p q i) := by
  unfold swapL swapI
  rw [row_set _ (by rw [List.length_set]; exact hq), row_set _ hp]
  by_cases e1 : q = i
  · rw [if_pos e1]
    by_cases e2 : i = p
    · rw [if_pos e2, ← e2, e1]
    · rw [if_neg e2, if_pos e1.symm]
  · rw [if_neg e1]
    by_cases e2 : p = i
    · rw [if_pos e2, if_pos e2.symm]
    · rw [if_neg e2, if_neg (Ne.symm e2), if_neg (Ne.symm e1)]
theorem Rect.swapL {n c p q : Nat} {m : L} (h : Rect n c m) (hp : p < n) (hq : q < n) : Rect n c (swapL m p q) :=
  ⟨by unfold Gm.swapL; rw [List.length_set, List.length_set, h.len], fun i hi => by rw [row_swapL (by rw [h.len]; exact hp) (by rw [h.len]; exact hq)]; exact h.wid _ (swapI_lt hp hq hi)⟩
def scaleRow (r : List UInt8) (c : UInt8) : List UInt8 := lay r (add c 1) r
theorem scaleRow_length (r : List UInt8) (c : UInt8) : (scaleRow r c).length = r.length := lay_length _ _ _
theorem get_scaleRow {r : List UInt8} {j : Nat} (c : UInt8) (h : j < r.length) : get (scaleRow r c) j = mul c (get r j) := by
  unfold scaleRow
  rw [lay_get _ _ _ h, layAt_all]
  show _ ^^^ mul (c ^^^ 1) _ = _
  rw [add_mul, one_mul, UInt8.xor_comm (mul c _), ← UInt8.xor_assoc, UInt8.xor_self, UInt8.zero_xor]
def scaleL (m : L) (p : Nat) (c : UInt8) : L := m.set p (scaleRow (row m p) c)
theorem row_scaleL {m : L} {p i : Nat} (c : UInt8) (hp : p < m.length) : row (scaleL m p c) i = if p = i then scaleRow (row m p) c else row m i := row_set _ hp
theorem Rect.scaleL {n c p : Nat} {m : L} (x : UInt8) (h : Rect n c m) (hp : p < n) : Rect n c (scaleL m p x) :=
  ⟨by unfold Gm.scaleL; rw [List.length_set, h.len], fun i hi => by
    rw [row_scaleL _ (by rw [h.len]; exact hp)]
    split
    · rw [scaleRow_length]; exact h.wid p hp
    · exact h.wid i hi⟩
theorem at_scaleL {n c p : Nat} {m : L} (x : UInt8) (h : Rect n c m) (hp : p < n) {i j : Nat} (hj : j < c) : at_ (Gm.scaleL m p x) i j = if i = p then mul x (at_ m i j) else at_ m i j := by
  unfold at_
  rw [row_scaleL _ (by rw [h.len]; exact hp)]
  by_cases e : p = i
  · subst e
    rw [if_pos rfl, if_pos rfl, get_scaleRow _ (by rw [h.wid _ hp]; exact hj)]
  · rw [if_neg e, if_neg (Ne.symm e)]
/-- The first k rows, but p, are cleared by row p. -/
def clearTo (m : L) (p : Nat) (d : Nat → UInt8) (k : Nat) : L := (List.range m.length).map fun i => if i < k ∧ i ≠ p then lay (row m i) (d i) (row m p) else row m i
def clearL (m : L) (p : Nat) (d : Nat → UInt8) : L := clearTo m p d m.length
theorem clearTo_length (m : L) (p : Nat) (d : Nat → UInt8) (k : Nat) : (clearTo m p d k).length = m.length := by simp [clearTo]
theorem row_clearTo {m : L} {i : Nat} (p : Nat) (d : Nat → UInt8) (k : Nat) (hi : i < m.length) : row (clearTo m p d k) i = if i < k ∧ i ≠ p then lay (row m i) (d i) (row m p) else row m i := row_range _ hi
theorem clearTo_zero (m : L) (p : Nat) (d : Nat → UInt8) : clearTo m p d 0 = m := by
  refine rows_ext (clearTo_length _ _ _ _) fun i hi => ?_
  rw [clearTo_length] at hi
  rw [row_clearTo _ _ _ hi, if_neg (fun h => Nat.not_lt_zero _ h.1)]
theorem clearTo_succ {m : L} {p k : Nat} (d : Nat → UInt8) (hk : k < m.length) : clearTo m p d (k + 1) = if k = p then clearTo m p d k else (clearTo m p d k).set k (lay (row (clearTo m p d k) k) (d k) (row m p)) := by
  by_cases e : k = p
  · rw [if_pos e]
    refine rows_ext (by rw [clearTo_length, clearTo_length]) fun i hi => ?_
    rw [clearTo_length] at hi
    rw [row_clearTo _ _ _ hi, row_clearTo _ _ _ hi]
    by_cases e2 : i < k ∧ i ≠ p
    · rw [if_pos e2, if_pos ⟨by omega, e2.2⟩]
    · rw [if_neg e2, if_neg (fun h => e2 ⟨by omega, h.2⟩)]
  · rw [if_neg e]
    refine rows_ext (by rw [clearTo_length, List.length_set, clearTo_length]) fun i hi => ?_
    rw [clearTo_length] at hi
    rw [row_set _ (by rw [clearTo_length]; exact hk), row_clearTo _ _ _ hi, row_clearTo _ _ _ hi, row_clearTo _ _ _ hk, if_neg (show ¬ (k < k ∧ k ≠ p) from fun h => Nat.lt_irrefl _ h.1)]
    by_cases e2 : k = i
    · subst e2; rw [if_pos rfl, if_pos ⟨by omega, e⟩]
    · rw [if_neg e2]
      by_cases e3 : i < k ∧ i ≠ p
      · rw [if_pos e3, if_pos ⟨by omega, e3.2⟩]
      · rw [if_neg e3, if_neg (fun h => e3 ⟨by omega, h.2⟩)]
theorem clearTo_lead {m : L} {p : Nat} (d : Nat → UInt8) (k : Nat) (hp : p < m.length) : row (clearTo m p d k) p = row m p := by rw [row_clearTo _ _ _ hp, if_neg (fun h => h.2 rfl)]
theorem clearTo_later {m : L} {p k i : Nat} (d : Nat → UInt8) (hi : i < m.length) (hk : k ≤ i) : row (clearTo m p d k) i = row m i := by rw [row_clearTo _ _ _ hi, if_neg (fun h => by have := h.1; omega)]
theorem Rect.clearTo {n c : Nat} {m : L} (h : Rect n c m) (p : Nat) (d : Nat → UInt8) (k : Nat) : Rect n c (clearTo m p d k) :=
  ⟨by rw [clearTo_length, h.len], fun i hi => by
    rw [row_clearTo _ _ _ (by rw [h.len]; exact hi)]
    split
    · rw [lay_length]; exact h.wid i hi
    · exact h.wid i hi⟩
theorem at_clearL {n c p : Nat} {m : L} (d : Nat → UInt8) (h : Rect n c m) {i j : Nat} (hi : i < n) (hj : j < c) : at_ (clearL m p d) i j = if i = p then at_ m i j else at_ m i j ^^^ mul (d i) (at_ m p j) := by
  unfold at_ clearL
  have hil : i < m.length := by rw [h.len]; exact hi
  rw [row_clearTo _ _ _ hil]
  by_cases e : i = p
  · rw [if_neg (fun hh => hh.2 e), if_pos e]
  · rw [if_pos ⟨hil, e⟩, if_neg e, lay_get _ _ _ (by rw [h.wid i hi]; exact hj), layAt_all]
/-- The first place from k on, of so many, with a property. -/
def seek (p : Nat → Bool) : Nat → Nat → Nat
  | 0, k => k
  | n + 1, k => if p k then k else seek p n (k + 1)
theorem seek_spec (p : Nat → Bool) : ∀ (n k : Nat), k ≤ seek p n k ∧ seek p n k ≤ k + n ∧ (∀ i, k ≤ i → i < seek p n k → p i = false) ∧ (seek p n k < k + n → p (seek p n k) = true)
  | 0, k => ⟨Nat.le_refl _, Nat.le_refl _, fun i h1 h2 => by simp only [seek] at h2; omega, fun h => by simp only [seek] at h; omega⟩
  | n + 1, k => by
    unfold seek
    by_cases e : p k = true
    · rw [if_pos e]
      exact ⟨Nat.le_refl _, by omega, fun i h1 h2 => by omega, fun _ => e⟩
    · rw [if_neg e]
      obtain ⟨h1, h2, h3, h4⟩ := seek_spec p n (k + 1)
      refine ⟨by omega, by omega, fun i h5 h6 => ?_, fun h5 => h4 (by omega)⟩
      by_cases e2 : i = k
      · rw [e2]; simpa using e
      · exact h3 i (by omega) h6
/-- One column. -/
def col (a b : L) (l j : Nat) : L × L × Nat :=
  let t := seek (fun k => at_ a k j != 0) (a.length - l) l
  if t = a.length then (a, b, l)
  else
    let c := inv (at_ a t j)
    let a1 := scaleL (swapL a t l) l c
    let b1 := scaleL (swapL b t l) l c
    (clearL a1 l (fun k => at_ a1 k j), clearL b1 l (fun k => at_ a1 k j), l + 1)
def elimTo (a b : L) : Nat → L × L × Nat
  | 0 => (a, b, 0)
  | j + 1 => col (elimTo a b j).1 (elimTo a b j).2.1 (elimTo a b j).2.2 j
structure Inv (n c cb : Nat) (a0 b0 : L) (j : Nat) (a b : L) (l : Nat) : Prop where
  ra : Rect n c a
  rb : Rect n cb b
  ln : l ≤ n
  ops : ∃ T S : M, Undo n T S ∧ Eq2 n c (at_ a) (prod n T (at_ a0)) ∧ Eq2 n cb (at_ b) (prod n T (at_ b0))
  piv : ∃ p : Nat → Nat, (∀ r, r < l → p r < j) ∧ (∀ r s, r < s → s < l → p r < p s) ∧ ∀ i, i < n → ∀ r, r < l → at_ a i (p r) = one i r
  zero : ∀ i, l ≤ i → i < n → ∀ k, k < j → at_ a i k = 0
theorem Inv.start {n c cb : Nat} {a b : L} (ha : Rect n c a) (hb : Rect n cb b) : Inv n c cb a b 0 a b 0 :=
  ⟨ha, hb, Nat.zero_le _, ⟨one, one, Undo.one n, fun _ hi j _ => (one_prod _ hi j).symm, fun _ hi j _ => (one_prod _ hi j).symm⟩, ⟨fun _ => 0, fun _ h => absurd h (Nat.not_lt_zero _), fun _ _ _ h => absurd h (Nat.not_lt_zero _), fun _ _ _ h => absurd h (Nat.not_lt_zero _)⟩, fun _ _ _ _ h => absurd h (Nat.not_lt_zero _)⟩
theorem one_ne {i j : Nat} (h : i ≠ j) : one i j = 0 := if_neg h
theorem one_self (i : Nat) : one i i = 1 := if_pos rfl
theorem Inv.step {n c cb : Nat} {a0 b0 : L} {j : Nat} {a b : L} {l : Nat} (h : Inv n c cb a0 b0 j a b l) (hj : j < c) :
    Inv n c cb a0 b0 (j + 1) (col a b l j).1 (col a b l j).2.1 (col a b l j).2.2 := by
  obtain ⟨ra, rb, ln, ⟨T, S, hU, hTa, hTb⟩, ⟨p, hp1, hp2, hp3⟩, hz⟩ := h
  obtain ⟨s1, s2, s3, s4⟩ := seek_spec (fun k => at_ a k j != 0) (a.length - l) l
  unfold col
  simp only []
  generalize seek (fun k => at_ a k j != 0) (a.length - l) l = t at *
  rw [ra.len] at s2 s4 ⊢
  by_cases e : t = n
  · rw [if_pos e]
    refine ⟨ra, rb, ln, ⟨T, S, hU, hTa, hTb⟩, ⟨p, fun r hr => by have := hp1 r hr; omega, hp2, hp3⟩, fun i h1 h2 k hk => ?_⟩
    by_cases ek : k = j
    · subst ek
      have := s3 i h1 (by omega)
      simpa using this
    · exact hz i h1 h2 k (by omega)
  · rw [if_neg e]
    have htn : t < n := by omega
    have hln : l < n := by omega
    have hx : at_ a t j ≠ 0 := by have := s4 (by omega); simpa using this
    generalize hcx : inv (at_ a t j) = x
    have hxx : mul x (at_ a t j) = 1 := by rw [← hcx]; exact inv_mul hx
    have r1 := (ra.swapL htn hln)
    have r2 := r1.scaleL x hln
    have q1 := (rb.swapL htn hln)
    have q2 := q1.scaleL x hln
    have sw : ∀ i k, at_ (swapL a t l) i k = at_ a (swapI t l i) k := fun i k => by
      unfold at_; rw [row_swapL (by rw [ra.len]; exact htn) (by rw [ra.len]; exact hln)]
    have swb : ∀ i k, at_ (swapL b t l) i k = at_ b (swapI t l i) k := fun i k => by
      unfold at_; rw [row_swapL (by rw [rb.len]; exact htn) (by rw [rb.len]; exact hln)]
    have sl : swapI t l l = t := by unfold swapI; split <;> simp_all
    have a1 : ∀ i, ∀ k, k < c → at_ (scaleL (swapL a t l) l x) i k = if i = l then mul x (at_ a t k) else at_ a (swapI t l i) k := fun i k hk => by
      rw [at_scaleL x r1 hln hk, sw]
      by_cases ei : i = l
      · rw [if_pos ei, if_pos ei, ei, sl]
      · rw [if_neg ei, if_neg ei]
    have b1 : ∀ i, ∀ k, k < cb → at_ (scaleL (swapL b t l) l x) i k = if i = l then mul x (at_ b t k) else at_ b (swapI t l i) k := fun i k hk => by
      rw [at_scaleL x q1 hln hk, swb]
      by_cases ei : i = l
      · rw [if_pos ei, if_pos ei, ei, sl]
      · rw [if_neg ei, if_neg ei]
    generalize hA : scaleL (swapL a t l) l x = A1 at *
    generalize hB : scaleL (swapL b t l) l x = B1 at *
    have a2 : ∀ i, i < n → ∀ k, k < c → at_ (clearL A1 l (fun k => at_ A1 k j)) i k = if i = l then at_ A1 i k else at_ A1 i k ^^^ mul (at_ A1 i j) (at_ A1 l k) := fun i hi k hk => at_clearL _ r2 hi hk
    have b2 : ∀ i, i < n → ∀ k, k < cb → at_ (clearL B1 l (fun k => at_ A1 k j)) i k = if i = l then at_ B1 i k else at_ B1 i k ^^^ mul (at_ A1 i j) (at_ B1 l k) := fun i hi k hk => at_clearL _ q2 hi hk
    have alj : at_ A1 l j = 1 := by rw [a1 l j hj, if_pos rfl, hxx]
    have hsw : ∀ i, i ≠ l → l ≤ i → l ≤ swapI t l i := fun i h1 h2 => by unfold swapI; split <;> (try split) <;> omega
    have hswn : ∀ i, i < n → swapI t l i < n := fun i hi => swapI_lt htn hln hi
    refine ⟨r2.clearTo l _ _, q2.clearTo l _ _, by show l + 1 ≤ n; omega, ?_, ?_, ?_⟩
    · refine ⟨prod n (clearE l (fun k => at_ A1 k j)) (prod n (scaleE l x) (prod n (permE (swapI t l)) T)), prod n (prod n (prod n S (permE (swapI t l))) (scaleE l (at_ a t j))) (clearE l (fun k => at_ A1 k j)), ?_, ?_, ?_⟩
      · exact ((hU.step (permE_undo (fun i hi => hswn i hi) (swapI_swapI t l))).step (scaleE_undo hxx)).step (clearE_undo hln _)
      · intro i hi k hk
        rw [prod_assoc, prod_assoc, prod_assoc, clearE_prod hln _ _ hi, scaleE_prod l x _ hi, scaleE_prod l x _ hln, permE_prod _ (hswn i hi), permE_prod _ (hswn l hln), sl, a2 i hi k hk, a1 i k hk, a1 l k hk, if_pos rfl, if_pos rfl]
        rw [← hTa t htn k hk, ← hTa _ (hswn i hi) k hk]
        by_cases ei : i = l
        · subst ei
          simp only [↓reduceIte, sl]
        · simp only [ei, ↓reduceIte]
      · intro i hi k hk
        rw [prod_assoc, prod_assoc, prod_assoc, clearE_prod hln _ _ hi, scaleE_prod l x _ hi, scaleE_prod l x _ hln, permE_prod _ (hswn i hi), permE_prod _ (hswn l hln), sl, b2 i hi k hk, b1 i k hk, b1 l k hk, if_pos rfl, if_pos rfl]
        rw [← hTb t htn k hk, ← hTb _ (hswn i hi) k hk]
        by_cases ei : i = l
        · subst ei
          simp only [↓reduceIte, sl]
        · simp only [ei, ↓reduceIte]
    · refine ⟨fun r => if r = l then j else p r, fun r hr => ?_, fun r s hrs hs => ?_, fun i hi r hr => ?_⟩
      · by_cases er : r = l
        · simp only []; rw [if_pos er]; omega
        · simp only []; rw [if_neg er]; have := hp1 r (by have hr' : r < l + 1 := hr; omega); omega
      · have hs' : s < l + 1 := hs
        simp only []
        rw [if_neg (show r ≠ l by omega)]
        by_cases es : s = l
        · rw [if_pos es]; exact hp1 r (by omega)
        · rw [if_neg es]; exact hp2 r s hrs (by omega)
      · have hr' : r < l + 1 := hr
        simp only []
        by_cases er : r = l
        · rw [if_pos er, a2 i hi j hj]
          by_cases ei : i = l
          · rw [if_pos ei, ei, alj, er, one_self]
          · rw [if_neg ei, alj, mul_one, UInt8.xor_self, er, one_ne ei]
        · have hrl : r < l := by omega
          rw [if_neg er]
          have hpc : p r < c := by have := hp1 r hrl; omega
          have ht0 : at_ a t (p r) = 0 := by rw [hp3 t htn r hrl, one_ne (by omega)]
          have hl0 : at_ A1 l (p r) = 0 := by rw [a1 l _ hpc, if_pos rfl, ht0, mul_zero]
          rw [a2 i hi _ hpc]
          by_cases ei : i = l
          · rw [if_pos ei, ei, hl0, one_ne (by omega)]
          · rw [if_neg ei, hl0, mul_zero, UInt8.xor_zero, a1 i _ hpc, if_neg ei, hp3 _ (hswn i hi) r hrl]
            unfold swapI
            by_cases et : i = t
            · rw [if_pos et, one_ne (by omega), one_ne (by omega)]
            · rw [if_neg et, if_neg ei]
    · intro i h1 h2 k hk
      have h1' : l + 1 ≤ i := h1
      have ei : i ≠ l := by omega
      by_cases ek : k = j
      · rw [ek, a2 i h2 j hj, if_neg ei, alj, mul_one, UInt8.xor_self]
      · have hkj : k < j := by omega
        have hkc : k < c := by omega
        rw [a2 i h2 k hkc, if_neg ei, a1 l k hkc, if_pos rfl, hz t s1 htn k hkj, mul_zero, mul_zero, UInt8.xor_zero, a1 i k hkc, if_neg ei]
        exact hz _ (hsw i ei (by omega)) (hswn i h2) k hkj
theorem inv_elimTo {n c cb : Nat} {a b : L} (ha : Rect n c a) (hb : Rect n cb b) : ∀ j, j ≤ c → Inv n c cb a b j (elimTo a b j).1 (elimTo a b j).2.1 (elimTo a b j).2.2
  | 0, _ => Inv.start ha hb
  | j + 1, h => (inv_elimTo ha hb j (by omega)).step (by omega)
/-- What is cleared does not hang on what stands beside. -/
theorem elimTo_apart (a b b' : L) : ∀ j, (elimTo a b j).1 = (elimTo a b' j).1 ∧ (elimTo a b j).2.2 = (elimTo a b' j).2.2
  | 0 => ⟨rfl, rfl⟩
  | j + 1 => by
    obtain ⟨h1, h2⟩ := elimTo_apart a b b' j
    have e : ∀ (x y y' : L) (l : Nat), (col x y l j).1 = (col x y' l j).1 ∧ (col x y l j).2.2 = (col x y' l j).2.2 := fun x y y' l => by
      unfold col; simp only []; split <;> exact ⟨rfl, rfl⟩
    unfold elimTo
    rw [h1, h2]
    exact e _ _ _ _
def cols (m : L) : Nat := (row m 0).length
/-- How many rows lead. -/
def rank (m : L) : Nat := (elimTo m m (cols m)).2.2
theorem rank_of {m : L} (b : L) : (elimTo m b (cols m)).2.2 = rank m := (elimTo_apart m b m _).2
theorem Rect.cols {n c : Nat} {m : L} (h : Rect n c m) (hn : 0 < n) : Gm.cols m = c := h.wid 0 hn
theorem rank_le {n c : Nat} {m : L} (h : Rect n c m) (hn : 0 < n) : rank m ≤ n := by
  have := (inv_elimTo h h _ (Nat.le_refl c)).ln
  unfold rank; rwa [h.cols hn]
theorem sum_short {f : Nat → UInt8} {l : Nat} : ∀ {n : Nat}, l ≤ n → (∀ k, l ≤ k → k < n → f k = 0) → sum f n = sum f l
  | 0, h, _ => by have : l = 0 := by omega
                  rw [this]
  | n + 1, h, hz => by
    by_cases e : l = n + 1
    · rw [e]
    · rw [sum, sum_short (l := l) (by omega) (fun k h1 h2 => hz k h1 (by omega)), hz n (by omega) (by omega), UInt8.xor_zero]
theorem rank_spans {n c : Nat} {m : L} (h : Rect n c m) (hn : 0 < n) : Spans n c (rank m) (at_ m) := by
  have hI := inv_elimTo h h _ (Nat.le_refl c)
  unfold rank
  rw [h.cols hn]
  obtain ⟨_, _, ln, ⟨T, S, hU, hTa, _⟩, _, hz⟩ := hI
  refine ⟨S, at_ (elimTo m m c).1, fun i hi j hj => ?_⟩
  have h1 : Eq2 n c (at_ m) (prod n S (at_ (elimTo m m c).1)) := by
    refine Eq2.symm ((prod_congr (Eq2.refl n n S) hTa).trans ?_)
    rw [← prod_assoc]
    exact (prod_congr hU.l (Eq2.refl n c _)).trans fun i hi j _ => one_prod _ hi j
  rw [h1 i hi j hj]
  exact sum_short ln fun k h2 h3 => by rw [hz k h2 h3 j hj, mul_zero]
theorem rank_least {n c k : Nat} {m : L} (h : Rect n c m) (hn : 0 < n) (hs : Spans n c k (at_ m)) : rank m ≤ k := by
  have hI := inv_elimTo h h _ (Nat.le_refl c)
  unfold rank
  rw [h.cols hn]
  obtain ⟨_, _, ln, ⟨T, S, hU, hTa, _⟩, ⟨p, hp1, _, hp3⟩, hz⟩ := hI
  have h1 : Spans n c k (at_ (elimTo m m c).1) := spans_of_prod hs hTa
  obtain ⟨C, V, hCV⟩ := h1
  exact unit_spans p hp1 (fun i hi j hj => hp3 i (by omega) j hj) ⟨C, V, fun i hi j hj => hCV i (by omega) j hj⟩
/-- Full rank: what is left is the unit. -/
theorem full_unit {n cb : Nat} {a b : L} (ha : Rect n n a) (hb : Rect n cb b) (hr : (elimTo a b n).2.2 = n) : Eq2 n n (at_ (elimTo a b n).1) one := by
  obtain ⟨_, _, _, _, ⟨p, hp1, hp2, hp3⟩, _⟩ := inv_elimTo ha hb n (Nat.le_refl n)
  rw [hr] at hp1 hp2 hp3
  have hge : ∀ r, r < n → r ≤ p r := by
    intro r
    induction r with
    | zero => intro _; omega
    | succ r ih => intro hr; have h1 := ih (by omega); have h2 := hp2 r (r + 1) (by omega) hr; omega
  have hle : ∀ k r, r + k + 1 = n → p r ≤ r := by
    intro k
    induction k with
    | zero => intro r hr; have := hp1 r (by omega); omega
    | succ k ih => intro r hr; have h1 := ih (r + 1) (by omega); have h2 := hp2 r (r + 1) (by omega) (by omega); omega
  intro i hi j hj
  have hpj : p j = j := by have h1 := hge j hj; have h2 := hle (n - j - 1) j (by omega); omega
  have := hp3 i hi j hj
  rwa [hpj] at this
def unit (n : Nat) : L := (List.range n).map fun i => (List.range n).map fun j => if i = j then 1 else 0
theorem unit_rect (n : Nat) : Rect n n (unit n) := ⟨by simp [unit], fun i hi => by unfold unit; rw [row_range _ hi]; simp⟩
theorem at_unit {n i j : Nat} (hi : i < n) (hj : j < n) : at_ (unit n) i j = one i j := by
  unfold at_ unit
  rw [row_range _ hi, get_map_range _ hj]
  rfl
/-- The inverse, where there is one. -/
def invert (m : L) : L := (elimTo m (unit m.length) (cols m)).2.1
theorem invert_spec {n : Nat} {m : L} (h : Rect n n m) (hn : 0 < n) (hr : rank m = n) : Rect n n (invert m) ∧ Eq2 n n (prod n (at_ (invert m)) (at_ m)) one ∧ Eq2 n n (prod n (at_ m) (at_ (invert m))) one := by
  have hr' : (elimTo m (unit n) n).2.2 = n := by have := rank_of (m := m) (unit n); rw [h.cols hn] at this; rw [this, hr]
  have hf := full_unit h (unit_rect n) hr'
  obtain ⟨_, rb, _, ⟨T, S, hU, hTa, hTb⟩, _, _⟩ := inv_elimTo h (unit_rect n) n (Nat.le_refl n)
  unfold invert
  rw [h.len, h.cols hn]
  have hT : Eq2 n n (at_ (elimTo m (unit n) n).2.1) T := hTb.trans ((prod_congr (Eq2.refl n n T) (fun i hi j hj => at_unit hi hj)).trans fun i _ j hj => prod_one T hj)
  have h1 : Eq2 n n (prod n T (at_ m)) one := hTa.symm.trans hf
  have hS : Eq2 n n S (at_ m) := by
    have e1 : Eq2 n n (prod n S (prod n T (at_ m))) S := (prod_congr (Eq2.refl n n S) h1).trans fun i _ j hj => prod_one S hj
    have e2 : Eq2 n n (prod n S (prod n T (at_ m))) (at_ m) := by
      rw [← prod_assoc]
      exact (prod_congr hU.l (Eq2.refl n n _)).trans fun i hi j _ => one_prod _ hi j
    exact e1.symm.trans e2
  refine ⟨rb, (prod_congr hT (Eq2.refl n n _)).trans h1, ?_⟩
  exact (prod_congr hS.symm hT).trans hU.l
/-- What has an inverse from one side has full rank. -/
theorem rank_full_left {n : Nat} {m : L} {X : M} (h : Rect n n m) (hn : 0 < n) (hX : Eq2 n n (prod n X (at_ m)) one) : rank m = n := by
  have h1 := rank_le h hn
  have h2 : Spans n n (rank m) one := spans_of_prod (rank_spans h hn) hX.symm
  have h3 := unit_spans (X := one) (fun i => i) (fun i hi => hi) (fun i _ j _ => rfl) h2
  omega
theorem rank_full_right {n : Nat} {m : L} {X : M} (h : Rect n n m) (hn : 0 < n) (hX : Eq2 n n (prod n (at_ m) X) one) : rank m = n := by
  have h1 := rank_le h hn
  have h2 : Spans n n (rank m) one := spans_prod (rank_spans h hn) hX.symm
  have h3 := unit_spans (X := one) (fun i => i) (fun i hi => hi) (fun i _ j _ => rfl) h2
  omega
/-- Less than full rank: some rows make nought together. -/
theorem rank_short {n c : Nat} {m : L} (h : Rect n c m) (hn : 0 < n) (hr : rank m < n) : ∃ y : Nat → UInt8, (∃ i, i < n ∧ y i ≠ 0) ∧ ∀ j, j < c → sum (fun i => mul (y i) (at_ m i j)) n = 0 := by
  have hI := inv_elimTo h h _ (Nat.le_refl c)
  unfold rank at hr
  rw [h.cols hn] at hr
  obtain ⟨_, _, ln, ⟨T, S, hU, hTa, _⟩, _, hz⟩ := hI
  generalize (elimTo m m c).2.2 = l at *
  refine ⟨T l, ?_, fun j hj => ?_⟩
  · rcases Classical.em (∃ i, i < n ∧ T l i ≠ 0) with h0 | h0
    · exact h0
    · exfalso
      have hz0 : ∀ i, i < n → T l i = 0 := fun i hi => by
        rcases Classical.em (T l i = 0) with h1 | h1
        · exact h1
        · exact absurd ⟨i, hi, h1⟩ h0
      have h1 := hU.r l hr l hr
      have h2 : prod n T S l l = 0 := sum_zero fun k hk => by rw [hz0 k hk, zero_mul]
      rw [h2, one_self] at h1
      exact absurd h1 (by decide)
  · have := hTa l hr j hj
    rw [hz l (Nat.le_refl _) hr j hj] at this
    exact this.symm
end Gm
namespace Gm
open Gf

/-- Sums of inverses of sums: what makes nought of all of them is nought. -/
theorem inv_ne {a : UInt8} (h : a ≠ 0) : inv a ≠ 0 := fun e => by
  have := mul_inv h
  rw [e, mul_zero] at this
  exact absurd this (by decide)
theorem xor_ne {a b : UInt8} (h : a ≠ b) : a ^^^ b ≠ 0 := fun e => h (by
  have : (a ^^^ b) ^^^ b = b := by rw [e, UInt8.zero_xor]
  rwa [UInt8.xor_assoc, UInt8.xor_self, UInt8.xor_zero] at this)
theorem cross (a b c d : UInt8) : mul (b ^^^ c) (a ^^^ d) ^^^ mul (b ^^^ d) (a ^^^ c) = mul (b ^^^ a) (d ^^^ c) := by
  simp only [add_mul, mul_add]
  rw [mul_comm c a, mul_comm d a, mul_comm c d]
  generalize mul b a = x1
  generalize mul b d = x2
  generalize mul a c = x3
  generalize mul d c = x4
  generalize mul b c = x5
  generalize mul a d = x6
  apply UInt8.toBitVec_inj.1
  simp only [UInt8.toBitVec_xor]
  ext i hi
  simp only [BitVec.getElem_xor]
  cases x1.toBitVec[i] <;> cases x2.toBitVec[i] <;> cases x3.toBitVec[i] <;> cases x4.toBitVec[i] <;> cases x5.toBitVec[i] <;> cases x6.toBitVec[i] <;> rfl
/-- One step of clearing: what 1/(x+y) and the last row come to. -/
theorem cauchy_step {A B C D E F : UInt8} (hA : A ≠ 0) (hB : B ≠ 0) (hC : C ≠ 0) (h : mul B C ^^^ mul D A = mul E F) :
    inv A ^^^ mul D (mul (inv B) (inv C)) = mul (mul E F) (mul (inv A) (mul (inv B) (inv C))) := by
  rw [← h, add_mul]
  have e1 : mul (mul B C) (mul (inv A) (mul (inv B) (inv C))) = inv A := by
    have : mul (mul B C) (mul (inv A) (mul (inv B) (inv C))) = mul (inv A) (mul (mul B (inv B)) (mul C (inv C))) := by
      rw [mul_comm (mul B C), mul_assoc (inv A), mul_comm (mul (inv B) (inv C)) (mul B C), mul_assoc B C, ← mul_assoc C (inv B), mul_comm C (inv B), mul_assoc (inv B) C, ← mul_assoc B (inv B)]
    rw [this, mul_inv hB, mul_inv hC, mul_one, mul_one]
  have e2 : mul (mul D A) (mul (inv A) (mul (inv B) (inv C))) = mul D (mul (inv B) (inv C)) := by
    rw [mul_assoc, ← mul_assoc A, mul_inv hA, one_mul]
  rw [e1, e2]
theorem cauchy_kernel : ∀ (n : Nat) (x y : Nat → UInt8) (v : Nat → UInt8), (∀ i j, i < n → j < n → i ≠ j → x i ≠ x j) → (∀ i j, i < n → j < n → i ≠ j → y i ≠ y j) → (∀ i j, i < n → j < n → x i ≠ y j) →
    (∀ j, j < n → sum (fun i => mul (v i) (inv (x i ^^^ y j))) n = 0) → ∀ i, i < n → v i = 0
  | 0, _, _, _, _, _, _, _, i, hi => absurd hi (Nat.not_lt_zero _)
  | n + 1, x, y, v, hx, hy, hxy, hv, i, hi => by
    have nz : ∀ i j, i < n + 1 → j < n + 1 → x i ^^^ y j ≠ 0 := fun i j h1 h2 => xor_ne (hxy i j h1 h2)
    -- the last unknown
    have hlast : mul (v n) (inv (x n ^^^ y n)) = sum (fun i => mul (v i) (inv (x i ^^^ y n))) n := by
      have h := hv n (by omega)
      rw [sum] at h
      have h2 : (sum (fun i => mul (v i) (inv (x i ^^^ y n))) n ^^^ mul (v n) (inv (x n ^^^ y n))) ^^^ mul (v n) (inv (x n ^^^ y n)) = mul (v n) (inv (x n ^^^ y n)) := by rw [h, UInt8.zero_xor]
      rw [UInt8.xor_assoc, UInt8.xor_self, UInt8.xor_zero] at h2
      exact h2.symm
    have hvn : v n = mul (x n ^^^ y n) (sum (fun i => mul (v i) (inv (x i ^^^ y n))) n) := by
      rw [← hlast, mul_comm (v n), ← mul_assoc, mul_inv (nz n n (by omega) (by omega)), one_mul]
    have hall : ∀ i, i < n → v i = 0 := by
      have hk := cauchy_kernel n x y (fun i => mul (v i) (mul (x n ^^^ x i) (inv (x i ^^^ y n)))) (fun i j h1 h2 => hx i j (by omega) (by omega)) (fun i j h1 h2 => hy i j (by omega) (by omega)) (fun i j h1 h2 => hxy i j (by omega) (by omega)) ?_
      · intro i hi
        have := hk i hi
        rcases mul_eq_zero this with h | h
        · exact h
        · rcases mul_eq_zero h with h | h
          · exact absurd h (xor_ne (hx n i (by omega) (by omega) (by omega)))
          · exact absurd h (inv_ne (nz i n (by omega) (by omega)))
      · intro j hj
        have hj' := hv j (by omega)
        rw [sum, hvn] at hj'
        have e1 : mul (mul (x n ^^^ y n) (sum (fun i => mul (v i) (inv (x i ^^^ y n))) n)) (inv (x n ^^^ y j)) = sum (fun i => mul (v i) (mul (x n ^^^ y n) (mul (inv (x n ^^^ y j)) (inv (x i ^^^ y n))))) n := by
          rw [mul_assoc, mul_comm (sum _ n), ← mul_assoc, mul_sum]
          refine sum_congr fun i _ => ?_
          rw [← mul_assoc, mul_comm (mul (x n ^^^ y n) (inv (x n ^^^ y j))) (v i), mul_assoc, mul_assoc]
        rw [e1, ← sum_add] at hj'
        have e2 : sum (fun i => mul (v i) (inv (x i ^^^ y j)) ^^^ mul (v i) (mul (x n ^^^ y n) (mul (inv (x n ^^^ y j)) (inv (x i ^^^ y n))))) n =
            mul (mul (y n ^^^ y j) (inv (x n ^^^ y j))) (sum (fun i => mul (mul (v i) (mul (x n ^^^ x i) (inv (x i ^^^ y n)))) (inv (x i ^^^ y j))) n) := by
          rw [mul_sum]
          refine sum_congr fun i hi => ?_
          rw [← mul_add]
          have hs := cauchy_step (A := x i ^^^ y j) (B := x n ^^^ y j) (C := x i ^^^ y n) (D := x n ^^^ y n) (E := x n ^^^ x i) (F := y n ^^^ y j) (nz i j (by omega) (by omega)) (nz n j (by omega) (by omega)) (nz i n (by omega) (by omega)) (cross (x i) (x n) (y j) (y n))
          rw [hs]
          generalize x n ^^^ x i = E
          generalize y n ^^^ y j = F
          generalize inv (x i ^^^ y j) = iA
          generalize inv (x n ^^^ y j) = iB
          generalize inv (x i ^^^ y n) = iC
          generalize v i = q
          rw [mul_comm (mul F iB), mul_assoc (mul q (mul E iC)), mul_assoc q]
          congr 1
          rw [mul_assoc E F, mul_assoc E iC]
          congr 1
          rw [mul_comm F (mul iA (mul iB iC)), mul_assoc iA, mul_assoc iB, mul_comm iC F, ← mul_assoc iB F iC, mul_comm iB F, mul_comm iC (mul iA (mul F iB)), mul_assoc iA]
        rw [e2] at hj'
        rcases mul_eq_zero hj' with h | h
        · rcases mul_eq_zero h with h | h
          · exact absurd h (xor_ne (hy n j (by omega) (by omega) (by omega)))
          · exact absurd h (inv_ne (nz n j (by omega) (by omega)))
        · exact h
    by_cases e : i < n
    · exact hall i e
    · have : i = n := by omega
      subst this
      rw [hvn, sum_zero (fun k hk => by rw [hall k hk, zero_mul]), mul_zero]

/-- Is it a matrix? -/
def right (m : L) : Prop := 1 ≤ m.length ∧ m.length ≤ 255 ∧ 1 ≤ cols m ∧ cols m ≤ 255 ∧ ∀ i, i < m.length → (row m i).length = cols m
instance (m : L) : Decidable (right m) := by unfold right; infer_instance
theorem right.rect {m : L} (h : right m) : Rect m.length (cols m) m := ⟨rfl, h.2.2.2.2⟩
theorem Rect.right {n c : Nat} {m : L} (h : Rect n c m) (h1 : 1 ≤ n) (h2 : n ≤ 255) (h3 : 1 ≤ c) (h4 : c ≤ 255) : right m := by
  have hc := h.cols h1
  exact ⟨by rw [h.len]; exact h1, by rw [h.len]; exact h2, by rw [hc]; exact h3, by rw [hc]; exact h4, fun i hi => by rw [hc]; exact h.wid i (by rw [← h.len]; exact hi)⟩
/-- A product. -/
def mulL (a b : L) : L := (List.range a.length).map fun i => (List.range (cols b)).map fun j => prod b.length (at_ a) (at_ b) i j
theorem mulL_rect (a b : L) : Rect a.length (cols b) (mulL a b) := ⟨by simp [mulL], fun i hi => by unfold mulL; rw [row_range _ hi]; simp⟩
theorem at_mulL {a b : L} {i j : Nat} (hi : i < a.length) (hj : j < cols b) : at_ (mulL a b) i j = prod b.length (at_ a) (at_ b) i j := by
  unfold at_ mulL
  rw [row_range _ hi, get_map_range _ hj]
  rfl
/-- Some rows. -/
def pick (m : L) (rows : List Nat) : L := rows.map (row m)
def cauchy (r c : Nat) : L := (List.range r).map fun i => (List.range c).map fun j => inv (UInt8.ofNat (c + i) ^^^ UInt8.ofNat j)
theorem cauchy_rect (r c : Nat) : Rect r c (cauchy r c) := ⟨by simp [cauchy], fun i hi => by unfold cauchy; rw [row_range _ hi]; simp⟩
theorem at_cauchy {r c i j : Nat} (hi : i < r) (hj : j < c) : at_ (cauchy r c) i j = inv (UInt8.ofNat (c + i) ^^^ UInt8.ofNat j) := by
  unfold at_ cauchy
  rw [row_range _ hi, get_map_range _ hj]
theorem ofNat_ne {a b : Nat} (ha : a < 256) (hb : b < 256) (h : a ≠ b) : UInt8.ofNat a ≠ UInt8.ofNat b := fun e => h (by
  have := congrArg UInt8.toNat e
  rw [UInt8.toNat_ofNat', UInt8.toNat_ofNat'] at this
  omega)
/-- Each square part of a Cauchy matrix has full rank. -/
theorem cauchy_full {r c n : Nat} {p : L} (a b : Nat → Nat) (hrc : r + c ≤ 256) (hn : 0 < n) (ha : ∀ i, i < n → a i < r) (hb : ∀ j, j < n → b j < c) (ha2 : ∀ i j, i < n → j < n → i ≠ j → a i ≠ a j) (hb2 : ∀ i j, i < n → j < n → i ≠ j → b i ≠ b j)
    (hp : Rect n n p) (h : ∀ i, i < n → ∀ j, j < n → at_ p i j = at_ (cauchy r c) (a i) (b j)) : rank p = n := by
  have h1 := rank_le hp hn
  rcases Nat.lt_or_ge (rank p) n with hl | hg
  · exfalso
    obtain ⟨v, ⟨i0, hi0, hv0⟩, hv⟩ := rank_short hp hn hl
    apply hv0
    refine cauchy_kernel n (fun i => UInt8.ofNat (c + a i)) (fun j => UInt8.ofNat (b j)) v ?_ ?_ ?_ ?_ i0 hi0
    · intro i j hi hj hne
      have := ha i hi; have := ha j hj; have := ha2 i j hi hj hne
      exact ofNat_ne (by omega) (by omega) (by omega)
    · intro i j hi hj hne
      have := hb i hi; have := hb j hj; have := hb2 i j hi hj hne
      exact ofNat_ne (by omega) (by omega) (by omega)
    · intro i j hi hj
      have := ha i hi; have := hb j hj
      exact ofNat_ne (by omega) (by omega) (by omega)
    · intro j hj
      rw [← hv j hj]
      exact sum_congr fun i hi => by rw [h i hi j hj, at_cauchy (ha i hi) (hb j hj)]
  · omega
end Gm
namespace Gm
open Gf
theorem mulL_rect' {n k c : Nat} {a b : L} (ha : Rect n k a) (hb : Rect k c b) (hk : 0 < k) : Rect n c (mulL a b) := by
  have := mulL_rect a b
  rwa [ha.len, hb.cols hk] at this
theorem at_mulL' {n k c : Nat} {a b : L} (ha : Rect n k a) (hb : Rect k c b) (hk : 0 < k) : Eq2 n c (at_ (mulL a b)) (prod k (at_ a) (at_ b)) := fun i hi j hj => by
  rw [at_mulL (by rw [ha.len]; exact hi) (by rw [hb.cols hk]; exact hj), hb.len]
theorem mulL_assoc {n k l c : Nat} {a b d : L} (ha : Rect n k a) (hb : Rect k l b) (hd : Rect l c d) (hk : 0 < k) (hl : 0 < l) : mulL (mulL a b) d = mulL a (mulL b d) := by
  refine Rect.ext (mulL_rect' (mulL_rect' ha hb hk) hd hl) (mulL_rect' ha (mulL_rect' hb hd hl) hk) ?_
  refine (at_mulL' (mulL_rect' ha hb hk) hd hl).trans (Eq2.symm ((at_mulL' ha (mulL_rect' hb hd hl) hk).trans ?_))
  refine (prod_congr (Eq2.refl n k _) (at_mulL' hb hd hl)).trans ?_
  rw [← prod_assoc]
  exact prod_congr (at_mulL' ha hb hk).symm (Eq2.refl l c _)
theorem mulL_unit {n k : Nat} {a : L} (ha : Rect n k a) (hk : 0 < k) : mulL a (unit k) = a :=
  Rect.ext (mulL_rect' ha (unit_rect k) hk) ha ((at_mulL' ha (unit_rect k) hk).trans ((prod_congr (Eq2.refl n k _) (fun _ hi _ hj => at_unit hi hj)).trans fun _ _ _ hj => prod_one _ hj))
theorem unit_mulL {n c : Nat} {a : L} (ha : Rect n c a) (hn : 0 < n) : mulL (unit n) a = a :=
  Rect.ext (mulL_rect' (unit_rect n) ha hn) ha ((at_mulL' (unit_rect n) ha hn).trans ((prod_congr (fun _ hi _ hj => at_unit hi hj) (Eq2.refl n c _)).trans fun _ hi j _ => one_prod _ hi j))
theorem unit_of {n : Nat} {m : L} (h : Rect n n m) (e : Eq2 n n (at_ m) one) : m = unit n := Rect.ext h (unit_rect n) (e.trans fun _ hi _ hj => (at_unit hi hj).symm)
theorem inv_rect {n : Nat} {m : L} (h : Rect n n m) (hn : 0 < n) (hr : rank m = n) : Rect n n (invert m) := (invert_spec h hn hr).1
theorem inv_left {n : Nat} {m : L} (h : Rect n n m) (hn : 0 < n) (hr : rank m = n) : mulL (invert m) m = unit n :=
  unit_of (mulL_rect' (inv_rect h hn hr) h hn) ((at_mulL' (inv_rect h hn hr) h hn).trans (invert_spec h hn hr).2.1)
theorem inv_right {n : Nat} {m : L} (h : Rect n n m) (hn : 0 < n) (hr : rank m = n) : mulL m (invert m) = unit n :=
  unit_of (mulL_rect' h (inv_rect h hn hr) hn) ((at_mulL' h (inv_rect h hn hr) hn).trans (invert_spec h hn hr).2.2)
/-- What has a factor that makes the unit has full rank; the factor is the inverse. -/
theorem full_of_right {n : Nat} {m x : L} (h : Rect n n m) (hx : Rect n n x) (hn : 0 < n) (e : mulL m x = unit n) : rank m = n :=
  rank_full_right h hn ((at_mulL' h hx hn).symm.trans (by rw [e]; exact fun _ hi _ hj => at_unit hi hj))
theorem full_of_left {n : Nat} {m x : L} (h : Rect n n m) (hx : Rect n n x) (hn : 0 < n) (e : mulL x m = unit n) : rank m = n :=
  rank_full_left h hn ((at_mulL' hx h hn).symm.trans (by rw [e]; exact fun _ hi _ hj => at_unit hi hj))
theorem inv_unique {n : Nat} {m x : L} (h : Rect n n m) (hx : Rect n n x) (hn : 0 < n) (e : mulL m x = unit n) : invert m = x := by
  have hr := full_of_right h hx hn e
  rw [← mulL_unit (inv_rect h hn hr) hn, ← e, ← mulL_assoc (inv_rect h hn hr) h hx hn hn, inv_left h hn hr, unit_mulL hx hn]
theorem rank_inv {n : Nat} {m : L} (h : Rect n n m) (hn : 0 < n) (hr : rank m = n) : rank (invert m) = n := full_of_right (inv_rect h hn hr) h hn (inv_left h hn hr)
theorem inv_inv {n : Nat} {m : L} (h : Rect n n m) (hn : 0 < n) (hr : rank m = n) : invert (invert m) = m := inv_unique (inv_rect h hn hr) h hn (inv_left h hn hr)
theorem rank_mul_left {n k c : Nat} {a b : L} (ha : Rect n k a) (hb : Rect k c b) (hn : 0 < n) (hk : 0 < k) : rank (mulL a b) ≤ rank a :=
  rank_least (mulL_rect' ha hb hk) hn (spans_prod (rank_spans ha hn) (at_mulL' ha hb hk))
theorem rank_mul_right {n k c : Nat} {a b : L} (ha : Rect n k a) (hb : Rect k c b) (hn : 0 < n) (hk : 0 < k) : rank (mulL a b) ≤ rank b :=
  rank_least (mulL_rect' ha hb hk) hn (spans_of_prod (rank_spans hb hk) (at_mulL' ha hb hk))
theorem rank_product {n : Nat} {a b : L} (ha : Rect n n a) (hb : Rect n n b) (hn : 0 < n) : (rank a = n ∧ rank b = n) ↔ rank (mulL a b) = n := by
  have l1 := rank_le ha hn
  have l2 := rank_le hb hn
  have l3 := rank_mul_left ha hb hn hn
  have l4 := rank_mul_right ha hb hn hn
  constructor
  · rintro ⟨r1, r2⟩
    refine full_of_right (mulL_rect' ha hb hn) (mulL_rect' (inv_rect hb hn r2) (inv_rect ha hn r1) hn) hn ?_
    rw [mulL_assoc ha hb (mulL_rect' (inv_rect hb hn r2) (inv_rect ha hn r1) hn) hn hn, ← mulL_assoc hb (inv_rect hb hn r2) (inv_rect ha hn r1) hn hn, inv_right hb hn r2, unit_mulL (inv_rect ha hn r1) hn, inv_right ha hn r1]
  · intro h
    exact ⟨by omega, by omega⟩
theorem inv_product {n : Nat} {a b : L} (ha : Rect n n a) (hb : Rect n n b) (hn : 0 < n) (r1 : rank a = n) (r2 : rank b = n) : invert (mulL a b) = mulL (invert b) (invert a) := by
  refine inv_unique (mulL_rect' ha hb hn) (mulL_rect' (inv_rect hb hn r2) (inv_rect ha hn r1) hn) hn ?_
  rw [mulL_assoc ha hb (mulL_rect' (inv_rect hb hn r2) (inv_rect ha hn r1) hn) hn hn, ← mulL_assoc hb (inv_rect hb hn r2) (inv_rect ha hn r1) hn hn, inv_right hb hn r2, unit_mulL (inv_rect ha hn r1) hn, inv_right ha hn r1]
/-- Rows of another matrix: the rank is no greater. -/
theorem rank_rows {n c n' : Nat} {m m' : L} (h : Rect n c m) (h' : Rect n' c m') (hn : 0 < n) (hn' : 0 < n') (f : Nat → Nat) (hf : ∀ i, i < n' → f i < n) (e : ∀ i, i < n' → row m' i = row m (f i)) : rank m' ≤ rank m := by
  obtain ⟨C, V, hCV⟩ := rank_spans h hn
  refine rank_least h' hn' ⟨fun i t => C (f i) t, V, fun i hi j hj => ?_⟩
  have := hCV (f i) (hf i hi) j hj
  unfold at_ at *
  rw [e i hi]
  exact this
theorem rank_cols {n c : Nat} {m : L} (h : Rect n c m) (hn : 0 < n) : rank m ≤ c := rank_least h hn ⟨at_ m, one, fun i _ j hj => (prod_one _ hj).symm⟩
/-- A product of picked rows. -/
theorem mulL_rows {n k c n' : Nat} {a b a' : L} (ha : Rect n k a) (ha' : Rect n' k a') (hb : Rect k c b) (hk : 0 < k) (f : Nat → Nat) (hf : ∀ i, i < n' → f i < n) (e : ∀ i, i < n' → row a' i = row a (f i)) :
    ∀ i, i < n' → row (mulL a' b) i = row (mulL a b) (f i) := fun i hi => by
  have r1 := mulL_rect' ha' hb hk
  have r2 := mulL_rect' ha hb hk
  refine ext_get (by rw [r1.wid i hi, r2.wid _ (hf i hi)]) fun j hj => ?_
  rw [r1.wid i hi] at hj
  have h1 := at_mulL' ha' hb hk i hi j hj
  have h2 := at_mulL' ha hb hk (f i) (hf i hi) j hj
  unfold at_ at h1 h2
  rw [h1, h2]
  unfold prod
  exact sum_congr fun t _ => by show mul (get (row a' i) t) _ = _; rw [e i hi]
end Gm
namespace Gm
open Gf
/-- The matrix of a code. -/
def gen (k n : Nat) : L := unit k ++ cauchy (n - k) k
theorem gen_length {k n : Nat} (h : k ≤ n) : (gen k n).length = n := by
  unfold gen
  rw [List.length_append, (unit_rect k).len, (cauchy_rect _ k).len]
  omega
theorem row_append {a b : L} (i : Nat) : row (a ++ b) i = if i < a.length then row a i else row b (i - a.length) := by
  unfold row
  rw [List.getD_eq_getElem?_getD]
  by_cases h : i < a.length
  · rw [if_pos h, List.getElem?_append_left h, List.getD_eq_getElem?_getD]
  · rw [if_neg h, List.getElem?_append_right (by omega), List.getD_eq_getElem?_getD]
theorem row_gen_low {k n i : Nat} (h : i < k) : row (gen k n) i = row (unit k) i := by
  unfold gen
  rw [row_append, (unit_rect k).len, if_pos h]
theorem row_gen_high {k n i : Nat} (h : k ≤ i) : row (gen k n) i = row (cauchy (n - k) k) (i - k) := by
  unfold gen
  rw [row_append, (unit_rect k).len, if_neg (by omega)]
theorem gen_rect {k n : Nat} (h : k ≤ n) : Rect n k (gen k n) :=
  ⟨gen_length h, fun i hi => by
    by_cases e : i < k
    · rw [row_gen_low e]; exact (unit_rect k).wid i e
    · rw [row_gen_high (by omega)]; exact (cauchy_rect _ k).wid _ (by omega)⟩
theorem gen_right {k n : Nat} (h1 : 1 ≤ k) (h : k ≤ n) (hn : n ≤ 255) : right (gen k n) := (gen_rect h).right (by omega) hn h1 (by omega)
/-- A row times shards. -/
def rowL (r : List UInt8) (s : L) : List UInt8 := (List.range (cols s)).map fun j => sum (fun t => mul (get r t) (at_ s t j)) s.length
theorem rowL_length (r : List UInt8) (s : L) : (rowL r s).length = cols s := by simp [rowL]
theorem get_rowL {r : List UInt8} {s : L} {j : Nat} (h : j < cols s) : get (rowL r s) j = sum (fun t => mul (get r t) (at_ s t j)) s.length := by
  unfold rowL
  rw [get_map_range _ h]
/-- The first t products of it, added. -/
def accL (r : List UInt8) (s : L) (t : Nat) : List UInt8 := (List.range (cols s)).map fun j => sum (fun t => mul (get r t) (at_ s t j)) t
theorem accL_length (r : List UInt8) (s : L) (t : Nat) : (accL r s t).length = cols s := by simp [accL]
theorem accL_zero (r : List UInt8) (s : L) : accL r s 0 = List.replicate (cols s) 0 := by
  refine ext_get (by simp [accL]) fun j hj => ?_
  rw [accL_length] at hj
  unfold accL
  rw [get_map_range _ hj, get_zeros]
  rfl
theorem accL_succ (r : List UInt8) (s : L) (k : Nat) : lay (accL r s k) (get r k) (row s k) = accL r s (k + 1) := by
  refine ext_get (by rw [lay_length, accL_length, accL_length]) fun j hj => ?_
  rw [lay_length] at hj
  rw [lay_get _ _ _ hj, layAt_all]
  rw [accL_length] at hj
  unfold accL
  rw [get_map_range _ hj, get_map_range _ hj]
  rfl
theorem accL_full {r : List UInt8} {s : L} {k : Nat} (h : k = s.length) : accL r s k = rowL r s := by subst h; rfl
theorem mulL_rows_of (a s : L) : mulL a s = a.map fun r => rowL r s := by
  refine List.ext_getElem (by simp [mulL]) fun i h1 h2 => ?_
  simp only [mulL, List.getElem_map, List.getElem_range, rowL]
  have hi : i < a.length := by simpa [mulL] using h1
  have : row a i = a[i] := row_of_lt hi
  rw [← this]
  rfl
theorem row_mulL {a s : L} {i : Nat} (h : i < a.length) : row (mulL a s) i = rowL (row a i) s := by
  rw [mulL_rows_of, row_of_lt (by simpa using h), row_of_lt h, List.getElem_map]
theorem mulL_length (a s : L) : (mulL a s).length = a.length := by rw [mulL_rows_of, List.length_map]
/-- So many shards, all of one length that may be. -/
def even (s : L) (n : Nat) : Prop := s.length = n ∧ 0 < n ∧ cols s ≤ 65536 ∧ ∀ i, i < n → (row s i).length = cols s
theorem even.rect {s : L} {n : Nat} (h : even s n) : Rect n (cols s) s := ⟨h.1, h.2.2.2⟩
/-- The first k rows of the code's shards are the data. -/
theorem encode_low {k n : Nat} {s : L} (hk : 0 < k) (hs : s.length = k) (hw : ∀ i, i < k → (row s i).length = cols s) (h : k ≤ n) {i : Nat} (hi : i < k) : row (mulL (gen k n) s) i = row s i := by
  rw [row_mulL (by rw [gen_length h]; omega), row_gen_low hi, ← row_mulL (by rw [(unit_rect k).len]; exact hi), unit_mulL (⟨hs, hw⟩ : Rect k (cols s) s) hk]
end Gm
