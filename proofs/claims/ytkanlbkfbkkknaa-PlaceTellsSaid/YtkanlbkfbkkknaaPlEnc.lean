/- The bytes of placements, in plain words: what is written, what is read; that the one undoes the other. No program in sight. -/
import Derived.Test.YtkanlbkfbkkknaaPlMore
namespace Pl

/-- The bytes of a number. -/
def enc (n : Nat) : List UInt8 := if n < 128 then [UInt8.ofNat n] else UInt8.ofNat (n % 128 + 128) :: enc (n / 128)
  termination_by n
  decreasing_by omega
theorem enc_small {n : Nat} (h : n < 128) : enc n = [UInt8.ofNat n] := by rw [enc, if_pos h]
theorem enc_great {n : Nat} (h : ¬ n < 128) : enc n = UInt8.ofNat (n % 128 + 128) :: enc (n / 128) := by rw [enc, if_neg h]
theorem enc_pos (n : Nat) : 1 ≤ (enc n).length := by
  by_cases h : n < 128
  · rw [enc_small h]; simp
  · rw [enc_great h]; simp
theorem enc_le (f n : Nat) (h : n < 2 ^ (7 * (f + 1))) : (enc n).length ≤ f + 1 := by
  induction f generalizing n with
  | zero => rw [enc_small (by omega)]; simp
  | succ f ih =>
    by_cases hs : n < 128
    · rw [enc_small hs]; simp
    · rw [enc_great hs, List.length_cons]
      have e : (2 : Nat) ^ (7 * (f + 1 + 1)) = 128 * 2 ^ (7 * (f + 1)) := by rw [show 7 * (f + 1 + 1) = 7 + 7 * (f + 1) by omega, Nat.pow_add]
      have := ih (n / 128) (by rw [e] at h; omega)
      omega
/-- Reading on: what is wrong, the number, how many bytes. -/
def dec : List UInt8 → Nat → Nat → Int × Nat × Nat
  | [], _, _ => (11, 0, 0)
  | c :: t, k, acc => if (0 < k ∧ c.toNat = 0) ∨ (8 < k ∧ 1 < c.toNat) then (10, 0, 0) else if c.toNat < 128 then (0, acc + c.toNat * 2 ^ (7 * k), k + 1) else dec t (k + 1) (acc + (c.toNat % 128) * 2 ^ (7 * k))
theorem toNat_of {n : Nat} (h : n < 256) : (UInt8.ofNat n).toNat = n := by rw [UInt8.toNat_ofNat']; omega
theorem dec_enc (t : List UInt8) (n k acc : Nat) (hk : k ≤ 8) (hn : n < 2 ^ (56 - 7 * k) ∨ n < 128) (hp : 0 < k → 0 < n) : dec (enc n ++ t) k acc = (0, acc + n * 2 ^ (7 * k), k + (enc n).length) := by
  induction n using Nat.strongRecOn generalizing k acc with
  | _ n ih =>
    by_cases hs : n < 128
    · rw [enc_small hs]
      show dec (UInt8.ofNat n :: t) k acc = _
      rw [dec, toNat_of (by omega), if_neg (by omega), if_pos hs]
      rfl
    · rw [enc_great hs]
      have hn' : n < 2 ^ (56 - 7 * k) := by omega
      have hk7 : 7 * k + 7 < 56 := by
        refine Classical.byContradiction fun q => ?_
        have : 2 ^ (56 - 7 * k) ≤ 2 ^ 7 := Nat.pow_le_pow_right (by omega) (by omega)
        omega
      show dec (UInt8.ofNat (n % 128 + 128) :: (enc (n / 128) ++ t)) k acc = _
      rw [dec, toNat_of (by omega), if_neg (by omega), if_neg (by omega)]
      have e2 : (2 : Nat) ^ (56 - 7 * k) = 128 * 2 ^ (56 - 7 * (k + 1)) := by
        rw [show 56 - 7 * k = 7 + (56 - 7 * (k + 1)) by omega, Nat.pow_add]
      rw [ih (n / 128) (by omega) (k + 1) _ (by omega) (.inl (by rw [e2] at hn'; omega)) (fun _ => by omega)]
      have e3 : (2 : Nat) ^ (7 * (k + 1)) = 128 * 2 ^ (7 * k) := by rw [show 7 * (k + 1) = 7 + 7 * k by omega, Nat.pow_add]
      have e4 : (n % 128 + 128) % 128 = n % 128 := by omega
      have e5 : acc + n % 128 * 2 ^ (7 * k) + n / 128 * 2 ^ (7 * (k + 1)) = acc + n * 2 ^ (7 * k) := by
        rw [e3]
        have : n * 2 ^ (7 * k) = (n % 128 + 128 * (n / 128)) * 2 ^ (7 * k) := by rw [Nat.mod_add_div]
        rw [this, Nat.add_mul, Nat.mul_comm 128 (n / 128), Nat.mul_assoc]
        omega
      rw [e4, e5, List.length_cons]
      congr 2
      omega
theorem dec_inv (l : List UInt8) (k acc n u : Nat) (h : dec l k acc = (0, n, u)) : ∃ m t, n = acc + m * 2 ^ (7 * k) ∧ u = k + (enc m).length ∧ l = enc m ++ t ∧ (0 < k → 0 < m) := by
  induction l generalizing k acc with
  | nil => rw [dec] at h; simp at h
  | cons c t ih =>
    rw [dec] at h
    split at h
    · simp at h
    · rename_i hc
      split at h
      · rename_i hlt
        simp only [Prod.mk.injEq, true_and] at h
        refine ⟨c.toNat, t, h.1.symm, ?_, ?_, ?_⟩
        · rw [enc_small hlt]; exact h.2.symm
        · rw [enc_small hlt, UInt8.ofNat_toNat]; rfl
        · intro hk; omega
      · rename_i hge
        obtain ⟨m, t', e1, e2, e3, e4⟩ := ih (k + 1) _ h
        have hm := e4 (by omega)
        have hb := c.toNat_lt
        refine ⟨c.toNat % 128 + 128 * m, t', ?_, ?_, ?_, fun _ => by omega⟩
        · rw [e1, show 7 * (k + 1) = 7 * k + 7 by omega, Nat.pow_add, Nat.add_mul]
          have : m * (2 ^ (7 * k) * 2 ^ 7) = 128 * m * 2 ^ (7 * k) := by
            rw [show (2 : Nat) ^ 7 = 128 by rfl, Nat.mul_comm (2 ^ (7 * k)) 128, ← Nat.mul_assoc, Nat.mul_comm m 128]
          omega
        · rw [e2, enc_great (n := c.toNat % 128 + 128 * m) (by omega), show (c.toNat % 128 + 128 * m) / 128 = m by omega, List.length_cons]; omega
        · rw [enc_great (n := c.toNat % 128 + 128 * m) (by omega), show (c.toNat % 128 + 128 * m) / 128 = m by omega, show (c.toNat % 128 + 128 * m) % 128 + 128 = c.toNat by omega, UInt8.ofNat_toNat, e3]
          rfl

/-- How far it is read; is something wrong? -/
structure St where
  at_ : Nat
  bad : Bool
/-- The next number, of at most so much. -/
def getE (b : List UInt8) (at_ : Nat) : Int := (dec (b.drop at_) 0 0).1
def getN (b : List UInt8) (at_ : Nat) : Nat := (dec (b.drop at_) 0 0).2.1
def getTo (b : List UInt8) (at_ : Nat) : Nat := at_ + (dec (b.drop at_) 0 0).2.2
def off (b : List UInt8) (s : St) (most : Nat) : Prop := s.bad = true ∨ getE b s.at_ ≠ 0 ∨ most < getN b s.at_
instance (b : List UInt8) (s : St) (most : Nat) : Decidable (off b s most) := by unfold off; infer_instance
def nextV (b : List UInt8) (s : St) (most : Nat) : Nat := if off b s most then 0 else getN b s.at_
def nextS (b : List UInt8) (s : St) (most : Nat) : St := if off b s most then ⟨s.at_, true⟩ else ⟨getTo b s.at_, false⟩
/-- So many nodes. -/
def nodesV (b : List UInt8) (s : St) : Nat → List Int
  | 0 => []
  | k + 1 => (nextV b s 256 : Int) :: nodesV b (nextS b s 256) k
def nodesS (b : List UInt8) (s : St) : Nat → St
  | 0 => s
  | k + 1 => nodesS b (nextS b s 256) k
def lifeS (b : List UInt8) (s : St) : St := nextS b s 1099511627776
def sideS (b : List UInt8) (s : St) : St := nextS b (lifeS b s) 255
def sideN (b : List UInt8) (s : St) : Nat := nextV b (lifeS b s) 255
/-- A placement. -/
def oneV (b : List UInt8) (s : St) : P := ((nextV b s 1099511627776 : Int), nodesV b (sideS b s) (sideN b s))
def oneS (b : List UInt8) (s : St) : St := nodesS b (sideS b s) (sideN b s)
/-- So many placements, up to one that is wrong. -/
def manyV (b : List UInt8) (s : St) : Nat → List P
  | 0 => []
  | k + 1 => oneV b s :: (if (oneS b s).bad = true then [] else manyV b (oneS b s) k)
def manyS (b : List UInt8) (s : St) : Nat → St
  | 0 => s
  | k + 1 => if (oneS b s).bad = true then oneS b s else manyS b (oneS b s) k
def startS (b : List UInt8) : St := nextS b ⟨0, false⟩ 1000
def startN (b : List UInt8) : Nat := nextV b ⟨0, false⟩ 1000
def gotL (b : List UInt8) : List P := manyV b (startS b) (startN b)
def gotS (b : List UInt8) : St := manyS b (startS b) (startN b)
def Good (b : List UInt8) : Prop := (gotS b).bad = false ∧ (gotS b).at_ = b.length ∧ All (gotL b)
instance (b : List UInt8) : Decidable (Good b) := by unfold Good; infer_instance
def readE (b : List UInt8) : Int := if Good b then 0 else 100
def readL (b : List UInt8) : List P := if Good b then gotL b else []

/-- The bytes of placements. -/
def encN (l : List Int) : List UInt8 := l.flatMap fun x => enc x.toNat
def encP (p : P) : List UInt8 := enc p.1.toNat ++ enc p.2.length ++ encN p.2
def encPs (l : List P) : List UInt8 := l.flatMap encP
def encL (l : List P) : List UInt8 := enc l.length ++ encPs l

/-- What stands there is read. -/
theorem next_enc (a t : List UInt8) (n most : Nat) (hn : n ≤ most) (hm : most < 2 ^ 56) : nextV (a ++ enc n ++ t) ⟨a.length, false⟩ most = n ∧ nextS (a ++ enc n ++ t) ⟨a.length, false⟩ most = ⟨(a ++ enc n).length, false⟩ := by
  have hd : dec ((a ++ enc n ++ t).drop a.length) 0 0 = (0, n, (enc n).length) := by
    rw [List.append_assoc, List.drop_left' rfl, dec_enc t n 0 0 (by omega) (.inl (by simpa using Nat.lt_of_le_of_lt hn hm)) (fun h => absurd h (Nat.lt_irrefl 0))]
    simp
  have ho : ¬ off (a ++ enc n ++ t) ⟨a.length, false⟩ most := by
    unfold off getE getN
    rw [hd]
    simp
    exact hn
  constructor
  · unfold nextV getN
    rw [if_neg ho, hd]
  · unfold nextS getTo
    rw [if_neg ho, hd, List.length_append]
theorem nodes_enc (a : List UInt8) (l : List Int) (t : List UInt8) (h : ∀ x ∈ l, 0 ≤ x ∧ x ≤ 256) : nodesV (a ++ encN l ++ t) ⟨a.length, false⟩ l.length = l ∧ nodesS (a ++ encN l ++ t) ⟨a.length, false⟩ l.length = ⟨(a ++ encN l).length, false⟩ := by
  induction l generalizing a with
  | nil => simp [encN, nodesV, nodesS]
  | cons x l ih =>
    have hx := h x (List.mem_cons_self ..)
    have e : a ++ encN (x :: l) ++ t = a ++ enc x.toNat ++ (encN l ++ t) := by simp [encN, List.append_assoc]
    have e' : a ++ encN (x :: l) ++ t = (a ++ enc x.toNat) ++ encN l ++ t := by rw [e]; simp [List.append_assoc]
    obtain ⟨h1, h2⟩ := next_enc a (encN l ++ t) x.toNat 256 (by omega) (by decide)
    rw [← e] at h1 h2
    obtain ⟨g1, g2⟩ := ih (a ++ enc x.toNat) (fun y hy => h y (List.mem_cons_of_mem _ hy))
    rw [← e'] at g1 g2
    refine ⟨?_, ?_⟩
    · show (nextV _ _ 256 : Int) :: nodesV _ (nextS _ _ 256) l.length = _
      rw [h1, h2, g1, Int.toNat_of_nonneg hx.1]
    · show nodesS _ (nextS _ _ 256) l.length = _
      rw [h2, g2]
      simp [encN, List.append_assoc]
theorem right_in {p : P} {m : Int} (h : Right p m) : ∀ x ∈ p.2, 0 ≤ x ∧ x < m := fun x hx => by
  obtain ⟨k, hk, e⟩ := Il.mem_get hx
  have := h.2 k hk
  rw [e] at this
  exact ⟨this.1, this.2.1⟩
theorem one_enc (a : List UInt8) (p : P) (t : List UInt8) (h : Right p 256) : oneV (a ++ encP p ++ t) ⟨a.length, false⟩ = p ∧ oneS (a ++ encP p ++ t) ⟨a.length, false⟩ = ⟨(a ++ encP p).length, false⟩ := by
  have hr := h.1
  have e1 : a ++ encP p ++ t = a ++ enc p.1.toNat ++ (enc p.2.length ++ (encN p.2 ++ t)) := by simp [encP, List.append_assoc]
  have e2 : a ++ encP p ++ t = (a ++ enc p.1.toNat) ++ enc p.2.length ++ (encN p.2 ++ t) := by simp [encP, List.append_assoc]
  have e3 : a ++ encP p ++ t = (a ++ enc p.1.toNat ++ enc p.2.length) ++ encN p.2 ++ t := by simp [encP, List.append_assoc]
  obtain ⟨h1, h2⟩ := next_enc a (enc p.2.length ++ (encN p.2 ++ t)) p.1.toNat 1099511627776 (by omega) (by decide)
  rw [← e1] at h1 h2
  obtain ⟨g1, g2⟩ := next_enc (a ++ enc p.1.toNat) (encN p.2 ++ t) p.2.length 255 (by omega) (by decide)
  rw [← e2] at g1 g2
  obtain ⟨k1, k2⟩ := nodes_enc (a ++ enc p.1.toNat ++ enc p.2.length) p.2 t (fun x hx => by have := right_in h x hx; omega)
  rw [← e3] at k1 k2
  have l1 : lifeS (a ++ encP p ++ t) ⟨a.length, false⟩ = ⟨(a ++ enc p.1.toNat).length, false⟩ := h2
  have l2 : sideS (a ++ encP p ++ t) ⟨a.length, false⟩ = ⟨(a ++ enc p.1.toNat ++ enc p.2.length).length, false⟩ := by unfold sideS; rw [l1, g2]
  have l3 : sideN (a ++ encP p ++ t) ⟨a.length, false⟩ = p.2.length := by unfold sideN; rw [l1, g1]
  constructor
  · unfold oneV
    rw [h1, l2, l3, k1, Int.toNat_of_nonneg (by omega)]
  · unfold oneS
    rw [l2, l3, k2]
    simp [encP, List.append_assoc]
theorem many_enc (a : List UInt8) (l : List P) (t : List UInt8) (h : ∀ p ∈ l, Right p 256) : manyV (a ++ encPs l ++ t) ⟨a.length, false⟩ l.length = l ∧ manyS (a ++ encPs l ++ t) ⟨a.length, false⟩ l.length = ⟨(a ++ encPs l).length, false⟩ := by
  induction l generalizing a with
  | nil => simp [encPs, manyV, manyS]
  | cons p l ih =>
    have e : a ++ encPs (p :: l) ++ t = a ++ encP p ++ (encPs l ++ t) := by simp [encPs, List.append_assoc]
    have e' : a ++ encPs (p :: l) ++ t = (a ++ encP p) ++ encPs l ++ t := by rw [e]; simp [List.append_assoc]
    obtain ⟨h1, h2⟩ := one_enc a p (encPs l ++ t) (h p (List.mem_cons_self ..))
    rw [← e] at h1 h2
    obtain ⟨g1, g2⟩ := ih (a ++ encP p) (fun y hy => h y (List.mem_cons_of_mem _ hy))
    rw [← e'] at g1 g2
    refine ⟨?_, ?_⟩
    · show oneV _ _ :: (if (oneS _ _).bad = true then [] else manyV _ (oneS _ _) l.length) = _
      rw [h1, h2, if_neg (by simp), g1]
    · show (if (oneS _ _).bad = true then oneS _ _ else manyS _ (oneS _ _) l.length) = _
      rw [h2, if_neg (by simp), g2]
      simp [encPs, List.append_assoc]
theorem got_enc (l : List P) (t : List UInt8) (h : All l) : gotL (encL l ++ t) = l ∧ gotS (encL l ++ t) = ⟨(encL l).length, false⟩ := by
  have e1 : encL l ++ t = [] ++ enc l.length ++ (encPs l ++ t) := by simp [encL, List.append_assoc]
  have e2 : encL l ++ t = enc l.length ++ encPs l ++ t := by simp [encL]
  obtain ⟨h1, h2⟩ := next_enc [] (encPs l ++ t) l.length 1000 h.2.1 (by decide)
  rw [← e1] at h1 h2
  obtain ⟨g1, g2⟩ := many_enc (enc l.length) l t h.2.2
  rw [← e2] at g1 g2
  have s1 : startN (encL l ++ t) = l.length := h1
  have s2 : startS (encL l ++ t) = ⟨(enc l.length).length, false⟩ := h2
  constructor
  · unfold gotL; rw [s1, s2, g1]
  · unfold gotS; rw [s1, s2, g2]; rfl

/-- What is read stood there. -/
theorem next_inv (b : List UInt8) (s : St) (most : Nat) (h : (nextS b s most).bad = false) : b.drop s.at_ = enc (nextV b s most) ++ b.drop (nextS b s most).at_ ∧ nextV b s most ≤ most ∧ s.bad = false ∧ (nextS b s most).at_ = s.at_ + (enc (nextV b s most)).length := by
  have ho : ¬ off b s most := fun q => by unfold nextS at h; rw [if_pos q] at h; cases h
  unfold nextV nextS
  rw [if_neg ho, if_neg ho]
  unfold off at ho
  have hb : s.bad = false := by cases hq : s.bad with | false => rfl | true => exact absurd (.inl hq) ho
  have he : getE b s.at_ = 0 := Classical.byContradiction fun q => ho (.inr (.inl q))
  have hm : ¬ most < getN b s.at_ := fun q => ho (.inr (.inr q))
  unfold getE at he
  have hd : dec (b.drop s.at_) 0 0 = (0, (dec (b.drop s.at_) 0 0).2.1, (dec (b.drop s.at_) 0 0).2.2) := by rw [← he]
  obtain ⟨m, t, e1, e2, e3, _⟩ := dec_inv _ _ _ _ _ hd
  have e1 : getN b s.at_ = m := by unfold getN; omega
  have e2' : getTo b s.at_ = s.at_ + (enc m).length := by unfold getTo; omega
  refine ⟨?_, by omega, hb, ?_⟩
  · show b.drop s.at_ = enc (getN b s.at_) ++ b.drop (getTo b s.at_)
    rw [e1, e2', ← List.drop_drop, e3, List.drop_left' rfl]
  · show getTo b s.at_ = _
    rw [e1, e2']
theorem nodes_inv (b : List UInt8) (s : St) (k : Nat) (h : (nodesS b s k).bad = false) : b.drop s.at_ = encN (nodesV b s k) ++ b.drop (nodesS b s k).at_ ∧ s.bad = false ∧ (nodesV b s k).length = k ∧ (nodesS b s k).at_ = s.at_ + (encN (nodesV b s k)).length := by
  induction k generalizing s with
  | zero => exact ⟨by simp [encN, nodesV, nodesS], h, rfl, by simp [encN, nodesV, nodesS]⟩
  | succ k ih =>
    have h : (nodesS b (nextS b s 256) k).bad = false := h
    obtain ⟨a1, a2, a3, a4⟩ := ih _ h
    obtain ⟨c1, c2, c3, c4⟩ := next_inv b s 256 a2
    show b.drop s.at_ = encN ((nextV b s 256 : Int) :: nodesV b (nextS b s 256) k) ++ b.drop (nodesS b (nextS b s 256) k).at_ ∧ _ ∧ ((nextV b s 256 : Int) :: nodesV b (nextS b s 256) k).length = _ ∧ (nodesS b (nextS b s 256) k).at_ = s.at_ + (encN ((nextV b s 256 : Int) :: nodesV b (nextS b s 256) k)).length
    have e : encN ((nextV b s 256 : Int) :: nodesV b (nextS b s 256) k) = enc (nextV b s 256) ++ encN (nodesV b (nextS b s 256) k) := by simp [encN]
    rw [e]
    refine ⟨?_, c3, by rw [List.length_cons, a3], ?_⟩
    · rw [c1, a1, List.append_assoc]
    · rw [a4, c4, List.length_append]; omega
theorem one_inv (b : List UInt8) (s : St) (h : (oneS b s).bad = false) : b.drop s.at_ = encP (oneV b s) ++ b.drop (oneS b s).at_ ∧ s.bad = false ∧ (oneS b s).at_ = s.at_ + (encP (oneV b s)).length := by
  obtain ⟨a1, a2, a3, a4⟩ := nodes_inv b (sideS b s) (sideN b s) h
  obtain ⟨c1, _, c3, c4⟩ := next_inv b (lifeS b s) 255 a2
  obtain ⟨d1, _, d3, d4⟩ := next_inv b s 1099511627776 c3
  have e : encP (oneV b s) = enc (nextV b s 1099511627776) ++ enc (sideN b s) ++ encN (nodesV b (sideS b s) (sideN b s)) := by
    unfold encP oneV
    rw [a3, Int.toNat_natCast]
  rw [e]
  refine ⟨?_, d3, ?_⟩
  · show _ = _ ++ b.drop (nodesS b (sideS b s) (sideN b s)).at_
    rw [d1]
    show enc (nextV b s 1099511627776) ++ b.drop (lifeS b s).at_ = _
    rw [c1]
    show enc (nextV b s 1099511627776) ++ (enc (sideN b s) ++ b.drop (sideS b s).at_) = _
    rw [a1]
    simp [List.append_assoc]
  · show (nodesS b (sideS b s) (sideN b s)).at_ = _
    rw [a4]
    show (nextS b (lifeS b s) 255).at_ + _ = _
    rw [c4]
    show (nextS b s 1099511627776).at_ + (enc (sideN b s)).length + _ = _
    rw [d4, List.length_append, List.length_append]
    omega
theorem many_inv (b : List UInt8) (s : St) (k : Nat) (h : (manyS b s k).bad = false) : b.drop s.at_ = encPs (manyV b s k) ++ b.drop (manyS b s k).at_ ∧ s.bad = false ∧ (manyV b s k).length = k ∧ (manyS b s k).at_ = s.at_ + (encPs (manyV b s k)).length := by
  induction k generalizing s with
  | zero => exact ⟨by simp [encPs, manyV, manyS], h, rfl, by simp [encPs, manyV, manyS]⟩
  | succ k ih =>
    by_cases hq : (oneS b s).bad = true
    · have : manyS b s (k + 1) = oneS b s := if_pos hq
      rw [this, hq] at h
      cases h
    · have eS : manyS b s (k + 1) = manyS b (oneS b s) k := if_neg hq
      have eV : manyV b s (k + 1) = oneV b s :: manyV b (oneS b s) k := by
        show oneV b s :: (if (oneS b s).bad = true then [] else manyV b (oneS b s) k) = _
        rw [if_neg hq]
      rw [eS] at h
      obtain ⟨a1, a2, a3, a4⟩ := ih _ h
      obtain ⟨c1, c2, c3⟩ := one_inv b s a2
      rw [eS, eV]
      have e : encPs (oneV b s :: manyV b (oneS b s) k) = encP (oneV b s) ++ encPs (manyV b (oneS b s) k) := by simp [encPs]
      rw [e]
      refine ⟨?_, c2, by rw [List.length_cons, a3], ?_⟩
      · rw [c1, a1, List.append_assoc]
      · rw [a4, c3, List.length_append]; omega
theorem got_inv (b : List UInt8) (h : (gotS b).bad = false) : b = encL (gotL b) ++ b.drop (gotS b).at_ ∧ (gotS b).at_ = (encL (gotL b)).length := by
  obtain ⟨a1, a2, a3, a4⟩ := many_inv b (startS b) (startN b) h
  obtain ⟨c1, _, _, c4⟩ := next_inv b ⟨0, false⟩ 1000 a2
  have e : encL (gotL b) = enc (startN b) ++ encPs (gotL b) := by unfold encL gotL; rw [a3]
  rw [e]
  constructor
  · have c1 : b = enc (startN b) ++ b.drop (startS b).at_ := c1
    have a1 : b.drop (startS b).at_ = encPs (gotL b) ++ b.drop (gotS b).at_ := a1
    rw [a1, ← List.append_assoc] at c1
    exact c1
  · have c4 : (startS b).at_ = 0 + (enc (startN b)).length := c4
    have a4 : (gotS b).at_ = (startS b).at_ + (encPs (gotL b)).length := a4
    rw [List.length_append]; omega

/-- What is written is read. -/
theorem good_enc {l : List P} (h : All l) : Good (encL l) ∧ gotL (encL l) = l := by
  obtain ⟨h1, h2⟩ := got_enc l [] h
  rw [List.append_nil] at h1 h2
  exact ⟨⟨by rw [h2], by rw [h2], by rw [h1]; exact h⟩, h1⟩
theorem readE_enc {l : List P} (h : All l) : readE (encL l) = 0 := if_pos (good_enc h).1
theorem readL_enc {l : List P} (h : All l) : readL (encL l) = l := by unfold readL; rw [if_pos (good_enc h).1, (good_enc h).2]
/-- What is read is written again. -/
theorem enc_read {b : List UInt8} (h : Good b) : encL (gotL b) = b := by
  obtain ⟨h1, h2⟩ := got_inv b h.1
  rw [h.2.1, List.drop_length, List.append_nil] at h1
  exact h1.symm
theorem good_more {l : List P} (h : All l) {t : List UInt8} (ht : t ≠ []) : ¬ Good (encL l ++ t) := fun q => by
  have h2 := (got_enc l t h).2
  have := q.2.1
  rw [h2, List.length_append] at this
  have : (encL l).length = (encL l).length + t.length := this
  have : t.length = 0 := by omega
  exact ht (List.length_eq_zero_iff.1 this)
theorem readE_more {l : List P} (h : All l) (c : UInt8) : readE (encL l ++ [c]) = 100 := if_neg (good_more h (by simp))
theorem readE_cut {l : List P} (h : All l) {k : Nat} (hk : k < (encL l).length) : readE ((encL l).take k) = 100 := if_neg fun q => by
  have e := enc_read q
  have hA := q.2.2
  have : encL (gotL ((encL l).take k)) ++ (encL l).drop k = encL l := by rw [e, List.take_append_drop]
  have hn : ¬ Good (encL l) := by
    rw [← this]
    refine good_more hA fun z => ?_
    have : ((encL l).drop k).length = 0 := by rw [z]; rfl
    rw [List.length_drop] at this
    omega
  exact hn (good_enc h).1
theorem encL_pos (l : List P) : 1 ≤ (encL l).length := by
  unfold encL
  rw [List.length_append]
  have := enc_pos l.length
  omega
end Pl
