/- How often a node is at an index of placements that stand in a ring: plain words. No program in sight. -/
import Derived.Test.YtkanlbkfbkkknaaPlMore
namespace Pl

/-- How many of the first G groups have node q at index j. -/
def hits (m j q : Nat) : Nat → Nat
  | 0 => 0
  | G + 1 => hits m j q G + if (G + j) % m = q then 1 else 0
theorem hits_succ (m j q G : Nat) : hits m j q (G + 1) = hits m j q G + if (G + j) % m = q then 1 else 0 := rfl
theorem succ_div_eq (x m : Nat) (hm : 0 < m) : (x + 1) / m = x / m + if (x + 1) % m = 0 then 1 else 0 := by
  have h1 := Nat.div_add_mod x m
  have h2 := Nat.mod_lt x hm
  by_cases e : x % m + 1 = m
  · have e1 : x + 1 = m * (x / m + 1) := by rw [Nat.mul_add, Nat.mul_one]; omega
    rw [e1, Nat.mul_div_cancel_left _ hm, Nat.mul_mod_right, if_pos rfl]
  · have e1 : x + 1 = m * (x / m) + (x % m + 1) := by omega
    have h3 : x % m + 1 < m := by omega
    rw [e1, Nat.mul_add_div hm, Nat.div_eq_of_lt h3, Nat.mul_add_mod, Nat.mod_eq_of_lt h3, if_neg (by omega)]
theorem mod_iff (G j m q : Nat) (hq : q < m) : (G + j) % m = q ↔ (G + j + m - 1 - q + 1) % m = 0 := by
  have hm : 0 < m := by omega
  have h1 := Nat.div_add_mod (G + j) m
  have h2 := Nat.mod_lt (G + j) hm
  have e : G + j + m - 1 - q + 1 = m * ((G + j) / m) + ((G + j) % m + (m - q)) := by omega
  rw [e, Nat.mul_add_mod]
  constructor
  · intro h
    rw [h, show q + (m - q) = m by omega, Nat.mod_self]
  · intro h
    rcases Nat.lt_or_ge ((G + j) % m + (m - q)) m with hlt | hge
    · rw [Nat.mod_eq_of_lt hlt] at h
      omega
    · rw [Nat.mod_eq_sub_mod hge, Nat.mod_eq_of_lt (by omega)] at h
      omega
theorem hits_eq (m j q G : Nat) (hq : q < m) : hits m j q G + (j + m - 1 - q) / m = (G + j + m - 1 - q) / m := by
  induction G with
  | zero => simp [hits]
  | succ G ih =>
    have e : G + 1 + j + m - 1 - q = G + j + m - 1 - q + 1 := by omega
    rw [e, succ_div_eq _ _ (by omega), ← ih, hits_succ]
    by_cases h : (G + j) % m = q
    · rw [if_pos h, if_pos ((mod_iff G j m q hq).1 h)]; omega
    · rw [if_neg h, if_neg (fun e => h ((mod_iff G j m q hq).2 e))]; omega
theorem hits_all (m j q t : Nat) (hq : q < m) : hits m j q (m * t) = t := by
  have h := hits_eq m j q (m * t) hq
  have e : m * t + j + m - 1 - q = (j + m - 1 - q) + m * t := by omega
  rw [e, Nat.add_mul_div_left _ _ (by omega)] at h
  omega
theorem hits_le (m j q G : Nat) : hits m j q G ≤ G := by
  induction G with
  | zero => exact Nat.le_refl _
  | succ G ih => rw [hits_succ]; split <;> omega
/-- What is counted when of group G the first I shards have been counted. -/
def cnt (m G I q j : Nat) : Nat := hits m j q (if j < I then G + 1 else G)
theorem cnt_zero (m q j : Nat) : cnt m 0 0 q j = 0 := by unfold cnt; rw [if_neg (Nat.not_lt_zero _)]; rfl
theorem cnt_next {m G k q j : Nat} (hj : j < k) : cnt m G k q j = cnt m (G + 1) 0 q j := by unfold cnt; rw [if_pos hj, if_neg (Nat.not_lt_zero _)]
theorem cnt_succ {m G I q j : Nat} : cnt m G (I + 1) q j = if j = I ∧ q = (G + I) % m then cnt m G I q j + 1 else cnt m G I q j := by
  unfold cnt
  by_cases h : j = I
  · subst h
    have e1 : (if j < j + 1 then G + 1 else G) = G + 1 := if_pos (Nat.lt_succ_self _)
    have e2 : (if j < j then G + 1 else G) = G := if_neg (Nat.lt_irrefl _)
    rw [e1, e2, hits_succ]
    generalize (G + j) % m = r
    generalize hits m j q G = h
    split <;> split <;> omega
  · have e0 : (if j < I + 1 then G + 1 else G) = (if j < I then G + 1 else G) := by
      by_cases e : j < I
      · rw [if_pos e, if_pos (by omega)]
      · rw [if_neg e, if_neg (by omega)]
    rw [e0]
    generalize (if j < I then G + 1 else G) = t
    rw [if_neg (fun e : j = I ∧ q = (G + I) % m => h e.1)]
theorem cnt_le (m G I q j : Nat) : cnt m G I q j ≤ G + 1 := by
  unfold cnt
  have := hits_le m j q (if j < I then G + 1 else G)
  split at this <;> split <;> omega
end Pl
