/- What a move does, shard by shard: plain words. No program in sight. -/
import Derived.Test.YtkanlbkfbkkknaaPlMore
namespace Pl
open Il (get idx)

theorem moved_not_in {p : P} {a b n : Int} (h : Right p n) (hab : a ≠ b) : a ∉ (movedOne a b p).2 := by
  by_cases ha : a ∈ p.2
  · obtain ⟨i, hi, hl, he, _⟩ := idx_pos ha
    rw [movedOne_in ha hi]
    intro hm
    obtain ⟨j, hj, ej⟩ := Il.mem_get hm
    have hj' : j < p.2.length := by simpa using hj
    have ej' : get (p.2.set i b) j = a := ej
    rw [Il.get_set b hl] at ej'
    by_cases e : i = j
    · rw [if_pos e] at ej'; exact hab ej'.symm
    · rw [if_neg e] at ej'
      exact e (h.apart hl hj' (by rw [he, ej']))
  · rw [movedOne_out ha]; exact ha
theorem idx_none_of {l : List Int} {a : Int} (h : a ∉ l) : idx l a = -1 := Il.idx_none fun j hj e => h (by rw [← e]; exact Il.get_mem hj)
theorem moved_node {p : P} {a b : Int} {j : Nat} (_hj : j < p.2.length) : get (movedOne a b p).2 j = if (j : Int) = idx p.2 a then b else get p.2 j := by
  by_cases ha : a ∈ p.2
  · obtain ⟨i, hi, hl, _, _⟩ := idx_pos ha
    rw [movedOne_in ha hi, hi]
    show get (p.2.set i b) j = _
    rw [Il.get_set b hl]
    by_cases e : i = j
    · rw [if_pos e, if_pos (by omega)]
    · rw [if_neg e, if_neg (by omega)]
  · rw [movedOne_out ha, idx_none_of ha, if_neg (by omega)]
theorem groupsTo_more (l : List P) (a : Int) (k n : Nat) (h : k ≤ n) : ∃ r, groupsTo l a n = groupsTo l a k ++ r := by
  induction n with
  | zero =>
    obtain rfl : k = 0 := by omega
    exact ⟨[], by simp⟩
  | succ n ih =>
    by_cases e : k = n + 1
    · subst e; exact ⟨[], by simp⟩
    · obtain ⟨r, hr⟩ := ih (by omega)
      rw [groupsTo_succ, hr]
      exact ⟨r ++ _, by rw [List.append_assoc]⟩
theorem groupsTo_in {l : List P} {a : Int} {k : Nat} (h : a ∈ (pget l k).2) : (groupsTo l a (k + 1)).length = (groupsTo l a k).length + 1 := by rw [groupsTo_succ, if_pos h]; simp
theorem groupsTo_out {l : List P} {a : Int} {k : Nat} (h : a ∉ (pget l k).2) : (groupsTo l a (k + 1)).length = (groupsTo l a k).length := by rw [groupsTo_succ, if_neg h]; simp
theorem groups_at {l : List P} {a : Int} {k : Nat} (hk : k < l.length) (h : a ∈ (pget l k).2) : (groupsTo l a k).length < (groups l a).length ∧ get (groups l a) (groupsTo l a k).length = (k : Int) := by
  unfold groups
  obtain ⟨r, hr⟩ := groupsTo_more l a (k + 1) l.length (by omega)
  rw [groupsTo_succ, if_pos h] at hr
  rw [hr]
  constructor
  · simp
  · unfold Il.get
    rw [List.append_assoc]
    simp
/-- Do nodes let a move be? -/
def mayTo (l : List P) (a b : Int) (k : Nat) : Bool := decide (a ≠ b) && (l.take k).all fun p => decide (a ∉ p.2) || decide (b ∉ p.2)
theorem mayTo_succ {l : List P} {a b : Int} {k : Nat} (hk : k < l.length) : mayTo l a b (k + 1) = (mayTo l a b k && (decide (a ∉ (pget l k).2) || decide (b ∉ (pget l k).2))) := by
  unfold mayTo
  rw [List.take_succ_eq_append_getElem hk, List.all_append, pget_of_lt hk]
  simp [Bool.and_assoc]
theorem mayTo_all {l : List P} {a b m : Int} (hl : Low l m) (hm : m < 1099511627776) (ha : 0 ≤ a ∧ a < 256) (hb : 0 ≤ b ∧ b < 256) : mayTo l a b l.length = decide (MayMove l a b) := by
  unfold mayTo
  rw [List.take_length, Bool.eq_iff_iff, Bool.and_eq_true, decide_eq_true_eq, decide_eq_true_eq, List.all_eq_true, mayMove_low hl hm]
  constructor
  · rintro ⟨h1, h2⟩
    exact ⟨ha, hb, h1, fun p hp => by have := h2 p hp; rwa [Bool.or_eq_true, decide_eq_true_eq, decide_eq_true_eq] at this⟩
  · rintro ⟨_, _, h1, h2⟩
    exact ⟨h1, fun p hp => by rw [Bool.or_eq_true, decide_eq_true_eq, decide_eq_true_eq]; exact h2 p hp⟩
theorem mayTo_zero (l : List P) (a b : Int) : mayTo l a b 0 = decide (a ≠ b) := by simp [mayTo]
end Pl
