/- Placements that are made, and moved some times: plain words. No program in sight. -/
import Derived.Test.YtkanlbkfbkkknaaPl
namespace Pl
open Il (get idx)

theorem mem_get_iff {l : List Int} {x : Int} : x ∈ l ↔ ∃ k, k < l.length ∧ get l k = x := ⟨Il.mem_get, fun ⟨_, hk, e⟩ => e ▸ Il.get_mem hk⟩
theorem idx_pos {l : List Int} {a : Int} (h : a ∈ l) : ∃ i : Nat, idx l a = (i : Int) ∧ i < l.length ∧ get l i = a ∧ ∀ j, j < i → get l j ≠ a := by
  rcases Il.idx_cases l a with ⟨k, hk, h1, h2, h3⟩ | ⟨_, h2⟩
  · exact ⟨k, h1, hk, h2, h3⟩
  · obtain ⟨k, hk, e⟩ := Il.mem_get h
    exact absurd e (h2 k hk)
theorem movedOne_in {p : P} {a b : Int} {i : Nat} (h : a ∈ p.2) (hi : idx p.2 a = (i : Int)) : movedOne a b p = (p.1 + 1, p.2.set i b) := by unfold movedOne; rw [if_pos h, hi, Int.toNat_natCast]
theorem movedOne_out {p : P} {a b : Int} (h : a ∉ p.2) : movedOne a b p = p := by unfold movedOne; rw [if_neg h]
theorem movedOne_length (a b : Int) (p : P) : (movedOne a b p).2.length = p.2.length := by
  unfold movedOne; split <;> simp
theorem movedOne_epoch (a b : Int) (p : P) : (movedOne a b p).1 = if a ∈ p.2 then p.1 + 1 else p.1 := by
  unfold movedOne; split <;> rfl
theorem movedOne_right {p : P} {a b : Int} (h : Right p 256) (hb : 0 ≤ b ∧ b < 256) (hh : ¬ Hinders a b p) : Right (movedOne a b p) 256 := by
  by_cases ha : a ∈ p.2
  · obtain ⟨i, hi, hl, he, _⟩ := idx_pos ha
    rw [movedOne_in ha hi]
    have hnb : b ∉ p.2 := fun h => hh ⟨ha, .inl h⟩
    have hep : p.1 < 1099511627776 := by
      rcases Int.lt_or_le p.1 1099511627776 with h | h
      · exact h
      · exact absurd ⟨ha, .inr h⟩ hh
    obtain ⟨⟨h1, h2, h3, h4, h5, h6⟩, h7⟩ := id h
    refine right_of ⟨by omega, by omega, by show 1 ≤ p.1 + 1; omega, by show p.1 + 1 ≤ _; omega, by simpa using h5, by simpa using h6⟩ (fun j hj => ?_) (fun j k hjk hk => ?_)
    · have hj' : j < p.2.length := by simpa using hj
      show 0 ≤ get (p.2.set i b) j ∧ get (p.2.set i b) j < 256
      rw [Il.get_set b hl]
      by_cases e : i = j
      · rw [if_pos e]; exact hb
      · rw [if_neg e]; exact ⟨(h7 j hj').1, (h7 j hj').2.1⟩
    · have hk' : k < p.2.length := by simpa using hk
      show get (p.2.set i b) j ≠ get (p.2.set i b) k
      rw [Il.get_set b hl, Il.get_set b hl]
      by_cases e1 : i = j
      · rw [if_pos e1, if_neg (by omega)]
        exact fun e => hnb (by rw [e]; exact Il.get_mem hk')
      · rw [if_neg e1]
        by_cases e2 : i = k
        · rw [if_pos e2]
          exact fun e => hnb (by rw [← e]; exact Il.get_mem (by omega))
        · rw [if_neg e2]
          exact fun e => by have := h.apart (i := j) (j := k) (by omega) hk' e; omega
  · rw [movedOne_out ha]; exact h
theorem moved_length (l : List P) (a b : Int) : (moved l a b).length = l.length := by simp [moved]
theorem moved_get {l : List P} {a b : Int} {k : Nat} (h : k < l.length) : pget (moved l a b) k = movedOne a b (pget l k) := pget_map _ h
theorem moved_all {l : List P} {a b : Int} (h : All l) (hm : MayMove l a b) : All (moved l a b) := by
  refine ⟨by rw [moved_length]; exact h.1, by rw [moved_length]; exact h.2.1, fun p hp => ?_⟩
  simp only [moved, List.mem_map] at hp
  obtain ⟨q, hq, rfl⟩ := hp
  exact movedOne_right (h.2.2 q hq) hm.2.1 (hm.2.2.2 q hq)
/-- No epoch is above. -/
def Low (l : List P) (m : Int) : Prop := ∀ p, p ∈ l → p.1 ≤ m
theorem moved_low {l : List P} {a b m : Int} (h : Low l m) : Low (moved l a b) (m + 1) := by
  intro p hp
  simp only [moved, List.mem_map] at hp
  obtain ⟨q, hq, rfl⟩ := hp
  have := h q hq
  rw [movedOne_epoch]
  split <;> omega
theorem Low.more {l : List P} {m k : Int} (h : Low l m) (hk : m ≤ k) : Low l k := fun p hp => Int.le_trans (h p hp) hk
theorem first_low (nodes n groups : Nat) : Low (first nodes n groups) 1 := by
  intro p hp
  simp only [first, List.mem_map] at hp
  obtain ⟨g, _, rfl⟩ := hp
  exact Int.le_refl _
/-- Where epochs are low, nodes alone bar a move. -/
theorem mayMove_low {l : List P} {a b m : Int} (h : Low l m) (hm : m < 1099511627776) : MayMove l a b ↔ (0 ≤ a ∧ a < 256) ∧ (0 ≤ b ∧ b < 256) ∧ a ≠ b ∧ ∀ p, p ∈ l → a ∉ p.2 ∨ b ∉ p.2 := by
  unfold MayMove
  constructor
  · rintro ⟨h1, h2, h3, h4⟩
    refine ⟨h1, h2, h3, fun p hp => ?_⟩
    by_cases ha : a ∈ p.2
    · exact .inr fun hb => h4 p hp ⟨ha, .inl hb⟩
    · exact .inl ha
  · rintro ⟨h1, h2, h3, h4⟩
    refine ⟨h1, h2, h3, fun p hp => ?_⟩
    rintro ⟨ha, hb | hb⟩
    · rcases h4 p hp with h | h
      · exact h ha
      · exact h hb
    · have := h p hp
      omega
/-- What Move tells. -/
def moveE (l : List P) (a b : Int) : Int := if All l then if MayMove l a b then 0 else 100 else 2
def moveL (l : List P) (a b : Int) : List P := if All l ∧ MayMove l a b then moved l a b else []
def moveG (l : List P) (a b : Int) : List Int := if All l ∧ MayMove l a b then groups l a else []

/-- One move, where it may be. -/
def stepAt (l : List P) (m : UInt8 × UInt8) : List P := if MayMove l ((m.1.toNat : Int) % 40) ((m.2.toNat : Int) % 40) then moved l ((m.1.toNat : Int) % 40) ((m.2.toNat : Int) % 40) else l
def made (x y z : UInt8) : List P := first (1 + x.toNat % 20) (1 + y.toNat % (1 + x.toNat % 20)) (1 + z.toNat % 40)
def placedTo (x y z : UInt8) (ms : List (UInt8 × UInt8)) (k : Nat) : List P := (ms.take k).foldl stepAt (made x y z)
def placed (x y z : UInt8) (ms : List (UInt8 × UInt8)) : List P := placedTo x y z ms 8
theorem made_ok (x y z : UInt8) : FirstOk ((1 + x.toNat % 20 : Nat) : Int) ((1 + y.toNat % (1 + x.toNat % 20) : Nat) : Int) ((1 + z.toNat % 40 : Nat) : Int) := by
  unfold FirstOk
  have := Nat.mod_lt y.toNat (show 0 < 1 + x.toNat % 20 by omega)
  omega
theorem placedTo_succ {x y z : UInt8} {ms : List (UInt8 × UInt8)} {k : Nat} (h : k < ms.length) : placedTo x y z ms (k + 1) = stepAt (placedTo x y z ms k) ms[k] := by
  unfold placedTo
  rw [List.take_succ_eq_append_getElem h, List.foldl_append, List.foldl_cons, List.foldl_nil]
theorem placedTo_end {x y z : UInt8} {ms : List (UInt8 × UInt8)} {k : Nat} (h : ms.length ≤ k) (hk : k ≤ 8) : placedTo x y z ms k = placed x y z ms := by
  unfold placed placedTo
  rw [List.take_of_length_le h, List.take_of_length_le (by omega)]
theorem stepAt_all {l : List P} (m : UInt8 × UInt8) (h : All l) : All (stepAt l m) := by
  unfold stepAt
  split
  · exact moved_all h ‹_›
  · exact h
theorem stepAt_low {l : List P} (m : UInt8 × UInt8) {k : Int} (h : Low l k) : Low (stepAt l m) (k + 1) := by
  unfold stepAt
  split
  · exact moved_low h
  · exact h.more (by omega)
theorem stepAt_length (l : List P) (m : UInt8 × UInt8) : (stepAt l m).length = l.length := by
  unfold stepAt
  split
  · exact moved_length _ _ _
  · rfl
theorem foldl_facts (ms : List (UInt8 × UInt8)) (l : List P) (m : Int) (h : All l) (hl : Low l m) : All (ms.foldl stepAt l) ∧ Low (ms.foldl stepAt l) (m + ms.length) ∧ (ms.foldl stepAt l).length = l.length := by
  induction ms generalizing l m with
  | nil => exact ⟨h, by simpa using hl, rfl⟩
  | cons x ms ih =>
    obtain ⟨h1, h2, h3⟩ := ih (stepAt l x) (m + 1) (stepAt_all x h) (stepAt_low x hl)
    rw [List.foldl_cons]
    refine ⟨h1, h2.more (by simp only [List.length_cons]; omega), by rw [h3, stepAt_length]⟩
theorem placedTo_facts (x y z : UInt8) (ms : List (UInt8 × UInt8)) (k : Nat) (hk : k ≤ 8) : All (placedTo x y z ms k) ∧ Low (placedTo x y z ms k) 9 ∧ (placedTo x y z ms k).length = 1 + z.toNat % 40 := by
  obtain ⟨h1, h2, h3⟩ := foldl_facts (ms.take k) (made x y z) 1 (first_all (made_ok x y z)) (first_low _ _ _)
  refine ⟨h1, h2.more ?_, by rw [placedTo, h3]; exact first_length _ _ _⟩
  have := List.length_take_le k ms
  omega
end Pl
