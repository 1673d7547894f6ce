/- What package round's calls come to, in plain words. No program in sight. -/
import Derived.Test.YtgfhpgomlocllaaRounds
namespace Rounds
def zero : R := ⟨0, 0, 0, 0, []⟩
def begun (s v d : Int) (n : Nat) : R := ⟨s, v, d, 1, List.replicate n 0⟩
def setMark (r : R) (i : Nat) (m : Int) : R := { r with marks := r.marks.set i m }
/-- The phase behind an answer. -/
def nextPhase (r : R) : Int :=
  if r.phase = 1 ∧ r.need ≤ many r.marks 1 then 2
  else if r.phase = 1 ∧ r.marks.length - r.need < many r.marks 3 then 5
  else if r.phase = 3 ∧ many r.marks 2 = r.marks.length then 4
  else if r.phase = 5 ∧ many r.marks 4 = r.marks.length then 6 else r.phase
def next (r : R) : R := { r with phase := nextPhase r }
def told1 (r : R) (i : Nat) (o e : Int) : R := next (setMark r i (marked r.phase (Il.get r.marks i) o e))
def InRange (r : R) (i : Int) : Prop := Right r ∧ 0 ≤ i ∧ i < r.marks.length
instance (r : R) (i : Int) : Decidable (InRange r i) := by unfold InRange; infer_instance
def told (r : R) (i o e : Int) : R := if InRange r i then told1 r i.toNat o e else r
def toldE (r : R) (i : Int) : Int := if InRange r i then 0 else 130
def fallen (r : R) : R := if r.phase = 2 ∧ many r.marks 1 < r.need then { r with phase := 1 } else r
def lose (r : R) (i : Int) : R := if InRange r i then (if r.phase = 4 ∨ r.phase = 6 then r else fallen (setMark r i.toNat 0)) else r
def turned (r : R) (to : Int) (f : List Int) : R := if Right r ∧ r.phase ∈ f then { r with phase := to } else r
def turnedE (r : R) (f : List Int) : Int := if Right r then (if r.phase ∈ f then 0 else 80) else 130
def publish (r : R) : R := turned r 3 [2]
def give (r : R) : R := turned r 5 [1, 2]
/-- What is wanted: index and ask. -/
def wantsOf (p : Int) (l : List Int) (k : Nat) : List (Int × Int) := ((List.range k).filter fun i => decide (want p (Il.get l i) ≠ 0)).map fun (i : Nat) => ((i : Int), want p (Il.get l i))
def wants (r : R) : List (Int × Int) := if Right r then wantsOf r.phase r.marks r.marks.length else []
theorem wantsOf_succ (p : Int) (l : List Int) (k : Nat) : wantsOf p l (k + 1) = wantsOf p l k ++ (if want p (Il.get l k) ≠ 0 then [((k : Int), want p (Il.get l k))] else []) := by
  unfold wantsOf
  rw [List.range_succ, List.filter_append, List.map_append]
  by_cases h : want p (Il.get l k) = 0 <;> simp [h]
theorem wantsOf_length (p : Int) (l : List Int) (k : Nat) : (wantsOf p l k).length ≤ k := by
  unfold wantsOf
  rw [List.length_map]
  exact Nat.le_trans (List.length_filter_le _ _) (by simp)
theorem want_range (p m : Int) : 0 ≤ want p m ∧ want p m ≤ 3 := by
  unfold want
  split
  · omega
  · split
    · omega
    · split <;> omega
end Rounds
