/- Rounds in plain words. No program in sight. -/
import Derived.Test.YtgfhpgomlocllaaIl
namespace Rounds
/-- A round. -/
structure R where
  stripe : Int
  version : Int
  need : Int
  phase : Int
  marks : List Int
deriving DecidableEq

def many (l : List Int) (k : Int) : Int := ((l.filter fun m => m == k).length : Int)
/-- How many marks are of some kinds. -/
def count (l ks : List Int) : Int := ((l.filter fun m => decide (m ∈ ks)).length : Int)
theorem count_nil (ks : List Int) : count [] ks = 0 := rfl
theorem count_snoc (l ks : List Int) (m : Int) : count (l ++ [m]) ks = count l ks + if m ∈ ks then 1 else 0 := by
  unfold count
  rw [List.filter_append]
  by_cases h : m ∈ ks <;> simp [h]
theorem count_le (l ks : List Int) : count l ks ≤ l.length := by
  unfold count
  have := List.length_filter_le (fun m => decide (m ∈ ks)) l
  omega
theorem count_ge (l ks : List Int) : 0 ≤ count l ks := by unfold count; omega
theorem count_one (l : List Int) (k : Int) : count l [k] = many l k := by
  unfold count many
  have h : (fun m => decide (m ∈ [k])) = fun m : Int => m == k := by
    funext m
    rw [Bool.eq_iff_iff]; simp
  rw [h]
theorem many_le (l : List Int) (k : Int) : many l k ≤ l.length := by rw [← count_one]; exact count_le l _
theorem many_ge (l : List Int) (k : Int) : 0 ≤ many l k := by rw [← count_one]; exact count_ge l _
theorem count_all (l ks : List Int) : count l ks = l.length ↔ ∀ m, m ∈ l → m ∈ ks := by
  unfold count
  rw [Int.ofNat_inj, List.length_filter_eq_length_iff]
  simp
theorem many_snoc (l : List Int) (k m : Int) : many (l ++ [m]) k = many l k + if m = k then 1 else 0 := by
  rw [← count_one, count_snoc, count_one]; simp
theorem take_snoc {l : List Int} {k : Nat} (h : k < l.length) : l.take (k + 1) = l.take k ++ [Il.get l k] := by
  rw [List.take_succ_eq_append_getElem h, Il.get_of_lt h]
def named (s v n d : Int) : Prop := 0 ≤ s ∧ s ≤ 1099511627776 ∧ 1 ≤ v ∧ v ≤ 1099511627776 ∧ 1 ≤ n ∧ n ≤ 255 ∧ 1 ≤ d ∧ d ≤ n
instance (s v n d : Int) : Decidable (named s v n d) := by unfold named; infer_instance
def phaseOk (r : R) : Prop :=
  if r.phase = 1 then many r.marks 2 + many r.marks 4 = 0 ∧ many r.marks 1 < r.need ∧ many r.marks 3 ≤ r.marks.length - r.need
  else if r.phase = 2 then many r.marks 2 + many r.marks 4 = 0 ∧ r.need ≤ many r.marks 1
  else if r.phase = 3 then many r.marks 4 = 0 ∧ many r.marks 2 < r.marks.length
  else if r.phase = 4 then many r.marks 2 = r.marks.length
  else if r.phase = 5 then many r.marks 2 = 0 ∧ many r.marks 4 < r.marks.length
  else r.phase = 6 ∧ many r.marks 4 = r.marks.length
instance (r : R) : Decidable (phaseOk r) := by unfold phaseOk; infer_instance
theorem phaseOk1 (s v d : Int) (l : List Int) : phaseOk ⟨s, v, d, 1, l⟩ ↔ many l 2 + many l 4 = 0 ∧ many l 1 < d ∧ many l 3 ≤ l.length - d := by simp [phaseOk]
theorem phaseOk2 (s v d : Int) (l : List Int) : phaseOk ⟨s, v, d, 2, l⟩ ↔ many l 2 + many l 4 = 0 ∧ d ≤ many l 1 := by simp [phaseOk]
theorem phaseOk3 (s v d : Int) (l : List Int) : phaseOk ⟨s, v, d, 3, l⟩ ↔ many l 4 = 0 ∧ many l 2 < l.length := by simp [phaseOk]
theorem phaseOk4 (s v d : Int) (l : List Int) : phaseOk ⟨s, v, d, 4, l⟩ ↔ many l 2 = l.length := by simp [phaseOk]
theorem phaseOk5 (s v d : Int) (l : List Int) : phaseOk ⟨s, v, d, 5, l⟩ ↔ many l 2 = 0 ∧ many l 4 < l.length := by simp [phaseOk]
theorem phaseOk6 (s v d : Int) (l : List Int) : phaseOk ⟨s, v, d, 6, l⟩ ↔ many l 4 = l.length := by simp [phaseOk]
theorem phaseOk_no (s v d p : Int) (l : List Int) (h1 : p ≠ 1) (h2 : p ≠ 2) (h3 : p ≠ 3) (h4 : p ≠ 4) (h5 : p ≠ 5) (h6 : p ≠ 6) : ¬ phaseOk ⟨s, v, d, p, l⟩ := by simp [phaseOk, h1, h2, h3, h4, h5, h6]
/-- Is a round right? -/
def Right (r : R) : Prop := named r.stripe r.version r.marks.length r.need ∧ count r.marks [0, 1, 2, 3, 4] = r.marks.length ∧ phaseOk r
instance (r : R) : Decidable (Right r) := by unfold Right; infer_instance
/-- What an index of a mark is to be asked. -/
def want (p m : Int) : Int :=
  if (p = 1 ∨ p = 2) ∧ m = 0 ∨ p = 3 ∧ (m = 0 ∨ m = 3) then 1 else if p = 3 ∧ m = 1 then 2 else if p = 5 ∧ m ≠ 4 then 3 else 0
/-- What an answer makes of a mark. -/
def marked (p m o e : Int) : Int :=
  if p = 1 ∨ p = 2 then (if o = 1 ∧ e = 0 then 1 else if o = 1 ∧ m = 0 then 3 else m)
  else if p = 3 then
    (if o = 1 ∧ e = 0 ∧ (m = 0 ∨ m = 3) then 1
     else if (o = 1 ∧ e = 61) ∨ (o = 2 ∧ (e = 0 ∨ e = 61)) then 2
     else if o = 1 ∧ e ≠ 0 ∧ m = 0 then 3
     else if o = 2 ∧ e = 60 ∧ m = 1 then 0 else m)
  else if p = 5 then (if o = 1 ∧ e = 0 then 1 else if o = 3 ∧ (e = 0 ∨ e = 61) then 4 else m)
  else m
end Rounds
