/- Several texts in one: Lists of whole numbers, in plain words. No program in sight. Lists of whole numbers, laid rising. No program in sight. Who has a shard of a stripe, in plain words (chapter 13). No program in sight. -/
import Derived.Test.YtfpglkacjecoeaaGreatCt1
namespace Il

/-- The number at a place; nought where there is none. -/
def get (l : List Int) (k : Nat) : Int := l.getD k 0
theorem get_of_lt {l : List Int} {k : Nat} (h : k < l.length) : get l k = l[k] := by simp [get, h]
theorem get_of_ge {l : List Int} {k : Nat} (h : l.length ≤ k) : get l k = 0 := by simp [get, h]
theorem ext_get {l m : List Int} (hl : l.length = m.length) (h : ∀ k, k < l.length → get l k = get m k) : l = m := by
  apply List.ext_getElem hl
  intro i h1 h2
  have := h i h1
  rwa [get_of_lt h1, get_of_lt h2] at this
theorem get_map_range {n k : Nat} (f : Nat → Int) (h : k < n) : get ((List.range n).map f) k = f k := by simp [get, h]
theorem get_set {l : List Int} {k i : Nat} (v : Int) (hk : k < l.length) : get (l.set k v) i = if k = i then v else get l i := by
  unfold get
  rw [List.getD_eq_getElem?_getD, List.getD_eq_getElem?_getD, List.getElem?_set]
  by_cases e : k = i
  · rw [if_pos e, if_pos e, if_pos hk]; rfl
  · rw [if_neg e, if_neg e]
theorem get_mem {l : List Int} {k : Nat} (h : k < l.length) : get l k ∈ l := by rw [get_of_lt h]; exact List.getElem_mem h
theorem mem_get {l : List Int} {x : Int} (h : x ∈ l) : ∃ k, k < l.length ∧ get l k = x := by
  obtain ⟨k, hk, e⟩ := List.mem_iff_getElem.1 h
  exact ⟨k, hk, by rw [get_of_lt hk, e]⟩
theorem get_take {l : List Int} {n k : Nat} (h : k < n) : get (l.take n) k = get l k := by
  unfold get
  rw [List.getD_eq_getElem?_getD, List.getD_eq_getElem?_getD, List.getElem?_take, if_pos h]

/-- Where a number first is; less than nought where it is not. -/
def idx (l : List Int) (v : Int) : Int := if l.findIdx (· == v) < l.length then (l.findIdx (· == v) : Int) else -1
theorem idx_found {l : List Int} {v : Int} {k : Nat} (hk : k < l.length) (he : get l k = v) (hno : ∀ j, j < k → get l j ≠ v) : idx l v = (k : Int) := by
  have h : l.findIdx (· == v) = k := by
    rw [List.findIdx_eq hk]
    refine ⟨?_, fun j hj => ?_⟩
    · rw [← get_of_lt hk, he]; simp
    · have := hno j hj
      rw [get_of_lt (by omega)] at this
      simpa using this
  unfold idx
  rw [h, if_pos hk]
theorem idx_none {l : List Int} {v : Int} (hno : ∀ j, j < l.length → get l j ≠ v) : idx l v = -1 := by
  unfold idx
  rw [if_neg]
  intro h
  have h1 := List.findIdx_getElem (w := h)
  have h2 := hno _ h
  rw [get_of_lt h] at h2
  simp only [beq_iff_eq] at h1
  exact h2 h1
theorem idx_cases (l : List Int) (v : Int) : (∃ k, k < l.length ∧ idx l v = (k : Int) ∧ get l k = v ∧ ∀ j, j < k → get l j ≠ v) ∨ (idx l v = -1 ∧ ∀ j, j < l.length → get l j ≠ v) := by
  by_cases h : l.findIdx (· == v) < l.length
  · refine .inl ⟨_, h, ?_, ?_, fun j hj e => ?_⟩
    · unfold idx; rw [if_pos h]
    · have h1 := List.findIdx_getElem (w := h)
      rw [get_of_lt h]
      simpa using h1
    · have h2 := List.not_of_lt_findIdx hj
      rw [get_of_lt (by omega)] at e
      rw [e] at h2
      simp at h2
  · refine .inr ⟨?_, fun j hj e => ?_⟩
    · unfold idx; rw [if_neg h]
    · apply h
      have hm : ∃ x ∈ l, (x == v) = true := ⟨get l j, get_mem hj, by rw [e]; simp⟩
      exact List.findIdx_lt_length.2 hm
theorem idx_lt (l : List Int) (v : Int) : idx l v < l.length := by
  rcases idx_cases l v with ⟨k, hk, h, _⟩ | ⟨h, _⟩ <;> rw [h] <;> omega
theorem idx_ge (l : List Int) (v : Int) : -1 ≤ idx l v := by
  rcases idx_cases l v with ⟨k, hk, h, _⟩ | ⟨h, _⟩ <;> rw [h] <;> omega
theorem idx_mem (l : List Int) (v : Int) : (0 ≤ idx l v) ↔ v ∈ l := by
  rcases idx_cases l v with ⟨k, hk, h, e, _⟩ | ⟨h, e⟩
  · rw [h]
    exact ⟨fun _ => by rw [← e]; exact get_mem hk, fun _ => by omega⟩
  · rw [h]
    refine ⟨fun h => by omega, fun hm => ?_⟩
    obtain ⟨k, hk, e'⟩ := mem_get hm
    exact absurd e' (e k hk)
end Il

/-- The list, rising. -/
def Il.srt (l : List Int) : List Int := l.mergeSort fun x y => decide (x ≤ y)
namespace Il
theorem srt_length (l : List Int) : (srt l).length = l.length := by simp [srt]
theorem srt_perm (l : List Int) : (srt l).Perm l := List.mergeSort_perm _ _
theorem srt_mem {l : List Int} {x : Int} : x ∈ srt l ↔ x ∈ l := (srt_perm l).mem_iff
theorem srt_pairwise (l : List Int) : (srt l).Pairwise (· ≤ ·) := by
  have h := List.pairwise_mergeSort (le := fun x y : Int => decide (x ≤ y)) (fun a b c h1 h2 => by simp at *; omega) (fun a b => by simp; omega) l
  exact h.imp (fun h => by simpa using h)
theorem srt_nodup {l : List Int} : (srt l).Nodup ↔ l.Nodup := (srt_perm l).nodup_iff
/-- Rising, none twice, each between two bounds. -/
def rising (lo hi : Int) (l : List Int) : Prop := ∀ i, i < l.length → (lo ≤ get l i ∧ get l i ≤ hi) ∧ (0 < i → get l (i - 1) < get l i)
instance (lo hi : Int) (l : List Int) : Decidable (rising lo hi l) := by unfold rising; infer_instance
theorem rising_iff {lo hi : Int} {l : List Int} : rising lo hi l ↔ (∀ x ∈ l, lo ≤ x ∧ x ≤ hi) ∧ l.Pairwise (· < ·) := by
  constructor
  · intro h
    refine ⟨fun x hx => ?_, ?_⟩
    · obtain ⟨k, hk, rfl⟩ := mem_get hx
      exact (h k hk).1
    · rw [List.pairwise_iff_getElem]
      intro i j hi hj hij
      have : ∀ d, i + d + 1 < l.length → get l i < get l (i + d + 1) := by
        intro d
        induction d with
        | zero => intro hd; exact (h (i + 1) hd).2 (by omega)
        | succ d ih => intro hd; exact Int.lt_trans (ih (by omega)) ((h (i + (d + 1) + 1) hd).2 (by omega))
      have h1 := this (j - i - 1) (by omega)
      rw [show i + (j - i - 1) + 1 = j by omega, get_of_lt hi, get_of_lt hj] at h1
      exact h1
  · rintro ⟨h1, h2⟩ i hi
    refine ⟨h1 _ (get_mem hi), fun h0 => ?_⟩
    rw [get_of_lt (by omega), get_of_lt hi]
    exact (List.pairwise_iff_getElem.1 h2) (i - 1) i (by omega) hi (by omega)
theorem rising_nodup {lo hi : Int} {l : List Int} (h : rising lo hi l) : l.Nodup := by
  have h2 := (rising_iff.1 h).2
  exact h2.imp (fun h => by omega)
theorem rising_srt {lo hi : Int} {l : List Int} : rising lo hi (srt l) ↔ (∀ x ∈ l, lo ≤ x ∧ x ≤ hi) ∧ l.Nodup := by
  rw [rising_iff]
  constructor
  · rintro ⟨h1, h2⟩
    exact ⟨fun x hx => h1 x (srt_mem.2 hx), srt_nodup.1 (h2.imp (fun h => by omega))⟩
  · rintro ⟨h1, h2⟩
    refine ⟨fun x hx => h1 x (srt_mem.1 hx), ?_⟩
    have h3 := srt_pairwise l
    have h4 := srt_nodup.2 h2
    rw [List.Nodup] at h4
    exact (h3.and h4).imp (fun h => by have := h.1; have := h.2; omega)
/-- Where the first one is that is so; less than nought where there is none. -/
def idxf (l : List Int) (p : Int → Bool) : Int := if l.findIdx p < l.length then (l.findIdx p : Int) else -1
theorem idxf_found {l : List Int} {p : Int → Bool} {k : Nat} (hk : k < l.length) (he : p (get l k) = true) (hno : ∀ j, j < k → p (get l j) = false) : idxf l p = (k : Int) := by
  have h : l.findIdx p = k := by
    rw [List.findIdx_eq hk]
    refine ⟨by rw [← get_of_lt hk]; exact he, fun j hj => ?_⟩
    have := hno j hj
    rwa [get_of_lt (by omega)] at this
  unfold idxf
  rw [h, if_pos hk]
theorem idxf_none {l : List Int} {p : Int → Bool} (hno : ∀ j, j < l.length → p (get l j) = false) : idxf l p = -1 := by
  unfold idxf
  rw [if_neg]
  intro h
  have h1 := List.findIdx_getElem (w := h)
  have h2 := hno _ h
  rw [get_of_lt h] at h2
  rw [h2] at h1
  cases h1
theorem idxf_cases (l : List Int) (p : Int → Bool) : (∃ k, k < l.length ∧ idxf l p = (k : Int) ∧ p (get l k) = true ∧ ∀ j, j < k → p (get l j) = false) ∨ (idxf l p = -1 ∧ ∀ j, j < l.length → p (get l j) = false) := by
  by_cases h : l.findIdx p < l.length
  · refine .inl ⟨_, h, ?_, ?_, fun j hj => ?_⟩
    · unfold idxf; rw [if_pos h]
    · rw [get_of_lt h]; exact List.findIdx_getElem (w := h)
    · have h2 := List.not_of_lt_findIdx hj
      rw [get_of_lt (by omega)]
      simpa using h2
  · refine .inr ⟨?_, fun j hj => ?_⟩
    · unfold idxf; rw [if_neg h]
    · rcases hp : p (get l j) with _ | _
      · rfl
      · exact absurd (List.findIdx_lt_length.2 ⟨get l j, get_mem hj, hp⟩) h
theorem idxf_ge (l : List Int) (p : Int → Bool) : -1 ≤ idxf l p := by
  rcases idxf_cases l p with ⟨k, hk, h, _⟩ | ⟨h, _⟩ <;> rw [h] <;> omega
theorem idxf_lt (l : List Int) (p : Int → Bool) : idxf l p < l.length := by
  rcases idxf_cases l p with ⟨k, hk, h, _⟩ | ⟨h, _⟩ <;> rw [h] <;> omega
end Il
namespace Finds
open Il

structure F where
  stripe : Int
  version : Int
  need : Int
  phase : Int
  marks : List Int
  which : List Int
  shards : List (List UInt8)
/-- The indexes below k that have a mark, rising. -/
def upto (l : List Int) (m : Int) : Nat → List Int
  | 0 => []
  | k + 1 => if get l k = m then upto l m k ++ [(k : Int)] else upto l m k
def ofL (l : List Int) (m : Int) : List Int := upto l m l.length
def cnt (l : List Int) (m : Int) : Nat := (ofL l m).length
def named (s v n need : Int) : Prop := (0 ≤ s ∧ s ≤ 1099511627776) ∧ (1 ≤ v ∧ v ≤ 1099511627776) ∧ (1 ≤ n ∧ n ≤ 255) ∧ (1 ≤ need ∧ need ≤ n)
instance (s v n need : Int) : Decidable (named s v n need) := by unfold named; infer_instance
/-- May a shard come to those that are there? -/
def fitsL (l : List (List UInt8)) (b : List UInt8) : Bool := decide (b.length ≤ 65536) && (decide (l.length = 0) || decide (b.length = (l.getD 0 []).length))
def phaseOk (p : Int) (got lacks n : Nat) (need : Int) : Prop :=
  (p = 1 ∧ (got : Int) < need ∧ (lacks : Int) ≤ n - need) ∨ (p = 2 ∧ (got : Int) = need) ∨ (p = 3 ∧ (got : Int) < need ∧ (n : Int) - need < lacks)
instance (p : Int) (got lacks n : Nat) (need : Int) : Decidable (phaseOk p got lacks n need) := by unfold phaseOk; infer_instance
def right (f : F) : Prop := named f.stripe f.version f.marks.length f.need ∧ cnt f.marks 0 + cnt f.marks 1 + cnt f.marks 2 = f.marks.length ∧ srt f.which = ofL f.marks 1 ∧ f.shards.length = cnt f.marks 1 ∧ (∀ b ∈ f.shards, fitsL f.shards b = true) ∧ phaseOk f.phase (cnt f.marks 1) (cnt f.marks 2) f.marks.length f.need
instance (f : F) : Decidable (right f) := by unfold right; infer_instance
def nought : F := ⟨0, 0, 0, 0, [], [], []⟩
/-- Begin. -/
def beginE (s v n need : Int) : Int := if named s v n need then 0 else 140
def beginF (s v n need : Int) : F := if named s v n need then ⟨s, v, need, 1, List.replicate n.toNat 0, [], []⟩ else nought
/-- Told. -/
def mayTell (f : F) (i : Int) : Prop := right f ∧ 0 ≤ i ∧ i < f.marks.length
instance (f : F) (i : Int) : Decidable (mayTell f i) := by unfold mayTell; infer_instance
def opens (f : F) (i : Int) : Prop := f.phase = 1 ∧ get f.marks i.toNat = 0
instance (f : F) (i : Int) : Decidable (opens f i) := by unfold opens; infer_instance
def gets (f : F) (e : Int) (b : List UInt8) : Bool := decide (e = 0) && fitsL f.shards b
def told0 (f : F) (i : Nat) (e : Int) (b : List UInt8) : F := if gets f e b then { f with marks := f.marks.set i 1, which := f.which ++ [(i : Int)], shards := f.shards ++ [b] } else { f with marks := f.marks.set i 2 }
def phased (f : F) : F := { f with phase := if f.need ≤ f.which.length then 2 else if (f.marks.length : Int) - f.need < cnt f.marks 2 then 3 else f.phase }
def toldE (f : F) (i : Int) : Int := if mayTell f i then 0 else 140
def toldF (f : F) (i e : Int) (b : List UInt8) : F := if mayTell f i ∧ opens f i then phased (told0 f i.toNat e b) else f
/-- Lose. -/
def loseF (f : F) (i : Int) : F := if mayTell f i ∧ f.phase = 1 ∧ get f.marks i.toNat = 2 then { f with marks := f.marks.set i.toNat 0 } else f
/-- What lacks, what is wanted. -/
def lacksL (f : F) : List Int := if right f then ofL f.marks 2 else []
def wantsL (f : F) : List Int := if right f ∧ f.phase = 1 then ofL f.marks 0 else []

theorem upto_succ (l : List Int) (m : Int) (k : Nat) : upto l m (k + 1) = if get l k = m then upto l m k ++ [(k : Int)] else upto l m k := rfl
theorem upto_mem {l : List Int} {m : Int} {k : Nat} {x : Int} : x ∈ upto l m k ↔ ∃ j : Nat, j < k ∧ x = (j : Int) ∧ get l j = m := by
  induction k with
  | zero => simp [upto]
  | succ k ih =>
    rw [upto_succ]
    split
    · rename_i h
      rw [List.mem_append, ih, List.mem_singleton]
      constructor
      · rintro (⟨j, h1, h2, h3⟩ | h1)
        · exact ⟨j, by omega, h2, h3⟩
        · exact ⟨k, by omega, h1, h⟩
      · rintro ⟨j, h1, h2, h3⟩
        by_cases hj : j < k
        · exact .inl ⟨j, hj, h2, h3⟩
        · exact .inr (by rw [h2]; omega)
    · rename_i h
      rw [ih]
      constructor
      · rintro ⟨j, h1, h2, h3⟩
        exact ⟨j, by omega, h2, h3⟩
      · rintro ⟨j, h1, h2, h3⟩
        refine ⟨j, ?_, h2, h3⟩
        by_cases hj : j = k
        · subst hj; exact absurd h3 h
        · omega
theorem ofL_mem {l : List Int} {m : Int} {x : Int} : x ∈ ofL l m ↔ ∃ j : Nat, j < l.length ∧ x = (j : Int) ∧ get l j = m := upto_mem
theorem upto_pairwise (l : List Int) (m : Int) (k : Nat) : (upto l m k).Pairwise (· < ·) := by
  induction k with
  | zero => exact List.Pairwise.nil
  | succ k ih =>
    rw [upto_succ]
    split
    · rw [List.pairwise_append]
      refine ⟨ih, List.pairwise_singleton _ _, fun a ha b hb => ?_⟩
      obtain ⟨j, h1, h2, _⟩ := upto_mem.1 ha
      simp at hb
      omega
    · exact ih
theorem ofL_pairwise (l : List Int) (m : Int) : (ofL l m).Pairwise (· < ·) := upto_pairwise _ _ _
theorem upto_length_le (l : List Int) (m : Int) (k : Nat) : (upto l m k).length ≤ k := by
  induction k with
  | zero => exact Nat.le_refl _
  | succ k ih =>
    rw [upto_succ]
    split
    · rw [List.length_append]; simp; omega
    · omega
theorem cnt_le (l : List Int) (m : Int) : cnt l m ≤ l.length := upto_length_le _ _ _
/-- A list that rises is known by what is in it. -/
theorem rising_ext : ∀ {a b : List Int}, a.Pairwise (· < ·) → b.Pairwise (· < ·) → (∀ x, x ∈ a ↔ x ∈ b) → a = b
  | [], [], _, _, _ => rfl
  | [], y :: b, _, _, h => by have := (h y).2 List.mem_cons_self; cases this
  | x :: a, [], _, _, h => by have := (h x).1 List.mem_cons_self; cases this
  | x :: a, y :: b, ha, hb, h => by
    obtain ⟨ha1, ha2⟩ := List.pairwise_cons.1 ha
    obtain ⟨hb1, hb2⟩ := List.pairwise_cons.1 hb
    have e : x = y := by
      rcases List.mem_cons.1 ((h x).1 List.mem_cons_self) with e | e
      · exact e
      · rcases List.mem_cons.1 ((h y).2 List.mem_cons_self) with e' | e'
        · exact e'.symm
        · have := hb1 _ e; have := ha1 _ e'; omega
    subst e
    congr 1
    refine rising_ext ha2 hb2 (fun z => ?_)
    constructor
    · intro hz
      rcases List.mem_cons.1 ((h z).1 (List.mem_cons_of_mem _ hz)) with e | e
      · have := ha1 _ hz; omega
      · exact e
    · intro hz
      rcases List.mem_cons.1 ((h z).2 (List.mem_cons_of_mem _ hz)) with e | e
      · have := hb1 _ hz; omega
      · exact e
/-- A list that rises, with the same things in it as another, is that one laid rising. -/
theorem srt_eq {a b : List Int} (hb : b.Pairwise (· < ·)) (hd : a.Nodup) (h : ∀ x, x ∈ a ↔ x ∈ b) : srt a = b := by
  refine rising_ext ?_ hb (fun x => srt_mem.trans (h x))
  have h1 := srt_pairwise a
  have h2 : (srt a).Nodup := srt_nodup.2 hd
  rw [List.Nodup] at h2
  exact (h1.and h2).imp (fun h => by have := h.1; have := h.2; omega)
theorem cnt_set {l : List Int} {i : Nat} (hi : i < l.length) {a b m : Int} (ha : get l i = a) (hab : a ≠ b) : cnt (l.set i b) m + (if m = a then 1 else 0) = cnt l m + (if m = b then 1 else 0) := by
  have hg : ∀ j, Il.get (l.set i b) j = if j = i then b else Il.get l j := fun j => by
    by_cases hj : j = i
    · subst hj
      rw [if_pos rfl, get_of_lt (by simpa using hi)]
      simp
    · rw [if_neg hj]
      unfold Il.get
      rw [List.getD_eq_getElem?_getD, List.getD_eq_getElem?_getD, List.getElem?_set_ne (by omega)]
  have one : ∀ k, (upto l m (k + 1)).length = (upto l m k).length + (if Il.get l k = m then 1 else 0) := fun k => by
    rw [upto_succ]
    by_cases h : Il.get l k = m
    · rw [if_pos h, if_pos h, List.length_append]; rfl
    · rw [if_neg h, if_neg h]; rfl
  have two : ∀ k, (upto (l.set i b) m (k + 1)).length = (upto (l.set i b) m k).length + (if (if k = i then b else Il.get l k) = m then 1 else 0) := fun k => by
    rw [upto_succ, hg k]
    by_cases h : (if k = i then b else Il.get l k) = m
    · rw [if_pos h, if_pos h, List.length_append]; rfl
    · rw [if_neg h, if_neg h]; rfl
  have key : ∀ k, (upto (l.set i b) m k).length + (if i < k then (if m = a then 1 else 0) else 0) = (upto l m k).length + (if i < k then (if m = b then 1 else 0) else 0) := by
    intro k
    induction k with
    | zero => simp [upto]
    | succ k ih =>
      rw [one, two]
      by_cases hk : k = i
      · subst hk
        have e1 : ¬ (k < k) := Nat.lt_irrefl k
        have e2 : k < k + 1 := by omega
        rw [if_neg e1, if_neg e1] at ih
        rw [if_pos e2, if_pos e2, if_pos rfl, ha]
        have f1 : (if a = m then 1 else 0 : Nat) = (if m = a then 1 else 0) := by by_cases h : a = m <;> simp [h, eq_comm]
        have f2 : (if b = m then 1 else 0 : Nat) = (if m = b then 1 else 0) := by by_cases h : b = m <;> simp [h, eq_comm]
        rw [f1, f2]
        omega
      · rw [if_neg hk]
        by_cases h1 : i < k
        · rw [if_pos h1, if_pos h1] at ih
          rw [if_pos (show i < k + 1 by omega), if_pos (show i < k + 1 by omega)]
          omega
        · rw [if_neg h1, if_neg h1] at ih
          rw [if_neg (show ¬ i < k + 1 by omega), if_neg (show ¬ i < k + 1 by omega)]
          omega
  have := key l.length
  unfold cnt ofL
  rw [List.length_set]
  rwa [if_pos hi, if_pos hi] at this
theorem get_set_ne {l : List Int} {i j : Nat} (h : i ≠ j) (b : Int) : get (l.set i b) j = get l j := by
  unfold Il.get
  rw [List.getD_eq_getElem?_getD, List.getD_eq_getElem?_getD, List.getElem?_set_ne h]
theorem get_set_eq {l : List Int} {i : Nat} (h : i < l.length) (b : Int) : get (l.set i b) i = b := by
  rw [get_of_lt (by simpa using h)]
  simp
/-- What has a mark when one index has been given another one. -/
theorem ofL_set_mem {l : List Int} {i : Nat} (hi : i < l.length) {b m x : Int} : x ∈ ofL (l.set i b) m ↔ (x = (i : Int) ∧ b = m) ∨ (x ≠ (i : Int) ∧ x ∈ ofL l m) := by
  rw [ofL_mem, ofL_mem]
  constructor
  · rintro ⟨j, h1, h2, h3⟩
    rw [List.length_set] at h1
    by_cases hj : i = j
    · subst hj
      rw [get_set_eq hi] at h3
      exact .inl ⟨h2, h3⟩
    · rw [get_set_ne hj] at h3
      exact .inr ⟨by omega, j, h1, h2, h3⟩
  · rintro (⟨h1, h2⟩ | ⟨h1, j, h2, h3, h4⟩)
    · exact ⟨i, by rw [List.length_set]; exact hi, h1, by rw [get_set_eq hi]; exact h2⟩
    · exact ⟨j, by rw [List.length_set]; exact h2, h3, by rw [get_set_ne (by omega)]; exact h4⟩
theorem ofL_set_same {l : List Int} {i : Nat} (hi : i < l.length) {a b m : Int} (ha : get l i = a) (h1 : a ≠ m) (h2 : b ≠ m) : ofL (l.set i b) m = ofL l m := by
  refine rising_ext (ofL_pairwise _ _) (ofL_pairwise _ _) (fun x => ?_)
  rw [ofL_set_mem hi]
  constructor
  · rintro (⟨_, h⟩ | ⟨_, h⟩)
    · exact absurd h h2
    · exact h
  · intro h
    refine .inr ⟨fun e => ?_, h⟩
    obtain ⟨j, h3, h4, h5⟩ := ofL_mem.1 h
    have : j = i := by omega
    subst this
    exact h1 (ha.symm.trans h5)
theorem which_mem {f : F} (h : right f) {x : Int} : x ∈ f.which ↔ x ∈ ofL f.marks 1 := by rw [← h.2.2.1]; exact srt_mem.symm
theorem which_nodup {f : F} (h : right f) : f.which.Nodup := by
  rw [← srt_nodup, h.2.2.1]
  exact (ofL_pairwise _ _).imp (fun h => by omega)
theorem which_len {f : F} (h : right f) : f.which.length = cnt f.marks 1 := by rw [← srt_length, h.2.2.1]; rfl
theorem fits_snoc {l : List (List UInt8)} {b c : List UInt8} (hb : fitsL l b = true) : (c ∈ l → fitsL l c = true → fitsL (l ++ [b]) c = true) ∧ fitsL (l ++ [b]) b = true := by
  unfold fitsL at *
  cases l with
  | nil =>
    simp at hb ⊢
    exact hb
  | cons a l =>
    simp at hb ⊢
    exact hb
theorem phased_keeps (f : F) : (phased f).marks = f.marks ∧ (phased f).which = f.which ∧ (phased f).shards = f.shards ∧ (phased f).need = f.need ∧ (phased f).stripe = f.stripe ∧ (phased f).version = f.version := ⟨rfl, rfl, rfl, rfl, rfl, rfl⟩
/-- What an answer leaves is right. -/
theorem right_opened {f : F} {i : Nat} (h : right f) (hi : i < f.marks.length) (hp : f.phase = 1) (hm : get f.marks i = 0) (e : Int) (b : List UInt8) : right (phased (told0 f i e b)) := by
  have hd := which_nodup h
  have hw := fun x => @which_mem f h x
  have hl := which_len h
  obtain ⟨h1, h2, h3, h4, h5, h6⟩ := h
  have hph : (cnt f.marks 1 : Int) < f.need ∧ (cnt f.marks 2 : Int) ≤ f.marks.length - f.need := by
    rcases h6 with ⟨_, a, b⟩ | ⟨a, _⟩ | ⟨a, _⟩
    · exact ⟨a, b⟩
    · omega
    · omega
  unfold told0
  by_cases hg : gets f e b = true
  · rw [if_pos hg]
    have hfit : fitsL f.shards b = true := by unfold gets at hg; rw [Bool.and_eq_true] at hg; exact hg.2
    have c0 := cnt_set (m := 0) hi hm (show (0 : Int) ≠ 1 by decide)
    have c1 := cnt_set (m := 1) hi hm (show (0 : Int) ≠ 1 by decide)
    have c2 := cnt_set (m := 2) hi hm (show (0 : Int) ≠ 1 by decide)
    simp at c0 c1 c2
    have hni : (i : Int) ∉ f.which := fun hmem => by
      obtain ⟨j, _, h8, h9⟩ := ofL_mem.1 ((hw _).1 hmem)
      have : j = i := by omega
      subst this
      rw [hm] at h9
      cases h9
    refine ⟨?_, ?_, ?_, ?_, ?_, ?_⟩
    · show named f.stripe f.version ((f.marks.set i 1).length : Nat) f.need
      rw [List.length_set]; exact h1
    · show cnt (f.marks.set i 1) 0 + cnt (f.marks.set i 1) 1 + cnt (f.marks.set i 1) 2 = (f.marks.set i 1).length
      rw [List.length_set]; omega
    · show srt (f.which ++ [(i : Int)]) = ofL (f.marks.set i 1) 1
      refine srt_eq (ofL_pairwise _ _) ?_ (fun x => ?_)
      · rw [List.nodup_append]
        exact ⟨hd, List.pairwise_singleton _ _, fun a ha b hb => by simp at hb; rw [hb]; exact fun e => hni (e ▸ ha)⟩
      · rw [List.mem_append, hw, List.mem_singleton, ofL_set_mem hi]
        constructor
        · rintro (hx | hx)
          · refine .inr ⟨fun e => hni ((hw _).2 (e ▸ hx)), hx⟩
          · exact .inl ⟨hx, rfl⟩
        · rintro (⟨hx, _⟩ | ⟨_, hx⟩)
          · exact .inr hx
          · exact .inl hx
    · show (f.shards ++ [b]).length = cnt (f.marks.set i 1) 1
      simp; omega
    · show ∀ c ∈ f.shards ++ [b], fitsL (f.shards ++ [b]) c = true
      intro c hc
      rcases List.mem_append.1 hc with hc | hc
      · exact (fits_snoc hfit).1 hc (h5 c hc)
      · simp at hc; rw [hc]; exact (fits_snoc (c := b) hfit).2
    · show phaseOk (if f.need ≤ ((f.which ++ [(i : Int)]).length : Nat) then 2 else if ((f.marks.set i 1).length : Int) - f.need < cnt (f.marks.set i 1) 2 then 3 else f.phase) (cnt (f.marks.set i 1) 1) (cnt (f.marks.set i 1) 2) (f.marks.set i 1).length f.need
      rw [List.length_set, List.length_append, hl]
      unfold phaseOk
      have e1 : ([(i : Int)] : List Int).length = 1 := rfl
      rw [e1]
      split
      · right; left; exact ⟨rfl, by omega⟩
      · split
        · omega
        · left; exact ⟨hp, by omega, by omega⟩
  · rw [if_neg hg]
    have c0 := cnt_set (m := 0) hi hm (show (0 : Int) ≠ 2 by decide)
    have c1 := cnt_set (m := 1) hi hm (show (0 : Int) ≠ 2 by decide)
    have c2 := cnt_set (m := 2) hi hm (show (0 : Int) ≠ 2 by decide)
    simp at c0 c1 c2
    have hof := ofL_set_same (m := 1) hi hm (by decide) (show (2 : Int) ≠ 1 by decide)
    refine ⟨?_, ?_, ?_, ?_, h5, ?_⟩
    · show named f.stripe f.version ((f.marks.set i 2).length : Nat) f.need
      rw [List.length_set]; exact h1
    · show cnt (f.marks.set i 2) 0 + cnt (f.marks.set i 2) 1 + cnt (f.marks.set i 2) 2 = (f.marks.set i 2).length
      rw [List.length_set]; omega
    · show srt f.which = ofL (f.marks.set i 2) 1
      rw [hof]; exact h3
    · show f.shards.length = cnt (f.marks.set i 2) 1
      omega
    · show phaseOk (if f.need ≤ (f.which.length : Nat) then 2 else if ((f.marks.set i 2).length : Int) - f.need < cnt (f.marks.set i 2) 2 then 3 else f.phase) (cnt (f.marks.set i 2) 1) (cnt (f.marks.set i 2) 2) (f.marks.set i 2).length f.need
      rw [List.length_set, hl]
      unfold phaseOk
      split
      · omega
      · split
        · right; right; exact ⟨rfl, by omega, by omega⟩
        · left; exact ⟨hp, by omega, by omega⟩
theorem right_told {f : F} (h : right f) (i e : Int) (b : List UInt8) : right (toldF f i e b) := by
  unfold toldF
  split
  · rename_i hc
    exact right_opened h (by have := hc.1.2; omega) hc.2.1 hc.2.2 e b
  · exact h
end Finds
