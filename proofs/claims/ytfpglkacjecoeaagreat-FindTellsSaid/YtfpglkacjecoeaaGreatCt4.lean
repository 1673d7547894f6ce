/- Several texts in one: Rows made leading, column by column, in plain words: rank and inverse. No program in sight. Slices of slices of bytes: how they read, and how they are written. No statement of the seat is proved here. A find in its box of seven cells; the contracts of find.named, of and fits. -/
import Derived.Test.YtfpglkacjecoeaaGreatCt3
import Derived.Test.YtfpglkacjecoeaaGreatCt2
import Derived.Laws.ResultCell
namespace Gm
open Gf
abbrev L := List (List UInt8)
def row (m : L) (i : Nat) : List UInt8 := m.getD i []
def at_ (m : L) : M := fun i j => get (row m i) j
/-- So many rows, so many columns. -/
structure Rect (n c : Nat) (m : L) : Prop where
  len : m.length = n
  wid : ∀ i, i < n → (row m i).length = c
theorem row_of_lt {m : L} {i : Nat} (h : i < m.length) : row m i = m[i] := by simp [row, h]
theorem row_set {m : L} {p i : Nat} (r : List UInt8) (hp : p < m.length) : row (m.set p r) i = if p = i then r else row m i := by
  unfold row
  rw [List.getD_eq_getElem?_getD, List.getD_eq_getElem?_getD, List.getElem?_set]
  by_cases e : p = i
  · rw [if_pos e, if_pos e, if_pos hp]; rfl
  · rw [if_neg e, if_neg e]
theorem row_range {n i : Nat} (f : Nat → List UInt8) (h : i < n) : row ((List.range n).map f) i = f i := by simp [row, h]
theorem rows_ext {m m' : L} (hl : m.length = m'.length) (h : ∀ i, i < m.length → row m i = row m' i) : m = m' := by
  apply List.ext_getElem hl
  intro i h1 h2
  have := h i h1
  rwa [row_of_lt h1, row_of_lt h2] at this
theorem Rect.ext {n c : Nat} {m m' : L} (h : Rect n c m) (h' : Rect n c m') (e : Eq2 n c (at_ m) (at_ m')) : m = m' := by
  refine rows_ext (by rw [h.len, h'.len]) fun i hi => ?_
  rw [h.len] at hi
  exact ext_get (by rw [h.wid i hi, h'.wid i hi]) fun j hj => e i hi j (by rwa [h.wid i hi] at hj)
def swapL (m : L) (p q : Nat) : L := (m.set p (row m q)).set q (row m p)
def swapI (p q i : Nat) : Nat := if i = p then q else if i = q then p else i
theorem swapI_swapI (p q i : Nat) : swapI p q (swapI p q i) = i := by unfold swapI; split <;> split <;> simp_all
theorem swapI_lt {p q i n : Nat} (hp : p < n) (hq : q < n) (hi : i < n) : swapI p q i < n := by unfold swapI; split <;> (try split) <;> omega
theorem row_swapL {m : L} {p q i : Nat} (hp : p < m.length) (hq : q < m.length) : row (swapL m p q) i = row m (swapI p q i) := by
  unfold swapL swapI
  rw [row_set _ (by rw [List.length_set]; exact hq), row_set _ hp]
  by_cases e1 : q = i
  · rw [if_pos e1]
    by_cases e2 : i = p
    · rw [if_pos e2, ← e2, e1]
    · rw [if_neg e2, if_pos e1.symm]
  · rw [if_neg e1]
    by_cases e2 : p = i
    · rw [if_pos e2, if_pos e2.symm]
    · rw [if_neg e2, if_neg (Ne.symm e2), if_neg (Ne.symm e1)]
theorem Rect.swapL {n c p q : Nat} {m : L} (h : Rect n c m) (hp : p < n) (hq : q < n) : Rect n c (swapL m p q) :=
  ⟨by unfold Gm.swapL; rw [List.length_set, List.length_set, h.len], fun i hi => by rw [row_swapL (by rw [h.len]; exact hp) (by rw [h.len]; exact hq)]; exact h.wid _ (swapI_lt hp hq hi)⟩
def scaleRow (r : List UInt8) (c : UInt8) : List UInt8 := lay r (add c 1) r
theorem scaleRow_length (r : List UInt8) (c : UInt8) : (scaleRow r c).length = r.length := lay_length _ _ _
theorem get_scaleRow {r : List UInt8} {j : Nat} (c : UInt8) (h : j < r.length) : get (scaleRow r c) j = mul c (get r j) := by
  unfold scaleRow
  rw [lay_get _ _ _ h, layAt_all]
  show _ ^^^ mul (c ^^^ 1) _ = _
  rw [add_mul, one_mul, UInt8.xor_comm (mul c _), ← UInt8.xor_assoc, UInt8.xor_self, UInt8.zero_xor]
def scaleL (m : L) (p : Nat) (c : UInt8) : L := m.set p (scaleRow (row m p) c)
theorem row_scaleL {m : L} {p i : Nat} (c : UInt8) (hp : p < m.length) : row (scaleL m p c) i = if p = i then scaleRow (row m p) c else row m i := row_set _ hp
theorem Rect.scaleL {n c p : Nat} {m : L} (x : UInt8) (h : Rect n c m) (hp : p < n) : Rect n c (scaleL m p x) :=
  ⟨by unfold Gm.scaleL; rw [List.length_set, h.len], fun i hi => by
    rw [row_scaleL _ (by rw [h.len]; exact hp)]
    split
    · rw [scaleRow_length]; exact h.wid p hp
    · exact h.wid i hi⟩
theorem at_scaleL {n c p : Nat} {m : L} (x : UInt8) (h : Rect n c m) (hp : p < n) {i j : Nat} (hj : j < c) : at_ (Gm.scaleL m p x) i j = if i = p then mul x (at_ m i j) else at_ m i j := by
  unfold at_
  rw [row_scaleL _ (by rw [h.len]; exact hp)]
  by_cases e : p = i
  · subst e
    rw [if_pos rfl, if_pos rfl, get_scaleRow _ (by rw [h.wid _ hp]; exact hj)]
  · rw [if_neg e, if_neg (Ne.symm e)]
/-- The first k rows, but p, are cleared by row p. -/
def clearTo (m : L) (p : Nat) (d : Nat → UInt8) (k : Nat) : L := (List.range m.length).map fun i => if i < k ∧ i ≠ p then lay (row m i) (d i) (row m p) else row m i
def clearL (m : L) (p : Nat) (d : Nat → UInt8) : L := clearTo m p d m.length
theorem clearTo_length (m : L) (p : Nat) (d : Nat → UInt8) (k : Nat) : (clearTo m p d k).length = m.length := by simp [clearTo]
theorem row_clearTo {m : L} {i : Nat} (p : Nat) (d : Nat → UInt8) (k : Nat) (hi : i < m.length) : row (clearTo m p d k) i = if i < k ∧ i ≠ p then lay (row m i) (d i) (row m p) else row m i := row_range _ hi
theorem clearTo_zero (m : L) (p : Nat) (d : Nat → UInt8) : clearTo m p d 0 = m := by
  refine rows_ext (clearTo_length _ _ _ _) fun i hi => ?_
  rw [clearTo_length] at hi
  rw [row_clearTo _ _ _ hi, if_neg (fun h => Nat.not_lt_zero _ h.1)]
theorem clearTo_succ {m : L} {p k : Nat} (d : Nat → UInt8) (hk : k < m.length) : clearTo m p d (k + 1) = if k = p then clearTo m p d k else (clearTo m p d k).set k (lay (row (clearTo m p d k) k) (d k) (row m p)) := by
  by_cases e : k = p
  · rw [if_pos e]
    refine rows_ext (by rw [clearTo_length, clearTo_length]) fun i hi => ?_
    rw [clearTo_length] at hi
    rw [row_clearTo _ _ _ hi, row_clearTo _ _ _ hi]
    by_cases e2 : i < k ∧ i ≠ p
    · rw [if_pos e2, if_pos ⟨by omega, e2.2⟩]
    · rw [if_neg e2, if_neg (fun h => e2 ⟨by omega, h.2⟩)]
  · rw [if_neg e]
    refine rows_ext (by rw [clearTo_length, List.length_set, clearTo_length]) fun i hi => ?_
    rw [clearTo_length] at hi
    rw [row_set _ (by rw [clearTo_length]; exact hk), row_clearTo _ _ _ hi, row_clearTo _ _ _ hi, row_clearTo _ _ _ hk, if_neg (show ¬ (k < k ∧ k ≠ p) from fun h => Nat.lt_irrefl _ h.1)]
    by_cases e2 : k = i
    · subst e2; rw [if_pos rfl, if_pos ⟨by omega, e⟩]
    · rw [if_neg e2]
      by_cases e3 : i < k ∧ i ≠ p
      · rw [if_pos e3, if_pos ⟨by omega, e3.2⟩]
      · rw [if_neg e3, if_neg (fun h => e3 ⟨by omega, h.2⟩)]
theorem clearTo_lead {m : L} {p : Nat} (d : Nat → UInt8) (k : Nat) (hp : p < m.length) : row (clearTo m p d k) p = row m p := by rw [row_clearTo _ _ _ hp, if_neg (fun h => h.2 rfl)]
theorem clearTo_later {m : L} {p k i : Nat} (d : Nat → UInt8) (hi : i < m.length) (hk : k ≤ i) : row (clearTo m p d k) i = row m i := by rw [row_clearTo _ _ _ hi, if_neg (fun h => by have := h.1; omega)]
theorem Rect.clearTo {n c : Nat} {m : L} (h : Rect n c m) (p : Nat) (d : Nat → UInt8) (k : Nat) : Rect n c (clearTo m p d k) :=
  ⟨by rw [clearTo_length, h.len], fun i hi => by
    rw [row_clearTo _ _ _ (by rw [h.len]; exact hi)]
    split
    · rw [lay_length]; exact h.wid i hi
    · exact h.wid i hi⟩
theorem at_clearL {n c p : Nat} {m : L} (d : Nat → UInt8) (h : Rect n c m) {i j : Nat} (hi : i < n) (hj : j < c) : at_ (clearL m p d) i j = if i = p then at_ m i j else at_ m i j ^^^ mul (d i) (at_ m p j) := by
  unfold at_ clearL
  have hil : i < m.length := by rw [h.len]; exact hi
  rw [row_clearTo _ _ _ hil]
  by_cases e : i = p
  · rw [if_neg (fun hh => hh.2 e), if_pos e]
  · rw [if_pos ⟨hil, e⟩, if_neg e, lay_get _ _ _ (by rw [h.wid i hi]; exact hj), layAt_all]
/-- The first place from k on, of so many, with a property. -/
def seek (p : Nat → Bool) : Nat → Nat → Nat
  | 0, k => k
  | n + 1, k => if p k then k else seek p n (k + 1)
theorem seek_spec (p : Nat → Bool) : ∀ (n k : Nat), k ≤ seek p n k ∧ seek p n k ≤ k + n ∧ (∀ i, k ≤ i → i < seek p n k → p i = false) ∧ (seek p n k < k + n → p (seek p n k) = true)
  | 0, k => ⟨Nat.le_refl _, Nat.le_refl _, fun i h1 h2 => by simp only [seek] at h2; omega, fun h => by simp only [seek] at h; omega⟩
  | n + 1, k => by
    unfold seek
    by_cases e : p k = true
    · rw [if_pos e]
      exact ⟨Nat.le_refl _, by omega, fun i h1 h2 => by omega, fun _ => e⟩
    · rw [if_neg e]
      obtain ⟨h1, h2, h3, h4⟩ := seek_spec p n (k + 1)
      refine ⟨by omega, by omega, fun i h5 h6 => ?_, fun h5 => h4 (by omega)⟩
      by_cases e2 : i = k
      · rw [e2]; simpa using e
      · exact h3 i (by omega) h6
/-- One column. -/
def col (a b : L) (l j : Nat) : L × L × Nat :=
  let t := seek (fun k => at_ a k j != 0) (a.length - l) l
  if t = a.length then (a, b, l)
  else
    let c := inv (at_ a t j)
    let a1 := scaleL (swapL a t l) l c
    let b1 := scaleL (swapL b t l) l c
    (clearL a1 l (fun k => at_ a1 k j), clearL b1 l (fun k => at_ a1 k j), l + 1)
def elimTo (a b : L) : Nat → L × L × Nat
  | 0 => (a, b, 0)
  | j + 1 => col (elimTo a b j).1 (elimTo a b j).2.1 (elimTo a b j).2.2 j
structure Inv (n c cb : Nat) (a0 b0 : L) (j : Nat) (a b : L) (l : Nat) : Prop where
  ra : Rect n c a
  rb : Rect n cb b
  ln : l ≤ n
  ops : ∃ T S : M, Undo n T S ∧ Eq2 n c (at_ a) (prod n T (at_ a0)) ∧ Eq2 n cb (at_ b) (prod n T (at_ b0))
  piv : ∃ p : Nat → Nat, (∀ r, r < l → p r < j) ∧ (∀ r s, r < s → s < l → p r < p s) ∧ ∀ i, i < n → ∀ r, r < l → at_ a i (p r) = one i r
  zero : ∀ i, l ≤ i → i < n → ∀ k, k < j → at_ a i k = 0
theorem Inv.start {n c cb : Nat} {a b : L} (ha : Rect n c a) (hb : Rect n cb b) : Inv n c cb a b 0 a b 0 :=
  ⟨ha, hb, Nat.zero_le _, ⟨one, one, Undo.one n, fun _ hi j _ => (one_prod _ hi j).symm, fun _ hi j _ => (one_prod _ hi j).symm⟩, ⟨fun _ => 0, fun _ h => absurd h (Nat.not_lt_zero _), fun _ _ _ h => absurd h (Nat.not_lt_zero _), fun _ _ _ h => absurd h (Nat.not_lt_zero _)⟩, fun _ _ _ _ h => absurd h (Nat.not_lt_zero _)⟩
theorem one_ne {i j : Nat} (h : i ≠ j) : one i j = 0 := if_neg h
theorem one_self (i : Nat) : one i i = 1 := if_pos rfl
theorem Inv.step {n c cb : Nat} {a0 b0 : L} {j : Nat} {a b : L} {l : Nat} (h : Inv n c cb a0 b0 j a b l) (hj : j < c) :
    Inv n c cb a0 b0 (j + 1) (col a b l j).1 (col a b l j).2.1 (col a b l j).2.2 := by
  obtain ⟨ra, rb, ln, ⟨T, S, hU, hTa, hTb⟩, ⟨p, hp1, hp2, hp3⟩, hz⟩ := h
  obtain ⟨s1, s2, s3, s4⟩ := seek_spec (fun k => at_ a k j != 0) (a.length - l) l
  unfold col
  simp only []
  generalize seek (fun k => at_ a k j != 0) (a.length - l) l = t at *
  rw [ra.len] at s2 s4 ⊢
  by_cases e : t = n
  · rw [if_pos e]
    refine ⟨ra, rb, ln, ⟨T, S, hU, hTa, hTb⟩, ⟨p, fun r hr => by have := hp1 r hr; omega, hp2, hp3⟩, fun i h1 h2 k hk => ?_⟩
    by_cases ek : k = j
    · subst ek
      have := s3 i h1 (by omega)
      simpa using this
    · exact hz i h1 h2 k (by omega)
  · rw [if_neg e]
    have htn : t < n := by omega
    have hln : l < n := by omega
    have hx : at_ a t j ≠ 0 := by have := s4 (by omega); simpa using this
    generalize hcx : inv (at_ a t j) = x
    have hxx : mul x (at_ a t j) = 1 := by rw [← hcx]; exact inv_mul hx
    have r1 := (ra.swapL htn hln)
    have r2 := r1.scaleL x hln
    have q1 := (rb.swapL htn hln)
    have q2 := q1.scaleL x hln
    have sw : ∀ i k, at_ (swapL a t l) i k = at_ a (swapI t l i) k := fun i k => by
      unfold at_; rw [row_swapL (by rw [ra.len]; exact htn) (by rw [ra.len]; exact hln)]
    have swb : ∀ i k, at_ (swapL b t l) i k = at_ b (swapI t l i) k := fun i k => by
      unfold at_; rw [row_swapL (by rw [rb.len]; exact htn) (by rw [rb.len]; exact hln)]
    have sl : swapI t l l = t := by unfold swapI; split <;> simp_all
    have a1 : ∀ i, ∀ k, k < c → at_ (scaleL (swapL a t l) l x) i k = if i = l then mul x (at_ a t k) else at_ a (swapI t l i) k := fun i k hk => by
      rw [at_scaleL x r1 hln hk, sw]
      by_cases ei : i = l
      · rw [if_pos ei, if_pos ei, ei, sl]
      · rw [if_neg ei, if_neg ei]
    have b1 : ∀ i, ∀ k, k < cb → at_ (scaleL (swapL b t l) l x) i k = if i = l then mul x (at_ b t k) else at_ b (swapI t l i) k := fun i k hk => by
      rw [at_scaleL x q1 hln hk, swb]
      by_cases ei : i = l
      · rw [if_pos ei, if_pos ei, ei, sl]
      · rw [if_neg ei, if_neg ei]
    generalize hA : scaleL (swapL a t l) l x = A1 at *
    generalize hB : scaleL (swapL b t l) l x = B1 at *
    have a2 : ∀ i, i < n → ∀ k, k < c → at_ (clearL A1 l (fun k => at_ A1 k j)) i k = if i = l then at_ A1 i k else at_ A1 i k ^^^ mul (at_ A1 i j) (at_ A1 l k) := fun i hi k hk => at_clearL _ r2 hi hk
    have b2 : ∀ i, i < n → ∀ k, k < cb → at_ (clearL B1 l (fun k => at_ A1 k j)) i k = if i = l then at_ B1 i k else at_ B1 i k ^^^ mul (at_ A1 i j) (at_ B1 l k) := fun i hi k hk => at_clearL _ q2 hi hk
    have alj : at_ A1 l j = 1 := by rw [a1 l j hj, if_pos rfl, hxx]
    have hsw : ∀ i, i ≠ l → l ≤ i → l ≤ swapI t l i := fun i h1 h2 => by unfold swapI; split <;> (try split) <;> omega
    have hswn : ∀ i, i < n → swapI t l i < n := fun i hi => swapI_lt htn hln hi
    refine ⟨r2.clearTo l _ _, q2.clearTo l _ _, by show l + 1 ≤ n; omega, ?_, ?_, ?_⟩
    · refine ⟨prod n (clearE l (fun k => at_ A1 k j)) (prod n (scaleE l x) (prod n (permE (swapI t l)) T)), prod n (prod n (prod n S (permE (swapI t l))) (scaleE l (at_ a t j))) (clearE l (fun k => at_ A1 k j)), ?_, ?_, ?_⟩
      · exact ((hU.step (permE_undo (fun i hi => hswn i hi) (swapI_swapI t l))).step (scaleE_undo hxx)).step (clearE_undo hln _)
      · intro i hi k hk
        rw [prod_assoc, prod_assoc, prod_assoc, clearE_prod hln _ _ hi, scaleE_prod l x _ hi, scaleE_prod l x _ hln, permE_prod _ (hswn i hi), permE_prod _ (hswn l hln), sl, a2 i hi k hk, a1 i k hk, a1 l k hk, if_pos rfl, if_pos rfl]
        rw [← hTa t htn k hk, ← hTa _ (hswn i hi) k hk]
        by_cases ei : i = l
        · subst ei
          simp only [↓reduceIte, sl]
        · simp only [ei, ↓reduceIte]
      · intro i hi k hk
        rw [prod_assoc, prod_assoc, prod_assoc, clearE_prod hln _ _ hi, scaleE_prod l x _ hi, scaleE_prod l x _ hln, permE_prod _ (hswn i hi), permE_prod _ (hswn l hln), sl, b2 i hi k hk, b1 i k hk, b1 l k hk, if_pos rfl, if_pos rfl]
        rw [← hTb t htn k hk, ← hTb _ (hswn i hi) k hk]
        by_cases ei : i = l
        · subst ei
          simp only [↓reduceIte, sl]
        · simp only [ei, ↓reduceIte]
    · refine ⟨fun r => if r = l then j else p r, fun r hr => ?_, fun r s hrs hs => ?_, fun i hi r hr => ?_⟩
      · by_cases er : r = l
        · simp only []; rw [if_pos er]; omega
        · simp only []; rw [if_neg er]; have := hp1 r (by have hr' : r < l + 1 := hr; omega); omega
      · have hs' : s < l + 1 := hs
        simp only []
        rw [if_neg (show r ≠ l by omega)]
        by_cases es : s = l
        · rw [if_pos es]; exact hp1 r (by omega)
        · rw [if_neg es]; exact hp2 r s hrs (by omega)
      · have hr' : r < l + 1 := hr
        simp only []
        by_cases er : r = l
        · rw [if_pos er, a2 i hi j hj]
          by_cases ei : i = l
          · rw [if_pos ei, ei, alj, er, one_self]
          · rw [if_neg ei, alj, mul_one, UInt8.xor_self, er, one_ne ei]
        · have hrl : r < l := by omega
          rw [if_neg er]
          have hpc : p r < c := by have := hp1 r hrl; omega
          have ht0 : at_ a t (p r) = 0 := by rw [hp3 t htn r hrl, one_ne (by omega)]
          have hl0 : at_ A1 l (p r) = 0 := by rw [a1 l _ hpc, if_pos rfl, ht0, mul_zero]
          rw [a2 i hi _ hpc]
          by_cases ei : i = l
          · rw [if_pos ei, ei, hl0, one_ne (by omega)]
          · rw [if_neg ei, hl0, mul_zero, UInt8.xor_zero, a1 i _ hpc, if_neg ei, hp3 _ (hswn i hi) r hrl]
            unfold swapI
            by_cases et : i = t
            · rw [if_pos et, one_ne (by omega), one_ne (by omega)]
            · rw [if_neg et, if_neg ei]
    · intro i h1 h2 k hk
      have h1' : l + 1 ≤ i := h1
      have ei : i ≠ l := by omega
      by_cases ek : k = j
      · rw [ek, a2 i h2 j hj, if_neg ei, alj, mul_one, UInt8.xor_self]
      · have hkj : k < j := by omega
        have hkc : k < c := by omega
        rw [a2 i h2 k hkc, if_neg ei, a1 l k hkc, if_pos rfl, hz t s1 htn k hkj, mul_zero, mul_zero, UInt8.xor_zero, a1 i k hkc, if_neg ei]
        exact hz _ (hsw i ei (by omega)) (hswn i h2) k hkj
theorem inv_elimTo {n c cb : Nat} {a b : L} (ha : Rect n c a) (hb : Rect n cb b) : ∀ j, j ≤ c → Inv n c cb a b j (elimTo a b j).1 (elimTo a b j).2.1 (elimTo a b j).2.2
  | 0, _ => Inv.start ha hb
  | j + 1, h => (inv_elimTo ha hb j (by omega)).step (by omega)
/-- What is cleared does not hang on what stands beside. -/
theorem elimTo_apart (a b b' : L) : ∀ j, (elimTo a b j).1 = (elimTo a b' j).1 ∧ (elimTo a b j).2.2 = (elimTo a b' j).2.2
  | 0 => ⟨rfl, rfl⟩
  | j + 1 => by
    obtain ⟨h1, h2⟩ := elimTo_apart a b b' j
    have e : ∀ (x y y' : L) (l : Nat), (col x y l j).1 = (col x y' l j).1 ∧ (col x y l j).2.2 = (col x y' l j).2.2 := fun x y y' l => by
      unfold col; simp only []; split <;> exact ⟨rfl, rfl⟩
    unfold elimTo
    rw [h1, h2]
    exact e _ _ _ _
def cols (m : L) : Nat := (row m 0).length
/-- How many rows lead. -/
def rank (m : L) : Nat := (elimTo m m (cols m)).2.2
theorem rank_of {m : L} (b : L) : (elimTo m b (cols m)).2.2 = rank m := (elimTo_apart m b m _).2
theorem Rect.cols {n c : Nat} {m : L} (h : Rect n c m) (hn : 0 < n) : Gm.cols m = c := h.wid 0 hn
theorem rank_le {n c : Nat} {m : L} (h : Rect n c m) (hn : 0 < n) : rank m ≤ n := by
  have := (inv_elimTo h h _ (Nat.le_refl c)).ln
  unfold rank; rwa [h.cols hn]
theorem sum_short {f : Nat → UInt8} {l : Nat} : ∀ {n : Nat}, l ≤ n → (∀ k, l ≤ k → k < n → f k = 0) → sum f n = sum f l
  | 0, h, _ => by have : l = 0 := by omega
                  rw [this]
  | n + 1, h, hz => by
    by_cases e : l = n + 1
    · rw [e]
    · rw [sum, sum_short (l := l) (by omega) (fun k h1 h2 => hz k h1 (by omega)), hz n (by omega) (by omega), UInt8.xor_zero]
theorem rank_spans {n c : Nat} {m : L} (h : Rect n c m) (hn : 0 < n) : Spans n c (rank m) (at_ m) := by
  have hI := inv_elimTo h h _ (Nat.le_refl c)
  unfold rank
  rw [h.cols hn]
  obtain ⟨_, _, ln, ⟨T, S, hU, hTa, _⟩, _, hz⟩ := hI
  refine ⟨S, at_ (elimTo m m c).1, fun i hi j hj => ?_⟩
  have h1 : Eq2 n c (at_ m) (prod n S (at_ (elimTo m m c).1)) := by
    refine Eq2.symm ((prod_congr (Eq2.refl n n S) hTa).trans ?_)
    rw [← prod_assoc]
    exact (prod_congr hU.l (Eq2.refl n c _)).trans fun i hi j _ => one_prod _ hi j
  rw [h1 i hi j hj]
  exact sum_short ln fun k h2 h3 => by rw [hz k h2 h3 j hj, mul_zero]
theorem rank_least {n c k : Nat} {m : L} (h : Rect n c m) (hn : 0 < n) (hs : Spans n c k (at_ m)) : rank m ≤ k := by
  have hI := inv_elimTo h h _ (Nat.le_refl c)
  unfold rank
  rw [h.cols hn]
  obtain ⟨_, _, ln, ⟨T, S, hU, hTa, _⟩, ⟨p, hp1, _, hp3⟩, hz⟩ := hI
  have h1 : Spans n c k (at_ (elimTo m m c).1) := spans_of_prod hs hTa
  obtain ⟨C, V, hCV⟩ := h1
  exact unit_spans p hp1 (fun i hi j hj => hp3 i (by omega) j hj) ⟨C, V, fun i hi j hj => hCV i (by omega) j hj⟩
/-- Full rank: what is left is the unit. -/
theorem full_unit {n cb : Nat} {a b : L} (ha : Rect n n a) (hb : Rect n cb b) (hr : (elimTo a b n).2.2 = n) : Eq2 n n (at_ (elimTo a b n).1) one := by
  obtain ⟨_, _, _, _, ⟨p, hp1, hp2, hp3⟩, _⟩ := inv_elimTo ha hb n (Nat.le_refl n)
  rw [hr] at hp1 hp2 hp3
  have hge : ∀ r, r < n → r ≤ p r := by
    intro r
    induction r with
    | zero => intro _; omega
    | succ r ih => intro hr; have h1 := ih (by omega); have h2 := hp2 r (r + 1) (by omega) hr; omega
  have hle : ∀ k r, r + k + 1 = n → p r ≤ r := by
    intro k
    induction k with
    | zero => intro r hr; have := hp1 r (by omega); omega
    | succ k ih => intro r hr; have h1 := ih (r + 1) (by omega); have h2 := hp2 r (r + 1) (by omega) (by omega); omega
  intro i hi j hj
  have hpj : p j = j := by have h1 := hge j hj; have h2 := hle (n - j - 1) j (by omega); omega
  have := hp3 i hi j hj
  rwa [hpj] at this
def unit (n : Nat) : L := (List.range n).map fun i => (List.range n).map fun j => if i = j then 1 else 0
theorem unit_rect (n : Nat) : Rect n n (unit n) := ⟨by simp [unit], fun i hi => by unfold unit; rw [row_range _ hi]; simp⟩
theorem at_unit {n i j : Nat} (hi : i < n) (hj : j < n) : at_ (unit n) i j = one i j := by
  unfold at_ unit
  rw [row_range _ hi, get_map_range _ hj]
  rfl
/-- The inverse, where there is one. -/
def invert (m : L) : L := (elimTo m (unit m.length) (cols m)).2.1
theorem invert_spec {n : Nat} {m : L} (h : Rect n n m) (hn : 0 < n) (hr : rank m = n) : Rect n n (invert m) ∧ Eq2 n n (prod n (at_ (invert m)) (at_ m)) one ∧ Eq2 n n (prod n (at_ m) (at_ (invert m))) one := by
  have hr' : (elimTo m (unit n) n).2.2 = n := by have := rank_of (m := m) (unit n); rw [h.cols hn] at this; rw [this, hr]
  have hf := full_unit h (unit_rect n) hr'
  obtain ⟨_, rb, _, ⟨T, S, hU, hTa, hTb⟩, _, _⟩ := inv_elimTo h (unit_rect n) n (Nat.le_refl n)
  unfold invert
  rw [h.len, h.cols hn]
  have hT : Eq2 n n (at_ (elimTo m (unit n) n).2.1) T := hTb.trans ((prod_congr (Eq2.refl n n T) (fun i hi j hj => at_unit hi hj)).trans fun i _ j hj => prod_one T hj)
  have h1 : Eq2 n n (prod n T (at_ m)) one := hTa.symm.trans hf
  have hS : Eq2 n n S (at_ m) := by
    have e1 : Eq2 n n (prod n S (prod n T (at_ m))) S := (prod_congr (Eq2.refl n n S) h1).trans fun i _ j hj => prod_one S hj
    have e2 : Eq2 n n (prod n S (prod n T (at_ m))) (at_ m) := by
      rw [← prod_assoc]
      exact (prod_congr hU.l (Eq2.refl n n _)).trans fun i hi j _ => one_prod _ hi j
    exact e1.symm.trans e2
  refine ⟨rb, (prod_congr hT (Eq2.refl n n _)).trans h1, ?_⟩
  exact (prod_congr hS.symm hT).trans hU.l
/-- What has an inverse from one side has full rank. -/
theorem rank_full_left {n : Nat} {m : L} {X : M} (h : Rect n n m) (hn : 0 < n) (hX : Eq2 n n (prod n X (at_ m)) one) : rank m = n := by
  have h1 := rank_le h hn
  have h2 : Spans n n (rank m) one := spans_of_prod (rank_spans h hn) hX.symm
  have h3 := unit_spans (X := one) (fun i => i) (fun i hi => hi) (fun i _ j _ => rfl) h2
  omega
theorem rank_full_right {n : Nat} {m : L} {X : M} (h : Rect n n m) (hn : 0 < n) (hX : Eq2 n n (prod n (at_ m) X) one) : rank m = n := by
  have h1 := rank_le h hn
  have h2 : Spans n n (rank m) one := spans_prod (rank_spans h hn) hX.symm
  have h3 := unit_spans (X := one) (fun i => i) (fun i hi => hi) (fun i _ j _ => rfl) h2
  omega
/-- Less than full rank: some rows make nought together. -/
theorem rank_short {n c : Nat} {m : L} (h : Rect n c m) (hn : 0 < n) (hr : rank m < n) : ∃ y : Nat → UInt8, (∃ i, i < n ∧ y i ≠ 0) ∧ ∀ j, j < c → sum (fun i => mul (y i) (at_ m i j)) n = 0 := by
  have hI := inv_elimTo h h _ (Nat.le_refl c)
  unfold rank at hr
  rw [h.cols hn] at hr
  obtain ⟨_, _, ln, ⟨T, S, hU, hTa, _⟩, _, hz⟩ := hI
  generalize (elimTo m m c).2.2 = l at *
  refine ⟨T l, ?_, fun j hj => ?_⟩
  · rcases Classical.em (∃ i, i < n ∧ T l i ≠ 0) with h0 | h0
    · exact h0
    · exfalso
      have hz0 : ∀ i, i < n → T l i = 0 := fun i hi => by
        rcases Classical.em (T l i = 0) with h1 | h1
        · exact h1
        · exact absurd ⟨i, hi, h1⟩ h0
      have h1 := hU.r l hr l hr
      have h2 : prod n T S l l = 0 := sum_zero fun k hk => by rw [hz0 k hk, zero_mul]
      rw [h2, one_self] at h1
      exact absurd h1 (by decide)
  · have := hTa l hr j hj
    rw [hz l (Nat.le_refl _) hr j hj] at this
    exact this.symm
end Gm
namespace Go.Proofs.YtfpglkacjecoeaaGreat
open Go.RowKit

/-- Cells that are slices, each of which reads as a row. -/
structure Rows (w : World) (cs : List Value) (m : Gm.L) : Prop where
  len : cs.length = m.length
  at_ : ∀ i, i < m.length → ∃ A n c, cs[i]? = some (.slice A n c) ∧ Bs w A n c (Gm.row m i)
theorem Rows.ext {w w' : World} {cs : List Value} {m : Gm.L} (h : Rows w cs m) (hx : Ext w w') : Rows w' cs m :=
  ⟨h.len, fun i hi => by obtain ⟨A, n, c, e, hb⟩ := h.at_ i hi; exact ⟨A, n, c, e, hb.ext hx⟩⟩
theorem Rows.nil (w : World) : Rows w [] [] := ⟨rfl, fun _ h => absurd h (Nat.not_lt_zero _)⟩
theorem row_append_last (m : Gm.L) (r : List UInt8) : Gm.row (m ++ [r]) m.length = r := by simp [Gm.row]
theorem row_append_lt {m : Gm.L} {i : Nat} (r : List UInt8) (h : i < m.length) : Gm.row (m ++ [r]) i = Gm.row m i := by simp [Gm.row, List.getD_eq_getElem?_getD, List.getElem?_append_left h]
theorem Rows.snoc {w : World} {cs : List Value} {m : Gm.L} (h : Rows w cs m) {A : Option Addr} {n c : Nat} {r : List UInt8} (hb : Bs w A n c r) : Rows w (cs ++ [.slice A n c]) (m ++ [r]) := by
  refine ⟨by simp [h.len], fun i hi => ?_⟩
  rw [List.length_append] at hi
  by_cases e : i < m.length
  · obtain ⟨A', n', c', e', hb'⟩ := h.at_ i e
    refine ⟨A', n', c', ?_, by rw [row_append_lt _ e]; exact hb'⟩
    rw [List.getElem?_append_left (by rw [h.len]; exact e)]
    exact e'
  · have hi' : i = m.length := by simp at hi; omega
    subst hi'
    refine ⟨A, n, c, ?_, by rw [row_append_last]; exact hb⟩
    rw [← h.len, List.getElem?_append_right (Nat.le_refl _)]
    simp
theorem Rows.one {w : World} {cs : List Value} {m : Gm.L} (h : Rows w cs m) : ∀ u ∈ cs, u.oneCell' = true := by
  intro u hu
  obtain ⟨i, hi, e⟩ := List.mem_iff_getElem.1 hu
  obtain ⟨A, n, c, e', _⟩ := h.at_ i (by rw [← h.len]; exact hi)
  rw [List.getElem?_eq_getElem hi] at e'
  injection e' with e'
  rw [← e, e']
  rfl
theorem Rows.set {w : World} {cs : List Value} {m : Gm.L} (h : Rows w cs m) (i : Nat) {A : Option Addr} {n c : Nat} {r : List UInt8} (hb : Bs w A n c r) : Rows w (cs.set i (.slice A n c)) (m.set i r) := by
  refine ⟨by simp [h.len], fun j hj => ?_⟩
  rw [List.length_set] at hj
  by_cases e : i = j
  · subst e
    exact ⟨A, n, c, by rw [List.getElem?_set, if_pos rfl, if_pos (by rw [h.len]; exact hj)], by rw [Gm.row_set _ hj, if_pos rfl]; exact hb⟩
  · obtain ⟨A', n', c', e', hb'⟩ := h.at_ j hj
    refine ⟨A', n', c', by rw [List.getElem?_set, if_neg e]; exact e', ?_⟩
    have : Gm.row (m.set i r) j = Gm.row m j := by
      unfold Gm.row
      rw [List.getD_eq_getElem?_getD, List.getD_eq_getElem?_getD, List.getElem?_set, if_neg e]
    rw [this]; exact hb'
/-- A slice of slices of bytes. -/
structure Mx (w : World) (A : Option Addr) (n c : Nat) (m : Gm.L) : Prop where
  len : m.length = n
  le : n ≤ c
  max : c ≤ 9223372036854775807
  rd : ∃ cs, Rd w 1 A n cs ∧ Rows w cs m
theorem Mx.ext {w w' : World} {A : Option Addr} {n c : Nat} {m : Gm.L} (h : Mx w A n c m) (hx : Ext w w') : Mx w' A n c m := by
  obtain ⟨cs, h1, h2⟩ := h.rd
  exact ⟨h.len, h.le, h.max, cs, h1.ext hx, h2.ext hx⟩
theorem Mx.at_ {w : World} {A : Option Addr} {n c : Nat} {m : Gm.L} (h : Mx w A n c m) {i : Nat} (hi : i < n) :
    ∃ b off Ai ni ci, A = some ⟨b, off, .none⟩ ∧ w.cell? ⟨b, off + i, .none⟩ = some (.slice Ai ni ci) ∧ Bs w Ai ni ci (Gm.row m i) := by
  obtain ⟨cs, h1, h2⟩ := h.rd
  obtain ⟨Ai, ni, ci, e, hb⟩ := h2.at_ i (by rw [h.len]; exact hi)
  obtain ⟨b, off, u, hA, hu, hc⟩ := h1.at_ hi
  rw [e] at hu
  injection hu with hu
  subst hu
  exact ⟨b, off, Ai, ni, ci, hA, hc, hb⟩
theorem Mx.none (w : World) : Mx w none 0 0 [] := ⟨rfl, Nat.le_refl _, by omega, [], Rd.nil _ _ _, Rows.nil _⟩
theorem Mx.own {w : World} {base : Nat} {e : TypeId} {v : Value} {m : Gm.L} {cs : List Value} (h : w.ownsRow base e 1 v m.length cs) (hr : Rows w cs m) : ∃ A c, v = .slice A m.length c ∧ Mx w A m.length c m := by
  obtain ⟨A, c, rfl, h1, h2⟩ := ownsRow_slice h
  exact ⟨A, c, rfl, rfl, h1, h2, cs, Rd.of_own h, hr⟩
theorem bytes_info : (Tryz.prog.info? 46).map (fun i => (i.zero, i.size, i.bytes)) = some (some (.slice none 0 0), 1, 24) := by kernel_rfl
/-- A matrix is handed back. -/
def GivesM (m : Gm.L) (w : World) (e : Ending) (w' : World) : Prop := ∃ A c, e = .returned (.slice A m.length c) ∧ Mx w' A m.length c m ∧ Ext w w'
/-- A matrix is handed back, with an error. -/
def GivesME (m : Gm.L) (err : Int) (w : World) (e : Ending) (w' : World) : Prop := ∃ A c, e = .returned (.tuple #[.slice A m.length c, .int .i64 err]) ∧ Mx w' A m.length c m ∧ Ext w w'
theorem GivesME.of {m m' : Gm.L} {e e' : Int} {w : World} {x : Ending} {w' : World} (h : GivesME m e w x w') (hm : m = m') (he : e = e') : GivesME m' e' w x w' := by rw [← hm, ← he]; exact h

/-- A matrix whose outer row is block g, whole; its rows are in no block of a kind. -/
structure Mo (w : World) (g n : Nat) (P : Nat → Prop) (m : Gm.L) : Prop where
  len : m.length = n
  blk : ∃ cs : Array Value, w.heap[g]? = some (.cells cs 46 (0, 0)) ∧ cs.size = n ∧ Rows w cs.toList m ∧ ∀ (i : Nat) (A : Option Addr) (k c : Nat), cs[i]? = some (.slice A k c) → 0 < k → ∀ b, A.map (·.block) = some b → ¬ P b
section
variable {w w' : World} {g n : Nat} {P : Nat → Prop} {m : Gm.L}
theorem Mo.lt (h : Mo w g n P m) : g < w.heap.size := by
  obtain ⟨cs, h1, _⟩ := h.blk
  exact (Array.getElem?_eq_some_iff.1 h1).1
theorem Mo.ext (h : Mo w g n P m) (hx : Ext w w') : Mo w' g n P m := by
  obtain ⟨cs, h1, h2, h3, h4⟩ := h.blk
  exact ⟨h.len, cs, (hx.block g h.lt).trans h1, h2, h3.ext hx, h4⟩
theorem Mo.at_ (h : Mo w g n P m) {i : Nat} (hi : i < n) : ∃ A k c, w.cell? ⟨g, i, none⟩ = some (.slice A k c) ∧ Bs w A k c (Gm.row m i) ∧ (0 < k → ∀ b, A.map (·.block) = some b → ¬ P b) := by
  obtain ⟨cs, h1, h2, h3, h4⟩ := h.blk
  obtain ⟨A, k, c, e, hb⟩ := h3.at_ i (by rw [h.len]; exact hi)
  have e' : cs[i]? = some (.slice A k c) := by simpa using e
  exact ⟨A, k, c, by rw [cell_of_row w _ _ _ _ _ h1]; simpa using e', hb, h4 i A k c e'⟩
theorem Mo.fz (h : Mo w g n P m) (j : Nat) : w.frozen? ⟨g, j, none⟩ = false := by
  obtain ⟨cs, h1, _⟩ := h.blk
  exact frozen_of_row w _ _ _ _ h1
theorem Mo.mx (h : Mo w g n P m) (hn : n ≤ 1000000) : Mx w (some ⟨g, 0, none⟩) n n m := by
  obtain ⟨cs, h1, h2, h3, _⟩ := h.blk
  refine ⟨h.len, Nat.le_refl _, by omega, cs.toList, ⟨by simp [h2], fun _ => ⟨g, 0, rfl, fun j u hu => ?_⟩⟩, h3⟩
  rw [Nat.zero_add, cell_of_row w _ _ _ _ _ h1]
  simpa using hu
theorem Bs.far {A : Option Addr} {k c : Nat} {r : List UInt8} (h : Bs w A k c r) {q : Addr} (hq : 0 < k → ∀ b, A.map (·.block) = some b → q.block ≠ b) (u : Value) : Bs (w.setCell q u) A k c r := by
  refine ⟨h.len, h.le, h.max, h.rd.1, fun hk => ?_⟩
  obtain ⟨b, o, e, hc⟩ := h.rd.2 hk
  subst e
  refine ⟨b, o, rfl, fun j x hx => ?_⟩
  rw [World.cell?_setCell_other _ _ _ _ (fun e => hq hk b rfl (by rw [e]))]
  exact hc j x hx
theorem Rows.far {cs : List Value} (h : Rows w cs m) {q : Addr} (hq : ∀ (i : Nat) (A : Option Addr) (k c : Nat), cs[i]? = some (.slice A k c) → 0 < k → ∀ b, A.map (·.block) = some b → q.block ≠ b) (u : Value) : Rows (w.setCell q u) cs m :=
  ⟨h.len, fun i hi => by obtain ⟨A, k, c, e, hb⟩ := h.at_ i hi; exact ⟨A, k, c, e, hb.far (hq i A k c e) u⟩⟩
/-- A store into another block of the kind. -/
theorem Mo.far (h : Mo w g n P m) {q : Addr} (hq : P q.block) (hg : q.block ≠ g) (u : Value) : Mo (w.setCell q u) g n P m := by
  obtain ⟨cs, h1, h2, h3, h4⟩ := h.blk
  refine ⟨h.len, cs, (heap_setCell_other w q g u (fun e => hg e.symm)).trans h1, h2, h3.far (fun i A k c e hk b hb e' => ?_) u, h4⟩
  exact h4 i A k c (by simpa using e) hk b hb (e' ▸ hq)
/-- A row is stored. -/
theorem Mo.set (h : Mo w g n P m) (hg : P g) {i : Nat} {A : Option Addr} {k c : Nat} {r : List UInt8} (hb : Bs w A k c r) (hp : 0 < k → ∀ b, A.map (·.block) = some b → ¬ P b) : Mo (w.setCell ⟨g, i, none⟩ (.slice A k c)) g n P (m.set i r) := by
  obtain ⟨cs, h1, h2, h3, h4⟩ := h.blk
  have hb' := hb.far (q := ⟨g, i, .none⟩) (fun hk b e e' => hp hk b e (by show P b; rw [← e']; exact hg)) (.slice A k c)
  have hr := h3.far (q := ⟨g, i, .none⟩) (fun j A k c e hk b hb e' => h4 j A k c (by simpa using e) hk b hb (by show P b; rw [← e']; exact hg)) (.slice A k c)
  refine ⟨by rw [List.length_set]; exact h.len, cs.setIfInBounds i (.slice A k c), heap_setCell_same w g i _ _ _ h1, by simp [h2], ?_, ?_⟩
  · have := hr.set i hb'
    simpa using this
  · intro j A' k' c' e hk b hb2
    rw [Array.getElem?_setIfInBounds] at e
    split at e
    · split at e
      · injection e with e
        injection e with e1 e2 e3
        subst e1 e2
        exact hp hk b hb2
      · cases e
    · exact h4 j A' k' c' e hk b hb2
theorem Mo.mono {P' : Nat → Prop} (h : Mo w g n P m) (hp : ∀ b, b < w.heap.size → P' b → P b) : Mo w g n P' m := by
  obtain ⟨cs, h1, h2, h3, h4⟩ := h.blk
  refine ⟨h.len, cs, h1, h2, h3, fun i A k c e hk b hb hP => h4 i A k c e hk b hb (hp b ?_ hP)⟩
  obtain ⟨A', k', c', e', hb'⟩ := h3.at_ i (by have := (Array.getElem?_eq_some_iff.1 e).1; rw [h.len, ← h2]; exact this)
  rw [show cs.toList[i]? = cs[i]? by simp, e] at e'
  injection e' with e'
  injection e' with e1 e2 e3
  subst e1 e2 e3
  obtain ⟨b', o, eA, hc⟩ := hb'.rd.2 hk
  subst eA
  injection hb with hb
  obtain ⟨_, o2, e3, hc2⟩ := hb'.rd.byte hk
  injection e3 with e3
  injection e3 with e3 e4
  have := World.block_lt_of_cell? _ _ hc2
  rw [← hb]
  have h9 : b' < w.heap.size := by rw [e3]; exact this
  exact h9
end
end Go.Proofs.YtfpglkacjecoeaaGreat
namespace Go.Proofs.YtfpglkacjecoeaaGreat
open Go.RowKit

/-- A find as a value. -/
abbrev fval (st ve ne ph : Int) (U V S : Value) : Value := .agg #[.int .i64 st, .int .i64 ve, .int .i64 ne, .int .i64 ph, U, V, S]
/-- Block g holds a find. -/
structure Fb (w : World) (g : Nat) (st ve ne ph : Int) (U V S : Value) : Prop where
  blk : w.heap[g]? = some (.cells #[.int .i64 st, .int .i64 ve, .int .i64 ne, .int .i64 ph, U, V, S] 25 (0, 0))
section
variable {w : World} {g : Nat} {st ve ne ph : Int} {U V S : Value}
theorem Fb.lt (h : Fb w g st ve ne ph U V S) : g < w.heap.size := (Array.getElem?_eq_some_iff.1 h.blk).1
theorem Fb.c0 (h : Fb w g st ve ne ph U V S) : w.cell? ⟨g, 0, none⟩ = some (.int .i64 st) := by rw [cell_of_row w _ _ _ _ _ h.blk]; rfl
theorem Fb.c1 (h : Fb w g st ve ne ph U V S) : w.cell? ⟨g, 1, none⟩ = some (.int .i64 ve) := by rw [cell_of_row w _ _ _ _ _ h.blk]; rfl
theorem Fb.c2 (h : Fb w g st ve ne ph U V S) : w.cell? ⟨g, 2, none⟩ = some (.int .i64 ne) := by rw [cell_of_row w _ _ _ _ _ h.blk]; rfl
theorem Fb.c3 (h : Fb w g st ve ne ph U V S) : w.cell? ⟨g, 3, none⟩ = some (.int .i64 ph) := by rw [cell_of_row w _ _ _ _ _ h.blk]; rfl
theorem Fb.c4 (h : Fb w g st ve ne ph U V S) : w.cell? ⟨g, 4, none⟩ = some U := by rw [cell_of_row w _ _ _ _ _ h.blk]; rfl
theorem Fb.c5 (h : Fb w g st ve ne ph U V S) : w.cell? ⟨g, 5, none⟩ = some V := by rw [cell_of_row w _ _ _ _ _ h.blk]; rfl
theorem Fb.c6 (h : Fb w g st ve ne ph U V S) : w.cell? ⟨g, 6, none⟩ = some S := by rw [cell_of_row w _ _ _ _ _ h.blk]; rfl
theorem Fb.fz (h : Fb w g st ve ne ph U V S) (j : Nat) : w.frozen? ⟨g, j, none⟩ = false := frozen_of_row w _ _ _ _ h.blk
theorem Fb.ext {w' : World} (h : Fb w g st ve ne ph U V S) (hx : Ext w w') : Fb w' g st ve ne ph U V S := ⟨(hx.block g h.lt).trans h.blk⟩
theorem Fb.kept {w' : World} {row : Option Nat} (h : Fb w g st ve ne ph U V S) (hg : w.grownBy w' row) (hr : row ≠ some g) : Fb w' g st ve ne ph U V S := ⟨(hg.block g h.lt (fun e => hr e.symm)).trans h.blk⟩
theorem Fb.set0 (h : Fb w g st ve ne ph U V S) (x : Int) : Fb (w.setCell ⟨g, 0, none⟩ (.int .i64 x)) g x ve ne ph U V S := ⟨heap_setCell_same w g 0 _ _ (.int .i64 x) h.blk⟩
theorem Fb.set1 (h : Fb w g st ve ne ph U V S) (x : Int) : Fb (w.setCell ⟨g, 1, none⟩ (.int .i64 x)) g st x ne ph U V S := ⟨heap_setCell_same w g 1 _ _ (.int .i64 x) h.blk⟩
theorem Fb.set2 (h : Fb w g st ve ne ph U V S) (x : Int) : Fb (w.setCell ⟨g, 2, none⟩ (.int .i64 x)) g st ve x ph U V S := ⟨heap_setCell_same w g 2 _ _ (.int .i64 x) h.blk⟩
theorem Fb.set3 (h : Fb w g st ve ne ph U V S) (x : Int) : Fb (w.setCell ⟨g, 3, none⟩ (.int .i64 x)) g st ve ne x U V S := ⟨heap_setCell_same w g 3 _ _ (.int .i64 x) h.blk⟩
theorem Fb.set4 (h : Fb w g st ve ne ph U V S) (x : Value) : Fb (w.setCell ⟨g, 4, none⟩ x) g st ve ne ph x V S := ⟨heap_setCell_same w g 4 _ _ x h.blk⟩
theorem Fb.set5 (h : Fb w g st ve ne ph U V S) (x : Value) : Fb (w.setCell ⟨g, 5, none⟩ x) g st ve ne ph U x S := ⟨heap_setCell_same w g 5 _ _ x h.blk⟩
theorem Fb.set6 (h : Fb w g st ve ne ph U V S) (x : Value) : Fb (w.setCell ⟨g, 6, none⟩ x) g st ve ne ph U V x := ⟨heap_setCell_same w g 6 _ _ x h.blk⟩
theorem Fb.far (h : Fb w g st ve ne ph U V S) {p : Addr} (hp : p.block ≠ g) (u : Value) : Fb (w.setCell p u) g st ve ne ph U V S := ⟨(heap_setCell_other w p g u (fun e => hp e.symm)).trans h.blk⟩
/-- The world, the whole find laid into box g. -/
abbrev seven (w : World) (g : Nat) (st ve ne ph : Int) (U V S : Value) : World :=
  ((((((w.setCell ⟨g, 0, none⟩ (.int .i64 st)).setCell ⟨g, 1, none⟩ (.int .i64 ve)).setCell ⟨g, 2, none⟩ (.int .i64 ne)).setCell ⟨g, 3, none⟩ (.int .i64 ph)).setCell ⟨g, 4, none⟩ U).setCell ⟨g, 5, none⟩ V).setCell ⟨g, 6, none⟩ S
theorem Fb.whole (h : Fb w g st ve ne ph U V S) (st' ve' ne' ph' : Int) (U' V' S' : Value) : Fb (seven w g st' ve' ne' ph' U' V' S') g st' ve' ne' ph' U' V' S' := ((((((h.set0 st').set1 ve').set2 ne').set3 ph').set4 U').set5 V').set6 S'
theorem Fb.res (h : Fb w g st ve ne ph U V S) : (loadVar 25 ⟨g, 0, none⟩).run Tryz.prog w = .ok (fval st ve ne ph U V S) w := by
  simp [go_sem, h.c0, h.c1, h.c2, h.c3, h.c4, h.c5, h.c6]
end
theorem Fb.new (w : World) (st ve ne ph : Int) (U V S : Value) {g : Nat} (hg : w.heap.size = g) : Fb (w.alloc (.cells #[.int .i64 st, .int .i64 ve, .int .i64 ne, .int .i64 ph, U, V, S] 25)) g st ve ne ph U V S := ⟨by rw [← hg]; exact heap_alloc_new w _⟩
theorem Ext.seven {w W : World} {g : Nat} (h : Ext w W) (hg : w.heap.size ≤ g) (st ve ne ph : Int) (U V S : Value) : Ext w (seven W g st ve ne ph U V S) :=
  ((((((h.set_ (p := ⟨g, 0, none⟩) hg _).set_ (p := ⟨g, 1, none⟩) hg _).set_ (p := ⟨g, 2, none⟩) hg _).set_ (p := ⟨g, 3, none⟩) hg _).set_ (p := ⟨g, 4, none⟩) hg _).set_ (p := ⟨g, 5, none⟩) hg _).set_ (p := ⟨g, 6, none⟩) hg _
/-- The lists of a find. -/
structure Fd (w : World) (f : Finds.F) (A : Option Addr) (n c : Nat) (B : Option Addr) (m d : Nat) (C : Option Addr) (k e : Nat) : Prop where
  u : Is w A n c f.marks
  v : Is w B m d f.which
  s : Mx w C k e f.shards
theorem Fd.ext {w w' : World} {f : Finds.F} {A : Option Addr} {n c : Nat} {B : Option Addr} {m d : Nat} {C : Option Addr} {k e : Nat} (h : Fd w f A n c B m d C k e) (hx : Ext w w') : Fd w' f A n c B m d C k e := ⟨h.u.ext hx, h.v.ext hx, h.s.ext hx⟩

theorem named_any13 (w : World) (s v n need : Int) : Calls Tryz.prog 30 #[.int .i64 s, .int .i64 v, .int .i64 n, .int .i64 need] w fun e w' => e = .returned (.bool (decide (Finds.named s v n need))) ∧ w = w' := by
  go_enter Tryz.func30, Tryz.ntmps30
  go_wp2
  all_goals
    go_ret
    first
      | exact ⟨ret_bool (decide_eq_false (by unfold Finds.named; omega)).symm, rfl⟩
      | exact ⟨ret_bool (decide_eq_decide.2 (by unfold Finds.named; omega)), rfl⟩
/-- fits: may a shard come to those that are there? -/
theorem fits_any13 (w : World) (f : Finds.F) (U V : Value) (C : Option Addr) (k e : Nat) (D : Option Addr) (n c : Nat) (b : List UInt8) (hs : Mx w C k e f.shards) (hb : Bs w D n c b) :
    Calls Tryz.prog 39 #[fval f.stripe f.version f.need f.phase U V (.slice C k e), .slice D n c] w fun r w' => r = .returned (.bool (Finds.fitsL f.shards b)) ∧ Ext w w' := by
  have q1 := hs.max
  have q2 := hs.le
  have q3 := hb.max
  have q4 := hb.le
  have s1 := Fb.new w f.stripe f.version f.need f.phase U V (.slice C k e) rfl
  have k6 := s1.c6
  have xA := Ext.alloc w (.cells #[.int .i64 f.stripe, .int .i64 f.version, .int .i64 f.need, .int .i64 f.phase, U, V, .slice C k e] 25)
  have XA := Lib.hid xA
  obtain ⟨R, hR⟩ : ∃ R, Finds.fitsL f.shards b = R := ⟨_, rfl⟩
  have hi : R = (decide (n ≤ 65536) && (decide (k = 0) || decide (n = (Gm.row f.shards 0).length))) := by
    rw [← hR]
    unfold Finds.fitsL
    rw [hb.len, hs.len]
    rfl
  rw [hR]
  have HI := Lib.hid hi
  have HS := Lib.hid (hs.ext xA)
  clear hR hi hs hb s1 xA
  by_cases h1 : n ≤ 65536
  · have g1 : (n : Int) ≤ 65536 := by omega
    by_cases h2 : k = 0
    · have g2 : ((k : Int) == 0) = true := by rw [beq_iff_eq]; omega
      have HR := Lib.hid (show R = true by rw [HI.out]; simp [h1, h2])
      clear h1 h2
      go_enter Tryz.func39, Tryz.ntmps39
      go_wp2_with (fail)
      go_ret
      exact ⟨ret_bool HR.out.symm, XA.out⟩
    · have g2 : ((k : Int) == 0) = false := by rw [beq_eq_false_iff_ne]; omega
      obtain ⟨x, o, A0, n0, c0, rfl, hc0, hb0⟩ := HS.out.at_ (i := 0) (by omega)
      rw [Nat.add_zero] at hc0
      have r1 : (0 : Int) < k := by omega
      have q5 := hb0.max
      have q6 := hb0.le
      have HR := Lib.hid (show R = decide (n = n0) by rw [HI.out, hb0.len]; simp [h1, h2])
      clear h1 h2 hb0
      go_enter Tryz.func39, Tryz.ntmps39
      go_wp2_with (fail)
      go_ret
      exact ⟨ret_bool (by rw [HR.out, Bool.eq_iff_iff, beq_iff_eq, decide_eq_true_eq]; omega), XA.out⟩
  · have g1 : ¬ (n : Int) ≤ 65536 := by omega
    have HR := Lib.hid (show R = false by rw [HI.out]; simp [h1])
    clear h1
    go_enter Tryz.func39, Tryz.ntmps39
    go_wp2_with (fail)
    go_ret
    exact ⟨ret_bool HR.out.symm, XA.out⟩
/-- A variable of a list of one's own. -/
structure Lv (w : World) (g base : Nat) (l : List Int) (v : Value) : Prop where
  blk : w.heap[g]? = some (.cells #[v] 22 (0, 0))
  own : w.ownsRow base 3 1 v l.length (icells l)
  lt : g < base
section
variable {w w' : World} {g base : Nat} {l : List Int} {v : Value}
theorem Lv.size (h : Lv w g base l v) : g < w.heap.size := (Array.getElem?_eq_some_iff.1 h.blk).1
theorem Lv.c (h : Lv w g base l v) : w.cell? ⟨g, 0, none⟩ = some v := by rw [cell_of_row w _ _ _ _ _ h.blk]; rfl
theorem Lv.fz (h : Lv w g base l v) (j : Nat) : w.frozen? ⟨g, j, none⟩ = false := frozen_of_row w _ _ _ _ h.blk
theorem Lv.ext (h : Lv w g base l v) (hx : Ext w w') : Lv w' g base l v := ⟨(hx.block g h.size).trans h.blk, ownsRow_ext h.own hx, h.lt⟩
end
/-- The laws of a push: the list in the variable grows; nothing else of what was there has turned. -/
def Pushes (g base : Nat) (l : List Int) (w : World) (e : Ending) (w' : World) : Prop := e = .returned (.tuple #[]) ∧ ∃ v, Lv w' g base l v ∧ ∀ w0, Ext w0 w → w0.heap.size ≤ g → Ext w0 w'
set_option maxRecDepth 100000 in
set_option maxHeartbeats 1000000 in
theorem each_any13 (w : World) (i m mark : Int) (gm g base : Nat) (l : List Int) (v : Value) (hm : w.cell? ⟨gm, 0, none⟩ = some (.int .i64 mark)) (h : Lv w g base l v) (hb : base ≤ w.heap.size) (hl : l.length ≤ 1000) :
    Calls Tryz.prog 56 #[.int .i64 i, .int .i64 m, .pointer (some ⟨gm, 0, none⟩), .pointer (some ⟨g, 0, none⟩)] w (Pushes g base (if m = mark then l ++ [i] else l) w) := by
  obtain ⟨i0, hi0, hz0, hz1, hz2⟩ := info_parts int_info
  by_cases hk : m = mark
  · rw [if_pos hk]
    have e1 : (m == mark) = true := by rw [beq_iff_eq]; exact hk
    have H := Lib.hid h
    have xal := Ext.alloc w (.cells #[.int .i64 i] 3)
    have k0 := xal.cell h.c
    have kc := h.c
    have HX := Lib.hid xal
    have H2 := Lib.hid (h.ext xal)
    clear hk h xal
    go_enter Tryz.func56, Tryz.ntmps56
    go_wp2_with (at_builtin; refine wpList_append_rd _ rfl (.tmp 9) (.tmp 11) 22 rfl base 3 i0 _ 1 8 Tryz.underlying22 hi0 hz0 hz1 hz2 rfl (by omega) v l.length (icells l) rfl H2.out.own (some ⟨w.heap.size, 0, none⟩) 1 1 [.int .i64 i] rfl (Rd.lit w #[_] _) (by simp [Value.oneCell']) (by omega) (by unfold maxLen; omega) (by simp; omega) ?_; intro v1 w1 hown hgr hat; obtain ⟨A1, c1, rfl, _, _⟩ := ownsRow_slice hown; have hne : v.ownBlock ≠ some g := fun e => (by have := (H.out.own.lt g e).1; have := H.out.lt; omega); have hb1 := (hgr.block g H2.out.size (fun e => hne e.symm)).trans H2.out.blk; have kc1 : w1.cell? ⟨g, 0, none⟩ = some v := (by rw [cell_of_row w1 _ _ _ _ _ hb1]; rfl); have kf : w1.frozen? ⟨g, 0, none⟩ = false := frozen_of_row w1 _ _ _ _ hb1)
    go_end0
    refine ⟨rfl, _, ⟨heap_setCell_same w1 g 0 _ _ _ hb1, ?_, H.out.lt⟩, fun w0 hx hs => ((hx.trans HX.out).ofGrown hgr (fun k hk => by have := (H.out.own.lt k hk).1; have := H.out.lt; omega)).set_ (p := ⟨g, 0, none⟩) hs _⟩
    refine ownsRow_far ?_ H.out.lt _
    rw [icells_append, List.length_append]
    exact hown
  · rw [if_neg hk]
    have e1 : (m == mark) = false := by rw [beq_eq_false_iff_ne]; exact hk
    have kc := h.c
    have H := Lib.hid h
    clear hk h
    go_enter Tryz.func56, Tryz.ntmps56
    go_wp2_with (fail)
    go_end0
    exact ⟨rfl, v, H.out, fun _ hx _ => hx⟩
end Go.Proofs.YtfpglkacjecoeaaGreat
