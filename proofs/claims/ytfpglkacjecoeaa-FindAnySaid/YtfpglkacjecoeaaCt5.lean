/- Several texts in one: Matrices over the field of 256 elements, as functions of two numbers, in plain words. No program in sight. Rows made leading, column by column, in plain words: rank and inverse. No program in sight. -/
import Derived.Test.YtfpglkacjecoeaaCt1
namespace Gm
open Gf
/-- A sum of so many. -/
def sum (f : Nat → UInt8) : Nat → UInt8
  | 0 => 0
  | n + 1 => sum f n ^^^ f n
theorem sum_congr {f g : Nat → UInt8} : ∀ {n : Nat}, (∀ k, k < n → f k = g k) → sum f n = sum g n
  | 0, _ => rfl
  | n + 1, h => by rw [sum, sum, sum_congr (fun k hk => h k (by omega)), h n (by omega)]
theorem sum_zero {f : Nat → UInt8} : ∀ {n : Nat}, (∀ k, k < n → f k = 0) → sum f n = 0
  | 0, _ => rfl
  | n + 1, h => by rw [sum, sum_zero (fun k hk => h k (by omega)), h n (by omega)]; rfl
theorem sum_add (f g : Nat → UInt8) : ∀ n : Nat, sum (fun k => f k ^^^ g k) n = sum f n ^^^ sum g n
  | 0 => UInt8.xor_zero.symm
  | n + 1 => by rw [sum, sum, sum, sum_add f g n, xor_mid]
theorem mul_sum (c : UInt8) (f : Nat → UInt8) : ∀ n : Nat, mul c (sum f n) = sum (fun k => mul c (f k)) n
  | 0 => mul_zero c
  | n + 1 => by rw [sum, sum, mul_add, mul_sum c f n]
theorem sum_mul (f : Nat → UInt8) (c : UInt8) : ∀ n : Nat, mul (sum f n) c = sum (fun k => mul (f k) c) n
  | 0 => zero_mul c
  | n + 1 => by rw [sum, sum, add_mul, sum_mul f c n]
theorem sum_swap (f : Nat → Nat → UInt8) (n : Nat) : ∀ m : Nat, sum (fun i => sum (f i) m) n = sum (fun j => sum (fun i => f i j) n) m
  | 0 => by show sum (fun _ => 0) n = 0; exact sum_zero fun _ _ => rfl
  | m + 1 => by
    have h : (fun i => sum (f i) (m + 1)) = fun i => sum (f i) m ^^^ f i m := rfl
    rw [h, sum_add, sum_swap f n m]
    rfl
theorem sum_one {f : Nat → UInt8} {k : Nat} : ∀ {n : Nat}, k < n → (∀ j, j < n → j ≠ k → f j = 0) → sum f n = f k
  | 0, h, _ => absurd h (Nat.not_lt_zero _)
  | n + 1, hk, h => by
    rw [sum]
    by_cases e : k = n
    · subst e
      rw [sum_zero (fun j hj => h j (by omega) (by omega)), UInt8.zero_xor]
    · rw [sum_one (k := k) (by omega) (fun j hj hne => h j (by omega) hne), h n (by omega) (Ne.symm e), UInt8.xor_zero]

abbrev M := Nat → Nat → UInt8
def prod (n : Nat) (A B : M) : M := fun i j => sum (fun k => mul (A i k) (B k j)) n
def one : M := fun i j => if i = j then 1 else 0
def Eq2 (n m : Nat) (A B : M) : Prop := ∀ i, i < n → ∀ j, j < m → A i j = B i j
theorem Eq2.refl (n m : Nat) (A : M) : Eq2 n m A A := fun _ _ _ _ => rfl
theorem Eq2.symm {n m : Nat} {A B : M} (h : Eq2 n m A B) : Eq2 n m B A := fun i hi j hj => (h i hi j hj).symm
theorem Eq2.trans {n m : Nat} {A B C : M} (h : Eq2 n m A B) (k : Eq2 n m B C) : Eq2 n m A C := fun i hi j hj => (h i hi j hj).trans (k i hi j hj)
theorem prod_assoc (n m : Nat) (A B C : M) : prod m (prod n A B) C = prod n A (prod m B C) := by
  funext i j
  show sum (fun k => mul (sum (fun l => mul (A i l) (B l k)) n) (C k j)) m = sum (fun l => mul (A i l) (sum (fun k => mul (B l k) (C k j)) m)) n
  have h1 : (fun k => mul (sum (fun l => mul (A i l) (B l k)) n) (C k j)) = fun k => sum (fun l => mul (mul (A i l) (B l k)) (C k j)) n := by funext k; rw [sum_mul]
  have h2 : (fun l => mul (A i l) (sum (fun k => mul (B l k) (C k j)) m)) = fun l => sum (fun k => mul (mul (A i l) (B l k)) (C k j)) m := by
    funext l; rw [mul_sum]; exact sum_congr fun k _ => by rw [mul_assoc]
  rw [h1, h2, sum_swap]
theorem prod_congr {r n m : Nat} {A A' B B' : M} (ha : Eq2 r n A A') (hb : Eq2 n m B B') : Eq2 r m (prod n A B) (prod n A' B') :=
  fun i hi j hj => sum_congr fun k hk => by rw [ha i hi k hk, hb k hk j hj]
theorem prod_one {n : Nat} (A : M) {i j : Nat} (hj : j < n) : prod n A one i j = A i j := by
  show sum _ n = _
  rw [sum_one (k := j) hj (fun k _ hne => by simp only [one]; rw [if_neg hne, mul_zero])]
  simp only [one]; rw [if_pos trivial, mul_one]
theorem one_prod {n : Nat} (A : M) {i : Nat} (hi : i < n) (j : Nat) : prod n one A i j = A i j := by
  show sum _ n = _
  rw [sum_one (k := i) hi (fun k _ hne => by simp only [one]; rw [if_neg (Ne.symm hne), zero_mul])]
  simp only [one]; rw [if_pos trivial, one_mul]
theorem add_prod (n : Nat) (A B C : M) : prod n (fun i j => A i j ^^^ B i j) C = fun i j => prod n A C i j ^^^ prod n B C i j := by
  funext i j
  show sum _ n = sum _ n ^^^ sum _ n
  rw [← sum_add]
  exact sum_congr fun k _ => by rw [add_mul]

/-- Two matrices that undo each other. -/
structure Undo (n : Nat) (T S : M) : Prop where
  l : Eq2 n n (prod n S T) one
  r : Eq2 n n (prod n T S) one
theorem Undo.one (n : Nat) : Undo n one one := ⟨fun _ hi j _ => one_prod _ hi j, fun _ hi j _ => one_prod _ hi j⟩
theorem Undo.symm {n : Nat} {T S : M} (h : Undo n T S) : Undo n S T := ⟨h.r, h.l⟩
theorem Undo.step {n : Nat} {T S E F : M} (h : Undo n T S) (e : Undo n E F) : Undo n (prod n E T) (prod n S F) := by
  constructor
  · rw [prod_assoc, ← prod_assoc n n F E T]
    exact (prod_congr (Eq2.refl n n S) ((prod_congr e.l (Eq2.refl n n T)).trans fun _ hi j _ => one_prod T hi j)).trans h.l
  · rw [prod_assoc, ← prod_assoc n n T S F]
    exact (prod_congr (Eq2.refl n n E) ((prod_congr h.r (Eq2.refl n n F)).trans fun _ hi j _ => one_prod F hi j)).trans e.r
/-- Rows changed about. -/
def permE (s : Nat → Nat) : M := fun i j => if s i = j then 1 else 0
theorem permE_prod {n : Nat} {s : Nat → Nat} (A : M) {i : Nat} (hs : s i < n) (j : Nat) : prod n (permE s) A i j = A (s i) j := by
  show sum _ n = _
  rw [sum_one (k := s i) hs (fun k _ hne => by simp only [permE]; rw [if_neg (Ne.symm hne), zero_mul])]
  simp only [permE]; rw [if_pos trivial, one_mul]
theorem permE_undo {n : Nat} {s : Nat → Nat} (hs : ∀ i, i < n → s i < n) (hss : ∀ i, s (s i) = i) : Undo n (permE s) (permE s) := by
  have h : Eq2 n n (prod n (permE s) (permE s)) Gm.one := fun i hi j _ => by
    rw [permE_prod _ (hs i hi)]
    simp only [permE, Gm.one, hss]
  exact ⟨h, h⟩
/-- A row times an element. -/
def scaleE (p : Nat) (c : UInt8) : M := fun i j => if i = j then (if i = p then c else 1) else 0
theorem scaleE_prod {n : Nat} (p : Nat) (c : UInt8) (A : M) {i : Nat} (hi : i < n) (j : Nat) : prod n (scaleE p c) A i j = if i = p then mul c (A i j) else A i j := by
  show sum _ n = _
  rw [sum_one (k := i) hi (fun k _ hne => by simp only [scaleE]; rw [if_neg (Ne.symm hne), zero_mul])]
  simp only [scaleE]; rw [if_pos trivial]
  split
  · rfl
  · rw [one_mul]
theorem scaleE_undo {n p : Nat} {c d : UInt8} (h : mul c d = 1) : Undo n (scaleE p c) (scaleE p d) := by
  have h' : mul d c = 1 := by rw [mul_comm, h]
  have g : ∀ c d : UInt8, mul c d = 1 → Eq2 n n (prod n (scaleE p c) (scaleE p d)) Gm.one := fun c d h i hi j _ => by
    rw [scaleE_prod p c _ hi]
    by_cases e : i = j
    · subst e
      by_cases e2 : i = p
      · simp [scaleE, Gm.one, e2, h]
      · simp [scaleE, Gm.one, e2]
    · by_cases e2 : i = p
      · subst e2; simp [scaleE, Gm.one, e, mul_zero]
      · simp [scaleE, Gm.one, e, e2]
  exact ⟨g d c h', g c d h⟩
/-- One row, each time times an element, added to all others. -/
def clearE (p : Nat) (d : Nat → UInt8) : M := fun i j => Gm.one i j ^^^ (if i ≠ p ∧ j = p then d i else 0)
theorem clearE_prod {n p : Nat} (hp : p < n) (d : Nat → UInt8) (A : M) {i : Nat} (hi : i < n) (j : Nat) : prod n (clearE p d) A i j = if i = p then A i j else A i j ^^^ mul (d i) (A p j) := by
  have h : prod n (clearE p d) A = fun i j => prod n Gm.one A i j ^^^ prod n (fun i j => if i ≠ p ∧ j = p then d i else 0) A i j := add_prod n _ _ A
  rw [h]
  show prod n Gm.one A i j ^^^ prod n _ A i j = _
  rw [one_prod A hi]
  by_cases e : i = p
  · rw [if_pos e]
    show _ ^^^ sum _ n = _
    rw [sum_zero (fun k _ => by simp only []; rw [if_neg (fun hh => hh.1 e), zero_mul]), UInt8.xor_zero]
  · rw [if_neg e]
    show _ ^^^ sum _ n = _
    rw [sum_one (k := p) hp (fun k _ hne => by simp only []; rw [if_neg (fun hh => hne hh.2), zero_mul])]
    simp only []
    rw [if_pos ⟨e, trivial⟩]
theorem clearE_undo {n p : Nat} (hp : p < n) (d : Nat → UInt8) : Undo n (clearE p d) (clearE p d) := by
  have h : Eq2 n n (prod n (clearE p d) (clearE p d)) Gm.one := fun i hi j _ => by
    rw [clearE_prod hp d _ hi]
    by_cases e : i = p
    · subst e
      rw [if_pos rfl]
      simp only [clearE]
      rw [if_neg (fun hh => hh.1 rfl), UInt8.xor_zero]
    · rw [if_neg e]
      simp only [clearE]
      by_cases ej : j = p
      · subst ej
        rw [if_pos ⟨e, rfl⟩, if_neg (fun hh => hh.1 rfl), UInt8.xor_zero]
        simp only [Gm.one]
        rw [if_neg e, if_pos trivial, mul_one, UInt8.zero_xor, UInt8.xor_self]
      · rw [if_neg (fun hh => ej hh.2), if_neg (fun hh => ej hh.2), UInt8.xor_zero, UInt8.xor_zero]
        have hz : Gm.one p j = 0 := by simp only [Gm.one]; rw [if_neg (Ne.symm ej)]
        rw [hz, mul_zero, UInt8.xor_zero]
  exact ⟨h, h⟩

/-- The rows are sums of k rows. -/
def Spans (n m k : Nat) (A : M) : Prop := ∃ C V : M, Eq2 n m A (prod k C V)
/-- More unknowns than equations: there is a row, not nought, that makes nought of it. -/
theorem kernel : ∀ (k r : Nat) (X : M), k < r → ∃ y : Nat → UInt8, (∃ i, i < r ∧ y i ≠ 0) ∧ ∀ j, j < k → sum (fun i => mul (y i) (X i j)) r = 0
  | 0, r, X, h => ⟨fun _ => 1, ⟨0, h, by decide⟩, fun j hj => absurd hj (Nat.not_lt_zero _)⟩
  | k + 1, r, X, h => by
    by_cases hz : ∃ p, p < r ∧ X p k ≠ 0
    · obtain ⟨p, hp, hx⟩ := hz
      -- rows but p, cleared of column k by row p
      let s : Nat → Nat := fun i => if i < p then i else i + 1
      have sr : ∀ i, i < r - 1 → s i < r ∧ s i ≠ p := fun i hi => by
        show (if i < p then i else i + 1) < r ∧ (if i < p then i else i + 1) ≠ p
        split <;> omega
      let q : Nat → UInt8 := fun i => mul (X (s i) k) (inv (X p k))
      obtain ⟨y, ⟨i0, hi0, hy0⟩, hy⟩ := kernel k (r - 1) (fun i j => X (s i) j ^^^ mul (q i) (X p j)) (by omega)
      let yp : UInt8 := sum (fun i => mul (y i) (q i)) (r - 1)
      let z : Nat → UInt8 := fun i => if i = p then yp else if i < p then y i else y (i - 1)
      have hs : ∀ f : Nat → UInt8, sum f r = f p ^^^ sum (fun i => f (s i)) (r - 1) := by
        intro f
        have key : ∀ n, sum f (n + 1) = if n < p then sum (fun i => f (s i)) (n + 1) else f p ^^^ sum (fun i => f (s i)) n := by
          intro n
          induction n with
          | zero =>
            by_cases e : 0 < p
            · rw [if_pos e]
              show 0 ^^^ f 0 = 0 ^^^ f (if 0 < p then 0 else 0 + 1)
              rw [if_pos e]
            · rw [if_neg e]
              have e0 : p = 0 := by omega
              show 0 ^^^ f 0 = f p ^^^ 0
              rw [e0, UInt8.zero_xor, UInt8.xor_zero]
          | succ n ih =>
            show sum f (n + 1) ^^^ f (n + 1) = _
            rw [ih]
            by_cases e : n + 1 < p
            · rw [if_pos (by omega), if_pos e]
              show _ = sum (fun i => f (s i)) (n + 1) ^^^ f (if n + 1 < p then n + 1 else n + 1 + 1)
              rw [if_pos e]
            · rw [if_neg e]
              by_cases e2 : n < p
              · rw [if_pos e2]
                have e3 : n + 1 = p := by omega
                rw [e3, UInt8.xor_comm]
              · rw [if_neg e2]
                show _ = f p ^^^ (sum (fun i => f (s i)) n ^^^ f (if n < p then n else n + 1))
                rw [if_neg e2, UInt8.xor_assoc]
        have h1 := key (r - 1)
        rw [show r - 1 + 1 = r by omega] at h1
        rw [h1]
        by_cases e : r - 1 < p
        · omega
        · rw [if_neg e]
      have hzs : ∀ i, i < r - 1 → z (s i) = y i := fun i hi => by
        show (if s i = p then yp else if s i < p then y (s i) else y (s i - 1)) = y i
        rw [if_neg (sr i hi).2]
        by_cases e : i < p
        · have : s i = i := if_pos e
          rw [this, if_pos e]
        · have : s i = i + 1 := if_neg e
          rw [this, if_neg (by omega), Nat.add_sub_cancel]
      refine ⟨z, ⟨s i0, (sr i0 hi0).1, by rw [hzs i0 hi0]; exact hy0⟩, fun j hj => ?_⟩
      rw [hs]
      have hzp : z p = yp := if_pos rfl
      have e1 : sum (fun i => mul (z (s i)) (X (s i) j)) (r - 1) = sum (fun i => mul (y i) (X (s i) j)) (r - 1) := sum_congr fun i hi => by rw [hzs i hi]
      rw [hzp, e1]
      have e2 : mul yp (X p j) = sum (fun i => mul (y i) (mul (q i) (X p j))) (r - 1) := by
        show mul (sum _ _) _ = _
        rw [sum_mul]
        exact sum_congr fun i _ => by rw [mul_assoc]
      rw [e2, ← sum_add]
      by_cases ej : j = k
      · subst ej
        refine sum_zero fun i _ => ?_
        rw [← mul_add]
        have : mul (q i) (X p j) = X (s i) j := by
          show mul (mul (X (s i) j) (inv (X p j))) (X p j) = _
          rw [mul_assoc, inv_mul hx, mul_one]
        rw [this, UInt8.xor_self, mul_zero]
      · have := hy j (by omega)
        rw [← this]
        exact sum_congr fun i _ => by rw [← mul_add, UInt8.xor_comm]
    · obtain ⟨y, hy0, hy⟩ := kernel k r X (by omega)
      refine ⟨y, hy0, fun j hj => ?_⟩
      by_cases ej : j = k
      · subst ej
        refine sum_zero fun i hi => ?_
        have : X i j = 0 := by
          rcases Classical.em (X i j = 0) with h0 | h0
          · exact h0
          · exact absurd ⟨i, hi, h0⟩ hz
        rw [this, mul_zero]
      · exact hy j (by omega)
/-- The unit of r rows is no sum of less than r rows. -/
theorem unit_spans {r m k : Nat} {X : M} (p : Nat → Nat) (hp : ∀ i, i < r → p i < m) (hX : ∀ i, i < r → ∀ j, j < r → X i (p j) = one i j) (h : Spans r m k X) : r ≤ k := by
  rcases Nat.lt_or_ge k r with hk | hk
  · obtain ⟨C, V, hCV⟩ := h
    obtain ⟨y, ⟨i0, hi0, hy0⟩, hy⟩ := kernel k r C hk
    exfalso
    apply hy0
    have h1 : sum (fun i => mul (y i) (X i (p i0))) r = y i0 := by
      rw [sum_one (k := i0) hi0 (fun j hj hne => by rw [hX j hj i0 hi0]; simp only [one]; rw [if_neg hne, mul_zero]), hX i0 hi0 i0 hi0]
      simp only [one]; rw [if_pos trivial, mul_one]
    rw [← h1]
    have h2 : sum (fun i => mul (y i) (X i (p i0))) r = sum (fun i => mul (y i) (sum (fun t => mul (C i t) (V t (p i0))) k)) r := sum_congr fun i hi => by rw [hCV i hi _ (hp i0 hi0)]; rfl
    rw [h2]
    have h3 : (fun i => mul (y i) (sum (fun t => mul (C i t) (V t (p i0))) k)) = fun i => sum (fun t => mul (mul (y i) (C i t)) (V t (p i0))) k := by
      funext i; rw [mul_sum]; exact sum_congr fun t _ => by rw [mul_assoc]
    rw [h3, sum_swap]
    refine sum_zero fun t ht => ?_
    have := hy t ht
    have h4 : sum (fun i => mul (mul (y i) (C i t)) (V t (p i0))) r = mul (sum (fun i => mul (y i) (C i t)) r) (V t (p i0)) := by rw [sum_mul]
    rw [h4, this, zero_mul]
  · exact hk
theorem spans_of_prod {n m q k : Nat} {A B D : M} (h : Spans q m k B) (ha : Eq2 n m A (prod q D B)) : Spans n m k A := by
  obtain ⟨C, V, hCV⟩ := h
  refine ⟨prod q D C, V, ha.trans ?_⟩
  rw [prod_assoc]
  exact prod_congr (Eq2.refl n q D) hCV
theorem spans_prod {n m q k : Nat} {A B D : M} (h : Spans n q k A) (ha : Eq2 n m D (prod q A B)) : Spans n m k D := by
  obtain ⟨C, V, hCV⟩ := h
  refine ⟨C, prod q V B, ha.trans ?_⟩
  rw [← prod_assoc]
  exact prod_congr hCV (Eq2.refl q m B)
end Gm
namespace Gm
open Gf
abbrev L := List (List UInt8)
def row (m : L) (i : Nat) : List UInt8 := m.getD i []
def at_ (m : L) : M := fun i j => get (row m i) j
/-- So many rows, so many columns. -/
structure Rect (n c : Nat) (m : L) : Prop where
  len : m.length = n
  wid : ∀ i, i < n → (row m i).length = c
theorem row_of_lt {m : L} {i : Nat} (h : i < m.length) : row m i = m[i] := by simp [row, h]
theorem row_set {m : L} {p i : Nat} (r : List UInt8) (hp : p < m.length) : row (m.set p r) i = if p = i then r else row m i := by
  unfold row
  rw [List.getD_eq_getElem?_getD, List.getD_eq_getElem?_getD, List.getElem?_set]
  by_cases e : p = i
  · rw [if_pos e, if_pos e, if_pos hp]; rfl
  · rw [if_neg e, if_neg e]
theorem row_range {n i : Nat} (f : Nat → List UInt8) (h : i < n) : row ((List.range n).map f) i = f i := by simp [row, h]
theorem rows_ext {m m' : L} (hl : m.length = m'.length) (h : ∀ i, i < m.length → row m i = row m' i) : m = m' := by
  apply List.ext_getElem hl
  intro i h1 h2
  have := h i h1
  rwa [row_of_lt h1, row_of_lt h2] at this
theorem Rect.ext {n c : Nat} {m m' : L} (h : Rect n c m) (h' : Rect n c m') (e : Eq2 n c (at_ m) (at_ m')) : m = m' := by
  refine rows_ext (by rw [h.len, h'.len]) fun i hi => ?_
  rw [h.len] at hi
  exact ext_get (by rw [h.wid i hi, h'.wid i hi]) fun j hj => e i hi j (by rwa [h.wid i hi] at hj)
def swapL (m : L) (p q : Nat) : L := (m.set p (row m q)).set q (row m p)
def swapI (p q i : Nat) : Nat := if i = p then q else if i = q then p else i
theorem swapI_swapI (p q i : Nat) : swapI p q (swapI p q i) = i := by unfold swapI; split <;> split <;> simp_all
theorem swapI_lt {p q i n : Nat} (hp : p < n) (hq : q < n) (hi : i < n) : swapI p q i < n := by unfold swapI; split <;> (try split) <;> omega
theorem row_swapL {m : L} {p q i : Nat} (hp : p < m.length) (hq : q < m.length) : row (swapL m p q) i = row m (swapI p q i) := by
  unfold swapL swapI
  rw [row_set _ (by rw [List.length_set]; exact hq), row_set _ hp]
  by_cases e1 : q = i
  · rw [if_pos e1]
    by_cases e2 : i = p
    · rw [if_pos e2, ← e2, e1]
    · rw [if_neg e2, if_pos e1.symm]
  · rw [if_neg e1]
    by_cases e2 : p = i
    · rw [if_pos e2, if_pos e2.symm]
    · rw [if_neg e2, if_neg (Ne.symm e2), if_neg (Ne.symm e1)]
theorem Rect.swapL {n c p q : Nat} {m : L} (h : Rect n c m) (hp : p < n) (hq : q < n) : Rect n c (swapL m p q) :=
  ⟨by unfold Gm.swapL; rw [List.length_set, List.length_set, h.len], fun i hi => by rw [row_swapL (by rw [h.len]; exact hp) (by rw [h.len]; exact hq)]; exact h.wid _ (swapI_lt hp hq hi)⟩
def scaleRow (r : List UInt8) (c : UInt8) : List UInt8 := lay r (add c 1) r
theorem scaleRow_length (r : List UInt8) (c : UInt8) : (scaleRow r c).length = r.length := lay_length _ _ _
theorem get_scaleRow {r : List UInt8} {j : Nat} (c : UInt8) (h : j < r.length) : get (scaleRow r c) j = mul c (get r j) := by
  unfold scaleRow
  rw [lay_get _ _ _ h, layAt_all]
  show _ ^^^ mul (c ^^^ 1) _ = _
  rw [add_mul, one_mul, UInt8.xor_comm (mul c _), ← UInt8.xor_assoc, UInt8.xor_self, UInt8.zero_xor]
def scaleL (m : L) (p : Nat) (c : UInt8) : L := m.set p (scaleRow (row m p) c)
theorem row_scaleL {m : L} {p i : Nat} (c : UInt8) (hp : p < m.length) : row (scaleL m p c) i = if p = i then scaleRow (row m p) c else row m i := row_set _ hp
theorem Rect.scaleL {n c p : Nat} {m : L} (x : UInt8) (h : Rect n c m) (hp : p < n) : Rect n c (scaleL m p x) :=
  ⟨by unfold Gm.scaleL; rw [List.length_set, h.len], fun i hi => by
    rw [row_scaleL _ (by rw [h.len]; exact hp)]
    split
    · rw [scaleRow_length]; exact h.wid p hp
    · exact h.wid i hi⟩
theorem at_scaleL {n c p : Nat} {m : L} (x : UInt8) (h : Rect n c m) (hp : p < n) {i j : Nat} (hj : j < c) : at_ (Gm.scaleL m p x) i j = if i = p then mul x (at_ m i j) else at_ m i j := by
  unfold at_
  rw [row_scaleL _ (by rw [h.len]; exact hp)]
  by_cases e : p = i
  · subst e
    rw [if_pos rfl, if_pos rfl, get_scaleRow _ (by rw [h.wid _ hp]; exact hj)]
  · rw [if_neg e, if_neg (Ne.symm e)]
/-- The first k rows, but p, are cleared by row p. -/
def clearTo (m : L) (p : Nat) (d : Nat → UInt8) (k : Nat) : L := (List.range m.length).map fun i => if i < k ∧ i ≠ p then lay (row m i) (d i) (row m p) else row m i
def clearL (m : L) (p : Nat) (d : Nat → UInt8) : L := clearTo m p d m.length
theorem clearTo_length (m : L) (p : Nat) (d : Nat → UInt8) (k : Nat) : (clearTo m p d k).length = m.length := by simp [clearTo]
theorem row_clearTo {m : L} {i : Nat} (p : Nat) (d : Nat → UInt8) (k : Nat) (hi : i < m.length) : row (clearTo m p d k) i = if i < k ∧ i ≠ p then lay (row m i) (d i) (row m p) else row m i := row_range _ hi
theorem clearTo_zero (m : L) (p : Nat) (d : Nat → UInt8) : clearTo m p d 0 = m := by
  refine rows_ext (clearTo_length _ _ _ _) fun i hi => ?_
  rw [clearTo_length] at hi
  rw [row_clearTo _ _ _ hi, if_neg (fun h => Nat.not_lt_zero _ h.1)]
theorem clearTo_succ {m : L} {p k : Nat} (d : Nat → UInt8) (hk : k < m.length) : clearTo m p d (k + 1) = if k = p then clearTo m p d k else (clearTo m p d k).set k (lay (row (clearTo m p d k) k) (d k) (row m p)) := by
  by_cases e : k = p
  · rw [if_pos e]
    refine rows_ext (by rw [clearTo_length, clearTo_length]) fun i hi => ?_
    rw [clearTo_length] at hi
    rw [row_clearTo _ _ _ hi, row_clearTo _ _ _ hi]
    by_cases e2 : i < k ∧ i ≠ p
    · rw [if_pos e2, if_pos ⟨by omega, e2.2⟩]
    · rw [if_neg e2, if_neg (fun h => e2 ⟨by omega, h.2⟩)]
  · rw [if_neg e]
    refine rows_ext (by rw [clearTo_length, List.length_set, clearTo_length]) fun i hi => ?_
    rw [clearTo_length] at hi
    rw [row_set _ (by rw [clearTo_length]; exact hk), row_clearTo _ _ _ hi, row_clearTo _ _ _ hi, row_clearTo _ _ _ hk, if_neg (show ¬ (k < k ∧ k ≠ p) from fun h => Nat.lt_irrefl _ h.1)]
    by_cases e2 : k = i
    · subst e2; rw [if_pos rfl, if_pos ⟨by omega, e⟩]
    · rw [if_neg e2]
      by_cases e3 : i < k ∧ i ≠ p
      · rw [if_pos e3, if_pos ⟨by omega, e3.2⟩]
      · rw [if_neg e3, if_neg (fun h => e3 ⟨by omega, h.2⟩)]
theorem clearTo_lead {m : L} {p : Nat} (d : Nat → UInt8) (k : Nat) (hp : p < m.length) : row (clearTo m p d k) p = row m p := by rw [row_clearTo _ _ _ hp, if_neg (fun h => h.2 rfl)]
theorem clearTo_later {m : L} {p k i : Nat} (d : Nat → UInt8) (hi : i < m.length) (hk : k ≤ i) : row (clearTo m p d k) i = row m i := by rw [row_clearTo _ _ _ hi, if_neg (fun h => by have := h.1; omega)]
theorem Rect.clearTo {n c : Nat} {m : L} (h : Rect n c m) (p : Nat) (d : Nat → UInt8) (k : Nat) : Rect n c (clearTo m p d k) :=
  ⟨by rw [clearTo_length, h.len], fun i hi => by
    rw [row_clearTo _ _ _ (by rw [h.len]; exact hi)]
    split
    · rw [lay_length]; exact h.wid i hi
    · exact h.wid i hi⟩
theorem at_clearL {n c p : Nat} {m : L} (d : Nat → UInt8) (h : Rect n c m) {i j : Nat} (hi : i < n) (hj : j < c) : at_ (clearL m p d) i j = if i = p then at_ m i j else at_ m i j ^^^ mul (d i) (at_ m p j) := by
  unfold at_ clearL
  have hil : i < m.length := by rw [h.len]; exact hi
  rw [row_clearTo _ _ _ hil]
  by_cases e : i = p
  · rw [if_neg (fun hh => hh.2 e), if_pos e]
  · rw [if_pos ⟨hil, e⟩, if_neg e, lay_get _ _ _ (by rw [h.wid i hi]; exact hj), layAt_all]
/-- The first place from k on, of so many, with a property. -/
def seek (p : Nat → Bool) : Nat → Nat → Nat
  | 0, k => k
  | n + 1, k => if p k then k else seek p n (k + 1)
theorem seek_spec (p : Nat → Bool) : ∀ (n k : Nat), k ≤ seek p n k ∧ seek p n k ≤ k + n ∧ (∀ i, k ≤ i → i < seek p n k → p i = false) ∧ (seek p n k < k + n → p (seek p n k) = true)
  | 0, k => ⟨Nat.le_refl _, Nat.le_refl _, fun i h1 h2 => by simp only [seek] at h2; omega, fun h => by simp only [seek] at h; omega⟩
  | n + 1, k => by
    unfold seek
    by_cases e : p k = true
    · rw [if_pos e]
      exact ⟨Nat.le_refl _, by omega, fun i h1 h2 => by omega, fun _ => e⟩
    · rw [if_neg e]
      obtain ⟨h1, h2, h3, h4⟩ := seek_spec p n (k + 1)
      refine ⟨by omega, by omega, fun i h5 h6 => ?_, fun h5 => h4 (by omega)⟩
      by_cases e2 : i = k
      · rw [e2]; simpa using e
      · exact h3 i (by omega) h6
/-- One column. -/
def col (a b : L) (l j : Nat) : L × L × Nat :=
  let t := seek (fun k => at_ a k j != 0) (a.length - l) l
  if t = a.length then (a, b, l)
  else
    let c := inv (at_ a t j)
    let a1 := scaleL (swapL a t l) l c
    let b1 := scaleL (swapL b t l) l c
    (clearL a1 l (fun k => at_ a1 k j), clearL b1 l (fun k => at_ a1 k j), l + 1)
def elimTo (a b : L) : Nat → L × L × Nat
  | 0 => (a, b, 0)
  | j + 1 => col (elimTo a b j).1 (elimTo a b j).2.1 (elimTo a b j).2.2 j
structure Inv (n c cb : Nat) (a0 b0 : L) (j : Nat) (a b : L) (l : Nat) : Prop where
  ra : Rect n c a
  rb : Rect n cb b
  ln : l ≤ n
  ops : ∃ T S : M, Undo n T S ∧ Eq2 n c (at_ a) (prod n T (at_ a0)) ∧ Eq2 n cb (at_ b) (prod n T (at_ b0))
  piv : ∃ p : Nat → Nat, (∀ r, r < l → p r < j) ∧ (∀ r s, r < s → s < l → p r < p s) ∧ ∀ i, i < n → ∀ r, r < l → at_ a i (p r) = one i r
  zero : ∀ i, l ≤ i → i < n → ∀ k, k < j → at_ a i k = 0
theorem Inv.start {n c cb : Nat} {a b : L} (ha : Rect n c a) (hb : Rect n cb b) : Inv n c cb a b 0 a b 0 :=
  ⟨ha, hb, Nat.zero_le _, ⟨one, one, Undo.one n, fun _ hi j _ => (one_prod _ hi j).symm, fun _ hi j _ => (one_prod _ hi j).symm⟩, ⟨fun _ => 0, fun _ h => absurd h (Nat.not_lt_zero _), fun _ _ _ h => absurd h (Nat.not_lt_zero _), fun _ _ _ h => absurd h (Nat.not_lt_zero _)⟩, fun _ _ _ _ h => absurd h (Nat.not_lt_zero _)⟩
theorem one_ne {i j : Nat} (h : i ≠ j) : one i j = 0 := if_neg h
theorem one_self (i : Nat) : one i i = 1 := if_pos rfl
theorem Inv.step {n c cb : Nat} {a0 b0 : L} {j : Nat} {a b : L} {l : Nat} (h : Inv n c cb a0 b0 j a b l) (hj : j < c) :
    Inv n c cb a0 b0 (j + 1) (col a b l j).1 (col a b l j).2.1 (col a b l j).2.2 := by
  obtain ⟨ra, rb, ln, ⟨T, S, hU, hTa, hTb⟩, ⟨p, hp1, hp2, hp3⟩, hz⟩ := h
  obtain ⟨s1, s2, s3, s4⟩ := seek_spec (fun k => at_ a k j != 0) (a.length - l) l
  unfold col
  simp only []
  generalize seek (fun k => at_ a k j != 0) (a.length - l) l = t at *
  rw [ra.len] at s2 s4 ⊢
  by_cases e : t = n
  · rw [if_pos e]
    refine ⟨ra, rb, ln, ⟨T, S, hU, hTa, hTb⟩, ⟨p, fun r hr => by have := hp1 r hr; omega, hp2, hp3⟩, fun i h1 h2 k hk => ?_⟩
    by_cases ek : k = j
    · subst ek
      have := s3 i h1 (by omega)
      simpa using this
    · exact hz i h1 h2 k (by omega)
  · rw [if_neg e]
    have htn : t < n := by omega
    have hln : l < n := by omega
    have hx : at_ a t j ≠ 0 := by have := s4 (by omega); simpa using this
    generalize hcx : inv (at_ a t j) = x
    have hxx : mul x (at_ a t j) = 1 := by rw [← hcx]; exact inv_mul hx
    have r1 := (ra.swapL htn hln)
    have r2 := r1.scaleL x hln
    have q1 := (rb.swapL htn hln)
    have q2 := q1.scaleL x hln
    have sw : ∀ i k, at_ (swapL a t l) i k = at_ a (swapI t l i) k := fun i k => by
      unfold at_; rw [row_swapL (by rw [ra.len]; exact htn) (by rw [ra.len]; exact hln)]
    have swb : ∀ i k, at_ (swapL b t l) i k = at_ b (swapI t l i) k := fun i k => by
      unfold at_; rw [row_swapL (by rw [rb.len]; exact htn) (by rw [rb.len]; exact hln)]
    have sl : swapI t l l = t := by unfold swapI; split <;> simp_all
    have a1 : ∀ i, ∀ k, k < c → at_ (scaleL (swapL a t l) l x) i k = if i = l then mul x (at_ a t k) else at_ a (swapI t l i) k := fun i k hk => by
      rw [at_scaleL x r1 hln hk, sw]
      by_cases ei : i = l
      · rw [if_pos ei, if_pos ei, ei, sl]
      · rw [if_neg ei, if_neg ei]
    have b1 : ∀ i, ∀ k, k < cb → at_ (scaleL (swapL b t l) l x) i k = if i = l then mul x (at_ b t k) else at_ b (swapI t l i) k := fun i k hk => by
      rw [at_scaleL x q1 hln hk, swb]
      by_cases ei : i = l
      · rw [if_pos ei, if_pos ei, ei, sl]
      · rw [if_neg ei, if_neg ei]
    generalize hA : scaleL (swapL a t l) l x = A1 at *
    generalize hB : scaleL (swapL b t l) l x = B1 at *
    have a2 : ∀ i, i < n → ∀ k, k < c → at_ (clearL A1 l (fun k => at_ A1 k j)) i k = if i = l then at_ A1 i k else at_ A1 i k ^^^ mul (at_ A1 i j) (at_ A1 l k) := fun i hi k hk => at_clearL _ r2 hi hk
    have b2 : ∀ i, i < n → ∀ k, k < cb → at_ (clearL B1 l (fun k => at_ A1 k j)) i k = if i = l then at_ B1 i k else at_ B1 i k ^^^ mul (at_ A1 i j) (at_ B1 l k) := fun i hi k hk => at_clearL _ q2 hi hk
    have alj : at_ A1 l j = 1 := by rw [a1 l j hj, if_pos rfl, hxx]
    have hsw : ∀ i, i ≠ l → l ≤ i → l ≤ swapI t l i := fun i h1 h2 => by unfold swapI; split <;> (try split) <;> omega
    have hswn : ∀ i, i < n → swapI t l i < n := fun i hi => swapI_lt htn hln hi
    refine ⟨r2.clearTo l _ _, q2.clearTo l _ _, by show l + 1 ≤ n; omega, ?_, ?_, ?_⟩
    · refine ⟨prod n (clearE l (fun k => at_ A1 k j)) (prod n (scaleE l x) (prod n (permE (swapI t l)) T)), prod n (prod n (prod n S (permE (swapI t l))) (scaleE l (at_ a t j))) (clearE l (fun k => at_ A1 k j)), ?_, ?_, ?_⟩
      · exact ((hU.step (permE_undo (fun i hi => hswn i hi) (swapI_swapI t l))).step (scaleE_undo hxx)).step (clearE_undo hln _)
      · intro i hi k hk
        rw [prod_assoc, prod_assoc, prod_assoc, clearE_prod hln _ _ hi, scaleE_prod l x _ hi, scaleE_prod l x _ hln, permE_prod _ (hswn i hi), permE_prod _ (hswn l hln), sl, a2 i hi k hk, a1 i k hk, a1 l k hk, if_pos rfl, if_pos rfl]
        rw [← hTa t htn k hk, ← hTa _ (hswn i hi) k hk]
        by_cases ei : i = l
        · subst ei
          simp only [↓reduceIte, sl]
        · simp only [ei, ↓reduceIte]
      · intro i hi k hk
        rw [prod_assoc, prod_assoc, prod_assoc, clearE_prod hln _ _ hi, scaleE_prod l x _ hi, scaleE_prod l x _ hln, permE_prod _ (hswn i hi), permE_prod _ (hswn l hln), sl, b2 i hi k hk, b1 i k hk, b1 l k hk, if_pos rfl, if_pos rfl]
        rw [← hTb t htn k hk, ← hTb _ (hswn i hi) k hk]
        by_cases ei : i = l
        · subst ei
          simp only [↓reduceIte, sl]
        · simp only [ei, ↓reduceIte]
    · refine ⟨fun r => if r = l then j else p r, fun r hr => ?_, fun r s hrs hs => ?_, fun i hi r hr => ?_⟩
      · by_cases er : r = l
        · simp only []; rw [if_pos er]; omega
        · simp only []; rw [if_neg er]; have := hp1 r (by have hr' : r < l + 1 := hr; omega); omega
      · have hs' : s < l + 1 := hs
        simp only []
        rw [if_neg (show r ≠ l by omega)]
        by_cases es : s = l
        · rw [if_pos es]; exact hp1 r (by omega)
        · rw [if_neg es]; exact hp2 r s hrs (by omega)
      · have hr' : r < l + 1 := hr
        simp only []
        by_cases er : r = l
        · rw [if_pos er, a2 i hi j hj]
          by_cases ei : i = l
          · rw [if_pos ei, ei, alj, er, one_self]
          · rw [if_neg ei, alj, mul_one, UInt8.xor_self, er, one_ne ei]
        · have hrl : r < l := by omega
          rw [if_neg er]
          have hpc : p r < c := by have := hp1 r hrl; omega
          have ht0 : at_ a t (p r) = 0 := by rw [hp3 t htn r hrl, one_ne (by omega)]
          have hl0 : at_ A1 l (p r) = 0 := by rw [a1 l _ hpc, if_pos rfl, ht0, mul_zero]
          rw [a2 i hi _ hpc]
          by_cases ei : i = l
          · rw [if_pos ei, ei, hl0, one_ne (by omega)]
          · rw [if_neg ei, hl0, mul_zero, UInt8.xor_zero, a1 i _ hpc, if_neg ei, hp3 _ (hswn i hi) r hrl]
            unfold swapI
            by_cases et : i = t
            · rw [if_pos et, one_ne (by omega), one_ne (by omega)]
            · rw [if_neg et, if_neg ei]
    · intro i h1 h2 k hk
      have h1' : l + 1 ≤ i := h1
      have ei : i ≠ l := by omega
      by_cases ek : k = j
      · rw [ek, a2 i h2 j hj, if_neg ei, alj, mul_one, UInt8.xor_self]
      · have hkj : k < j := by omega
        have hkc : k < c := by omega
        rw [a2 i h2 k hkc, if_neg ei, a1 l k hkc, if_pos rfl, hz t s1 htn k hkj, mul_zero, mul_zero, UInt8.xor_zero, a1 i k hkc, if_neg ei]
        exact hz _ (hsw i ei (by omega)) (hswn i h2) k hkj
theorem inv_elimTo {n c cb : Nat} {a b : L} (ha : Rect n c a) (hb : Rect n cb b) : ∀ j, j ≤ c → Inv n c cb a b j (elimTo a b j).1 (elimTo a b j).2.1 (elimTo a b j).2.2
  | 0, _ => Inv.start ha hb
  | j + 1, h => (inv_elimTo ha hb j (by omega)).step (by omega)
/-- What is cleared does not hang on what stands beside. -/
theorem elimTo_apart (a b b' : L) : ∀ j, (elimTo a b j).1 = (elimTo a b' j).1 ∧ (elimTo a b j).2.2 = (elimTo a b' j).2.2
  | 0 => ⟨rfl, rfl⟩
  | j + 1 => by
    obtain ⟨h1, h2⟩ := elimTo_apart a b b' j
    have e : ∀ (x y y' : L) (l : Nat), (col x y l j).1 = (col x y' l j).1 ∧ (col x y l j).2.2 = (col x y' l j).2.2 := fun x y y' l => by
      unfold col; simp only []; split <;> exact ⟨rfl, rfl⟩
    unfold elimTo
    rw [h1, h2]
    exact e _ _ _ _
def cols (m : L) : Nat := (row m 0).length
/-- How many rows lead. -/
def rank (m : L) : Nat := (elimTo m m (cols m)).2.2
theorem rank_of {m : L} (b : L) : (elimTo m b (cols m)).2.2 = rank m := (elimTo_apart m b m _).2
theorem Rect.cols {n c : Nat} {m : L} (h : Rect n c m) (hn : 0 < n) : Gm.cols m = c := h.wid 0 hn
theorem rank_le {n c : Nat} {m : L} (h : Rect n c m) (hn : 0 < n) : rank m ≤ n := by
  have := (inv_elimTo h h _ (Nat.le_refl c)).ln
  unfold rank; rwa [h.cols hn]
theorem sum_short {f : Nat → UInt8} {l : Nat} : ∀ {n : Nat}, l ≤ n → (∀ k, l ≤ k → k < n → f k = 0) → sum f n = sum f l
  | 0, h, _ => by have : l = 0 := by omega
                  rw [this]
  | n + 1, h, hz => by
    by_cases e : l = n + 1
    · rw [e]
    · rw [sum, sum_short (l := l) (by omega) (fun k h1 h2 => hz k h1 (by omega)), hz n (by omega) (by omega), UInt8.xor_zero]
theorem rank_spans {n c : Nat} {m : L} (h : Rect n c m) (hn : 0 < n) : Spans n c (rank m) (at_ m) := by
  have hI := inv_elimTo h h _ (Nat.le_refl c)
  unfold rank
  rw [h.cols hn]
  obtain ⟨_, _, ln, ⟨T, S, hU, hTa, _⟩, _, hz⟩ := hI
  refine ⟨S, at_ (elimTo m m c).1, fun i hi j hj => ?_⟩
  have h1 : Eq2 n c (at_ m) (prod n S (at_ (elimTo m m c).1)) := by
    refine Eq2.symm ((prod_congr (Eq2.refl n n S) hTa).trans ?_)
    rw [← prod_assoc]
    exact (prod_congr hU.l (Eq2.refl n c _)).trans fun i hi j _ => one_prod _ hi j
  rw [h1 i hi j hj]
  exact sum_short ln fun k h2 h3 => by rw [hz k h2 h3 j hj, mul_zero]
theorem rank_least {n c k : Nat} {m : L} (h : Rect n c m) (hn : 0 < n) (hs : Spans n c k (at_ m)) : rank m ≤ k := by
  have hI := inv_elimTo h h _ (Nat.le_refl c)
  unfold rank
  rw [h.cols hn]
  obtain ⟨_, _, ln, ⟨T, S, hU, hTa, _⟩, ⟨p, hp1, _, hp3⟩, hz⟩ := hI
  have h1 : Spans n c k (at_ (elimTo m m c).1) := spans_of_prod hs hTa
  obtain ⟨C, V, hCV⟩ := h1
  exact unit_spans p hp1 (fun i hi j hj => hp3 i (by omega) j hj) ⟨C, V, fun i hi j hj => hCV i (by omega) j hj⟩
/-- Full rank: what is left is the unit. -/
theorem full_unit {n cb : Nat} {a b : L} (ha : Rect n n a) (hb : Rect n cb b) (hr : (elimTo a b n).2.2 = n) : Eq2 n n (at_ (elimTo a b n).1) one := by
  obtain ⟨_, _, _, _, ⟨p, hp1, hp2, hp3⟩, _⟩ := inv_elimTo ha hb n (Nat.le_refl n)
  rw [hr] at hp1 hp2 hp3
  have hge : ∀ r, r < n → r ≤ p r := by
    intro r
    induction r with
    | zero => intro _; omega
    | succ r ih => intro hr; have h1 := ih (by omega); have h2 := hp2 r (r + 1) (by omega) hr; omega
  have hle : ∀ k r, r + k + 1 = n → p r ≤ r := by
    intro k
    induction k with
    | zero => intro r hr; have := hp1 r (by omega); omega
    | succ k ih => intro r hr; have h1 := ih (r + 1) (by omega); have h2 := hp2 r (r + 1) (by omega) (by omega); omega
  intro i hi j hj
  have hpj : p j = j := by have h1 := hge j hj; have h2 := hle (n - j - 1) j (by omega); omega
  have := hp3 i hi j hj
  rwa [hpj] at this
def unit (n : Nat) : L := (List.range n).map fun i => (List.range n).map fun j => if i = j then 1 else 0
theorem unit_rect (n : Nat) : Rect n n (unit n) := ⟨by simp [unit], fun i hi => by unfold unit; rw [row_range _ hi]; simp⟩
theorem at_unit {n i j : Nat} (hi : i < n) (hj : j < n) : at_ (unit n) i j = one i j := by
  unfold at_ unit
  rw [row_range _ hi, get_map_range _ hj]
  rfl
/-- The inverse, where there is one. -/
def invert (m : L) : L := (elimTo m (unit m.length) (cols m)).2.1
theorem invert_spec {n : Nat} {m : L} (h : Rect n n m) (hn : 0 < n) (hr : rank m = n) : Rect n n (invert m) ∧ Eq2 n n (prod n (at_ (invert m)) (at_ m)) one ∧ Eq2 n n (prod n (at_ m) (at_ (invert m))) one := by
  have hr' : (elimTo m (unit n) n).2.2 = n := by have := rank_of (m := m) (unit n); rw [h.cols hn] at this; rw [this, hr]
  have hf := full_unit h (unit_rect n) hr'
  obtain ⟨_, rb, _, ⟨T, S, hU, hTa, hTb⟩, _, _⟩ := inv_elimTo h (unit_rect n) n (Nat.le_refl n)
  unfold invert
  rw [h.len, h.cols hn]
  have hT : Eq2 n n (at_ (elimTo m (unit n) n).2.1) T := hTb.trans ((prod_congr (Eq2.refl n n T) (fun i hi j hj => at_unit hi hj)).trans fun i _ j hj => prod_one T hj)
  have h1 : Eq2 n n (prod n T (at_ m)) one := hTa.symm.trans hf
  have hS : Eq2 n n S (at_ m) := by
    have e1 : Eq2 n n (prod n S (prod n T (at_ m))) S := (prod_congr (Eq2.refl n n S) h1).trans fun i _ j hj => prod_one S hj
    have e2 : Eq2 n n (prod n S (prod n T (at_ m))) (at_ m) := by
      rw [← prod_assoc]
      exact (prod_congr hU.l (Eq2.refl n n _)).trans fun i hi j _ => one_prod _ hi j
    exact e1.symm.trans e2
  refine ⟨rb, (prod_congr hT (Eq2.refl n n _)).trans h1, ?_⟩
  exact (prod_congr hS.symm hT).trans hU.l
/-- What has an inverse from one side has full rank. -/
theorem rank_full_left {n : Nat} {m : L} {X : M} (h : Rect n n m) (hn : 0 < n) (hX : Eq2 n n (prod n X (at_ m)) one) : rank m = n := by
  have h1 := rank_le h hn
  have h2 : Spans n n (rank m) one := spans_of_prod (rank_spans h hn) hX.symm
  have h3 := unit_spans (X := one) (fun i => i) (fun i hi => hi) (fun i _ j _ => rfl) h2
  omega
theorem rank_full_right {n : Nat} {m : L} {X : M} (h : Rect n n m) (hn : 0 < n) (hX : Eq2 n n (prod n (at_ m) X) one) : rank m = n := by
  have h1 := rank_le h hn
  have h2 : Spans n n (rank m) one := spans_prod (rank_spans h hn) hX.symm
  have h3 := unit_spans (X := one) (fun i => i) (fun i hi => hi) (fun i _ j _ => rfl) h2
  omega
/-- Less than full rank: some rows make nought together. -/
theorem rank_short {n c : Nat} {m : L} (h : Rect n c m) (hn : 0 < n) (hr : rank m < n) : ∃ y : Nat → UInt8, (∃ i, i < n ∧ y i ≠ 0) ∧ ∀ j, j < c → sum (fun i => mul (y i) (at_ m i j)) n = 0 := by
  have hI := inv_elimTo h h _ (Nat.le_refl c)
  unfold rank at hr
  rw [h.cols hn] at hr
  obtain ⟨_, _, ln, ⟨T, S, hU, hTa, _⟩, _, hz⟩ := hI
  generalize (elimTo m m c).2.2 = l at *
  refine ⟨T l, ?_, fun j hj => ?_⟩
  · rcases Classical.em (∃ i, i < n ∧ T l i ≠ 0) with h0 | h0
    · exact h0
    · exfalso
      have hz0 : ∀ i, i < n → T l i = 0 := fun i hi => by
        rcases Classical.em (T l i = 0) with h1 | h1
        · exact h1
        · exact absurd ⟨i, hi, h1⟩ h0
      have h1 := hU.r l hr l hr
      have h2 : prod n T S l l = 0 := sum_zero fun k hk => by rw [hz0 k hk, zero_mul]
      rw [h2, one_self] at h1
      exact absurd h1 (by decide)
  · have := hTa l hr j hj
    rw [hz l (Nat.le_refl _) hr j hj] at this
    exact this.symm
end Gm
