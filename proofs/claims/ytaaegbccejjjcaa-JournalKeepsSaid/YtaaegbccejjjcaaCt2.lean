/- Several texts in one: What every statement's last step uses: how arguments that came in are opened. Matrices over the field of 256 elements, as functions of two numbers, in plain words. No program in sight. -/
import Derived.Test.YtaaegbccejjjcaaRows
import Derived.Test.YtaaegbccejjjcaaCt1
import Derived.ProofKit
import Derived.OpenShut
import Derived.ShutString
import Derived.ChangeOld
namespace Go.Proofs.Ytaaegbccejjjcaa
open Go.ChangeShapes Go.WideShapes Go.ChangeAt Go.RowKit

/-- A slice of integers that came in: nil, or a row of 'cap' cells, the numbers 'zs' (the first 'len' are its elements). -/
def IsRow (k : IntKind) (w : World) (a : Option Addr) (len cap : Nat) (zs : List Int) : Prop :=
  (a = none ∧ len = 0 ∧ cap = 0 ∧ zs = []) ∨
  ∃ x, a = some x ∧ len ≤ cap ∧ cap ≤ maxLen ∧ zs.length = cap ∧ (∀ i, i < zs.length → w.cell? (x.add i) = some (.int k (zs.getD i 0))) ∧ ∀ n ∈ zs, (Lit.int k n).wf = true
theorem IsRow.of_trod {H : Type} {enc : TypeId × Value → H} {W : World} {t e : TypeId} {k : IntKind} {a : Option Addr} {len cap : Nat} {d : DataW H} {p : List MemPlace} (ht : Try.prog.underlying t = some (.slice e)) (he : Try.prog.underlying e = some (.int k)) (hc : Try.prog.cellsOf e = 1)
    (h : DataW.Trod enc Try.prog W 0 (fun _ => true) true t (.slice a len cap) d p) : ∃ zs, IsRow k W a len cap zs := by
  obtain ⟨fuel, hf⟩ := h
  rcases open_ints ht he hc hf with ⟨hcs, _⟩ | ⟨x, l, c, zs, hcs, _, hl, hm, hz, _, hcell, hwz⟩
  · simp [Value.cells] at hcs
    obtain ⟨rfl, rfl, rfl⟩ := hcs
    exact ⟨[], .inl ⟨rfl, rfl, rfl, rfl⟩⟩
  · simp [Value.cells] at hcs
    obtain ⟨rfl, rfl, rfl⟩ := hcs
    exact ⟨zs, .inr ⟨_, rfl, hl, hm, by simpa using hz, hcell, hwz⟩⟩
theorem wf_u8 {a : Int} (h : (Lit.int .u8 a).wf = true) : ∃ x : UInt8, a = (x.toNat : Int) := by
  have hb := bounds_u8 h
  refine ⟨UInt8.ofNat a.toNat, ?_⟩
  rw [UInt8.toNat_ofNat']
  omega
theorem IsRow.bytes {w : World} {a : Option Addr} {len cap : Nat} {zs : List Int} (h : IsRow .u8 w a len cap zs) : ∃ l, Bs w a len cap l := by
  rcases h with ⟨rfl, rfl, rfl, rfl⟩ | ⟨x, rfl, hl, hm, hz, hc, hw⟩
  · exact ⟨[], rfl, Nat.le_refl _, by omega, Rd.nil _ _ _⟩
  · refine ⟨(zs.take len).map fun n => UInt8.ofNat n.toNat, by simp; omega, hl, by unfold maxLen at hm; omega, by simp [bcells]; omega, fun hn => ?_⟩
    have h0 := hc 0 (by omega)
    obtain ⟨b, off, sp⟩ := x
    have hsp : sp = none := by
      cases sp with
      | none => rfl
      | some s =>
        have : (⟨b, off, some s⟩ : Addr).add 0 = ⟨b, off, some s⟩ := by unfold Addr.add; split <;> simp_all
        rw [this] at h0
        unfold World.cell? at h0
        split at h0 <;> simp at h0
    subst hsp
    refine ⟨b, off, rfl, fun j u hu => ?_⟩
    simp only [bcells, List.getElem?_map, Option.map_eq_some_iff] at hu
    obtain ⟨v, ⟨n, hn', rfl⟩, rfl⟩ := hu
    have hj : j < zs.length := by
      rcases Nat.lt_or_ge j zs.length with h | h
      · exact h
      · rw [List.getElem?_take] at hn'
        split at hn'
        · rw [List.getElem?_eq_none h] at hn'; cases hn'
        · cases hn'
    have hj' : zs[j]? = some n := by
      rw [List.getElem?_take] at hn'
      split at hn'
      · exact hn'
      · cases hn'
    have hcj := hc j hj
    rw [addr_add] at hcj
    rw [hcj]
    have hd : zs.getD j 0 = n := by simp [hj']
    have hwn := bounds_u8 (hw n (List.mem_of_getElem? hj'))
    rw [hd, UInt8.toNat_ofNat']
    congr 2
    omega
end Go.Proofs.Ytaaegbccejjjcaa
namespace Gm
open Gf
/-- A sum of so many. -/
def sum (f : Nat → UInt8) : Nat → UInt8
  | 0 => 0
  | n + 1 => sum f n ^^^ f n
theorem sum_congr {f g : Nat → UInt8} : ∀ {n : Nat}, (∀ k, k < n → f k = g k) → sum f n = sum g n
  | 0, _ => rfl
  | n + 1, h => by rw [sum, sum, sum_congr (fun k hk => h k (by omega)), h n (by omega)]
theorem sum_zero {f : Nat → UInt8} : ∀ {n : Nat}, (∀ k, k < n → f k = 0) → sum f n = 0
  | 0, _ => rfl
  | n + 1, h => by rw [sum, sum_zero (fun k hk => h k (by omega)), h n (by omega)]; rfl
theorem sum_add (f g : Nat → UInt8) : ∀ n : Nat, sum (fun k => f k ^^^ g k) n = sum f n ^^^ sum g n
  | 0 => UInt8.xor_zero.symm
  | n + 1 => by rw [sum, sum, sum, sum_add f g n, xor_mid]
theorem mul_sum (c : UInt8) (f : Nat → UInt8) : ∀ n : Nat, mul c (sum f n) = sum (fun k => mul c (f k)) n
  | 0 => mul_zero c
  | n + 1 => by rw [sum, sum, mul_add, mul_sum c f n]
theorem sum_mul (f : Nat → UInt8) (c : UInt8) : ∀ n : Nat, mul (sum f n) c = sum (fun k => mul (f k) c) n
  | 0 => zero_mul c
  | n + 1 => by rw [sum, sum, add_mul, sum_mul f c n]
theorem sum_swap (f : Nat → Nat → UInt8) (n : Nat) : ∀ m : Nat, sum (fun i => sum (f i) m) n = sum (fun j => sum (fun i => f i j) n) m
  | 0 => by show sum (fun _ => 0) n = 0; exact sum_zero fun _ _ => rfl
  | m + 1 => by
    have h : (fun i => sum (f i) (m + 1)) = fun i => sum (f i) m ^^^ f i m := rfl
    rw [h, sum_add, sum_swap f n m]
    rfl
theorem sum_one {f : Nat → UInt8} {k : Nat} : ∀ {n : Nat}, k < n → (∀ j, j < n → j ≠ k → f j = 0) → sum f n = f k
  | 0, h, _ => absurd h (Nat.not_lt_zero _)
  | n + 1, hk, h => by
    rw [sum]
    by_cases e : k = n
    · subst e
      rw [sum_zero (fun j hj => h j (by omega) (by omega)), UInt8.zero_xor]
    · rw [sum_one (k := k) (by omega) (fun j hj hne => h j (by omega) hne), h n (by omega) (Ne.symm e), UInt8.xor_zero]

abbrev M := Nat → Nat → UInt8
def prod (n : Nat) (A B : M) : M := fun i j => sum (fun k => mul (A i k) (B k j)) n
def one : M := fun i j => if i = j then 1 else 0
def Eq2 (n m : Nat) (A B : M) : Prop := ∀ i, i < n → ∀ j, j < m → A i j = B i j
theorem Eq2.refl (n m : Nat) (A : M) : Eq2 n m A A := fun _ _ _ _ => rfl
theorem Eq2.symm {n m : Nat} {A B : M} (h : Eq2 n m A B) : Eq2 n m B A := fun i hi j hj => (h i hi j hj).symm
theorem Eq2.trans {n m : Nat} {A B C : M} (h : Eq2 n m A B) (k : Eq2 n m B C) : Eq2 n m A C := fun i hi j hj => (h i hi j hj).trans (k i hi j hj)
theorem prod_assoc (n m : Nat) (A B C : M) : prod m (prod n A B) C = prod n A (prod m B C) := by
  funext i j
  show sum (fun k => mul (sum (fun l => mul (A i l) (B l k)) n) (C k j)) m = sum (fun l => mul (A i l) (sum (fun k => mul (B l k) (C k j)) m)) n
  have h1 : (fun k => mul (sum (fun l => mul (A i l) (B l k)) n) (C k j)) = fun k => sum (fun l => mul (mul (A i l) (B l k)) (C k j)) n := by funext k; rw [sum_mul]
  have h2 : (fun l => mul (A i l) (sum (fun k => mul (B l k) (C k j)) m)) = fun l => sum (fun k => mul (mul (A i l) (B l k)) (C k j)) m := by
    funext l; rw [mul_sum]; exact sum_congr fun k _ => by rw [mul_assoc]
  rw [h1, h2, sum_swap]
theorem prod_congr {r n m : Nat} {A A' B B' : M} (ha : Eq2 r n A A') (hb : Eq2 n m B B') : Eq2 r m (prod n A B) (prod n A' B') :=
  fun i hi j hj => sum_congr fun k hk => by rw [ha i hi k hk, hb k hk j hj]
theorem prod_one {n : Nat} (A : M) {i j : Nat} (hj : j < n) : prod n A one i j = A i j := by
  show sum _ n = _
  rw [sum_one (k := j) hj (fun k _ hne => by simp only [one]; rw [if_neg hne, mul_zero])]
  simp only [one]; rw [if_pos trivial, mul_one]
theorem one_prod {n : Nat} (A : M) {i : Nat} (hi : i < n) (j : Nat) : prod n one A i j = A i j := by
  show sum _ n = _
  rw [sum_one (k := i) hi (fun k _ hne => by simp only [one]; rw [if_neg (Ne.symm hne), zero_mul])]
  simp only [one]; rw [if_pos trivial, one_mul]
theorem add_prod (n : Nat) (A B C : M) : prod n (fun i j => A i j ^^^ B i j) C = fun i j => prod n A C i j ^^^ prod n B C i j := by
  funext i j
  show sum _ n = sum _ n ^^^ sum _ n
  rw [← sum_add]
  exact sum_congr fun k _ => by rw [add_mul]

/-- Two matrices that undo each other. -/
structure Undo (n : Nat) (T S : M) : Prop where
  l : Eq2 n n (prod n S T) one
  r : Eq2 n n (prod n T S) one
theorem Undo.one (n : Nat) : Undo n one one := ⟨fun _ hi j _ => one_prod _ hi j, fun _ hi j _ => one_prod _ hi j⟩
theorem Undo.symm {n : Nat} {T S : M} (h : Undo n T S) : Undo n S T := ⟨h.r, h.l⟩
theorem Undo.step {n : Nat} {T S E F : M} (h : Undo n T S) (e : Undo n E F) : Undo n (prod n E T) (prod n S F) := by
  constructor
  · rw [prod_assoc, ← prod_assoc n n F E T]
    exact (prod_congr (Eq2.refl n n S) ((prod_congr e.l (Eq2.refl n n T)).trans fun _ hi j _ => one_prod T hi j)).trans h.l
  · rw [prod_assoc, ← prod_assoc n n T S F]
    exact (prod_congr (Eq2.refl n n E) ((prod_congr h.r (Eq2.refl n n F)).trans fun _ hi j _ => one_prod F hi j)).trans e.r
/-- Rows changed about. -/
def permE (s : Nat → Nat) : M := fun i j => if s i = j then 1 else 0
theorem permE_prod {n : Nat} {s : Nat → Nat} (A : M) {i : Nat} (hs : s i < n) (j : Nat) : prod n (permE s) A i j = A (s i) j := by
  show sum _ n = _
  rw [sum_one (k := s i) hs (fun k _ hne => by simp only [permE]; rw [if_neg (Ne.symm hne), zero_mul])]
  simp only [permE]; rw [if_pos trivial, one_mul]
theorem permE_undo {n : Nat} {s : Nat → Nat} (hs : ∀ i, i < n → s i < n) (hss : ∀ i, s (s i) = i) : Undo n (permE s) (permE s) := by
  have h : Eq2 n n (prod n (permE s) (permE s)) Gm.one := fun i hi j _ => by
    rw [permE_prod _ (hs i hi)]
    simp only [permE, Gm.one, hss]
  exact ⟨h, h⟩
/-- A row times an element. -/
def scaleE (p : Nat) (c : UInt8) : M := fun i j => if i = j then (if i = p then c else 1) else 0
theorem scaleE_prod {n : Nat} (p : Nat) (c : UInt8) (A : M) {i : Nat} (hi : i < n) (j : Nat) : prod n (scaleE p c) A i j = if i = p then mul c (A i j) else A i j := by
  show sum _ n = _
  rw [sum_one (k := i) hi (fun k _ hne => by simp only [scaleE]; rw [if_neg (Ne.symm hne), zero_mul])]
  simp only [scaleE]; rw [if_pos trivial]
  split
  · rfl
  · rw [one_mul]
theorem scaleE_undo {n p : Nat} {c d : UInt8} (h : mul c d = 1) : Undo n (scaleE p c) (scaleE p d) := by
  have h' : mul d c = 1 := by rw [mul_comm, h]
  have g : ∀ c d : UInt8, mul c d = 1 → Eq2 n n (prod n (scaleE p c) (scaleE p d)) Gm.one := fun c d h i hi j _ => by
    rw [scaleE_prod p c _ hi]
    by_cases e : i = j
    · subst e
      by_cases e2 : i = p
      · simp [scaleE, Gm.one, e2, h]
      · simp [scaleE, Gm.one, e2]
    · by_cases e2 : i = p
      · subst e2; simp [scaleE, Gm.one, e, mul_zero]
      · simp [scaleE, Gm.one, e, e2]
  exact ⟨g d c h', g c d h⟩
/-- One row, each time times an element, added to all others. -/
def clearE (p : Nat) (d : Nat → UInt8) : M := fun i j => Gm.one i j ^^^ (if i ≠ p ∧ j = p then d i else 0)
theorem clearE_prod {n p : Nat} (hp : p < n) (d : Nat → UInt8) (A : M) {i : Nat} (hi : i < n) (j : Nat) : prod n (clearE p d) A i j = if i = p then A i j else A i j ^^^ mul (d i) (A p j) := by
  have h : prod n (clearE p d) A = fun i j => prod n Gm.one A i j ^^^ prod n (fun i j => if i ≠ p ∧ j = p then d i else 0) A i j := add_prod n _ _ A
  rw [h]
  show prod n Gm.one A i j ^^^ prod n _ A i j = _
  rw [one_prod A hi]
  by_cases e : i = p
  · rw [if_pos e]
    show _ ^^^ sum _ n = _
    rw [sum_zero (fun k _ => by simp only []; rw [if_neg (fun hh => hh.1 e), zero_mul]), UInt8.xor_zero]
  · rw [if_neg e]
    show _ ^^^ sum _ n = _
    rw [sum_one (k := p) hp (fun k _ hne => by simp only []; rw [if_neg (fun hh => hne hh.2), zero_mul])]
    simp only []
    rw [if_pos ⟨e, trivial⟩]
theorem clearE_undo {n p : Nat} (hp : p < n) (d : Nat → UInt8) : Undo n (clearE p d) (clearE p d) := by
  have h : Eq2 n n (prod n (clearE p d) (clearE p d)) Gm.one := fun i hi j _ => by
    rw [clearE_prod hp d _ hi]
    by_cases e : i = p
    · subst e
      rw [if_pos rfl]
      simp only [clearE]
      rw [if_neg (fun hh => hh.1 rfl), UInt8.xor_zero]
    · rw [if_neg e]
      simp only [clearE]
      by_cases ej : j = p
      · subst ej
        rw [if_pos ⟨e, rfl⟩, if_neg (fun hh => hh.1 rfl), UInt8.xor_zero]
        simp only [Gm.one]
        rw [if_neg e, if_pos trivial, mul_one, UInt8.zero_xor, UInt8.xor_self]
      · rw [if_neg (fun hh => ej hh.2), if_neg (fun hh => ej hh.2), UInt8.xor_zero, UInt8.xor_zero]
        have hz : Gm.one p j = 0 := by simp only [Gm.one]; rw [if_neg (Ne.symm ej)]
        rw [hz, mul_zero, UInt8.xor_zero]
  exact ⟨h, h⟩

/-- The rows are sums of k rows. -/
def Spans (n m k : Nat) (A : M) : Prop := ∃ C V : M, Eq2 n m A (prod k C V)
/-- More unknowns than equations: there is a row, not nought, that makes nought of it. -/
theorem kernel : ∀ (k r : Nat) (X : M), k < r → ∃ y : Nat → UInt8, (∃ i, i < r ∧ y i ≠ 0) ∧ ∀ j, j < k → sum (fun i => mul (y i) (X i j)) r = 0
  | 0, r, X, h => ⟨fun _ => 1, ⟨0, h, by decide⟩, fun j hj => absurd hj (Nat.not_lt_zero _)⟩
  | k + 1, r, X, h => by
    by_cases hz : ∃ p, p < r ∧ X p k ≠ 0
    · obtain ⟨p, hp, hx⟩ := hz
      -- rows but p, cleared of column k by row p
      let s : Nat → Nat := fun i => if i < p then i else i + 1
      have sr : ∀ i, i < r - 1 → s i < r ∧ s i ≠ p := fun i hi => by
        show (if i < p then i else i + 1) < r ∧ (if i < p then i else i + 1) ≠ p
        split <;> omega
      let q : Nat → UInt8 := fun i => mul (X (s i) k) (inv (X p k))
      obtain ⟨y, ⟨i0, hi0, hy0⟩, hy⟩ := kernel k (r - 1) (fun i j => X (s i) j ^^^ mul (q i) (X p j)) (by omega)
      let yp : UInt8 := sum (fun i => mul (y i) (q i)) (r - 1)
      let z : Nat → UInt8 := fun i => if i = p then yp else if i < p then y i else y (i - 1)
      have hs : ∀ f : Nat → UInt8, sum f r = f p ^^^ sum (fun i => f (s i)) (r - 1) := by
        intro f
        have key : ∀ n, sum f (n + 1) = if n < p then sum (fun i => f (s i)) (n + 1) else f p ^^^ sum (fun i => f (s i)) n := by
          intro n
          induction n with
          | zero =>
            by_cases e : 0 < p
            · rw [if_pos e]
              show 0 ^^^ f 0 = 0 ^^^ f (if 0 < p then 0 else 0 + 1)
              rw [if_pos e]
            · rw [if_neg e]
              have e0 : p = 0 := by omega
              show 0 ^^^ f 0 = f p ^^^ 0
              rw [e0, UInt8.zero_xor, UInt8.xor_zero]
          | succ n ih =>
            show sum f (n + 1) ^^^ f (n + 1) = _
            rw [ih]
            by_cases e : n + 1 < p
            · rw [if_pos (by omega), if_pos e]
              show _ = sum (fun i => f (s i)) (n + 1) ^^^ f (if n + 1 < p then n + 1 else n + 1 + 1)
              rw [if_pos e]
            · rw [if_neg e]
              by_cases e2 : n < p
              · rw [if_pos e2]
                have e3 : n + 1 = p := by omega
                rw [e3, UInt8.xor_comm]
              · rw [if_neg e2]
                show _ = f p ^^^ (sum (fun i => f (s i)) n ^^^ f (if n < p then n else n + 1))
                rw [if_neg e2, UInt8.xor_assoc]
        have h1 := key (r - 1)
        rw [show r - 1 + 1 = r by omega] at h1
        rw [h1]
        by_cases e : r - 1 < p
        · omega
        · rw [if_neg e]
      have hzs : ∀ i, i < r - 1 → z (s i) = y i := fun i hi => by
        show (if s i = p then yp else if s i < p then y (s i) else y (s i - 1)) = y i
        rw [if_neg (sr i hi).2]
        by_cases e : i < p
        · have : s i = i := if_pos e
          rw [this, if_pos e]
        · have : s i = i + 1 := if_neg e
          rw [this, if_neg (by omega), Nat.add_sub_cancel]
      refine ⟨z, ⟨s i0, (sr i0 hi0).1, by rw [hzs i0 hi0]; exact hy0⟩, fun j hj => ?_⟩
      rw [hs]
      have hzp : z p = yp := if_pos rfl
      have e1 : sum (fun i => mul (z (s i)) (X (s i) j)) (r - 1) = sum (fun i => mul (y i) (X (s i) j)) (r - 1) := sum_congr fun i hi => by rw [hzs i hi]
      rw [hzp, e1]
      have e2 : mul yp (X p j) = sum (fun i => mul (y i) (mul (q i) (X p j))) (r - 1) := by
        show mul (sum _ _) _ = _
        rw [sum_mul]
        exact sum_congr fun i _ => by rw [mul_assoc]
      rw [e2, ← sum_add]
      by_cases ej : j = k
      · subst ej
        refine sum_zero fun i _ => ?_
        rw [← mul_add]
        have : mul (q i) (X p j) = X (s i) j := by
          show mul (mul (X (s i) j) (inv (X p j))) (X p j) = _
          rw [mul_assoc, inv_mul hx, mul_one]
        rw [this, UInt8.xor_self, mul_zero]
      · have := hy j (by omega)
        rw [← this]
        exact sum_congr fun i _ => by rw [← mul_add, UInt8.xor_comm]
    · obtain ⟨y, hy0, hy⟩ := kernel k r X (by omega)
      refine ⟨y, hy0, fun j hj => ?_⟩
      by_cases ej : j = k
      · subst ej
        refine sum_zero fun i hi => ?_
        have : X i j = 0 := by
          rcases Classical.em (X i j = 0) with h0 | h0
          · exact h0
          · exact absurd ⟨i, hi, h0⟩ hz
        rw [this, mul_zero]
      · exact hy j (by omega)
/-- The unit of r rows is no sum of less than r rows. -/
theorem unit_spans {r m k : Nat} {X : M} (p : Nat → Nat) (hp : ∀ i, i < r → p i < m) (hX : ∀ i, i < r → ∀ j, j < r → X i (p j) = one i j) (h : Spans r m k X) : r ≤ k := by
  rcases Nat.lt_or_ge k r with hk | hk
  · obtain ⟨C, V, hCV⟩ := h
    obtain ⟨y, ⟨i0, hi0, hy0⟩, hy⟩ := kernel k r C hk
    exfalso
    apply hy0
    have h1 : sum (fun i => mul (y i) (X i (p i0))) r = y i0 := by
      rw [sum_one (k := i0) hi0 (fun j hj hne => by rw [hX j hj i0 hi0]; simp only [one]; rw [if_neg hne, mul_zero]), hX i0 hi0 i0 hi0]
      simp only [one]; rw [if_pos trivial, mul_one]
    rw [← h1]
    have h2 : sum (fun i => mul (y i) (X i (p i0))) r = sum (fun i => mul (y i) (sum (fun t => mul (C i t) (V t (p i0))) k)) r := sum_congr fun i hi => by rw [hCV i hi _ (hp i0 hi0)]; rfl
    rw [h2]
    have h3 : (fun i => mul (y i) (sum (fun t => mul (C i t) (V t (p i0))) k)) = fun i => sum (fun t => mul (mul (y i) (C i t)) (V t (p i0))) k := by
      funext i; rw [mul_sum]; exact sum_congr fun t _ => by rw [mul_assoc]
    rw [h3, sum_swap]
    refine sum_zero fun t ht => ?_
    have := hy t ht
    have h4 : sum (fun i => mul (mul (y i) (C i t)) (V t (p i0))) r = mul (sum (fun i => mul (y i) (C i t)) r) (V t (p i0)) := by rw [sum_mul]
    rw [h4, this, zero_mul]
  · exact hk
theorem spans_of_prod {n m q k : Nat} {A B D : M} (h : Spans q m k B) (ha : Eq2 n m A (prod q D B)) : Spans n m k A := by
  obtain ⟨C, V, hCV⟩ := h
  refine ⟨prod q D C, V, ha.trans ?_⟩
  rw [prod_assoc]
  exact prod_congr (Eq2.refl n q D) hCV
theorem spans_prod {n m q k : Nat} {A B D : M} (h : Spans n q k A) (ha : Eq2 n m D (prod q A B)) : Spans n m k D := by
  obtain ⟨C, V, hCV⟩ := h
  refine ⟨C, prod q V B, ha.trans ?_⟩
  rw [← prod_assoc]
  exact prod_congr hCV (Eq2.refl q m B)
end Gm
