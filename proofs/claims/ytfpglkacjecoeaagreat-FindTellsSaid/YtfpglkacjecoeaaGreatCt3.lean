/- Several texts in one: Slices of int: how they read. More words for memory: stores into what is new, rows that grow, draws. No statement of the seat is proved here. Matrices over the field of 256 elements, as functions of two numbers, in plain words. No program in sight. -/
import Derived.Test.YtfpglkacjecoeaaGreatCt1
import Derived.Test.YtfpglkacjecoeaaGreatCt2
namespace Go.Proofs.YtfpglkacjecoeaaGreat
open Go.RowKit

/-- Whole numbers as cells. -/
def icells (l : List Int) : List Value := l.map fun x => .int .i64 x
theorem icells_length (l : List Int) : (icells l).length = l.length := by simp [icells]
theorem icells_append (l m : List Int) : icells (l ++ m) = icells l ++ icells m := by simp [icells]
theorem icells_set (l : List Int) (k : Nat) (x : Int) : icells (l.set k x) = (icells l).set k (.int .i64 x) := by simp [icells, List.map_set]
theorem icells_get {l : List Int} {k : Nat} (h : k < l.length) : (icells l)[k]? = some (.int .i64 (Il.get l k)) := by simp [icells, Il.get, h]
theorem icells_one (l : List Int) : ∀ u ∈ icells l, u.oneCell' = true := by
  intro u hu
  simp only [icells, List.mem_map] at hu
  obtain ⟨x, _, rfl⟩ := hu
  rfl
theorem Rd.intAt {w : World} {n : Nat} {A : Option Addr} {l : List Int} (h : Rd w 1 A n (icells l)) {k : Nat} (hk : k < n) :
    ∃ b off, A = some ⟨b, off, none⟩ ∧ w.cell? ⟨b, off + k, none⟩ = some (.int .i64 (Il.get l k)) := by
  obtain ⟨b, off, u, e, hu, hc⟩ := h.at_ hk
  refine ⟨b, off, e, ?_⟩
  rw [hc]
  simp only [icells, List.getElem?_map, Option.map_eq_some_iff] at hu
  obtain ⟨x, hx, rfl⟩ := hu
  simp [Il.get, hx]
/-- A slice of int. -/
structure Is (w : World) (A : Option Addr) (n c : Nat) (l : List Int) : Prop where
  len : l.length = n
  le : n ≤ c
  max : c ≤ 9223372036854775807
  rd : Rd w 1 A n (icells l)
theorem Is.ext {w w' : World} {A : Option Addr} {n c : Nat} {l : List Int} (h : Is w A n c l) (hx : Ext w w') : Is w' A n c l := ⟨h.len, h.le, h.max, h.rd.ext hx⟩
theorem Is.take {w : World} {A : Option Addr} {n c k : Nat} {l : List Int} (h : Is w A n c l) (hk : k ≤ n) : Is w A k c (l.take k) := by
  refine ⟨by rw [List.length_take, h.len]; omega, by have := h.le; omega, h.max, ?_, fun h0 => ?_⟩
  · rw [icells_length, List.length_take, h.len]; omega
  · obtain ⟨b, off, e, hc⟩ := h.rd.2 (by omega)
    refine ⟨b, off, e, fun j u hu => hc j u ?_⟩
    simp only [icells, List.getElem?_map, List.getElem?_take] at hu ⊢
    split at hu
    · exact hu
    · simp at hu
theorem Is.none (w : World) : Is w none 0 0 [] := ⟨rfl, Nat.le_refl _, by omega, Rd.nil _ _ _⟩
theorem Is.nil_of_none {w : World} {n c : Nat} {l : List Int} (h : Is w .none n c l) : l = [] := by
  rcases Nat.eq_zero_or_pos n with h0 | h0
  · exact List.eq_nil_of_length_eq_zero (by rw [h.len]; exact h0)
  · obtain ⟨b, off, h, _⟩ := h.rd.2 h0
    cases h
theorem Is.lit (w : World) (g : Nat) (hg : w.heap.size = g) (l : List Int) (cs : Array Value) (t : TypeId) (n : Nat) (hn : l.length = n) (h : cs.toList = icells l) (hl : n ≤ 1000) : Is (w.alloc (.cells cs t)) (some ⟨g, 0, .none⟩) n n l := by
  subst hn
  subst hg
  have hs : cs.size = l.length := by rw [← Array.length_toList, h, icells_length]
  refine ⟨rfl, Nat.le_refl _, by omega, ?_⟩
  have := Rd.lit w cs t
  rwa [h, hs] at this

theorem int_info : (Tryz.prog.info? 3).map (fun i => (i.zero, i.size, i.bytes)) = some (some (.int .i64 0), 1, 8) := by kernel_rfl
/-- A list of int handed back in memory of the call's own. -/
structure NewInts (w w' : World) (v : Value) (l : List Int) : Prop where
  own : w'.ownsRow w.heap.size 3 1 v l.length (icells l)
  ext : Ext w w'
theorem Own.ints {base n c : Nat} {w : World} {e : TypeId} {A : Option Addr} {l : List Int} (h : Own base w e 1 A n c (icells l)) : Is w A n c l :=
  ⟨by have := h.own.1; rw [icells_length] at this; omega, h.caps.1, h.caps.2, h.rd⟩
theorem NewInts.is {w w' : World} {v : Value} {l : List Int} (h : NewInts w w' v l) : ∃ A c, v = .slice A l.length c ∧ Is w' A l.length c l := by
  obtain ⟨A, c, rfl, _, _⟩ := ownsRow_slice h.own
  exact ⟨A, c, rfl, (Own.mk (base := w.heap.size) (e := 3) h.own).ints⟩

end Go.Proofs.YtfpglkacjecoeaaGreat
namespace Go.Proofs.YtfpglkacjecoeaaGreat
open Go.RowKit

theorem Ext.set_ {w w1 : World} (h : Ext w w1) {p : Addr} (hp : w.heap.size ≤ p.block) (v : Value) : Ext w (w1.setCell p v) := Below.setCell h hp v
/-- A row of one's own is not touched by a store below. -/
theorem ownsRow_far {w : World} {base size n : Nat} {e : TypeId} {v : Value} {xs : List Value} (h : w.ownsRow base e size v n xs) {p : Addr} (hp : p.block < base) (u : Value) : (w.setCell p u).ownsRow base e size v n xs := ownsRow_setCell_below h hp u

theorem Is.grown {w w' : World} {A : Option Addr} {n c : Nat} {l : List Int} (h : Is w A n c l) {row : Option Nat} (hg : w.grownBy w' row) (ho : 0 < n → ∀ b, (A.map (·.block)) = some b → row ≠ some b) : Is w' A n c l := by
  refine ⟨h.len, h.le, h.max, h.rd.1, fun hn => ?_⟩
  obtain ⟨b, off, e, hc⟩ := h.rd.2 hn
  refine ⟨b, off, e, fun j u hu => hg.cell (hc j u hu) ?_⟩
  subst e
  exact fun e => ho hn b rfl e.symm
/-- Another row of the call's own grows. -/
theorem ownsRow_grown {w w' : World} {base size n : Nat} {e : TypeId} {v : Value} {xs : List Value} {row : Option Nat} (h : w.ownsRow base e size v n xs) (hg : w.grownBy w' row) (hv : v.ownBlock = none ∨ v.ownBlock ≠ row) : w'.ownsRow base e size v n xs := by
  refine ⟨h.1, ?_⟩
  rcases h.2 with h1 | ⟨b, cap, cur, h1, h2, h3, h4⟩
  · exact .inl h1
  · refine .inr ⟨b, cap, cur, h1, h2, ?_, h4⟩
    have hb : b < w.heap.size := (Array.getElem?_eq_some_iff.1 h3).1
    rw [hg.block b hb ?_]
    · exact h3
    · intro e
      subst h1
      rcases hv with hv | hv
      · simp [Value.ownBlock] at hv
      · exact hv (by simpa [Value.ownBlock] using e)
/-- Two rows of the call's own that are apart. -/
theorem apart_symm {u v : Value} (h : u.ownBlock = none ∨ u.ownBlock ≠ v.ownBlock) : v.ownBlock = none ∨ v.ownBlock ≠ u.ownBlock := by
  rcases h with h | h
  · rw [h]
    cases hv : v.ownBlock with
    | none => exact .inl rfl
    | some q => exact .inr (by simp)
  · exact .inr (Ne.symm h)
theorem apart_step {u v v' : Value} {N : Nat} (h : u.ownBlock = none ∨ u.ownBlock ≠ v.ownBlock) (hat : v'.ownBlock = v.ownBlock ∨ v'.ownBlock = some N) (hlt : ∀ q, u.ownBlock = some q → q < N) : u.ownBlock = none ∨ u.ownBlock ≠ v'.ownBlock := by
  rcases hat with e | e <;> rw [e]
  · exact h
  · exact .inr (fun hu => by have := hlt _ hu; omega)
theorem cell_two (w : World) (x y : Value) (t s : TypeId) : ((w.alloc (.cells #[x] t)).alloc (.cells #[y] s)).cell? ⟨w.heap.size + 1, 0, none⟩ = some y := by
  have h : w.heap.size + 1 = (w.alloc (.cells #[x] t)).heap.size := by simp
  rw [h, World.cell?_alloc_new]; rfl
theorem Ext.drew (w : World) : Ext w w.drew := Below.drew (Ext.refl w)
theorem Ext.thenDrew {w w1 : World} (h : Ext w w1) : Ext w w1.drew := h.trans (Ext.drew _)
theorem Is.up {w : World} {A : Option Addr} {n c : Nat} {l : List Int} (h : Is w A n c l) (o : Obj) : Is (w.alloc o) A n c l := h.ext (Ext.alloc _ _)
theorem Is.drw {w : World} {A : Option Addr} {n c : Nat} {l : List Int} (h : Is w A n c l) : Is w.drew A n c l := h.ext (Ext.drew _)
theorem Is.drwN {w : World} {A : Option Addr} {n c : Nat} {l : List Int} (h : Is w A n c l) (q : Nat) : Is (w.drewN q) A n c l := h.ext (Ext.drewN _ _)
/-- One number, written out. -/
theorem is_one (w : World) (t : TypeId) (k : Int) {g : Nat} (hg : w.heap.size = g) : Is (w.alloc (.cells #[.int .i64 k] t)) (some ⟨g, 0, none⟩) 1 1 [k] := Is.lit w g hg [k] _ t 1 rfl rfl (by omega)
end Go.Proofs.YtfpglkacjecoeaaGreat
namespace Gm
open Gf
/-- A sum of so many. -/
def sum (f : Nat → UInt8) : Nat → UInt8
  | 0 => 0
  | n + 1 => sum f n ^^^ f n
theorem sum_congr {f g : Nat → UInt8} : ∀ {n : Nat}, (∀ k, k < n → f k = g k) → sum f n = sum g n
  | 0, _ => rfl
  | n + 1, h => by rw [sum, sum, sum_congr (fun k hk => h k (by omega)), h n (by omega)]
theorem sum_zero {f : Nat → UInt8} : ∀ {n : Nat}, (∀ k, k < n → f k = 0) → sum f n = 0
  | 0, _ => rfl
  | n + 1, h => by rw [sum, sum_zero (fun k hk => h k (by omega)), h n (by omega)]; rfl
theorem sum_add (f g : Nat → UInt8) : ∀ n : Nat, sum (fun k => f k ^^^ g k) n = sum f n ^^^ sum g n
  | 0 => UInt8.xor_zero.symm
  | n + 1 => by rw [sum, sum, sum, sum_add f g n, xor_mid]
theorem mul_sum (c : UInt8) (f : Nat → UInt8) : ∀ n : Nat, mul c (sum f n) = sum (fun k => mul c (f k)) n
  | 0 => mul_zero c
  | n + 1 => by rw [sum, sum, mul_add, mul_sum c f n]
theorem sum_mul (f : Nat → UInt8) (c : UInt8) : ∀ n : Nat, mul (sum f n) c = sum (fun k => mul (f k) c) n
  | 0 => zero_mul c
  | n + 1 => by rw [sum, sum, add_mul, sum_mul f c n]
theorem sum_swap (f : Nat → Nat → UInt8) (n : Nat) : ∀ m : Nat, sum (fun i => sum (f i) m) n = sum (fun j => sum (fun i => f i j) n) m
  | 0 => by show sum (fun _ => 0) n = 0; exact sum_zero fun _ _ => rfl
  | m + 1 => by
    have h : (fun i => sum (f i) (m + 1)) = fun i => sum (f i) m ^^^ f i m := rfl
    rw [h, sum_add, sum_swap f n m]
    rfl
theorem sum_one {f : Nat → UInt8} {k : Nat} : ∀ {n : Nat}, k < n → (∀ j, j < n → j ≠ k → f j = 0) → sum f n = f k
  | 0, h, _ => absurd h (Nat.not_lt_zero _)
  | n + 1, hk, h => by
    rw [sum]
    by_cases e : k = n
    · subst e
      rw [sum_zero (fun j hj => h j (by omega) (by omega)), UInt8.zero_xor]
    · rw [sum_one (k := k) (by omega) (fun j hj hne => h j (by omega) hne), h n (by omega) (Ne.symm e), UInt8.xor_zero]

abbrev M := Nat → Nat → UInt8
def prod (n : Nat) (A B : M) : M := fun i j => sum (fun k => mul (A i k) (B k j)) n
def one : M := fun i j => if i = j then 1 else 0
def Eq2 (n m : Nat) (A B : M) : Prop := ∀ i, i < n → ∀ j, j < m → A i j = B i j
theorem Eq2.refl (n m : Nat) (A : M) : Eq2 n m A A := fun _ _ _ _ => rfl
theorem Eq2.symm {n m : Nat} {A B : M} (h : Eq2 n m A B) : Eq2 n m B A := fun i hi j hj => (h i hi j hj).symm
theorem Eq2.trans {n m : Nat} {A B C : M} (h : Eq2 n m A B) (k : Eq2 n m B C) : Eq2 n m A C := fun i hi j hj => (h i hi j hj).trans (k i hi j hj)
theorem prod_assoc (n m : Nat) (A B C : M) : prod m (prod n A B) C = prod n A (prod m B C) := by
  funext i j
  show sum (fun k => mul (sum (fun l => mul (A i l) (B l k)) n) (C k j)) m = sum (fun l => mul (A i l) (sum (fun k => mul (B l k) (C k j)) m)) n
  have h1 : (fun k => mul (sum (fun l => mul (A i l) (B l k)) n) (C k j)) = fun k => sum (fun l => mul (mul (A i l) (B l k)) (C k j)) n := by funext k; rw [sum_mul]
  have h2 : (fun l => mul (A i l) (sum (fun k => mul (B l k) (C k j)) m)) = fun l => sum (fun k => mul (mul (A i l) (B l k)) (C k j)) m := by
    funext l; rw [mul_sum]; exact sum_congr fun k _ => by rw [mul_assoc]
  rw [h1, h2, sum_swap]
theorem prod_congr {r n m : Nat} {A A' B B' : M} (ha : Eq2 r n A A') (hb : Eq2 n m B B') : Eq2 r m (prod n A B) (prod n A' B') :=
  fun i hi j hj => sum_congr fun k hk => by rw [ha i hi k hk, hb k hk j hj]
theorem prod_one {n : Nat} (A : M) {i j : Nat} (hj : j < n) : prod n A one i j = A i j := by
  show sum _ n = _
  rw [sum_one (k := j) hj (fun k _ hne => by simp only [one]; rw [if_neg hne, mul_zero])]
  simp only [one]; rw [if_pos trivial, mul_one]
theorem one_prod {n : Nat} (A : M) {i : Nat} (hi : i < n) (j : Nat) : prod n one A i j = A i j := by
  show sum _ n = _
  rw [sum_one (k := i) hi (fun k _ hne => by simp only [one]; rw [if_neg (Ne.symm hne), zero_mul])]
  simp only [one]; rw [if_pos trivial, one_mul]
theorem add_prod (n : Nat) (A B C : M) : prod n (fun i j => A i j ^^^ B i j) C = fun i j => prod n A C i j ^^^ prod n B C i j := by
  funext i j
  show sum _ n = sum _ n ^^^ sum _ n
  rw [← sum_add]
  exact sum_congr fun k _ => by rw [add_mul]

/-- Two matrices that undo each other. -/
structure Undo (n : Nat) (T S : M) : Prop where
  l : Eq2 n n (prod n S T) one
  r : Eq2 n n (prod n T S) one
theorem Undo.one (n : Nat) : Undo n one one := ⟨fun _ hi j _ => one_prod _ hi j, fun _ hi j _ => one_prod _ hi j⟩
theorem Undo.symm {n : Nat} {T S : M} (h : Undo n T S) : Undo n S T := ⟨h.r, h.l⟩
theorem Undo.step {n : Nat} {T S E F : M} (h : Undo n T S) (e : Undo n E F) : Undo n (prod n E T) (prod n S F) := by
  constructor
  · rw [prod_assoc, ← prod_assoc n n F E T]
    exact (prod_congr (Eq2.refl n n S) ((prod_congr e.l (Eq2.refl n n T)).trans fun _ hi j _ => one_prod T hi j)).trans h.l
  · rw [prod_assoc, ← prod_assoc n n T S F]
    exact (prod_congr (Eq2.refl n n E) ((prod_congr h.r (Eq2.refl n n F)).trans fun _ hi j _ => one_prod F hi j)).trans e.r
/-- Rows changed about. -/
def permE (s : Nat → Nat) : M := fun i j => if s i = j then 1 else 0
theorem permE_prod {n : Nat} {s : Nat → Nat} (A : M) {i : Nat} (hs : s i < n) (j : Nat) : prod n (permE s) A i j = A (s i) j := by
  show sum _ n = _
  rw [sum_one (k := s i) hs (fun k _ hne => by simp only [permE]; rw [if_neg (Ne.symm hne), zero_mul])]
  simp only [permE]; rw [if_pos trivial, one_mul]
theorem permE_undo {n : Nat} {s : Nat → Nat} (hs : ∀ i, i < n → s i < n) (hss : ∀ i, s (s i) = i) : Undo n (permE s) (permE s) := by
  have h : Eq2 n n (prod n (permE s) (permE s)) Gm.one := fun i hi j _ => by
    rw [permE_prod _ (hs i hi)]
    simp only [permE, Gm.one, hss]
  exact ⟨h, h⟩
/-- A row times an element. -/
def scaleE (p : Nat) (c : UInt8) : M := fun i j => if i = j then (if i = p then c else 1) else 0
theorem scaleE_prod {n : Nat} (p : Nat) (c : UInt8) (A : M) {i : Nat} (hi : i < n) (j : Nat) : prod n (scaleE p c) A i j = if i = p then mul c (A i j) else A i j := by
  show sum _ n = _
  rw [sum_one (k := i) hi (fun k _ hne => by simp only [scaleE]; rw [if_neg (Ne.symm hne), zero_mul])]
  simp only [scaleE]; rw [if_pos trivial]
  split
  · rfl
  · rw [one_mul]
theorem scaleE_undo {n p : Nat} {c d : UInt8} (h : mul c d = 1) : Undo n (scaleE p c) (scaleE p d) := by
  have h' : mul d c = 1 := by rw [mul_comm, h]
  have g : ∀ c d : UInt8, mul c d = 1 → Eq2 n n (prod n (scaleE p c) (scaleE p d)) Gm.one := fun c d h i hi j _ => by
    rw [scaleE_prod p c _ hi]
    by_cases e : i = j
    · subst e
      by_cases e2 : i = p
      · simp [scaleE, Gm.one, e2, h]
      · simp [scaleE, Gm.one, e2]
    · by_cases e2 : i = p
      · subst e2; simp [scaleE, Gm.one, e, mul_zero]
      · simp [scaleE, Gm.one, e, e2]
  exact ⟨g d c h', g c d h⟩
/-- One row, each time times an element, added to all others. -/
def clearE (p : Nat) (d : Nat → UInt8) : M := fun i j => Gm.one i j ^^^ (if i ≠ p ∧ j = p then d i else 0)
theorem clearE_prod {n p : Nat} (hp : p < n) (d : Nat → UInt8) (A : M) {i : Nat} (hi : i < n) (j : Nat) : prod n (clearE p d) A i j = if i = p then A i j else A i j ^^^ mul (d i) (A p j) := by
  have h : prod n (clearE p d) A = fun i j => prod n Gm.one A i j ^^^ prod n (fun i j => if i ≠ p ∧ j = p then d i else 0) A i j := add_prod n _ _ A
  rw [h]
  show prod n Gm.one A i j ^^^ prod n _ A i j = _
  rw [one_prod A hi]
  by_cases e : i = p
  · rw [if_pos e]
    show _ ^^^ sum _ n = _
    rw [sum_zero (fun k _ => by simp only []; rw [if_neg (fun hh => hh.1 e), zero_mul]), UInt8.xor_zero]
  · rw [if_neg e]
    show _ ^^^ sum _ n = _
    rw [sum_one (k := p) hp (fun k _ hne => by simp only []; rw [if_neg (fun hh => hne hh.2), zero_mul])]
    simp only []
    rw [if_pos ⟨e, trivial⟩]
theorem clearE_undo {n p : Nat} (hp : p < n) (d : Nat → UInt8) : Undo n (clearE p d) (clearE p d) := by
  have h : Eq2 n n (prod n (clearE p d) (clearE p d)) Gm.one := fun i hi j _ => by
    rw [clearE_prod hp d _ hi]
    by_cases e : i = p
    · subst e
      rw [if_pos rfl]
      simp only [clearE]
      rw [if_neg (fun hh => hh.1 rfl), UInt8.xor_zero]
    · rw [if_neg e]
      simp only [clearE]
      by_cases ej : j = p
      · subst ej
        rw [if_pos ⟨e, rfl⟩, if_neg (fun hh => hh.1 rfl), UInt8.xor_zero]
        simp only [Gm.one]
        rw [if_neg e, if_pos trivial, mul_one, UInt8.zero_xor, UInt8.xor_self]
      · rw [if_neg (fun hh => ej hh.2), if_neg (fun hh => ej hh.2), UInt8.xor_zero, UInt8.xor_zero]
        have hz : Gm.one p j = 0 := by simp only [Gm.one]; rw [if_neg (Ne.symm ej)]
        rw [hz, mul_zero, UInt8.xor_zero]
  exact ⟨h, h⟩

/-- The rows are sums of k rows. -/
def Spans (n m k : Nat) (A : M) : Prop := ∃ C V : M, Eq2 n m A (prod k C V)
/-- More unknowns than equations: there is a row, not nought, that makes nought of it. -/
theorem kernel : ∀ (k r : Nat) (X : M), k < r → ∃ y : Nat → UInt8, (∃ i, i < r ∧ y i ≠ 0) ∧ ∀ j, j < k → sum (fun i => mul (y i) (X i j)) r = 0
  | 0, r, X, h => ⟨fun _ => 1, ⟨0, h, by decide⟩, fun j hj => absurd hj (Nat.not_lt_zero _)⟩
  | k + 1, r, X, h => by
    by_cases hz : ∃ p, p < r ∧ X p k ≠ 0
    · obtain ⟨p, hp, hx⟩ := hz
      -- rows but p, cleared of column k by row p
      let s : Nat → Nat := fun i => if i < p then i else i + 1
      have sr : ∀ i, i < r - 1 → s i < r ∧ s i ≠ p := fun i hi => by
        show (if i < p then i else i + 1) < r ∧ (if i < p then i else i + 1) ≠ p
        split <;> omega
      let q : Nat → UInt8 := fun i => mul (X (s i) k) (inv (X p k))
      obtain ⟨y, ⟨i0, hi0, hy0⟩, hy⟩ := kernel k (r - 1) (fun i j => X (s i) j ^^^ mul (q i) (X p j)) (by omega)
      let yp : UInt8 := sum (fun i => mul (y i) (q i)) (r - 1)
      let z : Nat → UInt8 := fun i => if i = p then yp else if i < p then y i else y (i - 1)
      have hs : ∀ f : Nat → UInt8, sum f r = f p ^^^ sum (fun i => f (s i)) (r - 1) := by
        intro f
        have key : ∀ n, sum f (n + 1) = if n < p then sum (fun i => f (s i)) (n + 1) else f p ^^^ sum (fun i => f (s i)) n := by
          intro n
          induction n with
          | zero =>
            by_cases e : 0 < p
            · rw [if_pos e]
              show 0 ^^^ f 0 = 0 ^^^ f (if 0 < p then 0 else 0 + 1)
              rw [if_pos e]
            · rw [if_neg e]
              have e0 : p = 0 := by omega
              show 0 ^^^ f 0 = f p ^^^ 0
              rw [e0, UInt8.zero_xor, UInt8.xor_zero]
          | succ n ih =>
            show sum f (n + 1) ^^^ f (n + 1) = _
            rw [ih]
            by_cases e : n + 1 < p
            · rw [if_pos (by omega), if_pos e]
              show _ = sum (fun i => f (s i)) (n + 1) ^^^ f (if n + 1 < p then n + 1 else n + 1 + 1)
              rw [if_pos e]
            · rw [if_neg e]
              by_cases e2 : n < p
              · rw [if_pos e2]
                have e3 : n + 1 = p := by omega
                rw [e3, UInt8.xor_comm]
              · rw [if_neg e2]
                show _ = f p ^^^ (sum (fun i => f (s i)) n ^^^ f (if n < p then n else n + 1))
                rw [if_neg e2, UInt8.xor_assoc]
        have h1 := key (r - 1)
        rw [show r - 1 + 1 = r by omega] at h1
        rw [h1]
        by_cases e : r - 1 < p
        · omega
        · rw [if_neg e]
      have hzs : ∀ i, i < r - 1 → z (s i) = y i := fun i hi => by
        show (if s i = p then yp else if s i < p then y (s i) else y (s i - 1)) = y i
        rw [if_neg (sr i hi).2]
        by_cases e : i < p
        · have : s i = i := if_pos e
          rw [this, if_pos e]
        · have : s i = i + 1 := if_neg e
          rw [this, if_neg (by omega), Nat.add_sub_cancel]
      refine ⟨z, ⟨s i0, (sr i0 hi0).1, by rw [hzs i0 hi0]; exact hy0⟩, fun j hj => ?_⟩
      rw [hs]
      have hzp : z p = yp := if_pos rfl
      have e1 : sum (fun i => mul (z (s i)) (X (s i) j)) (r - 1) = sum (fun i => mul (y i) (X (s i) j)) (r - 1) := sum_congr fun i hi => by rw [hzs i hi]
      rw [hzp, e1]
      have e2 : mul yp (X p j) = sum (fun i => mul (y i) (mul (q i) (X p j))) (r - 1) := by
        show mul (sum _ _) _ = _
        rw [sum_mul]
        exact sum_congr fun i _ => by rw [mul_assoc]
      rw [e2, ← sum_add]
      by_cases ej : j = k
      · subst ej
        refine sum_zero fun i _ => ?_
        rw [← mul_add]
        have : mul (q i) (X p j) = X (s i) j := by
          show mul (mul (X (s i) j) (inv (X p j))) (X p j) = _
          rw [mul_assoc, inv_mul hx, mul_one]
        rw [this, UInt8.xor_self, mul_zero]
      · have := hy j (by omega)
        rw [← this]
        exact sum_congr fun i _ => by rw [← mul_add, UInt8.xor_comm]
    · obtain ⟨y, hy0, hy⟩ := kernel k r X (by omega)
      refine ⟨y, hy0, fun j hj => ?_⟩
      by_cases ej : j = k
      · subst ej
        refine sum_zero fun i hi => ?_
        have : X i j = 0 := by
          rcases Classical.em (X i j = 0) with h0 | h0
          · exact h0
          · exact absurd ⟨i, hi, h0⟩ hz
        rw [this, mul_zero]
      · exact hy j (by omega)
/-- The unit of r rows is no sum of less than r rows. -/
theorem unit_spans {r m k : Nat} {X : M} (p : Nat → Nat) (hp : ∀ i, i < r → p i < m) (hX : ∀ i, i < r → ∀ j, j < r → X i (p j) = one i j) (h : Spans r m k X) : r ≤ k := by
  rcases Nat.lt_or_ge k r with hk | hk
  · obtain ⟨C, V, hCV⟩ := h
    obtain ⟨y, ⟨i0, hi0, hy0⟩, hy⟩ := kernel k r C hk
    exfalso
    apply hy0
    have h1 : sum (fun i => mul (y i) (X i (p i0))) r = y i0 := by
      rw [sum_one (k := i0) hi0 (fun j hj hne => by rw [hX j hj i0 hi0]; simp only [one]; rw [if_neg hne, mul_zero]), hX i0 hi0 i0 hi0]
      simp only [one]; rw [if_pos trivial, mul_one]
    rw [← h1]
    have h2 : sum (fun i => mul (y i) (X i (p i0))) r = sum (fun i => mul (y i) (sum (fun t => mul (C i t) (V t (p i0))) k)) r := sum_congr fun i hi => by rw [hCV i hi _ (hp i0 hi0)]; rfl
    rw [h2]
    have h3 : (fun i => mul (y i) (sum (fun t => mul (C i t) (V t (p i0))) k)) = fun i => sum (fun t => mul (mul (y i) (C i t)) (V t (p i0))) k := by
      funext i; rw [mul_sum]; exact sum_congr fun t _ => by rw [mul_assoc]
    rw [h3, sum_swap]
    refine sum_zero fun t ht => ?_
    have := hy t ht
    have h4 : sum (fun i => mul (mul (y i) (C i t)) (V t (p i0))) r = mul (sum (fun i => mul (y i) (C i t)) r) (V t (p i0)) := by rw [sum_mul]
    rw [h4, this, zero_mul]
  · exact hk
theorem spans_of_prod {n m q k : Nat} {A B D : M} (h : Spans q m k B) (ha : Eq2 n m A (prod q D B)) : Spans n m k A := by
  obtain ⟨C, V, hCV⟩ := h
  refine ⟨prod q D C, V, ha.trans ?_⟩
  rw [prod_assoc]
  exact prod_congr (Eq2.refl n q D) hCV
theorem spans_prod {n m q k : Nat} {A B D : M} (h : Spans n q k A) (ha : Eq2 n m D (prod q A B)) : Spans n m k D := by
  obtain ⟨C, V, hCV⟩ := h
  refine ⟨C, prod q V B, ha.trans ?_⟩
  rw [← prod_assoc]
  exact prod_congr hCV (Eq2.refl q m B)
end Gm
