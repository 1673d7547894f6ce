/- Several texts in one: Slices of int: how they read. More words for memory: stores into what is new, rows that grow, draws. No statement of the seat is proved here. -/
import Derived.Test.YtaaegbccejjjcaaCt1
import Derived.Test.YtaaegbccejjjcaaCt4
namespace Go.Proofs.Ytaaegbccejjjcaa
open Go.RowKit

/-- Whole numbers as cells. -/
def icells (l : List Int) : List Value := l.map fun x => .int .i64 x
theorem icells_length (l : List Int) : (icells l).length = l.length := by simp [icells]
theorem icells_append (l m : List Int) : icells (l ++ m) = icells l ++ icells m := by simp [icells]
theorem icells_set (l : List Int) (k : Nat) (x : Int) : icells (l.set k x) = (icells l).set k (.int .i64 x) := by simp [icells, List.map_set]
theorem icells_get {l : List Int} {k : Nat} (h : k < l.length) : (icells l)[k]? = some (.int .i64 (Il.get l k)) := by simp [icells, Il.get, h]
theorem icells_one (l : List Int) : ∀ u ∈ icells l, u.oneCell' = true := by
  intro u hu
  simp only [icells, List.mem_map] at hu
  obtain ⟨x, _, rfl⟩ := hu
  rfl
theorem Rd.intAt {w : World} {n : Nat} {A : Option Addr} {l : List Int} (h : Rd w 1 A n (icells l)) {k : Nat} (hk : k < n) :
    ∃ b off, A = some ⟨b, off, none⟩ ∧ w.cell? ⟨b, off + k, none⟩ = some (.int .i64 (Il.get l k)) := by
  obtain ⟨b, off, u, e, hu, hc⟩ := h.at_ hk
  refine ⟨b, off, e, ?_⟩
  rw [hc]
  simp only [icells, List.getElem?_map, Option.map_eq_some_iff] at hu
  obtain ⟨x, hx, rfl⟩ := hu
  simp [Il.get, hx]
/-- A slice of int. -/
structure Is (w : World) (A : Option Addr) (n c : Nat) (l : List Int) : Prop where
  len : l.length = n
  le : n ≤ c
  max : c ≤ 9223372036854775807
  rd : Rd w 1 A n (icells l)
theorem Is.ext {w w' : World} {A : Option Addr} {n c : Nat} {l : List Int} (h : Is w A n c l) (hx : Ext w w') : Is w' A n c l := ⟨h.len, h.le, h.max, h.rd.ext hx⟩
theorem Is.take {w : World} {A : Option Addr} {n c k : Nat} {l : List Int} (h : Is w A n c l) (hk : k ≤ n) : Is w A k c (l.take k) := by
  refine ⟨by rw [List.length_take, h.len]; omega, by have := h.le; omega, h.max, ?_, fun h0 => ?_⟩
  · rw [icells_length, List.length_take, h.len]; omega
  · obtain ⟨b, off, e, hc⟩ := h.rd.2 (by omega)
    refine ⟨b, off, e, fun j u hu => hc j u ?_⟩
    simp only [icells, List.getElem?_map, List.getElem?_take] at hu ⊢
    split at hu
    · exact hu
    · simp at hu
theorem Is.none (w : World) : Is w none 0 0 [] := ⟨rfl, Nat.le_refl _, by omega, Rd.nil _ _ _⟩
theorem Is.nil_of_none {w : World} {n c : Nat} {l : List Int} (h : Is w .none n c l) : l = [] := by
  rcases Nat.eq_zero_or_pos n with h0 | h0
  · exact List.eq_nil_of_length_eq_zero (by rw [h.len]; exact h0)
  · obtain ⟨b, off, h, _⟩ := h.rd.2 h0
    cases h
theorem Is.lit (w : World) (g : Nat) (hg : w.heap.size = g) (l : List Int) (cs : Array Value) (t : TypeId) (n : Nat) (hn : l.length = n) (h : cs.toList = icells l) (hl : n ≤ 1000) : Is (w.alloc (.cells cs t)) (some ⟨g, 0, .none⟩) n n l := by
  subst hn
  subst hg
  have hs : cs.size = l.length := by rw [← Array.length_toList, h, icells_length]
  refine ⟨rfl, Nat.le_refl _, by omega, ?_⟩
  have := Rd.lit w cs t
  rwa [h, hs] at this

theorem int_info : (Try.prog.info? 3).map (fun i => (i.zero, i.size, i.bytes)) = some (some (.int .i64 0), 1, 8) := by kernel_rfl
/-- A list of int handed back in memory of the call's own. -/
structure NewInts (w w' : World) (v : Value) (l : List Int) : Prop where
  own : w'.ownsRow w.heap.size 3 1 v l.length (icells l)
  ext : Ext w w'
theorem Own.ints {base n c : Nat} {w : World} {e : TypeId} {A : Option Addr} {l : List Int} (h : Own base w e 1 A n c (icells l)) : Is w A n c l :=
  ⟨by have := h.own.1; rw [icells_length] at this; omega, h.caps.1, h.caps.2, h.rd⟩
theorem NewInts.is {w w' : World} {v : Value} {l : List Int} (h : NewInts w w' v l) : ∃ A c, v = .slice A l.length c ∧ Is w' A l.length c l := by
  obtain ⟨A, c, rfl, _, _⟩ := ownsRow_slice h.own
  exact ⟨A, c, rfl, (Own.mk (base := w.heap.size) (e := 3) h.own).ints⟩

end Go.Proofs.Ytaaegbccejjjcaa
namespace Go.Proofs.Ytaaegbccejjjcaa
open Go.RowKit

theorem Ext.set_ {w w1 : World} (h : Ext w w1) {p : Addr} (hp : w.heap.size ≤ p.block) (v : Value) : Ext w (w1.setCell p v) := Below.setCell h hp v
/-- A row of one's own is not touched by a store below. -/
theorem ownsRow_far {w : World} {base size n : Nat} {e : TypeId} {v : Value} {xs : List Value} (h : w.ownsRow base e size v n xs) {p : Addr} (hp : p.block < base) (u : Value) : (w.setCell p u).ownsRow base e size v n xs := ownsRow_setCell_below h hp u

theorem Is.grown {w w' : World} {A : Option Addr} {n c : Nat} {l : List Int} (h : Is w A n c l) {row : Option Nat} (hg : w.grownBy w' row) (ho : 0 < n → ∀ b, (A.map (·.block)) = some b → row ≠ some b) : Is w' A n c l := by
  refine ⟨h.len, h.le, h.max, h.rd.1, fun hn => ?_⟩
  obtain ⟨b, off, e, hc⟩ := h.rd.2 hn
  refine ⟨b, off, e, fun j u hu => hg.cell (hc j u hu) ?_⟩
  subst e
  exact fun e => ho hn b rfl e.symm
/-- Another row of the call's own grows. -/
theorem ownsRow_grown {w w' : World} {base size n : Nat} {e : TypeId} {v : Value} {xs : List Value} {row : Option Nat} (h : w.ownsRow base e size v n xs) (hg : w.grownBy w' row) (hv : v.ownBlock = none ∨ v.ownBlock ≠ row) : w'.ownsRow base e size v n xs := by
  refine ⟨h.1, ?_⟩
  rcases h.2 with h1 | ⟨b, cap, cur, h1, h2, h3, h4⟩
  · exact .inl h1
  · refine .inr ⟨b, cap, cur, h1, h2, ?_, h4⟩
    have hb : b < w.heap.size := (Array.getElem?_eq_some_iff.1 h3).1
    rw [hg.block b hb ?_]
    · exact h3
    · intro e
      subst h1
      rcases hv with hv | hv
      · simp [Value.ownBlock] at hv
      · exact hv (by simpa [Value.ownBlock] using e)
/-- Two rows of the call's own that are apart. -/
theorem apart_symm {u v : Value} (h : u.ownBlock = none ∨ u.ownBlock ≠ v.ownBlock) : v.ownBlock = none ∨ v.ownBlock ≠ u.ownBlock := by
  rcases h with h | h
  · rw [h]
    cases hv : v.ownBlock with
    | none => exact .inl rfl
    | some q => exact .inr (by simp)
  · exact .inr (Ne.symm h)
theorem apart_step {u v v' : Value} {N : Nat} (h : u.ownBlock = none ∨ u.ownBlock ≠ v.ownBlock) (hat : v'.ownBlock = v.ownBlock ∨ v'.ownBlock = some N) (hlt : ∀ q, u.ownBlock = some q → q < N) : u.ownBlock = none ∨ u.ownBlock ≠ v'.ownBlock := by
  rcases hat with e | e <;> rw [e]
  · exact h
  · exact .inr (fun hu => by have := hlt _ hu; omega)
theorem cell_two (w : World) (x y : Value) (t s : TypeId) : ((w.alloc (.cells #[x] t)).alloc (.cells #[y] s)).cell? ⟨w.heap.size + 1, 0, none⟩ = some y := by
  have h : w.heap.size + 1 = (w.alloc (.cells #[x] t)).heap.size := by simp
  rw [h, World.cell?_alloc_new]; rfl
theorem Ext.drew (w : World) : Ext w w.drew := Below.drew (Ext.refl w)
theorem Ext.thenDrew {w w1 : World} (h : Ext w w1) : Ext w w1.drew := h.trans (Ext.drew _)
theorem Is.up {w : World} {A : Option Addr} {n c : Nat} {l : List Int} (h : Is w A n c l) (o : Obj) : Is (w.alloc o) A n c l := h.ext (Ext.alloc _ _)
theorem Is.drw {w : World} {A : Option Addr} {n c : Nat} {l : List Int} (h : Is w A n c l) : Is w.drew A n c l := h.ext (Ext.drew _)
theorem Is.drwN {w : World} {A : Option Addr} {n c : Nat} {l : List Int} (h : Is w A n c l) (q : Nat) : Is (w.drewN q) A n c l := h.ext (Ext.drewN _ _)
/-- One number, written out. -/
theorem is_one (w : World) (t : TypeId) (k : Int) {g : Nat} (hg : w.heap.size = g) : Is (w.alloc (.cells #[.int .i64 k] t)) (some ⟨g, 0, none⟩) 1 1 [k] := Is.lit w g hg [k] _ t 1 rfl rfl (by omega)
end Go.Proofs.Ytaaegbccejjjcaa
