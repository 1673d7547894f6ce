/- Several texts in one: More words for memory: stores into what is new, rows that grow, draws. No statement of the seat is proved here. Slices of slices of bytes: how they read, and how they are written. No statement of the seat is proved here. -/
import Derived.Test.YtbfbiofndipaaaaCt5
import Derived.Test.YtbfbiofndipaaaaCt4
namespace Go.Proofs.Ytbfbiofndipaaaa
open Go.RowKit

theorem Ext.set_ {w w1 : World} (h : Ext w w1) {p : Addr} (hp : w.heap.size ≤ p.block) (v : Value) : Ext w (w1.setCell p v) := Below.setCell h hp v
/-- A row of one's own is not touched by a store below. -/
theorem ownsRow_far {w : World} {base size n : Nat} {e : TypeId} {v : Value} {xs : List Value} (h : w.ownsRow base e size v n xs) {p : Addr} (hp : p.block < base) (u : Value) : (w.setCell p u).ownsRow base e size v n xs := ownsRow_setCell_below h hp u

theorem Is.grown {w w' : World} {A : Option Addr} {n c : Nat} {l : List Int} (h : Is w A n c l) {row : Option Nat} (hg : w.grownBy w' row) (ho : 0 < n → ∀ b, (A.map (·.block)) = some b → row ≠ some b) : Is w' A n c l := by
  refine ⟨h.len, h.le, h.max, h.rd.1, fun hn => ?_⟩
  obtain ⟨b, off, e, hc⟩ := h.rd.2 hn
  refine ⟨b, off, e, fun j u hu => hg.cell (hc j u hu) ?_⟩
  subst e
  exact fun e => ho hn b rfl e.symm
/-- Another row of the call's own grows. -/
theorem ownsRow_grown {w w' : World} {base size n : Nat} {e : TypeId} {v : Value} {xs : List Value} {row : Option Nat} (h : w.ownsRow base e size v n xs) (hg : w.grownBy w' row) (hv : v.ownBlock = none ∨ v.ownBlock ≠ row) : w'.ownsRow base e size v n xs := by
  refine ⟨h.1, ?_⟩
  rcases h.2 with h1 | ⟨b, cap, cur, h1, h2, h3, h4⟩
  · exact .inl h1
  · refine .inr ⟨b, cap, cur, h1, h2, ?_, h4⟩
    have hb : b < w.heap.size := (Array.getElem?_eq_some_iff.1 h3).1
    rw [hg.block b hb ?_]
    · exact h3
    · intro e
      subst h1
      rcases hv with hv | hv
      · simp [Value.ownBlock] at hv
      · exact hv (by simpa [Value.ownBlock] using e)
/-- Two rows of the call's own that are apart. -/
theorem apart_symm {u v : Value} (h : u.ownBlock = none ∨ u.ownBlock ≠ v.ownBlock) : v.ownBlock = none ∨ v.ownBlock ≠ u.ownBlock := by
  rcases h with h | h
  · rw [h]
    cases hv : v.ownBlock with
    | none => exact .inl rfl
    | some q => exact .inr (by simp)
  · exact .inr (Ne.symm h)
theorem apart_step {u v v' : Value} {N : Nat} (h : u.ownBlock = none ∨ u.ownBlock ≠ v.ownBlock) (hat : v'.ownBlock = v.ownBlock ∨ v'.ownBlock = some N) (hlt : ∀ q, u.ownBlock = some q → q < N) : u.ownBlock = none ∨ u.ownBlock ≠ v'.ownBlock := by
  rcases hat with e | e <;> rw [e]
  · exact h
  · exact .inr (fun hu => by have := hlt _ hu; omega)
theorem cell_two (w : World) (x y : Value) (t s : TypeId) : ((w.alloc (.cells #[x] t)).alloc (.cells #[y] s)).cell? ⟨w.heap.size + 1, 0, none⟩ = some y := by
  have h : w.heap.size + 1 = (w.alloc (.cells #[x] t)).heap.size := by simp
  rw [h, World.cell?_alloc_new]; rfl
theorem Ext.drew (w : World) : Ext w w.drew := Below.drew (Ext.refl w)
theorem Ext.thenDrew {w w1 : World} (h : Ext w w1) : Ext w w1.drew := h.trans (Ext.drew _)
theorem Is.up {w : World} {A : Option Addr} {n c : Nat} {l : List Int} (h : Is w A n c l) (o : Obj) : Is (w.alloc o) A n c l := h.ext (Ext.alloc _ _)
theorem Is.drw {w : World} {A : Option Addr} {n c : Nat} {l : List Int} (h : Is w A n c l) : Is w.drew A n c l := h.ext (Ext.drew _)
theorem Is.drwN {w : World} {A : Option Addr} {n c : Nat} {l : List Int} (h : Is w A n c l) (q : Nat) : Is (w.drewN q) A n c l := h.ext (Ext.drewN _ _)
/-- One number, written out. -/
theorem is_one (w : World) (t : TypeId) (k : Int) {g : Nat} (hg : w.heap.size = g) : Is (w.alloc (.cells #[.int .i64 k] t)) (some ⟨g, 0, none⟩) 1 1 [k] := Is.lit w g hg [k] _ t 1 rfl rfl (by omega)
end Go.Proofs.Ytbfbiofndipaaaa
namespace Go.Proofs.Ytbfbiofndipaaaa
open Go.RowKit

/-- Cells that are slices, each of which reads as a row. -/
structure Rows (w : World) (cs : List Value) (m : Gm.L) : Prop where
  len : cs.length = m.length
  at_ : ∀ i, i < m.length → ∃ A n c, cs[i]? = some (.slice A n c) ∧ Bs w A n c (Gm.row m i)
theorem Rows.ext {w w' : World} {cs : List Value} {m : Gm.L} (h : Rows w cs m) (hx : Ext w w') : Rows w' cs m :=
  ⟨h.len, fun i hi => by obtain ⟨A, n, c, e, hb⟩ := h.at_ i hi; exact ⟨A, n, c, e, hb.ext hx⟩⟩
theorem Rows.nil (w : World) : Rows w [] [] := ⟨rfl, fun _ h => absurd h (Nat.not_lt_zero _)⟩
theorem row_append_last (m : Gm.L) (r : List UInt8) : Gm.row (m ++ [r]) m.length = r := by simp [Gm.row]
theorem row_append_lt {m : Gm.L} {i : Nat} (r : List UInt8) (h : i < m.length) : Gm.row (m ++ [r]) i = Gm.row m i := by simp [Gm.row, List.getD_eq_getElem?_getD, List.getElem?_append_left h]
theorem Rows.snoc {w : World} {cs : List Value} {m : Gm.L} (h : Rows w cs m) {A : Option Addr} {n c : Nat} {r : List UInt8} (hb : Bs w A n c r) : Rows w (cs ++ [.slice A n c]) (m ++ [r]) := by
  refine ⟨by simp [h.len], fun i hi => ?_⟩
  rw [List.length_append] at hi
  by_cases e : i < m.length
  · obtain ⟨A', n', c', e', hb'⟩ := h.at_ i e
    refine ⟨A', n', c', ?_, by rw [row_append_lt _ e]; exact hb'⟩
    rw [List.getElem?_append_left (by rw [h.len]; exact e)]
    exact e'
  · have hi' : i = m.length := by simp at hi; omega
    subst hi'
    refine ⟨A, n, c, ?_, by rw [row_append_last]; exact hb⟩
    rw [← h.len, List.getElem?_append_right (Nat.le_refl _)]
    simp
theorem Rows.one {w : World} {cs : List Value} {m : Gm.L} (h : Rows w cs m) : ∀ u ∈ cs, u.oneCell' = true := by
  intro u hu
  obtain ⟨i, hi, e⟩ := List.mem_iff_getElem.1 hu
  obtain ⟨A, n, c, e', _⟩ := h.at_ i (by rw [← h.len]; exact hi)
  rw [List.getElem?_eq_getElem hi] at e'
  injection e' with e'
  rw [← e, e']
  rfl
theorem Rows.set {w : World} {cs : List Value} {m : Gm.L} (h : Rows w cs m) (i : Nat) {A : Option Addr} {n c : Nat} {r : List UInt8} (hb : Bs w A n c r) : Rows w (cs.set i (.slice A n c)) (m.set i r) := by
  refine ⟨by simp [h.len], fun j hj => ?_⟩
  rw [List.length_set] at hj
  by_cases e : i = j
  · subst e
    exact ⟨A, n, c, by rw [List.getElem?_set, if_pos rfl, if_pos (by rw [h.len]; exact hj)], by rw [Gm.row_set _ hj, if_pos rfl]; exact hb⟩
  · obtain ⟨A', n', c', e', hb'⟩ := h.at_ j hj
    refine ⟨A', n', c', by rw [List.getElem?_set, if_neg e]; exact e', ?_⟩
    have : Gm.row (m.set i r) j = Gm.row m j := by
      unfold Gm.row
      rw [List.getD_eq_getElem?_getD, List.getD_eq_getElem?_getD, List.getElem?_set, if_neg e]
    rw [this]; exact hb'
/-- A slice of slices of bytes. -/
structure Mx (w : World) (A : Option Addr) (n c : Nat) (m : Gm.L) : Prop where
  len : m.length = n
  le : n ≤ c
  max : c ≤ 9223372036854775807
  rd : ∃ cs, Rd w 1 A n cs ∧ Rows w cs m
theorem Mx.ext {w w' : World} {A : Option Addr} {n c : Nat} {m : Gm.L} (h : Mx w A n c m) (hx : Ext w w') : Mx w' A n c m := by
  obtain ⟨cs, h1, h2⟩ := h.rd
  exact ⟨h.len, h.le, h.max, cs, h1.ext hx, h2.ext hx⟩
theorem Mx.at_ {w : World} {A : Option Addr} {n c : Nat} {m : Gm.L} (h : Mx w A n c m) {i : Nat} (hi : i < n) :
    ∃ b off Ai ni ci, A = some ⟨b, off, .none⟩ ∧ w.cell? ⟨b, off + i, .none⟩ = some (.slice Ai ni ci) ∧ Bs w Ai ni ci (Gm.row m i) := by
  obtain ⟨cs, h1, h2⟩ := h.rd
  obtain ⟨Ai, ni, ci, e, hb⟩ := h2.at_ i (by rw [h.len]; exact hi)
  obtain ⟨b, off, u, hA, hu, hc⟩ := h1.at_ hi
  rw [e] at hu
  injection hu with hu
  subst hu
  exact ⟨b, off, Ai, ni, ci, hA, hc, hb⟩
theorem Mx.none (w : World) : Mx w none 0 0 [] := ⟨rfl, Nat.le_refl _, by omega, [], Rd.nil _ _ _, Rows.nil _⟩
theorem Mx.own {w : World} {base : Nat} {e : TypeId} {v : Value} {m : Gm.L} {cs : List Value} (h : w.ownsRow base e 1 v m.length cs) (hr : Rows w cs m) : ∃ A c, v = .slice A m.length c ∧ Mx w A m.length c m := by
  obtain ⟨A, c, rfl, h1, h2⟩ := ownsRow_slice h
  exact ⟨A, c, rfl, rfl, h1, h2, cs, Rd.of_own h, hr⟩
theorem bytes_info : (Try.prog.info? 34).map (fun i => (i.zero, i.size, i.bytes)) = some (some (.slice none 0 0), 1, 24) := by kernel_rfl
/-- A matrix is handed back. -/
def GivesM (m : Gm.L) (w : World) (e : Ending) (w' : World) : Prop := ∃ A c, e = .returned (.slice A m.length c) ∧ Mx w' A m.length c m ∧ Ext w w'
/-- A matrix is handed back, with an error. -/
def GivesME (m : Gm.L) (err : Int) (w : World) (e : Ending) (w' : World) : Prop := ∃ A c, e = .returned (.tuple #[.slice A m.length c, .int .i64 err]) ∧ Mx w' A m.length c m ∧ Ext w w'
theorem GivesME.of {m m' : Gm.L} {e e' : Int} {w : World} {x : Ending} {w' : World} (h : GivesME m e w x w') (hm : m = m') (he : e = e') : GivesME m' e' w x w' := by rw [← hm, ← he]; exact h

/-- A matrix whose outer row is block g, whole; its rows are in no block of a kind. -/
structure Mo (w : World) (g n : Nat) (P : Nat → Prop) (m : Gm.L) : Prop where
  len : m.length = n
  blk : ∃ cs : Array Value, w.heap[g]? = some (.cells cs 34 (0, 0)) ∧ cs.size = n ∧ Rows w cs.toList m ∧ ∀ (i : Nat) (A : Option Addr) (k c : Nat), cs[i]? = some (.slice A k c) → 0 < k → ∀ b, A.map (·.block) = some b → ¬ P b
section
variable {w w' : World} {g n : Nat} {P : Nat → Prop} {m : Gm.L}
theorem Mo.lt (h : Mo w g n P m) : g < w.heap.size := by
  obtain ⟨cs, h1, _⟩ := h.blk
  exact (Array.getElem?_eq_some_iff.1 h1).1
theorem Mo.ext (h : Mo w g n P m) (hx : Ext w w') : Mo w' g n P m := by
  obtain ⟨cs, h1, h2, h3, h4⟩ := h.blk
  exact ⟨h.len, cs, (hx.block g h.lt).trans h1, h2, h3.ext hx, h4⟩
theorem Mo.at_ (h : Mo w g n P m) {i : Nat} (hi : i < n) : ∃ A k c, w.cell? ⟨g, i, none⟩ = some (.slice A k c) ∧ Bs w A k c (Gm.row m i) ∧ (0 < k → ∀ b, A.map (·.block) = some b → ¬ P b) := by
  obtain ⟨cs, h1, h2, h3, h4⟩ := h.blk
  obtain ⟨A, k, c, e, hb⟩ := h3.at_ i (by rw [h.len]; exact hi)
  have e' : cs[i]? = some (.slice A k c) := by simpa using e
  exact ⟨A, k, c, by rw [cell_of_row w _ _ _ _ _ h1]; simpa using e', hb, h4 i A k c e'⟩
theorem Mo.fz (h : Mo w g n P m) (j : Nat) : w.frozen? ⟨g, j, none⟩ = false := by
  obtain ⟨cs, h1, _⟩ := h.blk
  exact frozen_of_row w _ _ _ _ h1
theorem Mo.mx (h : Mo w g n P m) (hn : n ≤ 1000000) : Mx w (some ⟨g, 0, none⟩) n n m := by
  obtain ⟨cs, h1, h2, h3, _⟩ := h.blk
  refine ⟨h.len, Nat.le_refl _, by omega, cs.toList, ⟨by simp [h2], fun _ => ⟨g, 0, rfl, fun j u hu => ?_⟩⟩, h3⟩
  rw [Nat.zero_add, cell_of_row w _ _ _ _ _ h1]
  simpa using hu
theorem Bs.far {A : Option Addr} {k c : Nat} {r : List UInt8} (h : Bs w A k c r) {q : Addr} (hq : 0 < k → ∀ b, A.map (·.block) = some b → q.block ≠ b) (u : Value) : Bs (w.setCell q u) A k c r := by
  refine ⟨h.len, h.le, h.max, h.rd.1, fun hk => ?_⟩
  obtain ⟨b, o, e, hc⟩ := h.rd.2 hk
  subst e
  refine ⟨b, o, rfl, fun j x hx => ?_⟩
  rw [World.cell?_setCell_other _ _ _ _ (fun e => hq hk b rfl (by rw [e]))]
  exact hc j x hx
theorem Rows.far {cs : List Value} (h : Rows w cs m) {q : Addr} (hq : ∀ (i : Nat) (A : Option Addr) (k c : Nat), cs[i]? = some (.slice A k c) → 0 < k → ∀ b, A.map (·.block) = some b → q.block ≠ b) (u : Value) : Rows (w.setCell q u) cs m :=
  ⟨h.len, fun i hi => by obtain ⟨A, k, c, e, hb⟩ := h.at_ i hi; exact ⟨A, k, c, e, hb.far (hq i A k c e) u⟩⟩
/-- A store into another block of the kind. -/
theorem Mo.far (h : Mo w g n P m) {q : Addr} (hq : P q.block) (hg : q.block ≠ g) (u : Value) : Mo (w.setCell q u) g n P m := by
  obtain ⟨cs, h1, h2, h3, h4⟩ := h.blk
  refine ⟨h.len, cs, (heap_setCell_other w q g u (fun e => hg e.symm)).trans h1, h2, h3.far (fun i A k c e hk b hb e' => ?_) u, h4⟩
  exact h4 i A k c (by simpa using e) hk b hb (e' ▸ hq)
/-- A row is stored. -/
theorem Mo.set (h : Mo w g n P m) (hg : P g) {i : Nat} {A : Option Addr} {k c : Nat} {r : List UInt8} (hb : Bs w A k c r) (hp : 0 < k → ∀ b, A.map (·.block) = some b → ¬ P b) : Mo (w.setCell ⟨g, i, none⟩ (.slice A k c)) g n P (m.set i r) := by
  obtain ⟨cs, h1, h2, h3, h4⟩ := h.blk
  have hb' := hb.far (q := ⟨g, i, .none⟩) (fun hk b e e' => hp hk b e (by show P b; rw [← e']; exact hg)) (.slice A k c)
  have hr := h3.far (q := ⟨g, i, .none⟩) (fun j A k c e hk b hb e' => h4 j A k c (by simpa using e) hk b hb (by show P b; rw [← e']; exact hg)) (.slice A k c)
  refine ⟨by rw [List.length_set]; exact h.len, cs.setIfInBounds i (.slice A k c), heap_setCell_same w g i _ _ _ h1, by simp [h2], ?_, ?_⟩
  · have := hr.set i hb'
    simpa using this
  · intro j A' k' c' e hk b hb2
    rw [Array.getElem?_setIfInBounds] at e
    split at e
    · split at e
      · injection e with e
        injection e with e1 e2 e3
        subst e1 e2
        exact hp hk b hb2
      · cases e
    · exact h4 j A' k' c' e hk b hb2
theorem Mo.mono {P' : Nat → Prop} (h : Mo w g n P m) (hp : ∀ b, b < w.heap.size → P' b → P b) : Mo w g n P' m := by
  obtain ⟨cs, h1, h2, h3, h4⟩ := h.blk
  refine ⟨h.len, cs, h1, h2, h3, fun i A k c e hk b hb hP => h4 i A k c e hk b hb (hp b ?_ hP)⟩
  obtain ⟨A', k', c', e', hb'⟩ := h3.at_ i (by have := (Array.getElem?_eq_some_iff.1 e).1; rw [h.len, ← h2]; exact this)
  rw [show cs.toList[i]? = cs[i]? by simp, e] at e'
  injection e' with e'
  injection e' with e1 e2 e3
  subst e1 e2 e3
  obtain ⟨b', o, eA, hc⟩ := hb'.rd.2 hk
  subst eA
  injection hb with hb
  obtain ⟨_, o2, e3, hc2⟩ := hb'.rd.byte hk
  injection e3 with e3
  injection e3 with e3 e4
  have := World.block_lt_of_cell? _ _ hc2
  rw [← hb]
  have h9 : b' < w.heap.size := by rw [e3]; exact this
  exact h9
end
end Go.Proofs.Ytbfbiofndipaaaa
