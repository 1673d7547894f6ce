/- Several texts in one: The blocks of a matrix of one's own. No statement of the seat is proved here. Lists of matrices: how they read, and how they are made. No statement of the seat is proved here. -/
import Derived.Test.YtfpcldkfmcnjkaaCt4
namespace Go.Proofs.Ytfpcldkfmcnjkaa
open Go.RowKit

/-- The blocks of a matrix of one's own. -/
def Foot (v : Value) (cs : List Value) (q : Nat) : Prop := v.ownBlock = some q ∨ ∃ (i : Nat) (u : Value), cs[i]? = some u ∧ u.ownBlock = some q
theorem Mq.foot {w : World} {base n : Nat} {P : Nat → Prop} {v : Value} {cs : List Value} {m : Gm.L} (h : Mq w base P v n cs m) {q : Nat} (hq : Foot v cs q) : base ≤ q ∧ q < w.heap.size := by
  rcases hq with hq | ⟨i, u, hu, hq⟩
  · exact h.own.lt q hq
  · exact h.block hu hq
/-- What grows another block leaves it as it is. -/
theorem Mq.grown {w w' : World} {base n : Nat} {P : Nat → Prop} {v : Value} {cs : List Value} {m : Gm.L} {row : Option Nat} (h : Mq w base P v n cs m) (hg : w.grownBy w' row) (hr : ∀ q, row = some q → ¬ Foot v cs q) : Mq w' base P v n cs m := by
  have one : ∀ {size : Nat} {e : TypeId} {u : Value} {k : Nat} {xs : List Value}, w.ownsRow base e size u k xs → (∀ q, u.ownBlock = some q → Foot v cs q) → w'.ownsRow base e size u k xs := fun {size e u k xs} ho hf => by
    refine ownsRow_grown ho hg ?_
    cases hq : u.ownBlock with
    | none => exact .inl rfl
    | some q => exact .inr (fun e2 => hr q e2.symm (hf q hq))
  exact ⟨h.len, one h.own (fun q hq => .inl hq), fun i hi => by
    obtain ⟨A, c, e, ho⟩ := h.row i hi
    exact ⟨A, c, e, one ho (fun q hq => .inr ⟨i, _, e, hq⟩)⟩, h.cool, h.hot, h.apart⟩
end Go.Proofs.Ytfpcldkfmcnjkaa
namespace Go.Proofs.Ytfpcldkfmcnjkaa
open Go.RowKit

/-- One of a list of matrices. -/
def sget (ss : List Gm.L) (i : Nat) : Gm.L := ss.getD i []
theorem sget_of_lt {ss : List Gm.L} {i : Nat} (h : i < ss.length) : sget ss i = ss[i] := by simp [sget, h]
theorem sget_append_lt {ss : List Gm.L} {i : Nat} (s : Gm.L) (h : i < ss.length) : sget (ss ++ [s]) i = sget ss i := by simp [sget, List.getD_eq_getElem?_getD, List.getElem?_append_left h]
theorem sget_append_last (ss : List Gm.L) (s : Gm.L) : sget (ss ++ [s]) ss.length = s := by simp [sget]
/-- A slice of matrices. -/
structure Mxs (w : World) (A : Option Addr) (n c : Nat) (ss : List Gm.L) : Prop where
  len : ss.length = n
  le : n ≤ c
  max : c ≤ 9223372036854775807
  at_ : ∀ i, i < n → ∃ b off Ai ni ci, A = some ⟨b, off, none⟩ ∧ w.cell? ⟨b, off + i, none⟩ = some (.slice Ai ni ci) ∧ Mx w Ai ni ci (sget ss i)
theorem Mxs.ext {w w' : World} {A : Option Addr} {n c : Nat} {ss : List Gm.L} (h : Mxs w A n c ss) (hx : Ext w w') : Mxs w' A n c ss :=
  ⟨h.len, h.le, h.max, fun i hi => by
    obtain ⟨b, off, Ai, ni, ci, e, hc, hm⟩ := h.at_ i hi
    exact ⟨b, off, Ai, ni, ci, e, hx.cell hc, hm.ext hx⟩⟩
theorem Mxs.none (w : World) : Mxs w none 0 0 [] := ⟨rfl, Nat.le_refl _, by omega, fun _ h => absurd h (Nat.not_lt_zero _)⟩
/-- A list of matrices of one's own. -/
structure Sq (w : World) (base : Nat) (v : Value) (n : Nat) (cs : List Value) (ss : List Gm.L) : Prop where
  len : ss.length = n
  own : w.ownsRow base 28 1 v n cs
  row : ∀ i, i < n → ∃ A k c cs' P, cs[i]? = some (.slice A k c) ∧ Mq w base P (.slice A k c) k cs' (sget ss i) ∧ ∀ q, v.ownBlock = some q → ¬ Foot (.slice A k c) cs' q
theorem Sq.nil (w : World) (base : Nat) : Sq w base (.slice .none 0 0) 0 [] [] := ⟨rfl, World.ownsRow_nil _ _ _ _, fun _ h => absurd h (Nat.not_lt_zero _)⟩
theorem Sq.ext {w w' : World} {base n : Nat} {v : Value} {cs : List Value} {ss : List Gm.L} (h : Sq w base v n cs ss) (hx : Ext w w') : Sq w' base v n cs ss :=
  ⟨h.len, ownsRow_ext h.own hx, fun i hi => by
    obtain ⟨A, k, c, cs', P, e, hm, hf⟩ := h.row i hi
    exact ⟨A, k, c, cs', P, e, hm.ext hx, hf⟩⟩
theorem Sq.mxs {w : World} {base n : Nat} {v : Value} {cs : List Value} {ss : List Gm.L} (h : Sq w base v n cs ss) : ∃ A c, v = .slice A n c ∧ Mxs w A n c ss := by
  obtain ⟨A, c, rfl, h1, h2⟩ := ownsRow_slice h.own
  refine ⟨A, c, rfl, h.len, h1, h2, fun i hi => ?_⟩
  obtain ⟨A', k, c', cs', P, e, hm, _⟩ := h.row i hi
  obtain ⟨b, off, u, hA, hu, hc⟩ := (Rd.of_own h.own).at_ hi
  rw [e] at hu
  injection hu with hu
  subst hu
  obtain ⟨A2, c2, e2, hmx⟩ := hm.mx
  injection e2 with e2 _ e3
  subst e2 e3
  exact ⟨b, off, A', k, c', hA, hc, hmx⟩
/-- A matrix is appended. -/
theorem Sq.snoc {w w1 w2 : World} {base n : Nat} {v v' : Value} {cs cs' : List Value} {ss : List Gm.L} (h : Sq w base v n cs ss) (hx : Ext w w1) {A : Option Addr} {k c b1 : Nat} {P : Nat → Prop} {s : Gm.L} (hs : Mq w1 b1 P (.slice A k c) k cs' s) (hb1 : w.heap.size ≤ b1) (hbase : base ≤ w.heap.size)
    {w' : World} (hx' : Ext w1 w') (hown : w2.ownsRow base 28 1 v' (n + 1) (cs ++ [.slice A k c])) (hg : w'.grownBy w2 v.ownBlock) (hat : v'.ownBlock = v.ownBlock ∨ v'.ownBlock = some w'.heap.size) :
    Sq w2 base v' (n + 1) (cs ++ [.slice A k c]) (ss ++ [s]) := by
  have hcl : cs.length = n := by have := h.own.1; omega
  have hsw := hx.size
  have hsw' := hx'.size
  refine ⟨by simp [h.len], hown, fun i hi => ?_⟩
  by_cases e : i < n
  · obtain ⟨A', k', c', cs'', P', e', hm, hf⟩ := h.row i e
    refine ⟨A', k', c', cs'', P', by rw [List.getElem?_append_left (by omega)]; exact e', ?_, fun q hq hF => ?_⟩
    · rw [sget_append_lt _ (by rw [h.len]; exact e)]
      exact ((hm.ext hx).ext hx').grown hg hf
    · rcases hat with e2 | e2
      · exact hf q (by rw [← e2]; exact hq) hF
      · rw [e2] at hq
        injection hq with hq
        have := (hm.foot hF).2
        omega
  · obtain rfl : i = n := by omega
    refine ⟨A, k, c, cs', P, by rw [List.getElem?_append_right (by omega), hcl]; simp, ?_, fun q hq hF => ?_⟩
    · rw [← h.len, sget_append_last]
      refine ((hs.ext hx').base_le (by omega)).grown hg (fun q hq hF => ?_)
      have h1 := (hs.foot hF).1
      have h2 := (h.own.lt q hq).2
      omega
    · have h1 := hs.foot hF
      rcases hat with e2 | e2
      · rw [e2] at hq
        have h2 := (h.own.lt q hq).2
        omega
      · rw [e2] at hq
        injection hq with hq
        omega
theorem lists_info : (Try.prog.info? 28).map (fun i => (i.zero, i.size, i.bytes)) = some (some (.slice .none 0 0), 1, 24) := by kernel_rfl
end Go.Proofs.Ytfpcldkfmcnjkaa
