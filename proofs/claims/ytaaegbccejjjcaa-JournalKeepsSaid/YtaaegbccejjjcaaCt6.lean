/- Several texts in one: Slices of slices of bytes: how they read, and how they are written. No statement of the seat is proved here. The memory of a disk: its box of four cells, the medium's block, the cache's map. No statement of the seat is proved here. -/
import Derived.Test.YtaaegbccejjjcaaCt5
import Derived.Test.YtaaegbccejjjcaaCt3
import Derived.Maps.OwnOps
import Derived.Maps.OwnSet
import Derived.Maps.RangeWalk
import Derived.Deep.MidRow
namespace Go.Proofs.Ytaaegbccejjjcaa
open Go.RowKit

/-- Cells that are slices, each of which reads as a row. -/
structure Rows (w : World) (cs : List Value) (m : Gm.L) : Prop where
  len : cs.length = m.length
  at_ : ∀ i, i < m.length → ∃ A n c, cs[i]? = some (.slice A n c) ∧ Bs w A n c (Gm.row m i)
theorem Rows.ext {w w' : World} {cs : List Value} {m : Gm.L} (h : Rows w cs m) (hx : Ext w w') : Rows w' cs m :=
  ⟨h.len, fun i hi => by obtain ⟨A, n, c, e, hb⟩ := h.at_ i hi; exact ⟨A, n, c, e, hb.ext hx⟩⟩
theorem Rows.nil (w : World) : Rows w [] [] := ⟨rfl, fun _ h => absurd h (Nat.not_lt_zero _)⟩
theorem row_append_last (m : Gm.L) (r : List UInt8) : Gm.row (m ++ [r]) m.length = r := by simp [Gm.row]
theorem row_append_lt {m : Gm.L} {i : Nat} (r : List UInt8) (h : i < m.length) : Gm.row (m ++ [r]) i = Gm.row m i := by simp [Gm.row, List.getD_eq_getElem?_getD, List.getElem?_append_left h]
theorem Rows.snoc {w : World} {cs : List Value} {m : Gm.L} (h : Rows w cs m) {A : Option Addr} {n c : Nat} {r : List UInt8} (hb : Bs w A n c r) : Rows w (cs ++ [.slice A n c]) (m ++ [r]) := by
  refine ⟨by simp [h.len], fun i hi => ?_⟩
  rw [List.length_append] at hi
  by_cases e : i < m.length
  · obtain ⟨A', n', c', e', hb'⟩ := h.at_ i e
    refine ⟨A', n', c', ?_, by rw [row_append_lt _ e]; exact hb'⟩
    rw [List.getElem?_append_left (by rw [h.len]; exact e)]
    exact e'
  · have hi' : i = m.length := by simp at hi; omega
    subst hi'
    refine ⟨A, n, c, ?_, by rw [row_append_last]; exact hb⟩
    rw [← h.len, List.getElem?_append_right (Nat.le_refl _)]
    simp
theorem Rows.one {w : World} {cs : List Value} {m : Gm.L} (h : Rows w cs m) : ∀ u ∈ cs, u.oneCell' = true := by
  intro u hu
  obtain ⟨i, hi, e⟩ := List.mem_iff_getElem.1 hu
  obtain ⟨A, n, c, e', _⟩ := h.at_ i (by rw [← h.len]; exact hi)
  rw [List.getElem?_eq_getElem hi] at e'
  injection e' with e'
  rw [← e, e']
  rfl
theorem Rows.set {w : World} {cs : List Value} {m : Gm.L} (h : Rows w cs m) (i : Nat) {A : Option Addr} {n c : Nat} {r : List UInt8} (hb : Bs w A n c r) : Rows w (cs.set i (.slice A n c)) (m.set i r) := by
  refine ⟨by simp [h.len], fun j hj => ?_⟩
  rw [List.length_set] at hj
  by_cases e : i = j
  · subst e
    exact ⟨A, n, c, by rw [List.getElem?_set, if_pos rfl, if_pos (by rw [h.len]; exact hj)], by rw [Gm.row_set _ hj, if_pos rfl]; exact hb⟩
  · obtain ⟨A', n', c', e', hb'⟩ := h.at_ j hj
    refine ⟨A', n', c', by rw [List.getElem?_set, if_neg e]; exact e', ?_⟩
    have : Gm.row (m.set i r) j = Gm.row m j := by
      unfold Gm.row
      rw [List.getD_eq_getElem?_getD, List.getD_eq_getElem?_getD, List.getElem?_set, if_neg e]
    rw [this]; exact hb'
/-- A slice of slices of bytes. -/
structure Mx (w : World) (A : Option Addr) (n c : Nat) (m : Gm.L) : Prop where
  len : m.length = n
  le : n ≤ c
  max : c ≤ 9223372036854775807
  rd : ∃ cs, Rd w 1 A n cs ∧ Rows w cs m
theorem Mx.ext {w w' : World} {A : Option Addr} {n c : Nat} {m : Gm.L} (h : Mx w A n c m) (hx : Ext w w') : Mx w' A n c m := by
  obtain ⟨cs, h1, h2⟩ := h.rd
  exact ⟨h.len, h.le, h.max, cs, h1.ext hx, h2.ext hx⟩
theorem Mx.at_ {w : World} {A : Option Addr} {n c : Nat} {m : Gm.L} (h : Mx w A n c m) {i : Nat} (hi : i < n) :
    ∃ b off Ai ni ci, A = some ⟨b, off, .none⟩ ∧ w.cell? ⟨b, off + i, .none⟩ = some (.slice Ai ni ci) ∧ Bs w Ai ni ci (Gm.row m i) := by
  obtain ⟨cs, h1, h2⟩ := h.rd
  obtain ⟨Ai, ni, ci, e, hb⟩ := h2.at_ i (by rw [h.len]; exact hi)
  obtain ⟨b, off, u, hA, hu, hc⟩ := h1.at_ hi
  rw [e] at hu
  injection hu with hu
  subst hu
  exact ⟨b, off, Ai, ni, ci, hA, hc, hb⟩
theorem Mx.none (w : World) : Mx w none 0 0 [] := ⟨rfl, Nat.le_refl _, by omega, [], Rd.nil _ _ _, Rows.nil _⟩
theorem Mx.own {w : World} {base : Nat} {e : TypeId} {v : Value} {m : Gm.L} {cs : List Value} (h : w.ownsRow base e 1 v m.length cs) (hr : Rows w cs m) : ∃ A c, v = .slice A m.length c ∧ Mx w A m.length c m := by
  obtain ⟨A, c, rfl, h1, h2⟩ := ownsRow_slice h
  exact ⟨A, c, rfl, rfl, h1, h2, cs, Rd.of_own h, hr⟩
theorem bytes_info : (Try.prog.info? 32).map (fun i => (i.zero, i.size, i.bytes)) = some (some (.slice none 0 0), 1, 24) := by kernel_rfl
/-- A matrix is handed back. -/
def GivesM (m : Gm.L) (w : World) (e : Ending) (w' : World) : Prop := ∃ A c, e = .returned (.slice A m.length c) ∧ Mx w' A m.length c m ∧ Ext w w'
/-- A matrix is handed back, with an error. -/
def GivesME (m : Gm.L) (err : Int) (w : World) (e : Ending) (w' : World) : Prop := ∃ A c, e = .returned (.tuple #[.slice A m.length c, .int .i64 err]) ∧ Mx w' A m.length c m ∧ Ext w w'
theorem GivesME.of {m m' : Gm.L} {e e' : Int} {w : World} {x : Ending} {w' : World} (h : GivesME m e w x w') (hm : m = m') (he : e = e') : GivesME m' e' w x w' := by rw [← hm, ← he]; exact h

/-- A matrix whose outer row is block g, whole; its rows are in no block of a kind. -/
structure Mo (w : World) (g n : Nat) (P : Nat → Prop) (m : Gm.L) : Prop where
  len : m.length = n
  blk : ∃ cs : Array Value, w.heap[g]? = some (.cells cs 32 (0, 0)) ∧ cs.size = n ∧ Rows w cs.toList m ∧ ∀ (i : Nat) (A : Option Addr) (k c : Nat), cs[i]? = some (.slice A k c) → 0 < k → ∀ b, A.map (·.block) = some b → ¬ P b
section
variable {w w' : World} {g n : Nat} {P : Nat → Prop} {m : Gm.L}
theorem Mo.lt (h : Mo w g n P m) : g < w.heap.size := by
  obtain ⟨cs, h1, _⟩ := h.blk
  exact (Array.getElem?_eq_some_iff.1 h1).1
theorem Mo.ext (h : Mo w g n P m) (hx : Ext w w') : Mo w' g n P m := by
  obtain ⟨cs, h1, h2, h3, h4⟩ := h.blk
  exact ⟨h.len, cs, (hx.block g h.lt).trans h1, h2, h3.ext hx, h4⟩
theorem Mo.at_ (h : Mo w g n P m) {i : Nat} (hi : i < n) : ∃ A k c, w.cell? ⟨g, i, none⟩ = some (.slice A k c) ∧ Bs w A k c (Gm.row m i) ∧ (0 < k → ∀ b, A.map (·.block) = some b → ¬ P b) := by
  obtain ⟨cs, h1, h2, h3, h4⟩ := h.blk
  obtain ⟨A, k, c, e, hb⟩ := h3.at_ i (by rw [h.len]; exact hi)
  have e' : cs[i]? = some (.slice A k c) := by simpa using e
  exact ⟨A, k, c, by rw [cell_of_row w _ _ _ _ _ h1]; simpa using e', hb, h4 i A k c e'⟩
theorem Mo.fz (h : Mo w g n P m) (j : Nat) : w.frozen? ⟨g, j, none⟩ = false := by
  obtain ⟨cs, h1, _⟩ := h.blk
  exact frozen_of_row w _ _ _ _ h1
theorem Mo.mx (h : Mo w g n P m) (hn : n ≤ 1000000) : Mx w (some ⟨g, 0, none⟩) n n m := by
  obtain ⟨cs, h1, h2, h3, _⟩ := h.blk
  refine ⟨h.len, Nat.le_refl _, by omega, cs.toList, ⟨by simp [h2], fun _ => ⟨g, 0, rfl, fun j u hu => ?_⟩⟩, h3⟩
  rw [Nat.zero_add, cell_of_row w _ _ _ _ _ h1]
  simpa using hu
theorem Bs.far {A : Option Addr} {k c : Nat} {r : List UInt8} (h : Bs w A k c r) {q : Addr} (hq : 0 < k → ∀ b, A.map (·.block) = some b → q.block ≠ b) (u : Value) : Bs (w.setCell q u) A k c r := by
  refine ⟨h.len, h.le, h.max, h.rd.1, fun hk => ?_⟩
  obtain ⟨b, o, e, hc⟩ := h.rd.2 hk
  subst e
  refine ⟨b, o, rfl, fun j x hx => ?_⟩
  rw [World.cell?_setCell_other _ _ _ _ (fun e => hq hk b rfl (by rw [e]))]
  exact hc j x hx
theorem Rows.far {cs : List Value} (h : Rows w cs m) {q : Addr} (hq : ∀ (i : Nat) (A : Option Addr) (k c : Nat), cs[i]? = some (.slice A k c) → 0 < k → ∀ b, A.map (·.block) = some b → q.block ≠ b) (u : Value) : Rows (w.setCell q u) cs m :=
  ⟨h.len, fun i hi => by obtain ⟨A, k, c, e, hb⟩ := h.at_ i hi; exact ⟨A, k, c, e, hb.far (hq i A k c e) u⟩⟩
/-- A store into another block of the kind. -/
theorem Mo.far (h : Mo w g n P m) {q : Addr} (hq : P q.block) (hg : q.block ≠ g) (u : Value) : Mo (w.setCell q u) g n P m := by
  obtain ⟨cs, h1, h2, h3, h4⟩ := h.blk
  refine ⟨h.len, cs, (heap_setCell_other w q g u (fun e => hg e.symm)).trans h1, h2, h3.far (fun i A k c e hk b hb e' => ?_) u, h4⟩
  exact h4 i A k c (by simpa using e) hk b hb (e' ▸ hq)
/-- A row is stored. -/
theorem Mo.set (h : Mo w g n P m) (hg : P g) {i : Nat} {A : Option Addr} {k c : Nat} {r : List UInt8} (hb : Bs w A k c r) (hp : 0 < k → ∀ b, A.map (·.block) = some b → ¬ P b) : Mo (w.setCell ⟨g, i, none⟩ (.slice A k c)) g n P (m.set i r) := by
  obtain ⟨cs, h1, h2, h3, h4⟩ := h.blk
  have hb' := hb.far (q := ⟨g, i, .none⟩) (fun hk b e e' => hp hk b e (by show P b; rw [← e']; exact hg)) (.slice A k c)
  have hr := h3.far (q := ⟨g, i, .none⟩) (fun j A k c e hk b hb e' => h4 j A k c (by simpa using e) hk b hb (by show P b; rw [← e']; exact hg)) (.slice A k c)
  refine ⟨by rw [List.length_set]; exact h.len, cs.setIfInBounds i (.slice A k c), heap_setCell_same w g i _ _ _ h1, by simp [h2], ?_, ?_⟩
  · have := hr.set i hb'
    simpa using this
  · intro j A' k' c' e hk b hb2
    rw [Array.getElem?_setIfInBounds] at e
    split at e
    · split at e
      · injection e with e
        injection e with e1 e2 e3
        subst e1 e2
        exact hp hk b hb2
      · cases e
    · exact h4 j A' k' c' e hk b hb2
theorem Mo.mono {P' : Nat → Prop} (h : Mo w g n P m) (hp : ∀ b, b < w.heap.size → P' b → P b) : Mo w g n P' m := by
  obtain ⟨cs, h1, h2, h3, h4⟩ := h.blk
  refine ⟨h.len, cs, h1, h2, h3, fun i A k c e hk b hb hP => h4 i A k c e hk b hb (hp b ?_ hP)⟩
  obtain ⟨A', k', c', e', hb'⟩ := h3.at_ i (by have := (Array.getElem?_eq_some_iff.1 e).1; rw [h.len, ← h2]; exact this)
  rw [show cs.toList[i]? = cs[i]? by simp, e] at e'
  injection e' with e'
  injection e' with e1 e2 e3
  subst e1 e2 e3
  obtain ⟨b', o, eA, hc⟩ := hb'.rd.2 hk
  subst eA
  injection hb with hb
  obtain ⟨_, o2, e3, hc2⟩ := hb'.rd.byte hk
  injection e3 with e3
  injection e3 with e3 e4
  have := World.block_lt_of_cell? _ _ hc2
  rw [← hb]
  have h9 : b' < w.heap.size := by rw [e3]; exact this
  exact h9
end
end Go.Proofs.Ytaaegbccejjjcaa
namespace Go.Proofs.Ytaaegbccejjjcaa
open Go.RowKit Go.Maps

/-! ### a sector as a value -/
def secV (s : List UInt8) : Value := .agg (bcells s).toArray
def byteOf : Value → Option UInt8
  | .int .u8 a => if 0 ≤ a ∧ a < 256 then some (UInt8.ofNat a.toNat) else none
  | _ => none
def bytesOf : List Value → Option (List UInt8)
  | [] => some []
  | v :: l => match byteOf v, bytesOf l with
    | some x, some r => some (x :: r)
    | _, _ => none
theorem bytesOf_bcells (s : List UInt8) : bytesOf (bcells s) = some s := by
  induction s with
  | nil => rfl
  | cons x s ih =>
    have hx := x.toNat_lt
    have h1 : byteOf (.int .u8 (x.toNat : Int)) = some x := by
      show (if 0 ≤ ((x.toNat : Nat) : Int) ∧ ((x.toNat : Nat) : Int) < 256 then some (UInt8.ofNat ((x.toNat : Nat) : Int).toNat) else none) = some x
      rw [if_pos (by omega)]
      simp
    have e : bcells (x :: s) = .int .u8 (x.toNat : Int) :: bcells s := by simp [bcells]
    rw [e]
    unfold bytesOf
    rw [h1, ih]
theorem byteOf_inv {v : Value} {x : UInt8} (h : byteOf v = some x) : v = .int .u8 (x.toNat : Int) := by
  unfold byteOf at h
  split at h
  · rename_i a
    split at h
    · rename_i hb
      injection h with h
      rw [← h, UInt8.toNat_ofNat']
      congr 1
      omega
    · cases h
  · cases h
theorem bytesOf_inv : ∀ {l : List Value} {s : List UInt8}, bytesOf l = some s → l = bcells s
  | [], s, h => by injection h with h; rw [← h]; rfl
  | v :: l, s, h => by
    unfold bytesOf at h
    split at h
    · rename_i x r hx hr
      injection h with h
      rw [← h, byteOf_inv hx, bytesOf_inv hr]
      rfl
    · cases h
/-- How a sector reads in the cache. -/
def secR (v : Value) : Option (DataW Nat × List MemPlace) :=
  match v with
  | .agg cs => match bytesOf cs.toList with
    | some s => if s.length = 64 then some (.lit (.string s), []) else none
    | none => none
  | _ => none
theorem secR_mk {s : List UInt8} (h : s.length = 64) : secR (secV s) = some (.lit (.string s), []) := by
  unfold secR secV
  simp only [bytesOf_bcells]
  rw [if_pos h]
theorem secR_inv {v : Value} {z : DataW Nat × List MemPlace} (h : secR v = some z) : ∃ s : List UInt8, s.length = 64 ∧ v = secV s ∧ z = (.lit (.string s), []) := by
  unfold secR at h
  split at h
  · rename_i cs
    split at h
    · rename_i s hs
      split at h
      · rename_i hl
        injection h with h
        refine ⟨s, hl, ?_, h.symm⟩
        unfold secV
        rw [← bytesOf_inv hs]
      · cases h
    · cases h
  · cases h
theorem secR_at {v : Value} {s : List UInt8} {ps : List MemPlace} (h : secR v = some (.lit (.string s), ps)) : v = secV s ∧ s.length = 64 := by
  obtain ⟨s', hl, hv, hz⟩ := secR_inv h
  injection hz with h1 _
  injection h1 with h1
  injection h1 with h1
  rw [h1]
  exact ⟨hv, hl⟩
def zeros64 : List UInt8 := List.replicate 64 0
theorem zeros64_len : zeros64.length = 64 := List.length_replicate ..
theorem sec_zero (w : World) : (zeroValue 81).run Try.prog w = .ok (secV zeros64) w := by kernel_rfl
theorem sec_info : (Try.prog.info? 81).map (·.size) = some 64 := by kernel_rfl

/-! ### the medium -/
structure Md (w : World) (m : Nat) (l : List (List UInt8)) : Prop where
  lt : m < w.heap.size
  wid : ∀ i, i < l.length → (Gm.row l i).length = 64
  rows : ∀ i, i < l.length → w.rangeAt m (i * 64) (bcells (Gm.row l i))
  ok : w.there m 0 (l.length * 64)
section
variable {w w' : World} {m : Nat} {l : List (List UInt8)}
theorem Md.same (h : Md w m l) (hs : w.heap.size ≤ w'.heap.size) (hb : w'.heap[m]? = w.heap[m]?) : Md w' m l := by
  have hc : ∀ p : Addr, p.block = m → w'.cell? p = w.cell? p ∧ w'.frozen? p = w.frozen? p := fun p hp => by
    subst hp
    exact ⟨by unfold World.cell?; rw [hb], by unfold World.frozen?; rw [hb]⟩
  refine ⟨Nat.lt_of_lt_of_le h.lt hs, h.wid, fun i hi j v hv => ?_, fun j hj => ?_⟩
  · rw [(hc _ rfl).1]
    exact h.rows i hi j v hv
  · rw [(hc _ rfl).1, (hc _ rfl).2]
    exact h.ok j hj
theorem Md.ext (h : Md w m l) (hx : Ext w w') : Md w' m l := h.same hx.size (hx.block m h.lt)
theorem Md.kept {row : Option Nat} (h : Md w m l) (hg : w.grownBy w' row) (hr : row ≠ some m) : Md w' m l := h.same hg.size (hg.block m h.lt (fun e => hr e.symm))
end
end Go.Proofs.Ytaaegbccejjjcaa
