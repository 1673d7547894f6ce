/- Several texts in one: Matrices of the call's own: the outer row, and each row, in blocks of their own. No statement of the seat is proved here. The contracts of slices.ContainsFunc at matrices, for whatever predicate; of matrix.none, matrix.Right, and of the document's Right. The contracts of matrix.blank, matrix.own and matrix.Unit. The contract of matrix.Unit. Small words for stores into one block. -/
import Derived.Test.YtfpcldkfmcnjkaaCt2
import Derived.Test.YtfpcldkfmcnjkaaCt3
import Derived.OneCell
import Derived.Laws.OwnMore
import Derived.Laws.MakeOwn
import Derived.Test.YtfpcldkfmcnjkaaCt1
import Derived.Shelf.Abstract
import Derived.StillTailTactics
namespace Go.Proofs.Ytfpcldkfmcnjkaa
open Go.RowKit

/-- A matrix of one's own: its blocks are from 'base' on, all different; no row is in a block of a kind, the outer row is. -/
structure Mq (w : World) (base : Nat) (P : Nat → Prop) (v : Value) (n : Nat) (cs : List Value) (m : Gm.L) : Prop where
  len : m.length = n
  own : w.ownsRow base 22 1 v n cs
  row : ∀ i, i < n → ∃ A c, cs[i]? = some (.slice A (Gm.row m i).length c) ∧ w.ownsRow base 5 1 (.slice A (Gm.row m i).length c) (Gm.row m i).length (bcells (Gm.row m i))
  cool : ∀ (i : Nat) (u : Value) (b : Nat), cs[i]? = some u → u.ownBlock = some b → ¬ P b
  hot : ∀ b, v.ownBlock = some b → P b
  apart : ∀ (i j : Nat) (u u' : Value) (b : Nat), i ≠ j → cs[i]? = some u → cs[j]? = some u' → u.ownBlock = some b → u'.ownBlock ≠ some b
section
variable {w w' : World} {base : Nat} {P : Nat → Prop} {v : Value} {n : Nat} {cs : List Value} {m : Gm.L}
theorem Mq.clen (h : Mq w base P v n cs m) : cs.length = n := by have := h.own.1; omega
theorem Mq.ext (h : Mq w base P v n cs m) (hx : Ext w w') : Mq w' base P v n cs m :=
  ⟨h.len, ownsRow_ext h.own hx, fun i hi => by obtain ⟨A, c, e, ho⟩ := h.row i hi; exact ⟨A, c, e, ownsRow_ext ho hx⟩, h.cool, h.hot, h.apart⟩
theorem Mq.rows (h : Mq w base P v n cs m) : Rows w cs m :=
  ⟨by rw [h.clen, h.len], fun i hi => by
    obtain ⟨A, c, e, ho⟩ := h.row i (by rw [← h.len]; exact hi)
    exact ⟨A, _, c, e, (Own.mk (base := base) (e := 5) ho).bs⟩⟩
theorem Mq.mx (h : Mq w base P v n cs m) : ∃ A c, v = .slice A n c ∧ Mx w A n c m := by
  obtain ⟨A, c, rfl, h1, h2⟩ := ownsRow_slice h.own
  exact ⟨A, c, rfl, h.len, h1, h2, cs, Rd.of_own h.own, h.rows⟩
theorem Mq.block (h : Mq w base P v n cs m) {i : Nat} {u : Value} {b : Nat} (hu : cs[i]? = some u) (hb : u.ownBlock = some b) : base ≤ b ∧ b < w.heap.size := by
  have hi : i < n := by have := (List.getElem?_eq_some_iff.1 hu).1; rwa [h.clen] at this
  obtain ⟨A, c, e, ho⟩ := h.row i hi
  rw [hu] at e
  injection e with e
  subst e
  exact ho.lt b hb
theorem Mq.kind {P' : Nat → Prop} (h : Mq w base P v n cs m) (hP : ∀ b, b < w.heap.size → base ≤ b → P' b → P b) (hv : ∀ b, v.ownBlock = some b → P' b) : Mq w base P' v n cs m :=
  ⟨h.len, h.own, h.row, fun i u b hu hb hp => h.cool i u b hu hb (hP b (h.block hu hb).2 (h.block hu hb).1 hp), hv, h.apart⟩
theorem Mq.base_le {base' : Nat} (h : Mq w base P v n cs m) (hb : base' ≤ base) : Mq w base' P v n cs m :=
  ⟨h.len, ownsRow_base h.own hb, fun i hi => by obtain ⟨A, c, e, ho⟩ := h.row i hi; exact ⟨A, c, e, ownsRow_base ho hb⟩, h.cool, h.hot, h.apart⟩
/-- A store into another block of the kind. -/
theorem Mq.far (h : Mq w base P v n cs m) {q : Addr} (hq : P q.block) (hv : v.ownBlock ≠ some q.block) (u : Value) : Mq (w.setCell q u) base P v n cs m :=
  ⟨h.len, ownsRow_setCell_other h.own hv u, fun i hi => by
    obtain ⟨A, c, e, ho⟩ := h.row i hi
    exact ⟨A, c, e, ownsRow_setCell_other ho (fun e' => h.cool i _ _ e e' hq) u⟩, h.cool, h.hot, h.apart⟩
/-- A store into a block ahead of all of it. -/
theorem Mq.below (h : Mq w base P v n cs m) {q : Addr} (hq : q.block < base) (u : Value) : Mq (w.setCell q u) base P v n cs m :=
  ⟨h.len, ownsRow_far h.own hq u, fun i hi => by
    obtain ⟨A, c, e, ho⟩ := h.row i hi
    exact ⟨A, c, e, ownsRow_far ho hq u⟩, h.cool, h.hot, h.apart⟩
theorem row_set_ne {m : Gm.L} {i j : Nat} (r : List UInt8) (h : i ≠ j) : Gm.row (m.set i r) j = Gm.row m j := by
  unfold Gm.row
  rw [List.getD_eq_getElem?_getD, List.getD_eq_getElem?_getD, List.getElem?_set, if_neg h]
/-- A row is stored. -/
theorem Mq.put {g c0 : Nat} (h : Mq w base P (.slice (some ⟨g, 0, none⟩) n c0) n cs m) {i : Nat} (hi : i < n) {A : Option Addr} {c b1 : Nat} {r : List UInt8} (hr1 : w.ownsRow b1 5 1 (.slice A r.length c) r.length (bcells r)) (hb1 : base ≤ b1)
    (hf : ∀ b, (Value.slice A r.length c).ownBlock = some b → ¬ P b ∧ ∀ j u, j ≠ i → cs[j]? = some u → u.ownBlock ≠ some b) :
    Mq (w.setCell ⟨g, i, none⟩ (.slice A r.length c)) base P (.slice (some ⟨g, 0, none⟩) n c0) n (cs.set i (.slice A r.length c)) (m.set i r) := by
  have hr := ownsRow_base hr1 hb1
  have hg : P g := h.hot g rfl
  have hil : i < cs.length := by rw [h.clen]; exact hi
  refine ⟨by rw [List.length_set]; exact h.len, (h.own.stored i _).1, fun j hj => ?_, fun j u b hu hb => ?_, h.hot, fun j k u u' b hjk hu hu' hb => ?_⟩
  · by_cases e : i = j
    · subst e
      have hrow : Gm.row (m.set i r) i = r := by rw [Gm.row_set _ (by rw [h.len]; exact hi), if_pos rfl]
      rw [hrow]
      exact ⟨A, c, by rw [List.getElem?_set, if_pos rfl, if_pos hil], ownsRow_setCell_other hr (fun e' => (hf _ e').1 hg) _⟩
    · rw [row_set_ne r e]
      obtain ⟨A', c', e', ho⟩ := h.row j hj
      exact ⟨A', c', by rw [List.getElem?_set, if_neg e]; exact e', ownsRow_setCell_other ho (fun e2 => h.cool j _ _ e' e2 hg) _⟩
  · rw [List.getElem?_set] at hu
    by_cases e : i = j
    · rw [if_pos e, if_pos hil] at hu
      injection hu with hu
      subst hu
      exact (hf b hb).1
    · rw [if_neg e] at hu
      exact h.cool j u b hu hb
  · rw [List.getElem?_set] at hu hu'
    by_cases e : i = j
    · rw [if_pos e, if_pos hil] at hu
      injection hu with hu
      subst hu
      rw [if_neg (by omega)] at hu'
      exact (hf b hb).2 k u' (by omega) hu'
    · rw [if_neg e] at hu
      by_cases e2 : i = k
      · rw [if_pos e2, if_pos hil] at hu'
        injection hu' with hu'
        subst hu'
        intro hb'
        exact (hf b hb').2 j u (by omega) hu hb
      · rw [if_neg e2] at hu'
        exact h.apart j k u u' b hjk hu hu' hb
/-- What a new row must be: in a block that was not there. -/
theorem Mq.fresh (h : Mq w base P v n cs m) {w1 : World} {A : Option Addr} {r : List UInt8} {c base1 : Nat} (hr : w1.ownsRow base1 5 1 (.slice A r.length c) r.length (bcells r)) (hb1 : w.heap.size ≤ base1) (hP : ∀ b, P b → b < w.heap.size) :
    ∀ b, (Value.slice A r.length c).ownBlock = some b → ¬ P b ∧ ∀ (j : Nat) (u : Value), cs[j]? = some u → u.ownBlock ≠ some b := fun b hb => by
  have h1 := (hr.lt b hb).1
  exact ⟨fun hp => by have := hP b hp; omega, fun j u hu e => by have := (h.block hu e).2; omega⟩
/-- Two rows are changed about. -/
theorem Mq.swap {g c0 : Nat} (h : Mq w base P (.slice (some ⟨g, 0, none⟩) n c0) n cs m) {p q : Nat} (hp : p < n) (hq : q < n) {up uq : Value} (hup : cs[p]? = some up) (huq : cs[q]? = some uq) :
    Mq ((w.setCell ⟨g, p, none⟩ uq).setCell ⟨g, q, none⟩ up) base P (.slice (some ⟨g, 0, none⟩) n c0) n ((cs.set p uq).set q up) (Gm.swapL m p q) := by
  have hg : P g := h.hot g rfl
  have hpl : p < cs.length := by rw [h.clen]; exact hp
  have hql : q < cs.length := by rw [h.clen]; exact hq
  have hml : p < m.length := by rw [h.len]; exact hp
  have hmq : q < m.length := by rw [h.len]; exact hq
  have key : ∀ j, j < n → ((cs.set p uq).set q up)[j]? = cs[Gm.swapI p q j]? := fun j hj => by
    rw [List.getElem?_set, List.getElem?_set, List.length_set]
    unfold Gm.swapI
    by_cases e1 : q = j
    · rw [if_pos e1, if_pos hql]
      by_cases e2 : j = p
      · have e3 : p = q := by omega
        rw [if_pos e2, ← e3, hup]
      · rw [if_neg e2, if_pos e1.symm, hup]
    · rw [if_neg e1]
      by_cases e2 : p = j
      · rw [if_pos e2, if_pos hpl, if_pos e2.symm, huq]
      · rw [if_neg e2, if_neg (Ne.symm e2), if_neg (Ne.symm e1)]
  have o2 := ((h.own.stored p uq).1.stored q up).1
  have hclen : ((cs.set p uq).set q up).length = n := by rw [List.length_set, List.length_set, h.clen]
  have lt_of : ∀ (j : Nat) (u : Value), ((cs.set p uq).set q up)[j]? = some u → j < n := fun j u hu => by have := (List.getElem?_eq_some_iff.1 hu).1; rwa [hclen] at this
  refine ⟨by unfold Gm.swapL; rw [List.length_set, List.length_set]; exact h.len, o2, fun j hj => ?_, fun j u b hu hb => ?_, h.hot, fun j k u u' b hjk hu hu' hb => ?_⟩
  · have hs := Gm.swapI_lt hp hq hj
    rw [Gm.row_swapL hml hmq, key j hj]
    obtain ⟨A, c, e, ho⟩ := h.row _ hs
    exact ⟨A, c, e, ownsRow_setCell_other (ownsRow_setCell_other ho (fun e2 => h.cool _ _ _ e e2 hg) _) (fun e2 => h.cool _ _ _ e e2 hg) _⟩
  · have hj := lt_of j u hu
    rw [key j hj] at hu
    exact h.cool _ u b hu hb
  · have hj := lt_of j u hu
    have hk := lt_of k u' hu'
    rw [key j hj] at hu
    rw [key k hk] at hu'
    refine h.apart _ _ u u' b (fun e => hjk ?_) hu hu' hb
    have := congrArg (Gm.swapI p q) e
    rwa [Gm.swapI_swapI, Gm.swapI_swapI] at this
/-- A byte of a row is stored. -/
theorem Mq.poke (h : Mq w base P v n cs m) {i : Nat} (hi : i < n) {g c : Nat} (hc : cs[i]? = some (.slice (some ⟨g, 0, none⟩) (Gm.row m i).length c)) (j : Nat) (x : UInt8) (hv : v.ownBlock ≠ some g) :
    Mq (w.setCell ⟨g, j, none⟩ (.int .u8 (x.toNat : Int))) base P v n cs (m.set i ((Gm.row m i).set j x)) := by
  refine ⟨by rw [List.length_set]; exact h.len, ownsRow_setCell_other h.own hv _, fun k hk => ?_, h.cool, h.hot, h.apart⟩
  by_cases e : i = k
  · subst e
    rw [Gm.row_set _ (by rw [h.len]; exact hi), if_pos rfl, List.length_set]
    obtain ⟨A, c', e', ho⟩ := h.row i hi
    rw [hc] at e'
    injection e' with e'
    injection e' with e1 e2 e3
    subst e1 e3
    refine ⟨_, _, hc, ?_⟩
    rw [bcells_set]
    exact (ho.stored j _).1
  · rw [row_set_ne _ e]
    obtain ⟨A, c', e', ho⟩ := h.row k hk
    exact ⟨A, c', e', ownsRow_setCell_other ho (fun e2 => h.apart k i _ _ g (Ne.symm e) e' hc e2 rfl) _⟩
theorem Mq.nil (w : World) (base : Nat) (P : Nat → Prop) : Mq w base P (.slice none 0 0) 0 [] [] :=
  ⟨rfl, World.ownsRow_nil _ _ _ _, fun _ h => absurd h (Nat.not_lt_zero _), fun _ _ _ h => by simp at h, fun _ h => by simp [Value.ownBlock] at h, fun _ _ _ _ _ _ h => by simp at h⟩
end
/-- The kind of blocks that are hot for a matrix handed back: its outer row's, and what was there before. -/
abbrev Hot (base : Nat) (v : Value) : Nat → Prop := fun b => v.ownBlock = some b ∨ b < base
theorem Mq.lower {w : World} {base base' n : Nat} {v : Value} {cs : List Value} {m : Gm.L} (h : Mq w base (Hot base v) v n cs m) (hb : base' ≤ base) : Mq w base' (Hot base' v) v n cs m :=
  (h.kind (fun b _ h2 hp => by rcases hp with hp | hp; exact .inl hp; omega) (fun b hb => .inl hb)).base_le hb
theorem hot_lt {base g r c N : Nat} (hg : g < N) (hb : base ≤ N) : ∀ b, Hot base (.slice (some ⟨g, 0, none⟩) r c) b → b < N := fun b hp => by
  rcases hp with hp | hp
  · have hp' : some g = some b := hp
    injection hp' with hp'
    omega
  · omega
theorem Mq.cellAt {w : World} {base g c0 n : Nat} {P : Nat → Prop} {cs : List Value} {m : Gm.L} (h : Mq w base P (.slice (some ⟨g, 0, none⟩) n c0) n cs m) {k : Nat} (hk : k < n) : ∃ A c, cs[k]? = some (.slice A (Gm.row m k).length c) ∧ w.cell? ⟨g, k, none⟩ = some (.slice A (Gm.row m k).length c) ∧ w.frozen? ⟨g, k, none⟩ = false ∧ w.ownsRow base 5 1 (.slice A (Gm.row m k).length c) (Gm.row m k).length (bcells (Gm.row m k)) := by
  obtain ⟨A, c, e, ho⟩ := h.row k hk
  exact ⟨A, c, e, by rw [h.own.cellAt k (by omega), e], h.own.frozenAt k, ho⟩
/-- A row is appended. -/
theorem Mq.snoc {w w1 w' : World} {base : Nat} {v v' : Value} {n : Nat} {cs : List Value} {m : Gm.L} (h : Mq w base (Hot base v) v n cs m) (hx : Ext w w1) {A : Option Addr} {c b1 : Nat} {r : List UInt8} (hr : w1.ownsRow b1 5 1 (.slice A r.length c) r.length (bcells r)) (hb1 : w.heap.size ≤ b1) (hbase : base ≤ w.heap.size)
    (hx' : Ext w1 w') {w2 : World} (hown : w2.ownsRow base 22 1 v' (n + 1) (cs ++ [.slice A r.length c])) (hg : w'.grownBy w2 v.ownBlock) (hat : v'.ownBlock = v.ownBlock ∨ v'.ownBlock = some w'.heap.size) :
    Mq w2 base (Hot base v') v' (n + 1) (cs ++ [.slice A r.length c]) (m ++ [r]) := by
  have hclen := h.clen
  have hrow : ∀ (j : Nat) (u : Value), (cs ++ [Value.slice A r.length c])[j]? = some u → (j < n ∧ cs[j]? = some u) ∨ (j = n ∧ u = .slice A r.length c) := fun j u hu => by
    by_cases e : j < n
    · exact .inl ⟨e, by rwa [List.getElem?_append_left (by omega)] at hu⟩
    · rw [List.getElem?_append_right (by omega)] at hu
      have hj := (List.getElem?_eq_some_iff.1 hu).1
      simp at hj
      have : j = n := by omega
      subst this
      rw [hclen, Nat.sub_self] at hu
      simp at hu
      exact .inr ⟨rfl, hu.symm⟩
  have blk : ∀ (j : Nat) (u : Value) (b : Nat), (cs ++ [Value.slice A r.length c])[j]? = some u → u.ownBlock = some b → base ≤ b ∧ b < w'.heap.size ∧ v.ownBlock ≠ some b := fun j u b hu hb => by
    rcases hrow j u hu with ⟨_, hu'⟩ | ⟨_, rfl⟩
    · have h1 := h.block hu' hb
      have h2 := hx.size
      have h3 := hx'.size
      exact ⟨h1.1, by omega, fun e => h.cool j u b hu' hb (.inl e)⟩
    · have h1 := hr.lt b hb
      have h3 := hx'.size
      refine ⟨by omega, by omega, fun e => ?_⟩
      have := (h.own.lt b e).2
      omega
  have cool : ∀ (j : Nat) (u : Value) (b : Nat), (cs ++ [Value.slice A r.length c])[j]? = some u → u.ownBlock = some b → ¬ Hot base v' b := fun j u b hu hb hp => by
    obtain ⟨h1, h2, h3⟩ := blk j u b hu hb
    rcases hp with hp | hp
    · rcases hat with e | e
      · rw [e] at hp; exact h3 hp
      · rw [e] at hp; injection hp with hp; omega
    · omega
  refine ⟨by simp [h.len], hown, fun i hi => ?_, cool, fun b hb => .inl hb, fun i j u u' b hij hu hu' hb hb' => ?_⟩
  · by_cases e : i < n
    · rw [row_append_lt _ (by rw [h.len]; exact e)]
      obtain ⟨A', c', e', ho⟩ := h.row i e
      refine ⟨A', c', by rw [List.getElem?_append_left (by omega)]; exact e', ?_⟩
      refine ownsRow_grown (ownsRow_ext (ownsRow_ext ho hx) hx') hg ?_
      cases hq : (Value.slice A' (Gm.row m i).length c').ownBlock with
      | none => exact .inl rfl
      | some b => exact .inr (fun e2 => h.cool i _ b e' hq (.inl e2.symm))
    · have : i = n := by omega
      subst this
      rw [← h.len, row_append_last]
      refine ⟨A, c, by rw [List.getElem?_append_right (by rw [hclen, h.len]; exact Nat.le_refl _)]; simp [hclen, h.len], ?_⟩
      refine ownsRow_grown (ownsRow_base (ownsRow_ext hr hx') (by omega)) hg ?_
      cases hq : (Value.slice A r.length c).ownBlock with
      | none => exact .inl rfl
      | some b => exact .inr (fun e2 => (blk m.length _ b (by rw [List.getElem?_append_right (by rw [hclen, h.len]; exact Nat.le_refl _)]; simp [hclen, h.len]) hq).2.2 e2.symm)
  · rcases hrow i u hu with ⟨hi, hu1⟩ | ⟨hi, rfl⟩
    · rcases hrow j u' hu' with ⟨hj, hu2⟩ | ⟨hj, rfl⟩
      · exact h.apart i j u u' b hij hu1 hu2 hb hb'
      · have h1 := (h.block hu1 hb).2
        have h2 := (hr.lt b hb').1
        omega
    · rcases hrow j u' hu' with ⟨hj, hu2⟩ | ⟨hj, rfl⟩
      · have h1 := (h.block hu2 hb').2
        have h2 := (hr.lt b hb).1
        omega
      · omega

/-- Many times one value, in a block. -/
def made (c : Nat) (z : Value) : Array Value := madeCells #[z] c
theorem made_toList (c : Nat) (z : Value) : (made c z).toList = List.replicate c z := by
  unfold made madeCells
  rw [Array.toList_map, Array.toList_range]
  apply List.ext_getElem (by simp)
  intro i h1 h2
  simp [Nat.mod_one]
theorem made_size (c : Nat) (z : Value) : (made c z).size = c := by simp [made, size_madeCells]
theorem run_make_rows (W : World) (c : Nat) (hc : c ≤ 1000) : (Instr.makeSlice 60 (.int .i64 (c : Int)) (.int .i64 (c : Int))).run Try.prog W = .ok (.slice (some ⟨W.heap.size, 0, none⟩) c c) (W.alloc (.cells (made c (.slice none 0 0)) 22)) := by
  obtain ⟨i, hi, hz, h1, h2⟩ := info_parts bytes_info
  have h := run_make (P := Try.prog) W 60 22 i _ Try.underlying60 hi hz .i64 .i64 (c : Int) (c : Int) (by omega) (Int.le_refl _) (by rw [h2]; omega) (by omega)
  rw [h1] at h
  simpa [made, Value.cells] using h
theorem run_make_bytes (W : World) (c : Nat) (hc : c ≤ 1000) : (Instr.makeSlice 22 (.int .i64 (c : Int)) (.int .i64 (c : Int))).run Try.prog W = .ok (.slice (some ⟨W.heap.size, 0, none⟩) c c) (W.alloc (.cells (made c (.int .u8 0)) 5)) := by
  obtain ⟨i, hi, hz, h1, h2⟩ := info_parts u8_info
  have h := run_make (P := Try.prog) W 22 5 i _ Try.underlying22 hi hz .i64 .i64 (c : Int) (c : Int) (by omega) (Int.le_refl _) (by rw [h2]; omega) (by omega)
  rw [h1] at h
  simpa [made, Value.cells] using h
/-- A block that was just made, as a row of one's own. -/
theorem ownsRow_made (w : World) (e : TypeId) (z : Value) (c : Nat) (hz : z.oneCell' = true) (hc : c ≤ 1000) {base : Nat} (hb : base ≤ w.heap.size) : (w.alloc (.cells (made c z) e)).ownsRow base e 1 (.slice (some ⟨w.heap.size, 0, none⟩) c c) c (List.replicate c z) :=
  ⟨by simp, .inr ⟨w.heap.size, c, made c z, rfl, hb, heap_alloc_new w _, Nat.le_refl _, by unfold maxLen; omega, by simp [made_size], by rw [made_toList]; simp⟩⟩
theorem bcells_zeros (c : Nat) : bcells (List.replicate c 0) = List.replicate c (.int .u8 0) := by simp [bcells]
end Go.Proofs.Ytfpcldkfmcnjkaa
namespace Go.Proofs.Ytfpcldkfmcnjkaa
open Go.RowKit

/-- Is there such a row? -/
def anyRow (n : Nat) (m : Gm.L) (q : List UInt8 → Bool) : Bool := decide (∃ k, k < n ∧ q (Gm.row m k) = true)
/-- What is asked of a predicate: at every row, in every world that has grown, it answers as 'q' does. -/
def AsksRow (w : World) (g : Nat) (lb : Array Value) (q : List UInt8 → Bool) : Prop :=
  ∀ (W : World) (A : Option Addr) (n c : Nat) (r : List UInt8), Ext w W → Bs W A n c r → Calls Try.prog g (#[.slice A n c] ++ lb) W fun e w' => e = .returned (.bool (q r)) ∧ Ext W w'

set_option maxRecDepth 100000 in
set_option maxHeartbeats 1000000 in
theorem indexRow_any (w : World) (A : Option Addr) (n c : Nat) (m : Gm.L) (hm : Mx w A n c m) (g : Nat) (lb : Array Value) (q : List UInt8 → Bool)
    (eg : ∀ args w, (callFunc g args).run Try.prog w = .ok (.enter g args) w) (hq : AsksRow w g lb q) :
    Calls Try.prog 89 #[.slice A n c, .func (.func g) #[] lb] w fun r w' =>
      ∃ i : Int, r = .returned (.int .i64 i) ∧ decide (0 ≤ i) = anyRow n m q ∧ Ext w w' := by
  have hmax := hm.max
  have hle := hm.le
  have HQ := Lib.hid hq
  have HM := Lib.hid hm
  clear hq hm
  go_enter Try.func89, Try.ntmps89
  go_wp2
  go_loopw [5, 8] (fun _ s8 wr => ∃ k : Nat, k ≤ n ∧ s8 = .int .i64 k ∧ Ext w wr ∧ RowKit.Hid (∀ j, j < k → q (Gm.row m j) = false)) (fun _ s8 _ => n - (intOf s8).toNat)
  case atStart => exact ⟨0, Nat.zero_le _, rfl, Ext.refl w, Lib.hid fun j hj => absurd hj (Nat.not_lt_zero _)⟩
  case round =>
    obtain ⟨k, hk, rfl, hx, H⟩ := hrel
    by_cases hlt : k < n
    · have i1 : (k : Int) < n := by omega
      obtain ⟨b, off, A', n', c', rfl, q1, hb⟩ := (HM.out.ext hx).at_ hlt
      have hcall := HQ.out wr A' n' c' (Gm.row m k) hx hb
      generalize hy : q (Gm.row m k) = y at hcall
      have Y := Lib.hid hy
      clear hy hb
      cases y with
      | true =>
        go_wp2_with (fail)
        refine hcall.mono ?_
        rintro r w' ⟨rfl, hx'⟩
        go_wp2_with (fail)
        go_ret
        refine ⟨_, rfl, ?_, hx.trans hx'⟩
        unfold anyRow
        rw [decide_eq_true (by omega), eq_comm, decide_eq_true_eq]
        exact ⟨k, hlt, Y.out⟩
      | false =>
        go_wp2_with (fail)
        refine hcall.mono ?_
        rintro r w' ⟨rfl, hx'⟩
        go_wp2_with (fail)
        refine ⟨⟨k + 1, by omega, by go_num, hx.trans hx', Lib.hid fun j hj => ?_⟩, by simp [intOf]; omega⟩
        by_cases e : j = k
        · subst e; exact Y.out
        · exact H.out j (by omega)
    · have i1 : ¬ (k : Int) < n := by omega
      obtain rfl : k = n := by omega
      go_wp2
      go_ret
      refine ⟨_, rfl, show decide ((0 : Int) ≤ -1) = anyRow k m q from ?_, hx⟩
      unfold anyRow
      rw [decide_eq_false (by omega), eq_comm, decide_eq_false_iff_not]
      rintro ⟨j, hj, e⟩
      rw [H.out j hj] at e
      cases e
theorem containsRow_any (w : World) (A : Option Addr) (n c : Nat) (m : Gm.L) (hm : Mx w A n c m) (g : Nat) (lb : Array Value) (q : List UInt8 → Bool)
    (eg : ∀ args w, (callFunc g args).run Try.prog w = .ok (.enter g args) w) (hq : AsksRow w g lb q) :
    Calls Try.prog 80 #[.slice A n c, .func (.func g) #[] lb] w fun r w' =>
      r = .returned (.bool (anyRow n m q)) ∧ Ext w w' := by
  go_enter Try.func80, Try.ntmps80
  go_wp2_with (fail)
  refine (indexRow_any w A n c m hm g lb q eg hq).mono ?_
  rintro r w' ⟨i, rfl, e, hx⟩
  have E := Lib.hid e
  clear e
  go_wp2_with (fail)
  go_ret
  exact ⟨ret_bool E.out, hx⟩

theorem none_any (b : Nat) (w : World) (hf : FieldAt w b) :
    Calls Try.prog 69 #[.pointer (some ⟨b, 0, none⟩)] w fun e w' => e = .returned (.bool false) ∧ w = w' := by
  have hA : Calls Try.prog 53 #[.pointer (some ⟨b, 0, none⟩), .int .u8 0, .int .u8 1] w fun e w' => e = .returned (.int .u8 1) ∧ w = w' := add_any b w 0 1 hf
  have HA := Lib.hid hA
  clear hA
  go_enter Try.func69, Try.ntmps69
  go_wp2_with (fail)
  refine HA.out.mono ?_
  rintro e w' ⟨rfl, rfl⟩
  go_wp2_with (fail)
  go_ret
  exact ⟨rfl, rfl⟩

theorem right1_asks (w : World) (g k : Nat) (hc : w.cell? ⟨g, 0, none⟩ = some (.int .i64 (k : Int))) : AsksRow w 81 #[.pointer (some ⟨g, 0, none⟩)] (fun r => r.length != k) := by
  intro W A n c r hx hb
  have c0 := hx.cell hc
  have h1 := hb.len
  show Calls Try.prog 81 #[.slice A n c, .pointer (some ⟨g, 0, none⟩)] W _
  have H1 := Lib.hid h1
  clear h1 hb
  go_enter Try.func81, Try.ntmps81
  go_wp2_with (fail)
  go_ret
  refine ⟨ret_bool ?_, Ext.refl _⟩
  rw [H1.out, Bool.eq_iff_iff, bne_iff_ne, bne_iff_ne]
  omega
theorem right_iff {m : Gm.L} {n : Nat} (hl : m.length = n) (h1 : 1 ≤ n) (h2 : n ≤ 255) : Gm.right m ↔ (1 ≤ (Gm.row m 0).length ∧ (Gm.row m 0).length ≤ 255) ∧ ¬ ∃ k, k < n ∧ ((Gm.row m k).length != (Gm.row m 0).length) = true := by
  unfold Gm.right Gm.cols
  rw [hl]
  constructor
  · rintro ⟨_, _, h3, h4, h5⟩
    refine ⟨⟨h3, h4⟩, ?_⟩
    rintro ⟨k, hk, e⟩
    rw [h5 k hk] at e
    simp at e
  · rintro ⟨⟨h3, h4⟩, h5⟩
    refine ⟨h1, h2, h3, h4, fun i hi => ?_⟩
    rcases Classical.em ((Gm.row m i).length = (Gm.row m 0).length) with h | h
    · exact h
    · exact absurd ⟨i, hi, by rw [bne_iff_ne]; exact h⟩ h5
set_option maxRecDepth 100000 in
set_option maxHeartbeats 1000000 in
theorem matRight_any (w : World) (A : Option Addr) (n c : Nat) (m : Gm.L) (hm : Mx w A n c m) :
    Calls Try.prog 67 #[.slice A n c] w fun e w' => e = .returned (.bool (decide (Gm.right m))) ∧ Ext w w' := by
  have hmax := hm.max
  have hle := hm.le
  have L := Lib.hid hm.len
  by_cases h1 : 1 ≤ n
  · have g1 : ¬ (n : Int) < 1 := by omega
    by_cases h2 : n ≤ 255
    · have g2 : ¬ (255 : Int) < (n : Int) := by omega
      obtain ⟨b, off, A0, n0, c0, rfl, hc0, hb0⟩ := hm.at_ (show 0 < n by omega)
      rw [Nat.add_zero] at hc0
      have hx : Ext w (w.alloc (.cells #[.int .i64 (n0 : Int)] 3)) := Ext.alloc _ _
      have hcn : (w.alloc (.cells #[.int .i64 (n0 : Int)] 3)).cell? ⟨w.heap.size, 0, none⟩ = some (.int .i64 (n0 : Int)) := by rw [World.cell?_alloc_new]; rfl
      have hC := containsRow_any _ (some ⟨b, off, none⟩) n c m (hm.ext hx) 81 #[.pointer (some ⟨w.heap.size, 0, none⟩)] _ (enters_of Try.func81 (by kernel_rfl) rfl) (right1_asks _ _ n0 hcn)
      have hri := right_iff L.out h1 h2
      rw [hb0.len] at hri
      have HC := Lib.hid hC
      have HX := Lib.hid hx
      have HRI := Lib.hid hri
      have hm0 := hb0.max
      have hl0 := hb0.le
      clear hC hx hcn hri hb0 hm
      have q0 : (0 : Int) < (n : Int) := by omega
      by_cases h3 : 1 ≤ n0
      · have g3 : 1 ≤ (n0 : Int) := by omega
        by_cases h4 : n0 ≤ 255
        · have g4 : (n0 : Int) ≤ 255 := by omega
          go_enter Try.func67, Try.ntmps67
          go_wp2_with (fail)
          refine HC.out.mono ?_
          rintro r w' ⟨rfl, hx'⟩
          go_wp2_with (fail)
          go_ret
          refine ⟨ret_bool ?_, HX.out.trans hx'⟩
          unfold anyRow
          rw [Bool.eq_iff_iff, decide_eq_true_eq, HRI.out, Bool.not_eq_true', decide_eq_false_iff_not]
          exact ⟨fun h => ⟨⟨h3, h4⟩, h⟩, fun h => h.2⟩
        · have g4 : ¬ (n0 : Int) ≤ 255 := by omega
          go_enter Try.func67, Try.ntmps67
          go_wp2_with (fail)
          go_ret
          refine ⟨ret_bool ?_, HX.out⟩
          rw [eq_comm, decide_eq_false_iff_not, HRI.out]
          exact fun h => h4 h.1.2
      · have g3 : ¬ 1 ≤ (n0 : Int) := by omega
        go_enter Try.func67, Try.ntmps67
        go_wp2_with (fail)
        go_ret
        refine ⟨ret_bool ?_, HX.out⟩
        rw [eq_comm, decide_eq_false_iff_not, HRI.out]
        exact fun h => h3 h.1.1
    · have g2 : (255 : Int) < (n : Int) := by omega
      clear hm
      go_enter Try.func67, Try.ntmps67
      go_wp2_with (fail)
      go_ret
      refine ⟨ret_bool ?_, Ext.refl _⟩
      rw [eq_comm, decide_eq_false_iff_not]
      exact fun h => h2 (by have := h.2.1; rwa [L.out] at this)
  · have g1 : (n : Int) < 1 := by omega
    clear hm
    go_enter Try.func67, Try.ntmps67
    go_wp2_with (fail)
    go_ret
    refine ⟨ret_bool ?_, Ext.refl _⟩
    rw [eq_comm, decide_eq_false_iff_not]
    exact fun h => h1 (by have := h.1; rwa [L.out] at this)
end Go.Proofs.Ytfpcldkfmcnjkaa
namespace Go.Proofs.Ytfpcldkfmcnjkaa
open Go.RowKit

/-- A matrix of one's own is handed back. -/
def GivesQ (m : Gm.L) (w : World) (e : Ending) (w' : World) : Prop := ∃ v cs, e = .returned v ∧ Mq w' w.heap.size (Hot w.heap.size v) v m.length cs m ∧ Ext w w'
def GivesQE (m : Gm.L) (err : Int) (w : World) (e : Ending) (w' : World) : Prop := ∃ v cs, e = .returned (.tuple #[v, .int .i64 err]) ∧ Mq w' w.heap.size (Hot w.heap.size v) v m.length cs m ∧ Ext w w'
theorem GivesQE.none (err : Int) {w w' : World} (hx : Ext w w') : GivesQE [] err w (.returned (.tuple #[.slice none 0 0, .int .i64 err])) w' := ⟨_, [], rfl, Mq.nil _ _ _, hx⟩

def zeros (c : Nat) : List UInt8 := List.replicate c 0
theorem Mq.made0 (w : World) (r : Nat) (hr : r ≤ 1000) : Mq (w.alloc (.cells (made r (.slice none 0 0)) 22)) w.heap.size (Hot w.heap.size (.slice (some ⟨w.heap.size, 0, none⟩) r r)) (.slice (some ⟨w.heap.size, 0, none⟩) r r) r (List.replicate r (.slice none 0 0)) (List.replicate r []) := by
  have rw_ : ∀ i, i < r → Gm.row (List.replicate r []) i = [] := fun i hi => by simp [Gm.row, hi]
  have cell : ∀ (i : Nat) (u : Value), (List.replicate r (Value.slice none 0 0))[i]? = some u → u = .slice none 0 0 := fun i u hu => by
    rw [List.getElem?_replicate] at hu
    split at hu
    · injection hu with hu; exact hu.symm
    · cases hu
  refine ⟨by simp, ownsRow_made w _ _ r rfl hr (Nat.le_refl _), fun i hi => ?_, fun i u b hu hb => ?_, fun b hb => .inl hb, fun i j u u' b _ hu _ hb => ?_⟩
  · rw [rw_ i hi]
    exact ⟨none, 0, by simp [hi], World.ownsRow_nil _ _ _ _⟩
  · rw [cell i u hu] at hb; cases hb
  · rw [cell i u hu] at hb; cases hb
/-- The first k rows are done. -/
def mixed (m : Gm.L) (k : Nat) : Gm.L := m.take k ++ List.replicate (m.length - k) []
theorem mixed_zero (m : Gm.L) : mixed m 0 = List.replicate m.length [] := by simp [mixed]
theorem mixed_full {m : Gm.L} {k : Nat} (h : k = m.length) : mixed m k = m := by subst h; simp [mixed]
theorem mixed_length {m : Gm.L} {k : Nat} (h : k ≤ m.length) : (mixed m k).length = m.length := by simp [mixed]; omega
theorem mixed_set {m : Gm.L} {k : Nat} (h : k < m.length) : (mixed m k).set k (Gm.row m k) = mixed m (k + 1) := by
  unfold mixed
  rw [List.set_append_right _ _ (by simp; omega), show m.length - k = (m.length - (k + 1)) + 1 by omega, List.replicate_succ]
  rw [show k - (m.take k).length = 0 by simp; omega, List.set_cons_zero, List.take_succ_eq_append_getElem h, Gm.row_of_lt h, List.append_assoc]
  rfl
theorem row_replicate {r i : Nat} (x : List UInt8) (h : i < r) : Gm.row (List.replicate r x) i = x := by simp [Gm.row, h]

set_option maxRecDepth 100000 in
set_option maxHeartbeats 1000000 in
theorem blank_any (w : World) (r c : Nat) (hr : r ≤ 1000) (hc : c ≤ 1000) :
    Calls Try.prog 72 #[.int .i64 (r : Int), .int .i64 (c : Int)] w (GivesQ (List.replicate r (zeros c)) w) := by
  have hm1 := fun W => run_make_rows W r hr
  have hm2 := fun W => run_make_bytes W c hc
  have hq := Mq.made0 w r hr
  have hx0 : Ext w (w.alloc (.cells (made r (.slice none 0 0)) 22)) := Ext.alloc _ _
  have HQ := Lib.hid hq
  have HX := Lib.hid hx0
  clear hq hx0
  go_enter Try.func72, Try.ntmps72
  go_wp2_with (fail)
  have hq := HQ.out
  have hx0 := HX.out
  have hsz : w.heap.size < (w.alloc (.cells (made r (.slice none 0 0)) 22)).heap.size := by simp
  generalize (w.alloc (.cells (made r (.slice none 0 0)) 22)) = W0 at *
  generalize hg : w.heap.size = g at *
  have HG := Lib.hid hg
  clear hg HQ HX
  have hstart : List.replicate r ([] : List UInt8) = mixed (List.replicate r (zeros c)) 0 := by rw [mixed_zero, List.length_replicate]
  rw [hstart] at hq
  clear hstart
  go_loopw [6, 11] (fun _ s wr => ∃ (k : Nat) (cs : List Value), k ≤ r ∧ s = .int .i64 k ∧ Mq wr g (Hot g (.slice (some ⟨g, 0, none⟩) r r)) (.slice (some ⟨g, 0, none⟩) r r) r cs (mixed (List.replicate r (zeros c)) k) ∧ Ext w wr ∧ g < wr.heap.size) (fun _ s _ => r - (intOf s).toNat)
  case atStart => exact ⟨0, _, by omega, rfl, hq, hx0, hsz⟩
  case round =>
    obtain ⟨k, cs, hk, rfl, hQ, hx, hs⟩ := hrel
    clear hq hx0 hsz
    by_cases hlt : k < r
    · have q1 : (k : Int) < r := by omega
      obtain ⟨A0, c0, _, hcl, hfz, _⟩ := hQ.cellAt hlt
      have hal : Ext wr (wr.alloc (.cells (made c (.int .u8 0)) 5)) := Ext.alloc _ _
      have hro : (wr.alloc (.cells (made c (.int .u8 0)) 5)).ownsRow wr.heap.size 5 1 (.slice (some ⟨wr.heap.size, 0, none⟩) (zeros c).length c) (zeros c).length (bcells (zeros c)) := by
        unfold zeros
        rw [bcells_zeros, List.length_replicate]
        exact ownsRow_made wr _ _ c rfl hc (Nat.le_refl _)
      have hzl : (zeros c).length = c := by simp [zeros]
      have hput := (hQ.ext hal).put hlt hro (by omega) (fun b hb => by
        have hf := hQ.fresh hro (Nat.le_refl _) (hot_lt hs (by omega)) b hb
        exact ⟨hf.1, fun j u _ hu => hf.2 j u hu⟩)
      have hxs := (hx.trans hal).set_ (p := ⟨g, k, none⟩) (by rw [HG.out]; exact Nat.le_refl _) (.slice (some ⟨wr.heap.size, 0, none⟩) (zeros c).length c)
      rw [hzl] at hput hxs
      have hms : (mixed (List.replicate r (zeros c)) k).set k (zeros c) = mixed (List.replicate r (zeros c)) (k + 1) := by
        rw [← mixed_set (by simpa using hlt), row_replicate _ hlt]
      rw [hms] at hput
      have HP := Lib.hid hput
      have HXS := Lib.hid hxs
      clear hput hxs hro hal hzl hQ hms
      go_wp2_with (fail)
      rw [← World.setCell_alloc_past _ _ _ _ hs]
      exact ⟨⟨k + 1, _, by omega, by go_num, HP.out, HXS.out, by simp; omega⟩, by simp [intOf]; omega⟩
    · have q1 : ¬ (k : Int) < r := by omega
      obtain rfl : k = r := by omega
      rw [mixed_full (by simp)] at hQ
      go_wp2_with (fail)
      go_ret
      refine ⟨_, cs, rfl, ?_, hx⟩
      rw [HG.out, List.length_replicate]
      exact hQ

set_option maxRecDepth 100000 in
set_option maxHeartbeats 1000000 in
theorem own_any (w : World) (A : Option Addr) (n c : Nat) (m : Gm.L) (hm : Mx w A n c m) (hn : n ≤ 1000) (hw : ∀ i, i < n → (Gm.row m i).length ≤ 1000) :
    Calls Try.prog 71 #[.slice A n c] w (GivesQ m w) := by
  have hm1 := fun W => run_make_rows W n hn
  have hq := Mq.made0 w n hn
  have hx0 : Ext w (w.alloc (.cells (made n (.slice none 0 0)) 22)) := Ext.alloc _ _
  have hmx := hm.max
  have hle := hm.le
  have HQ := Lib.hid hq
  have HX := Lib.hid hx0
  have L := Lib.hid hm.len
  clear hq hx0
  go_enter Try.func71, Try.ntmps71
  go_wp2_with (fail)
  have hq := HQ.out
  have hx0 := HX.out
  have hsz : w.heap.size < (w.alloc (.cells (made n (.slice none 0 0)) 22)).heap.size := by simp
  generalize (w.alloc (.cells (made n (.slice none 0 0)) 22)) = W0 at *
  generalize hg : w.heap.size = g at *
  have HG := Lib.hid hg
  clear hg HQ HX
  have hstart : List.replicate n ([] : List UInt8) = mixed m 0 := by rw [mixed_zero, L.out]
  rw [hstart] at hq
  clear hstart
  go_loopw [4, 10] (fun _ s wr => ∃ (k : Nat) (cs : List Value), k ≤ n ∧ s = .int .i64 k ∧ Mq wr g (Hot g (.slice (some ⟨g, 0, none⟩) n n)) (.slice (some ⟨g, 0, none⟩) n n) n cs (mixed m k) ∧ Ext w wr ∧ g < wr.heap.size) (fun _ s _ => n - (intOf s).toNat)
  case atStart => exact ⟨0, _, by omega, rfl, hq, hx0, hsz⟩
  case round =>
    obtain ⟨k, cs, hk, rfl, hQ, hx, hs⟩ := hrel
    clear hq hx0 hsz
    by_cases hlt : k < n
    · have q1 : (k : Int) < n := by omega
      obtain ⟨b, o, Ai, ni, ci, rfl, hce, hbi⟩ := (hm.ext hx).at_ hlt
      have hms : (mixed m k).set k (Gm.row m k) = mixed m (k + 1) := mixed_set (by rw [L.out]; exact hlt)
      have hni := hbi.len
      subst hni
      have hcl := clone_any wr Ai _ ci _ hbi (by have := hw k hlt; omega)
      generalize Gm.row m k = r at *
      have HMS := Lib.hid hms
      have HQ := Lib.hid hQ
      have HC := Lib.hid hcl
      clear hms hQ hcl
      go_wp2_with (fail)
      refine HC.out.mono ?_
      rintro e w1 ⟨v, rfl, hv⟩
      obtain ⟨A1, c1, rfl, hb1⟩ := hv.bs
      have hro := hv.own
      have hQ := HQ.out.ext hv.ext
      have hs1 : g < w1.heap.size := Nat.lt_of_lt_of_le hs hv.ext.size
      have hput := hQ.put hlt hro (by omega) (fun b hb => by
        have hf := HQ.out.fresh hro (Nat.le_refl _) (hot_lt hs (by omega)) b hb
        exact ⟨hf.1, fun j u _ hu => hf.2 j u hu⟩)
      obtain ⟨A0, c0, _, hcl, hfz, _⟩ := hQ.cellAt hlt
      have hxs := (hx.trans hv.ext).set_ (p := ⟨g, k, none⟩) (by rw [HG.out]; exact Nat.le_refl _) (.slice A1 r.length c1)
      rw [HMS.out] at hput
      have HP := Lib.hid hput
      have HXS := Lib.hid hxs
      clear hput hxs hro hQ hv hb1 HC HQ
      go_wp2_with (fail)
      exact ⟨⟨k + 1, _, by omega, by go_num, HP.out, HXS.out, by simp; omega⟩, by simp [intOf]; omega⟩
    · have q1 : ¬ (k : Int) < n := by omega
      obtain rfl : k = n := by omega
      rw [mixed_full L.out.symm] at hQ
      go_wp2_with (fail)
      go_ret
      refine ⟨_, cs, rfl, ?_, hx⟩
      rw [HG.out, L.out]
      exact hQ
end Go.Proofs.Ytfpcldkfmcnjkaa
namespace Go.Proofs.Ytfpcldkfmcnjkaa
open Go.RowKit

/-- The first k rows are another matrix's. -/
def upTo (a b : Gm.L) (k : Nat) : Gm.L := a.take k ++ b.drop k
theorem upTo_zero (a b : Gm.L) : upTo a b 0 = b := by simp [upTo]
theorem upTo_full {a b : Gm.L} {k : Nat} (h : k = a.length) (hb : b.length = a.length) : upTo a b k = a := by
  subst h
  unfold upTo
  rw [List.take_length, ← hb, List.drop_length, List.append_nil]
theorem upTo_length {a b : Gm.L} (hb : b.length = a.length) {k : Nat} (h : k ≤ a.length) : (upTo a b k).length = a.length := by simp [upTo]; omega
theorem upTo_set {a b : Gm.L} {k : Nat} (hb : b.length = a.length) (h : k < a.length) : (upTo a b k).set k (Gm.row a k) = upTo a b (k + 1) := by
  unfold upTo
  rw [List.set_append_right _ _ (by simp; omega), show k - (a.take k).length = 0 by simp; omega, List.drop_eq_getElem_cons (by omega), List.set_cons_zero, List.take_succ_eq_append_getElem h, Gm.row_of_lt h, List.append_assoc]
  rfl
theorem row_upTo {a b : Gm.L} {k i : Nat} (ha : k ≤ a.length) (hk : k ≤ i) : Gm.row (upTo a b k) i = Gm.row b i := by
  unfold upTo Gm.row
  rw [List.getD_eq_getElem?_getD, List.getD_eq_getElem?_getD, List.getElem?_append_right (by simp; omega), List.getElem?_drop]
  congr 2
  simp; omega
theorem set_set (m : Gm.L) (i : Nat) (a b : List UInt8) : (m.set i a).set i b = m.set i b := List.set_set ..
theorem unit_row (n k : Nat) (hk : k < n) : (zeros n).set k 1 = Gm.row (Gm.unit n) k := by
  unfold Gm.unit
  rw [Gm.row_range _ hk]
  refine Gf.ext_get (by simp [zeros]) fun j hj => ?_
  have hj' : j < n := by simpa [zeros] using hj
  rw [Gf.get_set _ (by simp [zeros]; exact hk), Gf.get_map_range _ hj']
  by_cases e : k = j
  · rw [if_pos e, if_pos e]
  · rw [if_neg e, if_neg e]; exact Gf.get_zeros _ _

set_option maxRecDepth 100000 in
set_option maxHeartbeats 1000000 in
theorem unit_ok (w : World) (n : Nat) (h1 : 1 ≤ n) (h2 : n ≤ 255) :
    Calls Try.prog 54 #[.int .i64 (n : Int)] w (GivesQE (Gm.unit n) 0 w) := by
  have g1 : ¬ (n : Int) < 1 := by omega
  have g2 : ¬ (255 : Int) < n := by omega
  go_enter Try.func54, Try.ntmps54
  go_wp2_with (fail)
  refine (blank_any w n n (by omega) (by omega)).mono ?_
  rintro e w1 ⟨v, cs, rfl, hQ, hx⟩
  rw [List.length_replicate] at hQ
  obtain ⟨A, c0, rfl, hc1, hc2⟩ := ownsRow_slice hQ.own
  obtain ⟨g, rfl, hg1, hg2⟩ := own_addr hQ.own (by omega)
  have hul : (Gm.unit n).length = n := (Gm.unit_rect n).len
  have hst : List.replicate n (zeros n) = upTo (Gm.unit n) (List.replicate n (zeros n)) 0 := (upTo_zero _ _).symm
  rw [hst] at hQ
  have HU := Lib.hid hul
  clear hst hul
  go_wp2_with (fail)
  go_loopw [5, 17] (fun _ s wr => ∃ (k : Nat) (cs : List Value), k ≤ n ∧ s = .int .i64 k ∧ Mq wr w.heap.size (Hot w.heap.size (.slice (some ⟨g, 0, none⟩) n c0)) (.slice (some ⟨g, 0, none⟩) n c0) n cs (upTo (Gm.unit n) (List.replicate n (zeros n)) k) ∧ Ext w wr) (fun _ s _ => n - (intOf s).toNat)
  case atStart => exact ⟨0, cs, by omega, rfl, hQ, hx⟩
  case round =>
    obtain ⟨k, cs, hk, rfl, hQ', hx'⟩ := hrel
    clear hQ hx
    by_cases hlt : k < n
    · have q1 : (k : Int) < n := by omega
      obtain ⟨Ai, ci, hcs, hcell, _, ho⟩ := hQ'.cellAt hlt
      have hrow : Gm.row (upTo (Gm.unit n) (List.replicate n (zeros n)) k) k = zeros n := by rw [row_upTo (by rw [HU.out]; omega) (Nat.le_refl _), row_replicate _ hlt]
      have hpk := fun (b : Nat) (hA : Ai = some ⟨b, 0, none⟩) (hv : (Value.slice (some ⟨g, 0, none⟩) n c0).ownBlock ≠ some b) => hQ'.poke hlt (g := b) (c := ci) (by rw [hcs, hA]) k 1 hv
      rw [hrow] at hcs hcell ho hpk
      have hzl : (zeros n).length = n := by simp [zeros]
      rw [hzl] at hcs hcell ho
      obtain ⟨b, rfl, hb1, hb2⟩ := own_addr ho (by omega)
      have hne : (Value.slice (some ⟨g, 0, none⟩) n c0).ownBlock ≠ some b := fun e => hQ'.cool k _ b hcs rfl (.inl e)
      have hp := hpk b rfl hne
      rw [unit_row n k hlt, upTo_set (by rw [HU.out]; simp) (by rw [HU.out]; exact hlt)] at hp
      have hcb : wr.cell? ⟨b, k, none⟩ = some (.int .u8 ((Gf.get (zeros n) k).toNat : Int)) := by rw [ho.cellAt k (by omega), bcells_get (by rw [hzl]; exact hlt)]
      have hfb : wr.frozen? ⟨b, k, none⟩ = false := ho.frozenAt k
      have hxs := hx'.set_ (p := ⟨b, k, none⟩) hb1 (.int .u8 ((1 : UInt8).toNat : Int))
      have h11 : ((1 : UInt8).toNat : Int) = 1 := rfl
      rw [h11] at hp hxs
      have HP := Lib.hid hp
      have HXS := Lib.hid hxs
      clear hp hpk hxs h11 hrow hQ' ho hcs hzl hne
      go_wp2_with (fail)
      exact ⟨⟨k + 1, _, by omega, by go_num, HP.out, HXS.out⟩, by simp [intOf]; omega⟩
    · have q1 : ¬ (k : Int) < n := by omega
      obtain rfl : k = n := by omega
      rw [upTo_full HU.out.symm (by rw [HU.out]; simp)] at hQ'
      go_wp2_with (fail)
      go_ret2
      refine ⟨_, cs, rfl, ?_, hx'⟩
      rw [HU.out]
      exact hQ'
set_option maxHeartbeats 1000000 in
theorem unit_no (w : World) (n : Int) (h : n < 1 ∨ 255 < n) :
    Calls Try.prog 54 #[.int .i64 n] w (GivesQE [] 2 w) := by
  rcases h with h | h
  · go_enter Try.func54, Try.ntmps54
    go_wp2_with (fail)
    go_ret2
    exact GivesQE.none 2 (Ext.refl w)
  · have h' : ¬ n < 1 := by omega
    go_enter Try.func54, Try.ntmps54
    go_wp2_with (fail)
    go_ret2
    exact GivesQE.none 2 (Ext.refl w)

end Go.Proofs.Ytfpcldkfmcnjkaa
namespace Go.Proofs.Ytfpcldkfmcnjkaa
open Go.RowKit

theorem Ext.gb {w w' : World} (hx : Ext w w') (row : Option Nat) : w.grownBy w' row := ⟨hx.os, hx.tape, hx.output, hx.size, fun k hk _ => hx.block k hk⟩
theorem gb_set {w w1 : World} {g : Nat} (h : w.grownBy w1 (some g)) (i : Nat) (u : Value) : w.grownBy (w1.setCell ⟨g, i, none⟩ u) (some g) :=
  ⟨h.os, h.tape, h.output, by simpa using h.size, fun k hk hne => (heap_setCell_other w1 ⟨g, i, none⟩ k u (fun e => hne (by rw [e]))).trans (h.block k hk hne)⟩
theorem grownBy_trans' {a w w' : World} {row : Option Nat} (h : a.grownBy w row) (k : w.grownBy w' row) : a.grownBy w' row :=
  ⟨k.os.trans h.os, k.tape.trans h.tape, k.output.trans h.output, Nat.le_trans h.size k.size, fun i hi hne => (k.block i (Nat.lt_of_lt_of_le hi h.size) hne).trans (h.block i hi hne)⟩
theorem FieldAt.gb {w w' : World} {b : Nat} (h : FieldAt w b) {g : Nat} (hg : w.grownBy w' (some g)) (hne : b ≠ g) : FieldAt w' b :=
  ⟨hg.cell h.made (fun e => hne (by injection e)), fun i hi => hg.cell (h.exp i hi) (fun e => hne (by injection e)), fun x => hg.cell (h.log x) (fun e => hne (by injection e))⟩

end Go.Proofs.Ytfpcldkfmcnjkaa
