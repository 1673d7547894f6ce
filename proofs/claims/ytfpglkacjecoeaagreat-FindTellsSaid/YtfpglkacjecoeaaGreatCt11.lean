/- Several texts in one: Matrices of the call's own: the outer row, and each row, in blocks of their own. No statement of the seat is proved here. The contract of find.Begin. The memory of find.Told: three boxes, the lists of one's own. No statement of the seat is proved here. -/
import Derived.Test.YtfpglkacjecoeaaGreatCt4
import Derived.Test.YtfpglkacjecoeaaGreatCt8
import Derived.OneCell
import Derived.Laws.OwnMore
import Derived.Laws.MakeOwn
import Derived.Test.YtfpglkacjecoeaaGreatCt10
namespace Go.Proofs.YtfpglkacjecoeaaGreat
open Go.RowKit

/-- A matrix of one's own: its blocks are from 'base' on, all different; no row is in a block of a kind, the outer row is. -/
structure Mq (w : World) (base : Nat) (P : Nat → Prop) (v : Value) (n : Nat) (cs : List Value) (m : Gm.L) : Prop where
  len : m.length = n
  own : w.ownsRow base 46 1 v n cs
  row : ∀ i, i < n → ∃ A c, cs[i]? = some (.slice A (Gm.row m i).length c) ∧ w.ownsRow base 5 1 (.slice A (Gm.row m i).length c) (Gm.row m i).length (bcells (Gm.row m i))
  cool : ∀ (i : Nat) (u : Value) (b : Nat), cs[i]? = some u → u.ownBlock = some b → ¬ P b
  hot : ∀ b, v.ownBlock = some b → P b
  apart : ∀ (i j : Nat) (u u' : Value) (b : Nat), i ≠ j → cs[i]? = some u → cs[j]? = some u' → u.ownBlock = some b → u'.ownBlock ≠ some b
section
variable {w w' : World} {base : Nat} {P : Nat → Prop} {v : Value} {n : Nat} {cs : List Value} {m : Gm.L}
theorem Mq.clen (h : Mq w base P v n cs m) : cs.length = n := by have := h.own.1; omega
theorem Mq.ext (h : Mq w base P v n cs m) (hx : Ext w w') : Mq w' base P v n cs m :=
  ⟨h.len, ownsRow_ext h.own hx, fun i hi => by obtain ⟨A, c, e, ho⟩ := h.row i hi; exact ⟨A, c, e, ownsRow_ext ho hx⟩, h.cool, h.hot, h.apart⟩
theorem Mq.rows (h : Mq w base P v n cs m) : Rows w cs m :=
  ⟨by rw [h.clen, h.len], fun i hi => by
    obtain ⟨A, c, e, ho⟩ := h.row i (by rw [← h.len]; exact hi)
    exact ⟨A, _, c, e, (Own.mk (base := base) (e := 5) ho).bs⟩⟩
theorem Mq.mx (h : Mq w base P v n cs m) : ∃ A c, v = .slice A n c ∧ Mx w A n c m := by
  obtain ⟨A, c, rfl, h1, h2⟩ := ownsRow_slice h.own
  exact ⟨A, c, rfl, h.len, h1, h2, cs, Rd.of_own h.own, h.rows⟩
theorem Mq.block (h : Mq w base P v n cs m) {i : Nat} {u : Value} {b : Nat} (hu : cs[i]? = some u) (hb : u.ownBlock = some b) : base ≤ b ∧ b < w.heap.size := by
  have hi : i < n := by have := (List.getElem?_eq_some_iff.1 hu).1; rwa [h.clen] at this
  obtain ⟨A, c, e, ho⟩ := h.row i hi
  rw [hu] at e
  injection e with e
  subst e
  exact ho.lt b hb
theorem Mq.kind {P' : Nat → Prop} (h : Mq w base P v n cs m) (hP : ∀ b, b < w.heap.size → base ≤ b → P' b → P b) (hv : ∀ b, v.ownBlock = some b → P' b) : Mq w base P' v n cs m :=
  ⟨h.len, h.own, h.row, fun i u b hu hb hp => h.cool i u b hu hb (hP b (h.block hu hb).2 (h.block hu hb).1 hp), hv, h.apart⟩
theorem Mq.base_le {base' : Nat} (h : Mq w base P v n cs m) (hb : base' ≤ base) : Mq w base' P v n cs m :=
  ⟨h.len, ownsRow_base h.own hb, fun i hi => by obtain ⟨A, c, e, ho⟩ := h.row i hi; exact ⟨A, c, e, ownsRow_base ho hb⟩, h.cool, h.hot, h.apart⟩
/-- A store into another block of the kind. -/
theorem Mq.far (h : Mq w base P v n cs m) {q : Addr} (hq : P q.block) (hv : v.ownBlock ≠ some q.block) (u : Value) : Mq (w.setCell q u) base P v n cs m :=
  ⟨h.len, ownsRow_setCell_other h.own hv u, fun i hi => by
    obtain ⟨A, c, e, ho⟩ := h.row i hi
    exact ⟨A, c, e, ownsRow_setCell_other ho (fun e' => h.cool i _ _ e e' hq) u⟩, h.cool, h.hot, h.apart⟩
/-- A store into a block ahead of all of it. -/
theorem Mq.below (h : Mq w base P v n cs m) {q : Addr} (hq : q.block < base) (u : Value) : Mq (w.setCell q u) base P v n cs m :=
  ⟨h.len, ownsRow_far h.own hq u, fun i hi => by
    obtain ⟨A, c, e, ho⟩ := h.row i hi
    exact ⟨A, c, e, ownsRow_far ho hq u⟩, h.cool, h.hot, h.apart⟩
theorem row_set_ne {m : Gm.L} {i j : Nat} (r : List UInt8) (h : i ≠ j) : Gm.row (m.set i r) j = Gm.row m j := by
  unfold Gm.row
  rw [List.getD_eq_getElem?_getD, List.getD_eq_getElem?_getD, List.getElem?_set, if_neg h]
/-- A row is stored. -/
theorem Mq.put {g c0 : Nat} (h : Mq w base P (.slice (some ⟨g, 0, none⟩) n c0) n cs m) {i : Nat} (hi : i < n) {A : Option Addr} {c b1 : Nat} {r : List UInt8} (hr1 : w.ownsRow b1 5 1 (.slice A r.length c) r.length (bcells r)) (hb1 : base ≤ b1)
    (hf : ∀ b, (Value.slice A r.length c).ownBlock = some b → ¬ P b ∧ ∀ j u, j ≠ i → cs[j]? = some u → u.ownBlock ≠ some b) :
    Mq (w.setCell ⟨g, i, none⟩ (.slice A r.length c)) base P (.slice (some ⟨g, 0, none⟩) n c0) n (cs.set i (.slice A r.length c)) (m.set i r) := by
  have hr := ownsRow_base hr1 hb1
  have hg : P g := h.hot g rfl
  have hil : i < cs.length := by rw [h.clen]; exact hi
  refine ⟨by rw [List.length_set]; exact h.len, (h.own.stored i _).1, fun j hj => ?_, fun j u b hu hb => ?_, h.hot, fun j k u u' b hjk hu hu' hb => ?_⟩
  · by_cases e : i = j
    · subst e
      have hrow : Gm.row (m.set i r) i = r := by rw [Gm.row_set _ (by rw [h.len]; exact hi), if_pos rfl]
      rw [hrow]
      exact ⟨A, c, by rw [List.getElem?_set, if_pos rfl, if_pos hil], ownsRow_setCell_other hr (fun e' => (hf _ e').1 hg) _⟩
    · rw [row_set_ne r e]
      obtain ⟨A', c', e', ho⟩ := h.row j hj
      exact ⟨A', c', by rw [List.getElem?_set, if_neg e]; exact e', ownsRow_setCell_other ho (fun e2 => h.cool j _ _ e' e2 hg) _⟩
  · rw [List.getElem?_set] at hu
    by_cases e : i = j
    · rw [if_pos e, if_pos hil] at hu
      injection hu with hu
      subst hu
      exact (hf b hb).1
    · rw [if_neg e] at hu
      exact h.cool j u b hu hb
  · rw [List.getElem?_set] at hu hu'
    by_cases e : i = j
    · rw [if_pos e, if_pos hil] at hu
      injection hu with hu
      subst hu
      rw [if_neg (by omega)] at hu'
      exact (hf b hb).2 k u' (by omega) hu'
    · rw [if_neg e] at hu
      by_cases e2 : i = k
      · rw [if_pos e2, if_pos hil] at hu'
        injection hu' with hu'
        subst hu'
        intro hb'
        exact (hf b hb').2 j u (by omega) hu hb
      · rw [if_neg e2] at hu'
        exact h.apart j k u u' b hjk hu hu' hb
/-- What a new row must be: in a block that was not there. -/
theorem Mq.fresh (h : Mq w base P v n cs m) {w1 : World} {A : Option Addr} {r : List UInt8} {c base1 : Nat} (hr : w1.ownsRow base1 5 1 (.slice A r.length c) r.length (bcells r)) (hb1 : w.heap.size ≤ base1) (hP : ∀ b, P b → b < w.heap.size) :
    ∀ b, (Value.slice A r.length c).ownBlock = some b → ¬ P b ∧ ∀ (j : Nat) (u : Value), cs[j]? = some u → u.ownBlock ≠ some b := fun b hb => by
  have h1 := (hr.lt b hb).1
  exact ⟨fun hp => by have := hP b hp; omega, fun j u hu e => by have := (h.block hu e).2; omega⟩
/-- Two rows are changed about. -/
theorem Mq.swap {g c0 : Nat} (h : Mq w base P (.slice (some ⟨g, 0, none⟩) n c0) n cs m) {p q : Nat} (hp : p < n) (hq : q < n) {up uq : Value} (hup : cs[p]? = some up) (huq : cs[q]? = some uq) :
    Mq ((w.setCell ⟨g, p, none⟩ uq).setCell ⟨g, q, none⟩ up) base P (.slice (some ⟨g, 0, none⟩) n c0) n ((cs.set p uq).set q up) (Gm.swapL m p q) := by
  have hg : P g := h.hot g rfl
  have hpl : p < cs.length := by rw [h.clen]; exact hp
  have hql : q < cs.length := by rw [h.clen]; exact hq
  have hml : p < m.length := by rw [h.len]; exact hp
  have hmq : q < m.length := by rw [h.len]; exact hq
  have key : ∀ j, j < n → ((cs.set p uq).set q up)[j]? = cs[Gm.swapI p q j]? := fun j hj => by
    rw [List.getElem?_set, List.getElem?_set, List.length_set]
    unfold Gm.swapI
    by_cases e1 : q = j
    · rw [if_pos e1, if_pos hql]
      by_cases e2 : j = p
      · have e3 : p = q := by omega
        rw [if_pos e2, ← e3, hup]
      · rw [if_neg e2, if_pos e1.symm, hup]
    · rw [if_neg e1]
      by_cases e2 : p = j
      · rw [if_pos e2, if_pos hpl, if_pos e2.symm, huq]
      · rw [if_neg e2, if_neg (Ne.symm e2), if_neg (Ne.symm e1)]
  have o2 := ((h.own.stored p uq).1.stored q up).1
  have hclen : ((cs.set p uq).set q up).length = n := by rw [List.length_set, List.length_set, h.clen]
  have lt_of : ∀ (j : Nat) (u : Value), ((cs.set p uq).set q up)[j]? = some u → j < n := fun j u hu => by have := (List.getElem?_eq_some_iff.1 hu).1; rwa [hclen] at this
  refine ⟨by unfold Gm.swapL; rw [List.length_set, List.length_set]; exact h.len, o2, fun j hj => ?_, fun j u b hu hb => ?_, h.hot, fun j k u u' b hjk hu hu' hb => ?_⟩
  · have hs := Gm.swapI_lt hp hq hj
    rw [Gm.row_swapL hml hmq, key j hj]
    obtain ⟨A, c, e, ho⟩ := h.row _ hs
    exact ⟨A, c, e, ownsRow_setCell_other (ownsRow_setCell_other ho (fun e2 => h.cool _ _ _ e e2 hg) _) (fun e2 => h.cool _ _ _ e e2 hg) _⟩
  · have hj := lt_of j u hu
    rw [key j hj] at hu
    exact h.cool _ u b hu hb
  · have hj := lt_of j u hu
    have hk := lt_of k u' hu'
    rw [key j hj] at hu
    rw [key k hk] at hu'
    refine h.apart _ _ u u' b (fun e => hjk ?_) hu hu' hb
    have := congrArg (Gm.swapI p q) e
    rwa [Gm.swapI_swapI, Gm.swapI_swapI] at this
/-- A byte of a row is stored. -/
theorem Mq.poke (h : Mq w base P v n cs m) {i : Nat} (hi : i < n) {g c : Nat} (hc : cs[i]? = some (.slice (some ⟨g, 0, none⟩) (Gm.row m i).length c)) (j : Nat) (x : UInt8) (hv : v.ownBlock ≠ some g) :
    Mq (w.setCell ⟨g, j, none⟩ (.int .u8 (x.toNat : Int))) base P v n cs (m.set i ((Gm.row m i).set j x)) := by
  refine ⟨by rw [List.length_set]; exact h.len, ownsRow_setCell_other h.own hv _, fun k hk => ?_, h.cool, h.hot, h.apart⟩
  by_cases e : i = k
  · subst e
    rw [Gm.row_set _ (by rw [h.len]; exact hi), if_pos rfl, List.length_set]
    obtain ⟨A, c', e', ho⟩ := h.row i hi
    rw [hc] at e'
    injection e' with e'
    injection e' with e1 e2 e3
    subst e1 e3
    refine ⟨_, _, hc, ?_⟩
    rw [bcells_set]
    exact (ho.stored j _).1
  · rw [row_set_ne _ e]
    obtain ⟨A, c', e', ho⟩ := h.row k hk
    exact ⟨A, c', e', ownsRow_setCell_other ho (fun e2 => h.apart k i _ _ g (Ne.symm e) e' hc e2 rfl) _⟩
theorem Mq.nil (w : World) (base : Nat) (P : Nat → Prop) : Mq w base P (.slice none 0 0) 0 [] [] :=
  ⟨rfl, World.ownsRow_nil _ _ _ _, fun _ h => absurd h (Nat.not_lt_zero _), fun _ _ _ h => by simp at h, fun _ h => by simp [Value.ownBlock] at h, fun _ _ _ _ _ _ h => by simp at h⟩
end
/-- The kind of blocks that are hot for a matrix handed back: its outer row's, and what was there before. -/
abbrev Hot (base : Nat) (v : Value) : Nat → Prop := fun b => v.ownBlock = some b ∨ b < base
theorem Mq.lower {w : World} {base base' n : Nat} {v : Value} {cs : List Value} {m : Gm.L} (h : Mq w base (Hot base v) v n cs m) (hb : base' ≤ base) : Mq w base' (Hot base' v) v n cs m :=
  (h.kind (fun b _ h2 hp => by rcases hp with hp | hp; exact .inl hp; omega) (fun b hb => .inl hb)).base_le hb
theorem hot_lt {base g r c N : Nat} (hg : g < N) (hb : base ≤ N) : ∀ b, Hot base (.slice (some ⟨g, 0, none⟩) r c) b → b < N := fun b hp => by
  rcases hp with hp | hp
  · have hp' : some g = some b := hp
    injection hp' with hp'
    omega
  · omega
theorem Mq.cellAt {w : World} {base g c0 n : Nat} {P : Nat → Prop} {cs : List Value} {m : Gm.L} (h : Mq w base P (.slice (some ⟨g, 0, none⟩) n c0) n cs m) {k : Nat} (hk : k < n) : ∃ A c, cs[k]? = some (.slice A (Gm.row m k).length c) ∧ w.cell? ⟨g, k, none⟩ = some (.slice A (Gm.row m k).length c) ∧ w.frozen? ⟨g, k, none⟩ = false ∧ w.ownsRow base 5 1 (.slice A (Gm.row m k).length c) (Gm.row m k).length (bcells (Gm.row m k)) := by
  obtain ⟨A, c, e, ho⟩ := h.row k hk
  exact ⟨A, c, e, by rw [h.own.cellAt k (by omega), e], h.own.frozenAt k, ho⟩
/-- A row is appended. -/
theorem Mq.snoc {w w1 w' : World} {base : Nat} {v v' : Value} {n : Nat} {cs : List Value} {m : Gm.L} (h : Mq w base (Hot base v) v n cs m) (hx : Ext w w1) {A : Option Addr} {c b1 : Nat} {r : List UInt8} (hr : w1.ownsRow b1 5 1 (.slice A r.length c) r.length (bcells r)) (hb1 : w.heap.size ≤ b1) (hbase : base ≤ w.heap.size)
    (hx' : Ext w1 w') {w2 : World} (hown : w2.ownsRow base 46 1 v' (n + 1) (cs ++ [.slice A r.length c])) (hg : w'.grownBy w2 v.ownBlock) (hat : v'.ownBlock = v.ownBlock ∨ v'.ownBlock = some w'.heap.size) :
    Mq w2 base (Hot base v') v' (n + 1) (cs ++ [.slice A r.length c]) (m ++ [r]) := by
  have hclen := h.clen
  have hrow : ∀ (j : Nat) (u : Value), (cs ++ [Value.slice A r.length c])[j]? = some u → (j < n ∧ cs[j]? = some u) ∨ (j = n ∧ u = .slice A r.length c) := fun j u hu => by
    by_cases e : j < n
    · exact .inl ⟨e, by rwa [List.getElem?_append_left (by omega)] at hu⟩
    · rw [List.getElem?_append_right (by omega)] at hu
      have hj := (List.getElem?_eq_some_iff.1 hu).1
      simp at hj
      have : j = n := by omega
      subst this
      rw [hclen, Nat.sub_self] at hu
      simp at hu
      exact .inr ⟨rfl, hu.symm⟩
  have blk : ∀ (j : Nat) (u : Value) (b : Nat), (cs ++ [Value.slice A r.length c])[j]? = some u → u.ownBlock = some b → base ≤ b ∧ b < w'.heap.size ∧ v.ownBlock ≠ some b := fun j u b hu hb => by
    rcases hrow j u hu with ⟨_, hu'⟩ | ⟨_, rfl⟩
    · have h1 := h.block hu' hb
      have h2 := hx.size
      have h3 := hx'.size
      exact ⟨h1.1, by omega, fun e => h.cool j u b hu' hb (.inl e)⟩
    · have h1 := hr.lt b hb
      have h3 := hx'.size
      refine ⟨by omega, by omega, fun e => ?_⟩
      have := (h.own.lt b e).2
      omega
  have cool : ∀ (j : Nat) (u : Value) (b : Nat), (cs ++ [Value.slice A r.length c])[j]? = some u → u.ownBlock = some b → ¬ Hot base v' b := fun j u b hu hb hp => by
    obtain ⟨h1, h2, h3⟩ := blk j u b hu hb
    rcases hp with hp | hp
    · rcases hat with e | e
      · rw [e] at hp; exact h3 hp
      · rw [e] at hp; injection hp with hp; omega
    · omega
  refine ⟨by simp [h.len], hown, fun i hi => ?_, cool, fun b hb => .inl hb, fun i j u u' b hij hu hu' hb hb' => ?_⟩
  · by_cases e : i < n
    · rw [row_append_lt _ (by rw [h.len]; exact e)]
      obtain ⟨A', c', e', ho⟩ := h.row i e
      refine ⟨A', c', by rw [List.getElem?_append_left (by omega)]; exact e', ?_⟩
      refine ownsRow_grown (ownsRow_ext (ownsRow_ext ho hx) hx') hg ?_
      cases hq : (Value.slice A' (Gm.row m i).length c').ownBlock with
      | none => exact .inl rfl
      | some b => exact .inr (fun e2 => h.cool i _ b e' hq (.inl e2.symm))
    · have : i = n := by omega
      subst this
      rw [← h.len, row_append_last]
      refine ⟨A, c, by rw [List.getElem?_append_right (by rw [hclen, h.len]; exact Nat.le_refl _)]; simp [hclen, h.len], ?_⟩
      refine ownsRow_grown (ownsRow_base (ownsRow_ext hr hx') (by omega)) hg ?_
      cases hq : (Value.slice A r.length c).ownBlock with
      | none => exact .inl rfl
      | some b => exact .inr (fun e2 => (blk m.length _ b (by rw [List.getElem?_append_right (by rw [hclen, h.len]; exact Nat.le_refl _)]; simp [hclen, h.len]) hq).2.2 e2.symm)
  · rcases hrow i u hu with ⟨hi, hu1⟩ | ⟨hi, rfl⟩
    · rcases hrow j u' hu' with ⟨hj, hu2⟩ | ⟨hj, rfl⟩
      · exact h.apart i j u u' b hij hu1 hu2 hb hb'
      · have h1 := (h.block hu1 hb).2
        have h2 := (hr.lt b hb').1
        omega
    · rcases hrow j u' hu' with ⟨hj, hu2⟩ | ⟨hj, rfl⟩
      · have h1 := (h.block hu2 hb').2
        have h2 := (hr.lt b hb).1
        omega
      · omega

/-- Many times one value, in a block. -/
def made (c : Nat) (z : Value) : Array Value := madeCells #[z] c
theorem made_toList (c : Nat) (z : Value) : (made c z).toList = List.replicate c z := by
  unfold made madeCells
  rw [Array.toList_map, Array.toList_range]
  apply List.ext_getElem (by simp)
  intro i h1 h2
  simp [Nat.mod_one]
theorem made_size (c : Nat) (z : Value) : (made c z).size = c := by simp [made, size_madeCells]
theorem run_make_rows (W : World) (c : Nat) (hc : c ≤ 1000) : (Instr.makeSlice 39 (.int .i64 (c : Int)) (.int .i64 (c : Int))).run Tryz.prog W = .ok (.slice (some ⟨W.heap.size, 0, none⟩) c c) (W.alloc (.cells (made c (.slice none 0 0)) 46)) := by
  obtain ⟨i, hi, hz, h1, h2⟩ := info_parts bytes_info
  have h := run_make (P := Tryz.prog) W 39 46 i _ Tryz.underlying39 hi hz .i64 .i64 (c : Int) (c : Int) (by omega) (Int.le_refl _) (by rw [h2]; omega) (by omega)
  rw [h1] at h
  simpa [made, Value.cells] using h
theorem run_make_bytes (W : World) (c : Nat) (hc : c ≤ 1000) : (Instr.makeSlice 46 (.int .i64 (c : Int)) (.int .i64 (c : Int))).run Tryz.prog W = .ok (.slice (some ⟨W.heap.size, 0, none⟩) c c) (W.alloc (.cells (made c (.int .u8 0)) 5)) := by
  obtain ⟨i, hi, hz, h1, h2⟩ := info_parts u8_info
  have h := run_make (P := Tryz.prog) W 46 5 i _ Tryz.underlying46 hi hz .i64 .i64 (c : Int) (c : Int) (by omega) (Int.le_refl _) (by rw [h2]; omega) (by omega)
  rw [h1] at h
  simpa [made, Value.cells] using h
/-- A block that was just made, as a row of one's own. -/
theorem ownsRow_made (w : World) (e : TypeId) (z : Value) (c : Nat) (hz : z.oneCell' = true) (hc : c ≤ 1000) {base : Nat} (hb : base ≤ w.heap.size) : (w.alloc (.cells (made c z) e)).ownsRow base e 1 (.slice (some ⟨w.heap.size, 0, none⟩) c c) c (List.replicate c z) :=
  ⟨by simp, .inr ⟨w.heap.size, c, made c z, rfl, hb, heap_alloc_new w _, Nat.le_refl _, by unfold maxLen; omega, by simp [made_size], by rw [made_toList]; simp⟩⟩
theorem bcells_zeros (c : Nat) : bcells (List.replicate c 0) = List.replicate c (.int .u8 0) := by simp [bcells]
end Go.Proofs.YtfpglkacjecoeaaGreat
namespace Go.Proofs.YtfpglkacjecoeaaGreat
open Go.RowKit

/-- The lists of a find, in memory of one's own, each by itself. -/
structure Fo (w : World) (base : Nat) (f : Finds.F) (U V S : Value) : Prop where
  u : w.ownsRow base 3 1 U f.marks.length (icells f.marks)
  v : w.ownsRow base 3 1 V f.which.length (icells f.which)
  s : ∃ cs, Mq w base (Hot base S) S f.shards.length cs f.shards
  ne : ∀ b, U.ownBlock = some b → V.ownBlock ≠ some b
theorem Fo.ext {w w' : World} {base : Nat} {f : Finds.F} {U V S : Value} (h : Fo w base f U V S) (hx : Ext w w') : Fo w' base f U V S := by
  obtain ⟨h1, h2, ⟨cs, h3⟩, h4⟩ := h
  exact ⟨ownsRow_ext h1 hx, ownsRow_ext h2 hx, ⟨cs, h3.ext hx⟩, h4⟩
theorem Fo.fd {w : World} {base : Nat} {f : Finds.F} {U V S : Value} (h : Fo w base f U V S) : ∃ A c B d C e, U = .slice A f.marks.length c ∧ V = .slice B f.which.length d ∧ S = .slice C f.shards.length e ∧ Fd w f A f.marks.length c B f.which.length d C f.shards.length e := by
  obtain ⟨A, c, rfl, _, _⟩ := ownsRow_slice h.u
  obtain ⟨B, d, rfl, _, _⟩ := ownsRow_slice h.v
  obtain ⟨cs, h3⟩ := h.s
  obtain ⟨C, e, rfl, hm⟩ := h3.mx
  exact ⟨A, c, B, d, C, e, rfl, rfl, rfl, (Own.mk (base := base) (e := 3) h.u).ints, (Own.mk (base := base) (e := 3) h.v).ints, hm⟩
/-- A find is handed back, its lists new where all went well. -/
def GivesF (f : Finds.F) (er : Int) (w : World) (e : Ending) (w' : World) : Prop := ∃ U V S, e = .returned (.tuple #[fval f.stripe f.version f.need f.phase U V S, .int .i64 er]) ∧ (∃ A n c B m d C k e9, U = .slice A n c ∧ V = .slice B m d ∧ S = .slice C k e9 ∧ Fd w' f A n c B m d C k e9) ∧ Ext w w' ∧ (er = 0 → Fo w' w.heap.size f U V S)
theorem run_make_marks (W : World) (n : Int) (h0 : 1 ≤ n) (hn : n ≤ 255) : (Instr.makeSlice 22 (.int .i64 n) (.int .i64 n)).run Tryz.prog W = .ok (.slice (some ⟨W.heap.size, 0, none⟩) n.toNat n.toNat) (W.alloc (.cells (made n.toNat (.int .i64 0)) 3)) := by
  obtain ⟨c, rfl⟩ : ∃ c : Nat, n = (c : Int) := ⟨n.toNat, by omega⟩
  obtain ⟨i, hi, hz, h1, h2⟩ := info_parts int_info
  have h := run_make (P := Tryz.prog) W 22 3 i _ Tryz.underlying22 hi hz .i64 .i64 (c : Int) (c : Int) (by omega) (Int.le_refl _) (by rw [h2]; omega) (by omega)
  rw [h1] at h
  simpa [made, Value.cells] using h
theorem icells_noughts (n : Nat) : icells (List.replicate n 0) = List.replicate n (.int .i64 0) := by simp [icells]
theorem own_noughts (w : World) (c : Nat) (hc : c ≤ 1000) {base : Nat} (hb : base ≤ w.heap.size) : (w.alloc (.cells (made c (.int .i64 0)) 3)).ownsRow base 3 1 (.slice (some ⟨w.heap.size, 0, .none⟩) c c) (List.replicate c (0 : Int)).length (icells (List.replicate c 0)) := by
  rw [List.length_replicate, icells_noughts]
  exact ownsRow_made w 3 (.int .i64 0) c rfl hc hb
set_option maxRecDepth 100000 in
set_option maxHeartbeats 2000000 in
theorem fBegin_any (w : World) (s v n need : Int) : Calls Tryz.prog 6 #[.int .i64 s, .int .i64 v, .int .i64 n, .int .i64 need] w (GivesF (Finds.beginF s v n need) (Finds.beginE s v n need) w) := by
  have x0 := Ext.alloc w (.cells #[.int .i64 0, .int .i64 0, .int .i64 0, .int .i64 0, .slice none 0 0, .slice none 0 0, .slice none 0 0] 25)
  have s0 := Fb.new w 0 0 0 0 (.slice none 0 0) (.slice none 0 0) (.slice none 0 0) rfl
  have X0 := Lib.hid x0
  have S0 := Lib.hid s0
  by_cases hnm : Finds.named s v n need
  · have hb : Finds.beginF s v n need = ⟨s, v, need, 1, List.replicate n.toNat 0, [], []⟩ := if_pos hnm
    have he : Finds.beginE s v n need = 0 := if_pos hnm
    have HN := named_any13 (w.alloc (.cells #[.int .i64 0, .int .i64 0, .int .i64 0, .int .i64 0, .slice none 0 0, .slice none 0 0, .slice none 0 0] 25)) s v n need
    rw [decide_eq_true hnm] at HN
    have h1 : 1 ≤ n := hnm.2.2.1.1
    have h2 : n ≤ 255 := hnm.2.2.1.2
    have hmk := run_make_marks (w.alloc (.cells #[.int .i64 0, .int .i64 0, .int .i64 0, .int .i64 0, .slice none 0 0, .slice none 0 0, .slice none 0 0] 25)) n h1 h2
    rw [hb, he]
    have HNN := Lib.hid HN
    clear hb he hnm HN
    have k0 := s0.c0
    have k1 := s0.c1
    have k2 := s0.c2
    have k3 := s0.c3
    have k4 := s0.c4
    have k5 := s0.c5
    have k6 := s0.c6
    have k7 := s0.fz
    clear s0 x0
    go_enter Tryz.func6, Tryz.ntmps6
    go_wp2_with (fail)
    refine HNN.out.mono ?_
    rintro e w1 ⟨rfl, rfl⟩
    go_wp2_with (fail)
    have t1 := (Fb.new w s v need 1 (.slice (some ⟨w.heap.size + 1, 0, none⟩) n.toNat n.toNat) (.slice none 0 0) (.slice none 0 0) rfl)
    have x1 := Ext.alloc w (.cells #[.int .i64 s, .int .i64 v, .int .i64 need, .int .i64 1, .slice (some ⟨w.heap.size + 1, 0, none⟩) n.toNat n.toNat, .slice none 0 0, .slice none 0 0] 25)
    obtain ⟨W, hW⟩ : ∃ W, w.alloc (.cells #[.int .i64 s, .int .i64 v, .int .i64 need, .int .i64 1, .slice (some ⟨w.heap.size + 1, 0, none⟩) n.toNat n.toNat, .slice none 0 0, .slice none 0 0] 25) = W := ⟨_, rfl⟩
    have hz : W.heap.size = w.heap.size + 1 := by rw [← hW]; simp
    rw [hW] at t1 x1 ⊢
    have x2 := Ext.alloc W (.cells (made n.toNat (.int .i64 0)) 3)
    have hown := own_noughts W n.toNat (by omega) (base := w.heap.size) (by omega)
    rw [hz] at hown
    have t2 := t1.ext x2
    have hr := t2.res
    have hfo : Fo (W.alloc (.cells (made n.toNat (.int .i64 0)) 3)) w.heap.size ⟨s, v, need, 1, List.replicate n.toNat 0, [], []⟩ (.slice (some ⟨w.heap.size + 1, 0, none⟩) n.toNat n.toNat) (.slice none 0 0) (.slice none 0 0) := ⟨hown, World.ownsRow_nil _ _ _ _, ⟨[], Mq.nil _ _ _⟩, fun b _ h => by simp [Value.ownBlock] at h⟩
    have hfd : Fd (W.alloc (.cells (made n.toNat (.int .i64 0)) 3)) ⟨s, v, need, 1, List.replicate n.toNat 0, [], []⟩ (some ⟨w.heap.size + 1, 0, none⟩) n.toNat n.toNat none 0 0 none 0 0 := by
      obtain ⟨A, c, B, d, C, e, e1, e2, e3, h⟩ := hfo.fd
      injection e1 with a1 a2 a3
      injection e2 with b1 b2 b3
      injection e3 with c1 c2 c3
      rw [← a1, ← a2, ← a3, ← b1, ← b2, ← b3, ← c1, ← c2, ← c3] at h
      exact h
    refine bodyPost_ret (v := .tuple #[fval s v need 1 (.slice (some ⟨w.heap.size + 1, 0, none⟩) n.toNat n.toNat) (.slice none 0 0) (.slice none 0 0), .int .i64 0]) ?_ rfl ⟨_, _, _, rfl, ⟨_, _, _, _, _, _, _, _, _, rfl, rfl, rfl, hfd⟩, x1.trans x2, fun _ => hfo⟩
    rw [results_cell_tmp rfl]
    simp [asAddr, Result.andThen, hr]
  · have hb : Finds.beginF s v n need = Finds.nought := if_neg hnm
    have he : Finds.beginE s v n need = 140 := if_neg hnm
    have HN := named_any13 (w.alloc (.cells #[.int .i64 0, .int .i64 0, .int .i64 0, .int .i64 0, .slice none 0 0, .slice none 0 0, .slice none 0 0] 25)) s v n need
    rw [decide_eq_false hnm] at HN
    rw [hb, he]
    have HNN := Lib.hid HN
    clear hb he hnm HN
    have k0 := s0.c0
    have k1 := s0.c1
    have k2 := s0.c2
    have k3 := s0.c3
    have k4 := s0.c4
    have k5 := s0.c5
    have k6 := s0.c6
    have k7 := s0.fz
    have hr := s0.res
    clear s0 x0
    go_enter Tryz.func6, Tryz.ntmps6
    go_wp2_with (fail)
    refine HNN.out.mono ?_
    rintro e w1 ⟨rfl, rfl⟩
    go_wp2_with (fail)
    refine bodyPost_ret (v := .tuple #[fval 0 0 0 0 (.slice none 0 0) (.slice none 0 0) (.slice none 0 0), .int .i64 140]) ?_ rfl ⟨_, _, _, rfl, ⟨_, _, _, _, _, _, _, _, _, rfl, rfl, rfl, ⟨Is.none _, Is.none _, Mx.none _⟩⟩, X0.out, fun h => by cases h⟩
    rw [results_cell_tmp rfl]
    simp [asAddr, Result.andThen, hr]
end Go.Proofs.YtfpglkacjecoeaaGreat
namespace Go.Proofs.YtfpglkacjecoeaaGreat
open Go.RowKit

theorem own_type {w : World} {base size n : Nat} {e : TypeId} {v : Value} {xs : List Value} (h : w.ownsRow base e size v n xs) {b : Nat} (hb : v.ownBlock = some b) : ∃ cs fr, w.heap[b]? = some (.cells cs e fr) := by
  rcases h.2 with ⟨h1, h2⟩ | ⟨g, cap, cur, h1, _, hg, _⟩
  · rw [h1] at hb; simp [Value.ownBlock] at hb
  · rw [h1] at hb
    have : some g = some b := hb
    injection this with this
    subst this
    exact ⟨cur, (0, 0), hg⟩
theorem own_types {w : World} {base base' size size' n n' : Nat} {e e' : TypeId} {v v' : Value} {xs xs' : List Value} (hne : e ≠ e') (h : w.ownsRow base e size v n xs) (h' : w.ownsRow base' e' size' v' n' xs') {b : Nat} (hb : v.ownBlock = some b) : v'.ownBlock ≠ some b := fun hb' => by
  obtain ⟨cs, fr, h1⟩ := own_type h hb
  obtain ⟨cs', fr', h2⟩ := own_type h' hb'
  rw [h1] at h2
  injection h2 with h2
  injection h2 with _ h2 _
  exact hne h2
/-- Rows of bytes stay while a row of whole numbers grows. -/
theorem Mq.grownInt {w w' : World} {base : Nat} {P : Nat → Prop} {v : Value} {n : Nat} {cs : List Value} {m : Gm.L} {row : Option Nat} (h : Mq w base P v n cs m) (hg : w.grownBy w' row) (hb : ∀ b, row = some b → ∃ cs fr, w.heap[b]? = some (.cells cs 3 fr)) : Mq w' base P v n cs m := by
  have key : ∀ {bs s k : Nat} {e : TypeId} {u : Value} {xs : List Value}, w.ownsRow bs e s u k xs → e ≠ 3 → u.ownBlock = none ∨ u.ownBlock ≠ row := fun {bs s k e u xs} ho hne => by
    rcases hu : u.ownBlock with _ | b
    · exact .inl rfl
    · refine .inr (fun e1 => ?_)
      obtain ⟨c1, f1, h1⟩ := own_type ho hu
      obtain ⟨c2, f2, h2⟩ := hb b e1.symm
      rw [h1] at h2
      injection h2 with h2
      injection h2 with _ h2 _
      exact hne h2
  exact ⟨h.len, ownsRow_grown h.own hg (key h.own (by decide)), fun i hi => by
    obtain ⟨A, c, e, ho⟩ := h.row i hi
    exact ⟨A, c, e, ownsRow_grown ho hg (key ho (by decide))⟩, h.cool, h.hot, h.apart⟩
/-- Rows of whole numbers stay while rows of bytes grow. -/
theorem ints_grownRows {w w' : World} {base n : Nat} {v : Value} {xs : List Value} {row : Option Nat} (h : w.ownsRow base 3 1 v n xs) (hg : w.grownBy w' row) (hb : ∀ b, row = some b → ∃ cs fr, w.heap[b]? = some (.cells cs 46 fr)) : w'.ownsRow base 3 1 v n xs := by
  refine ownsRow_grown h hg ?_
  rcases hu : v.ownBlock with _ | b
  · exact .inl rfl
  · refine .inr (fun e1 => ?_)
    obtain ⟨c1, f1, h1⟩ := own_type h hu
    obtain ⟨c2, f2, h2⟩ := hb b e1.symm
    rw [h1] at h2
    injection h2 with h2
    injection h2 with _ h2 _
    exact absurd h2 (by decide)
/-- While Told runs: the find in its box, the answer's box, the lists of one's own. -/
structure Td (w W : World) (g b1 : Nat) (f : Finds.F) (U V S : Value) : Prop where
  a : Fb W g f.stripe f.version f.need f.phase U V S
  z : Fb W (g + 1) 0 0 0 0 (.slice none 0 0) (.slice none 0 0) (.slice none 0 0)
  o : Fo W b1 f U V S
  x : Ext w W
  base : w.heap.size = g
  lt : g + 1 < b1
  le : b1 ≤ W.heap.size
section
variable {w W W' : World} {g b1 : Nat} {f : Finds.F} {U V S : Value}
theorem Td.ext (h : Td w W g b1 f U V S) (hx : Ext W W') : Td w W' g b1 f U V S := ⟨h.a.ext hx, h.z.ext hx, h.o.ext hx, h.x.trans hx, h.base, h.lt, Nat.le_trans h.le hx.size⟩
theorem Td.u0 (h : Td w W g b1 f U V S) {b : Nat} (hb : U.ownBlock = some b) : b1 ≤ b := (h.o.u.lt b hb).1
theorem Td.v0 (h : Td w W g b1 f U V S) {b : Nat} (hb : V.ownBlock = some b) : b1 ≤ b := (h.o.v.lt b hb).1
/-- The phase is turned. -/
theorem Td.phase (h : Td w W g b1 f U V S) (p : Int) : Td w (W.setCell ⟨g, 3, none⟩ (.int .i64 p)) g b1 { f with phase := p } U V S := by
  have hlt := h.lt
  obtain ⟨cs, hq⟩ := h.o.s
  exact ⟨h.a.set3 p, h.z.far (p := ⟨g, 3, none⟩) (by show g ≠ g + 1; omega) _, ⟨ownsRow_far h.o.u (p := ⟨g, 3, none⟩) (by show g < b1; omega) _, ownsRow_far h.o.v (p := ⟨g, 3, none⟩) (by show g < b1; omega) _, ⟨cs, hq.below (q := ⟨g, 3, none⟩) (by show g < b1; omega) _⟩, h.o.ne⟩, h.x.set_ (p := ⟨g, 3, none⟩) (by rw [h.base]; exact Nat.le_refl _) _, h.base, hlt, by simpa using h.le⟩
/-- A mark is turned. -/
theorem Td.mark {gu n c : Nat} (h : Td w W g b1 f (.slice (some ⟨gu, 0, none⟩) n c) V S) (hn : f.marks.length = n) (i : Nat) (x : Int) : Td w (W.setCell ⟨gu, i, none⟩ (.int .i64 x)) g b1 { f with marks := f.marks.set i x } (.slice (some ⟨gu, 0, none⟩) n c) V S := by
  subst hn
  have hlt := h.lt
  have hgu : b1 ≤ gu := h.u0 rfl
  obtain ⟨cs, hq⟩ := h.o.s
  obtain ⟨h1, h2⟩ := h.o.u.stored i (.int .i64 x)
  have h3 : (icells f.marks).set i (.int .i64 x) = icells (f.marks.set i x) := by unfold icells; rw [List.map_set]
  rw [h3] at h1
  have ht := own_type h.o.u (b := gu) rfl
  refine ⟨h.a.far (p := ⟨gu, i, none⟩) (by show gu ≠ g; omega) _, h.z.far (p := ⟨gu, i, none⟩) (by show gu ≠ g + 1; omega) _, ⟨?_, ?_, ⟨cs, hq.grownInt h2 (fun b hb => by injection hb with hb; subst hb; exact ht)⟩, h.o.ne⟩, h.x.set_ (p := ⟨gu, i, none⟩) (by rw [h.base]; show g ≤ gu; omega) _, h.base, hlt, by simpa using h.le⟩
  · show (W.setCell ⟨gu, i, none⟩ (.int .i64 x)).ownsRow b1 3 1 (.slice (some ⟨gu, 0, none⟩) f.marks.length c) (f.marks.set i x).length (icells (f.marks.set i x))
    rw [List.length_set]
    exact h1
  · refine ownsRow_grown h.o.v h2 ?_
    rcases hv : V.ownBlock with _ | b
    · exact .inl rfl
    · exact .inr (fun e => by injection e with e; subst e; exact h.o.ne b rfl hv)
/-- An index is named. -/
theorem Td.which (h : Td w W g b1 f U V S) {W2 : World} (hg : W.grownBy W2 V.ownBlock) {V' : Value} {x : Int} (hown : W2.ownsRow b1 3 1 V' (f.which ++ [x]).length (icells (f.which ++ [x]))) (hat : V'.ownBlock = V.ownBlock ∨ V'.ownBlock = some W.heap.size) :
    Fb W2 g f.stripe f.version f.need f.phase U V S ∧ Fb W2 (g + 1) 0 0 0 0 (.slice none 0 0) (.slice none 0 0) (.slice none 0 0) ∧ Fo W2 b1 { f with which := f.which ++ [x] } U V' S ∧ Ext w W2 := by
  have hlt := h.lt
  obtain ⟨cs, hq⟩ := h.o.s
  have hne : ∀ q, q < b1 → V.ownBlock ≠ some q := fun q hq e => by have := h.v0 e; omega
  refine ⟨h.a.kept hg (hne g (by omega)), h.z.kept hg (hne (g + 1) (by omega)), ⟨?_, hown, ⟨cs, hq.grownInt hg (fun b hb => own_type h.o.v hb)⟩, ?_⟩, h.x.ofGrown hg (fun k hk => by have := h.v0 hk; have := h.base; omega)⟩
  · refine ownsRow_grown h.o.u hg ?_
    rcases hu : U.ownBlock with _ | b
    · exact .inl rfl
    · exact .inr (fun e => h.o.ne b hu e.symm)
  · intro b hu hv
    rcases hat with e | e
    · rw [e] at hv; exact h.o.ne b hu hv
    · rw [e] at hv
      injection hv with hv
      have := (h.o.u.lt b hu).2
      omega
end
end Go.Proofs.YtfpglkacjecoeaaGreat
