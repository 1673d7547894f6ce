/- Eight sectors of one byte each: what was flushed last, what was written last, which are open; in plain words, and in memory. No statement of the seat is proved here. -/
import Derived.Test.YtbfbiofndipaaaaDiskTwice
namespace Disks
open Go.Proofs.Ytbfbiofndipaaaa (rep)
structure Hold8 (d : D) (S L : List UInt8) (O : List Bool) : Prop where
  med : d.med.length = 8
  cac : d.cac.length = 8
  sl : S.length = 8
  ll : L.length = 8
  ol : O.length = 8
  row : ∀ j, j < 8 → Gm.row d.med j = rep (Gf.get S j)
  cache : ∀ j, j < 8 → cget d.cac j = if kept O j = true then some (rep (Gf.get L j)) else none
  eq : ∀ j, j < 8 → kept O j = false → Gf.get L j = Gf.get S j
def noughts : List UInt8 := List.replicate 8 0
def shut8 : List Bool := List.replicate 8 false
theorem get_noughts (j : Nat) : Gf.get noughts j = 0 := by
  unfold Gf.get noughts
  rw [List.getD_eq_getElem?_getD, List.getElem?_replicate]
  split <;> rfl
theorem kept_shut (j : Nat) : kept shut8 j = false := by
  unfold kept shut8
  rw [List.getD_eq_getElem?_getD, List.getElem?_replicate]
  split <;> rfl
theorem get_set (l : List UInt8) (k j : Nat) (x : UInt8) (hk : k < l.length) : Gf.get (l.set k x) j = if k = j then x else Gf.get l j := by
  unfold Gf.get
  rw [List.getD_eq_getElem?_getD, List.getD_eq_getElem?_getD, List.getElem?_set]
  by_cases e : k = j
  · rw [if_pos e, if_pos e, if_pos hk]; rfl
  · rw [if_neg e, if_neg e]
theorem kept_set (l : List Bool) (k j : Nat) (hk : k < l.length) : kept (l.set k true) j = if k = j then true else kept l j := by
  unfold kept
  rw [List.getD_eq_getElem?_getD, List.getD_eq_getElem?_getD, List.getElem?_set]
  by_cases e : k = j
  · rw [if_pos e, if_pos e, if_pos hk]; rfl
  · rw [if_neg e, if_neg e]
theorem Hold8.start : Hold8 (new 8) noughts noughts shut8 := by
  refine ⟨rfl, rfl, rfl, rfl, rfl, fun j hj => ?_, fun j hj => ?_, fun j hj _ => rfl⟩
  · rw [get_noughts]
    show Gm.row (List.replicate 8 (List.replicate 64 0)) j = List.replicate 64 0
    unfold Gm.row
    rw [List.getD_eq_getElem?_getD, List.getElem?_replicate, if_pos hj]
    rfl
  · rw [kept_shut, if_neg (by decide)]
    exact cget_empty _ _
theorem Hold8.like {d e : D} {S L : List UInt8} {O : List Bool} (h : Hold8 d S L O) (hm : e.med = d.med) (hc : e.cac = d.cac) : Hold8 e S L O := by
  refine ⟨by rw [hm]; exact h.med, by rw [hc]; exact h.cac, h.sl, h.ll, h.ol, fun j hj => by rw [hm]; exact h.row j hj, fun j hj => by rw [hc]; exact h.cache j hj, h.eq⟩
theorem Hold8.sec {d : D} {S L : List UInt8} {O : List Bool} (h : Hold8 d S L O) {j : Nat} (hj : j < 8) : sec d j = rep (Gf.get L j) := by
  unfold Disks.sec
  rw [h.cache j hj]
  by_cases q : kept O j = true
  · rw [if_pos q]; rfl
  · rw [if_neg q, h.eq j hj (by simpa using q)]
    exact h.row j hj
theorem Hold8.writeNo {d : D} {S L : List UInt8} {O : List Bool} (h : Hold8 d S L O) {i : Int} {l : List UInt8} (hE : writeE d i l ≠ 0) : Hold8 (writeD d i l) S L O := by
  unfold writeE at hE
  unfold writeD
  split
  · exact h
  · rename_i h1
    rw [if_neg h1] at hE
    split
    · exact h
    · rename_i h2
      rw [if_neg h2] at hE
      split
      · exact h.like (op_med d) (op_cac d)
      · rename_i h3
        exact absurd (if_neg h3) hE
theorem Hold8.writeOk {d : D} {S L : List UInt8} {O : List Bool} (h : Hold8 d S L O) {k : Nat} (hk : k < 8) {b : UInt8} (hE : writeE d k (rep b) = 0) : Hold8 (writeD d k (rep b)) S (L.set k b) (O.set k true) := by
  unfold writeE at hE
  unfold writeD
  split
  · rename_i h1
    rw [if_pos h1] at hE
    exact absurd hE h1
  · rename_i h1
    rw [if_neg h1] at hE
    split
    · rename_i h2
      exact absurd (Go.Proofs.Ytbfbiofndipaaaa.rep_len b) h2
    · rename_i h2
      rw [if_neg h2] at hE
      split
      · rename_i h3
        unfold opE at hE
        rw [if_pos h3] at hE
        cases hE
      · refine ⟨by show (op d).med.length = 8; rw [op_med]; exact h.med, by show (d.cac.set _ _).length = 8; rw [List.length_set]; exact h.cac, h.sl, by rw [List.length_set]; exact h.ll, by rw [List.length_set]; exact h.ol, fun j hj => by show Gm.row (op d).med j = _; rw [op_med]; exact h.row j hj, fun j hj => ?_, fun j hj hO => ?_⟩
        · show cget (d.cac.set _ _) j = _
          rw [show ((k : Int)).toNat = k by omega, get_set L k j b (by rw [h.ll]; exact hk), kept_set O k j (by rw [h.ol]; exact hk)]
          by_cases e : k = j
          · subst e
            rw [cget_set_eq (by rw [h.cac]; exact hk)]
            simp
          · rw [cget_set_ne e]
            simp only [if_neg e]
            exact h.cache j hj
        · rw [kept_set O k j (by rw [h.ol]; exact hk)] at hO
          rw [get_set L k j b (by rw [h.ll]; exact hk)]
          by_cases e : k = j
          · rw [if_pos e] at hO; cases hO
          · rw [if_neg e] at hO ⊢
            exact h.eq j hj hO
theorem Hold8.flushNo {d : D} {S L : List UInt8} {O : List Bool} (h : Hold8 d S L O) (hE : flushE d ≠ 0) : Hold8 (flushD d) S L O := by
  unfold flushE at hE
  unfold flushD
  split
  · exact h
  · rename_i h1
    rw [if_neg h1] at hE
    split
    · exact h.like (op_med d) (op_cac d)
    · rename_i h3
      exact absurd (if_neg h3) hE
theorem Hold8.flushOk {d : D} {S L : List UInt8} {O : List Bool} (h : Hold8 d S L O) (hE : flushE d = 0) : Hold8 (flushD d) L L shut8 := by
  unfold flushE at hE
  unfold flushD
  split
  · rename_i h1
    rw [if_pos h1] at hE
    exact absurd hE h1
  · rename_i h1
    rw [if_neg h1] at hE
    split
    · rename_i h3
      unfold opE at hE
      rw [if_pos h3] at hE
      cases hE
    · refine ⟨by show (merged d).length = 8; rw [len_merged]; exact h.med, by show (emptied d).length = 8; unfold emptied; rw [List.length_replicate]; exact h.med, h.ll, h.ll, rfl, fun j hj => ?_, fun j hj => ?_, fun j hj _ => rfl⟩
      · show Gm.row (merged d) j = _
        rw [row_merged d (by rw [h.med]; exact hj)]
        exact h.sec hj
      · rw [kept_shut, if_neg (by decide)]
        exact cget_empty _ _
theorem Hold8.arm {d : D} {S L : List UInt8} {O : List Bool} (h : Hold8 d S L O) (n : Int) : Hold8 (armD d n) S L O := by
  unfold armD
  split
  · exact h
  · exact h.like rfl rfl
/-- Is sector j kept in a crash? -/
def stays (d : D) (O keeps : List Bool) (j : Nat) : Bool := kept O j && kept keeps (upto d.cac j).length
/-- What is sure when k sectors have been looked at behind a crash. -/
def mix (d : D) (S L : List UInt8) (O keeps : List Bool) (k : Nat) : List UInt8 := (List.range 8).map fun j => if j < k ∧ stays d O keeps j = true then Gf.get L j else Gf.get S j
theorem mix_len (d : D) (S L : List UInt8) (O keeps : List Bool) (k : Nat) : (mix d S L O keeps k).length = 8 := by simp [mix]
theorem mix_get (d : D) (S L : List UInt8) (O keeps : List Bool) (k : Nat) {j : Nat} (hj : j < 8) : Gf.get (mix d S L O keeps k) j = if j < k ∧ stays d O keeps j = true then Gf.get L j else Gf.get S j := by
  unfold Gf.get mix
  rw [List.getD_eq_getElem?_getD, List.getElem?_map, List.getElem?_range hj]
  rfl
theorem list8 {l m : List UInt8} (hl : l.length = 8) (hm : m.length = 8) (h : ∀ j, j < 8 → Gf.get l j = Gf.get m j) : l = m := by
  refine List.ext_getElem (hl.trans hm.symm) (fun i a b => ?_)
  have q := h i (by omega)
  unfold Gf.get at q
  rw [List.getD_eq_getElem?_getD, List.getD_eq_getElem?_getD, List.getElem?_eq_getElem a, List.getElem?_eq_getElem b] at q
  exact q
theorem mix_zero {d : D} {S L : List UInt8} {O : List Bool} (h : Hold8 d S L O) (keeps : List Bool) : mix d S L O keeps 0 = S :=
  list8 (mix_len ..) h.sl (fun j hj => by rw [mix_get _ _ _ _ _ _ hj, if_neg (by omega)])
theorem mix_yes {d : D} {S L : List UInt8} {O keeps : List Bool} {k : Nat} (hk : k < 8) (hs : stays d O keeps k = true) : (mix d S L O keeps k).set k (Gf.get L k) = mix d S L O keeps (k + 1) :=
  list8 (by rw [List.length_set]; exact mix_len ..) (mix_len ..) (fun j hj => by
    rw [get_set _ _ _ _ (by rw [mix_len]; exact hk), mix_get _ _ _ _ _ _ hj, mix_get _ _ _ _ _ _ hj]
    by_cases e : k = j
    · subst e
      rw [if_pos rfl, if_pos ⟨by omega, hs⟩]
    · rw [if_neg e]
      by_cases q : j < k ∧ stays d O keeps j = true
      · rw [if_pos q, if_pos ⟨by omega, q.2⟩]
      · rw [if_neg q, if_neg (fun z => q ⟨by omega, z.2⟩)])
theorem mix_no {d : D} {S L : List UInt8} {O keeps : List Bool} {k : Nat} (hs : stays d O keeps k = false) : mix d S L O keeps k = mix d S L O keeps (k + 1) :=
  list8 (mix_len ..) (mix_len ..) (fun j hj => by
    rw [mix_get _ _ _ _ _ _ hj, mix_get _ _ _ _ _ _ hj]
    by_cases q : j < k ∧ stays d O keeps j = true
    · rw [if_pos q, if_pos ⟨by omega, q.2⟩]
    · rw [if_neg q, if_neg ?_]
      rintro ⟨z1, z2⟩
      by_cases e : j = k
      · rw [e, hs] at z2; cases z2
      · exact q ⟨by omega, z2⟩)
theorem Hold8.crash {d : D} {S L : List UInt8} {O : List Bool} (h : Hold8 d S L O) (keeps : List Bool) : Hold8 (crashD d keeps) (mix d S L O keeps 8) (mix d S L O keeps 8) shut8 := by
  refine ⟨by rw [len_crash]; exact h.med, by show (emptied d).length = 8; unfold emptied; rw [List.length_replicate]; exact h.med, mix_len .., mix_len .., rfl, fun j hj => ?_, fun j hj => ?_, fun j hj _ => rfl⟩
  · rw [crash_row d keeps (by rw [h.med]; exact hj), mix_get _ _ _ _ _ _ hj]
    unfold left stays
    by_cases hO : kept O j = true
    · by_cases hp : kept keeps (upto d.cac j).length = true
      · rw [if_pos hp, if_pos ⟨hj, by rw [hO, hp]; rfl⟩]
        exact h.sec hj
      · rw [if_neg hp, if_neg (by rw [hO]; simp [hp])]
        exact h.row j hj
    · have hO' : kept O j = false := by simpa using hO
      have hn : ¬ (j < 8 ∧ (kept O j && kept keeps (upto d.cac j).length) = true) := by rw [hO']; simp
      rw [if_neg hn]
      split
      · rw [h.sec hj, h.eq j hj hO']
      · exact h.row j hj
  · rw [kept_shut, if_neg (by decide)]
    exact cget_empty _ _
theorem Hold8.reads {d : D} {S L : List UInt8} {O : List Bool} (h : Hold8 d S L O) (hd : d.down = false) {j : Nat} (hj : j < 8) : Go.Proofs.Ytbfbiofndipaaaa.readsB d j (Gf.get L j) = true := by
  unfold Go.Proofs.Ytbfbiofndipaaaa.readsB
  have ht : there d j = 0 := by rw [in_there (by rw [h.med]; omega)]; unfold noE; rw [if_neg (by rw [hd]; decide)]
  rw [if_pos ht, show ((j : Int)).toNat = j by omega, h.sec hj]
  exact beq_self_eq_true _
theorem Hold8.count {d : D} {S L : List UInt8} {O : List Bool} (h : Hold8 d S L O) {j : Nat} (hj : j < 8) : (upto d.cac (j + 1)).length = (upto d.cac j).length + (if kept O j = true then 1 else 0) := by
  show (if _ then _ else _ : List Int).length = _
  rw [h.cache j hj]
  by_cases q : kept O j = true
  · rw [if_pos q, if_pos (by rfl), List.length_append, if_pos q]; rfl
  · rw [if_neg q, if_neg (by simp), if_neg q]; rfl
end Disks
namespace Go.Proofs.Ytbfbiofndipaaaa
open Go.ChangeShapes Go.WideShapes Go.ChangeAt Go.RowKit Go.Maps Go.Sort Go.Shelf

/-- Three rows of eight, in blocks r, r + 1, r + 2. -/
structure Km (wr : World) (r : Nat) (S L : List UInt8) (O : List Bool) : Prop where
  s : wr.heap[r]? = some (.cells (bcells S).toArray 27 (0, 0))
  l : wr.heap[r + 1]? = some (.cells (bcells L).toArray 27 (0, 0))
  o : wr.heap[r + 2]? = some (.cells (O.map Value.bool).toArray 28 (0, 0))
section
variable {w w' : World} {r : Nat} {S L : List UInt8} {O : List Bool}
theorem Km.ext (h : Km w r S L O) (hx : Ext w w') : Km w' r S L O :=
  ⟨(hx.block r (Array.getElem?_eq_some_iff.1 h.s).1).trans h.s, (hx.block (r + 1) (Array.getElem?_eq_some_iff.1 h.l).1).trans h.l, (hx.block (r + 2) (Array.getElem?_eq_some_iff.1 h.o).1).trans h.o⟩
theorem Km.kp {g m b : Nat} (h : Km w r S L O) (hk : Kp g m b w w') (ha : r + 2 < g ∧ r + 2 < m ∧ r + 2 < b ∨ g < r ∧ m < r ∧ b < r) : Km w' r S L O :=
  ⟨(hk.block r (Array.getElem?_eq_some_iff.1 h.s).1 (by omega) (by omega) (by omega)).trans h.s, (hk.block (r + 1) (Array.getElem?_eq_some_iff.1 h.l).1 (by omega) (by omega) (by omega)).trans h.l, (hk.block (r + 2) (Array.getElem?_eq_some_iff.1 h.o).1 (by omega) (by omega) (by omega)).trans h.o⟩
theorem Km.cs (h : Km w r S L O) {j : Nat} (hj : j < S.length) : w.cell? ⟨r, j, none⟩ = some (.int .u8 ((Gf.get S j).toNat : Int)) := by
  rw [cell_of_row w _ _ _ _ _ h.s]
  simpa using dk_bcells_get (l := S) hj
theorem Km.cl (h : Km w r S L O) {j : Nat} (hj : j < L.length) : w.cell? ⟨r + 1, j, none⟩ = some (.int .u8 ((Gf.get L j).toNat : Int)) := by
  rw [cell_of_row w _ _ _ _ _ h.l]
  simpa using dk_bcells_get (l := L) hj
theorem Km.co (h : Km w r S L O) {j : Nat} (hj : j < O.length) : w.cell? ⟨r + 2, j, none⟩ = some (.bool (Disks.kept O j)) := by
  rw [cell_of_row w _ _ _ _ _ h.o]
  unfold Disks.kept
  simp [List.getD_eq_getElem?_getD, hj]
theorem Km.fs (h : Km w r S L O) (j : Nat) : w.frozen? ⟨r, j, none⟩ = false := frozen_of_row w _ _ _ _ h.s
theorem Km.fl (h : Km w r S L O) (j : Nat) : w.frozen? ⟨r + 1, j, none⟩ = false := frozen_of_row w _ _ _ _ h.l
theorem Km.fo (h : Km w r S L O) (j : Nat) : w.frozen? ⟨r + 2, j, none⟩ = false := frozen_of_row w _ _ _ _ h.o
theorem Km.setS (h : Km w r S L O) (k : Nat) (x : UInt8) : Km (w.setCell ⟨r, k, none⟩ (.int .u8 (x.toNat : Int))) r (S.set k x) L O := by
  refine ⟨?_, (heap_setCell_other w ⟨r, k, none⟩ (r + 1) _ (by show r + 1 ≠ r; omega)).trans h.l, (heap_setCell_other w ⟨r, k, none⟩ (r + 2) _ (by show r + 2 ≠ r; omega)).trans h.o⟩
  rw [heap_setCell_same w r k _ _ _ h.s, dk_bcells_set]
  simp
theorem Km.setL (h : Km w r S L O) (k : Nat) (x : UInt8) : Km (w.setCell ⟨r + 1, k, none⟩ (.int .u8 (x.toNat : Int))) r S (L.set k x) O := by
  refine ⟨(heap_setCell_other w ⟨r + 1, k, none⟩ r _ (by show r ≠ r + 1; omega)).trans h.s, ?_, (heap_setCell_other w ⟨r + 1, k, none⟩ (r + 2) _ (by show r + 2 ≠ r + 1; omega)).trans h.o⟩
  rw [heap_setCell_same w (r + 1) k _ _ _ h.l, dk_bcells_set]
  simp
theorem Km.setO (h : Km w r S L O) (k : Nat) (x : Bool) : Km (w.setCell ⟨r + 2, k, none⟩ (.bool x)) r S L (O.set k x) := by
  refine ⟨(heap_setCell_other w ⟨r + 2, k, none⟩ r _ (by show r ≠ r + 2; omega)).trans h.s, (heap_setCell_other w ⟨r + 2, k, none⟩ (r + 1) _ (by show r + 1 ≠ r + 2; omega)).trans h.l, ?_⟩
  rw [heap_setCell_same w (r + 2) k _ _ _ h.o, List.map_set]
  simp
theorem heap_setCells_at (p : Nat) (T : TypeId) : ∀ (vs : List Value) (o : Nat) (cs : List Value) (w : World), o + vs.length ≤ cs.length → w.heap[p]? = some (.cells cs.toArray T (0, 0)) → (w.setCells p o vs).heap[p]? = some (.cells (cs.take o ++ vs ++ cs.drop (o + vs.length)).toArray T (0, 0))
  | [], o, cs, w, _, h => by
    rw [World.setCells, h]
    simp
  | v :: r, o, cs, w, hl, h => by
    rw [World.setCells]
    have hl' : o + (r.length + 1) ≤ cs.length := by simpa using hl
    have h1 := heap_setCell_same w p o _ _ v h
    have e : cs.toArray.setIfInBounds o v = (cs.set o v).toArray := by simp
    rw [e] at h1
    rw [heap_setCells_at p T r (o + 1) (cs.set o v) _ (by rw [List.length_set]; omega) h1]
    have e2 : (cs.set o v).take (o + 1) ++ r ++ (cs.set o v).drop (o + 1 + r.length) = cs.take o ++ (v :: r) ++ cs.drop (o + (v :: r).length) := by
      rw [List.take_succ_eq_append_getElem (by rw [List.length_set]; omega), List.getElem_set_self, List.take_set_of_le (Nat.le_refl _), List.drop_set_of_lt (by omega)]
      simp only [List.append_assoc, List.singleton_append, List.cons_append, List.nil_append, List.length_cons]
      rw [show o + 1 + r.length = o + (r.length + 1) by omega]
    rw [e2]
theorem setCells_eight {w : World} {p : Nat} {cs : List Value} (hc : cs.length = 8) {T : TypeId} (h : w.heap[p]? = some (.cells cs.toArray T (0, 0))) (vs : List Value) (hv : vs.length = 8) : (w.setCells p 0 vs).heap[p]? = some (.cells vs.toArray T (0, 0)) := by
  rw [heap_setCells_at p T vs 0 cs w (by omega) h, List.take_zero, List.nil_append, List.drop_of_length_le (by omega), List.append_nil]
theorem u8_row : ∃ d, Try.prog.underlying 27 = some d ∧ d.isRow = true := ⟨_, Try.underlying27, rfl⟩
theorem u8_eight : (Try.prog.info? 27).map (·.size) = some 8 := by kernel_rfl
theorem bool_eight : (Try.prog.info? 28).map (·.size) = some 8 := by kernel_rfl
/-- The whole of 'last' is loaded; laid over 'sure', or the other way; all are shut. -/
theorem row_load {w : World} {p : Nat} {l : List UInt8} (h : w.heap[p]? = some (.cells (bcells l).toArray 27 (0, 0))) (hl : l.length = 8) : (Instr.loadAt 27 (.pointer (some ⟨p, 0, none⟩))).run Try.prog w = .ok (.agg (bcells l).toArray) w := by
  obtain ⟨d, hd, hr⟩ := u8_row
  have hi : (Try.prog.info? 27).map (·.size) = some (bcells l).length := by rw [bcells_len, hl]; exact u8_eight
  have hc : w.rangeAt p 0 (bcells l) := fun j v hv => by
    rw [cell_of_row w _ _ _ _ _ h, Nat.zero_add]
    simpa using hv
  simp only [Instr.loadAt, Instr.sureAddr, Sem.run_bind, Sem.run_pure, Result.andThen_ok, run_loadVar_mid w p 0 27 (bcells l) d hc hd hr hi]
theorem there_row {w : World} {p : Nat} {cs : List Value} {T : TypeId} (h : w.heap[p]? = some (.cells cs.toArray T (0, 0))) (hc : cs.length = 8) : w.there p 0 8 := fun j hj => ⟨by
  rw [cell_of_row w _ _ _ _ _ h, Nat.zero_add]
  have : j < cs.toArray.size := by simpa [hc] using hj
  rw [Array.getElem?_eq_getElem this]
  rfl, frozen_of_row _ _ _ _ _ h⟩
theorem row_store {w : World} {p : Nat} {l l' : List UInt8} (h : w.heap[p]? = some (.cells (bcells l).toArray 27 (0, 0))) (hl : l.length = 8) (hl' : l'.length = 8) :
    ∃ w', (Instr.storeAt 27 (.pointer (some ⟨p, 0, none⟩)) (.agg (bcells l').toArray)).run Try.prog w = .ok () w' ∧ w'.heap[p]? = some (.cells (bcells l').toArray 27 (0, 0)) ∧ w.grownBy w' (some p) := by
  have hs : (bcells l').toArray.size = 8 := by simp [bcells_len, hl']
  have hr := run_storeVar_mid (P := Try.prog) w p 0 27 (bcells l').toArray (by rw [hs]; exact there_row h (by rw [bcells_len]; exact hl)) (by rw [hs]; exact u8_eight) (bcells_all l')
  obtain ⟨p1, p2, p3, p4⟩ := setCells_plain p (bcells l') 0 w
  exact ⟨w.setCells p 0 (bcells l'), by simp only [Instr.storeAt, Instr.sureAddr, Sem.run_bind, Sem.run_pure, Result.andThen_ok, hr], setCells_eight (by rw [bcells_len]; exact hl) h _ (by rw [bcells_len]; exact hl'), p1, p2, p3, by rw [p4]; exact Nat.le_refl _, fun k _ hk => heap_setCells_other p k (fun e => hk (by rw [e])) _ _ _⟩
theorem shut_store {w : World} {p : Nat} {O : List Bool} (h : w.heap[p]? = some (.cells (O.map Value.bool).toArray 28 (0, 0))) (hl : O.length = 8) :
    ∃ w', (Instr.storeAt 28 (.pointer (some ⟨p, 0, none⟩)) (.agg (Disks.shut8.map Value.bool).toArray)).run Try.prog w = .ok () w' ∧ w'.heap[p]? = some (.cells (Disks.shut8.map Value.bool).toArray 28 (0, 0)) ∧ w.grownBy w' (some p) := by
  have hs : (Disks.shut8.map Value.bool).toArray.size = 8 := rfl
  have hall : (Disks.shut8.map Value.bool).toArray.all (·.oneCell') = true := all_oneCell_toArray (fun v hv => by
    simp only [List.mem_map] at hv
    obtain ⟨x, _, rfl⟩ := hv
    rfl)
  have hr := run_storeVar_mid (P := Try.prog) w p 0 28 (Disks.shut8.map Value.bool).toArray (by rw [hs]; exact there_row h (by rw [List.length_map]; exact hl)) (by rw [hs]; exact bool_eight) hall
  obtain ⟨p1, p2, p3, p4⟩ := setCells_plain p (Disks.shut8.map Value.bool) 0 w
  exact ⟨w.setCells p 0 (Disks.shut8.map Value.bool), by simp only [Instr.storeAt, Instr.sureAddr, Sem.run_bind, Sem.run_pure, Result.andThen_ok, hr], setCells_eight (by rw [List.length_map]; exact hl) h _ rfl, p1, p2, p3, by rw [p4]; exact Nat.le_refl _, fun k _ hk => heap_setCells_other p k (fun e => hk (by rw [e])) _ _ _⟩
/-- 'sure, open = last, all shut'; 'last, open = sure, all shut'. -/
theorem Km.lay (h : Km w r S L O) (hs : S.length = 8) (hl : L.length = 8) (ho : O.length = 8) :
    ∃ w1 w2, (Instr.storeAt 27 (.pointer (some ⟨r, 0, none⟩)) (.agg (bcells L).toArray)).run Try.prog w = .ok () w1 ∧ (Instr.storeAt 28 (.pointer (some ⟨r + 2, 0, none⟩)) (.agg (Disks.shut8.map Value.bool).toArray)).run Try.prog w1 = .ok () w2 ∧ Km w2 r L L Disks.shut8 ∧ w.grownBy w1 (some r) ∧ w1.grownBy w2 (some (r + 2)) := by
  obtain ⟨w1, r1, b1, g1⟩ := row_store h.s hs hl
  have hl1 := Array.getElem?_eq_some_iff.1 h.l
  have ho1 := Array.getElem?_eq_some_iff.1 h.o
  have o1 := (g1.block (r + 2) ho1.1 (by simp)).trans h.o
  have l1 := (g1.block (r + 1) hl1.1 (by simp)).trans h.l
  obtain ⟨w2, r2, b2, g2⟩ := shut_store o1 ho
  exact ⟨w1, w2, r1, r2, ⟨(g2.block r (Array.getElem?_eq_some_iff.1 b1).1 (by simp)).trans b1, (g2.block (r + 1) (Array.getElem?_eq_some_iff.1 l1).1 (by simp)).trans l1, b2⟩, g1, g2⟩
theorem Km.lay' (h : Km w r S L O) (hs : S.length = 8) (hl : L.length = 8) (ho : O.length = 8) :
    ∃ w1 w2, (Instr.storeAt 27 (.pointer (some ⟨r + 1, 0, none⟩)) (.agg (bcells S).toArray)).run Try.prog w = .ok () w1 ∧ (Instr.storeAt 28 (.pointer (some ⟨r + 2, 0, none⟩)) (.agg (Disks.shut8.map Value.bool).toArray)).run Try.prog w1 = .ok () w2 ∧ Km w2 r S S Disks.shut8 ∧ w.grownBy w1 (some (r + 1)) ∧ w1.grownBy w2 (some (r + 2)) := by
  obtain ⟨w1, r1, b1, g1⟩ := row_store h.l hl hs
  have hl1 := Array.getElem?_eq_some_iff.1 h.s
  have ho1 := Array.getElem?_eq_some_iff.1 h.o
  have o1 := (g1.block (r + 2) ho1.1 (by simp)).trans h.o
  have l1 := (g1.block r hl1.1 (by simp)).trans h.s
  obtain ⟨w2, r2, b2, g2⟩ := shut_store o1 ho
  exact ⟨w1, w2, r1, r2, ⟨(g2.block r (Array.getElem?_eq_some_iff.1 l1).1 (by simp)).trans l1, (g2.block (r + 1) (Array.getElem?_eq_some_iff.1 b1).1 (by simp)).trans b1, b2⟩, g1, g2⟩
end
theorem u8_store (w : World) (p j : Nat) (x : UInt8) {v : Value} (hc : w.cell? ⟨p, j, none⟩ = some v) (hf : w.frozen? ⟨p, j, none⟩ = false) : (Instr.storeAt 5 (.pointer (some ⟨p, j, none⟩)) (.int .u8 (x.toNat : Int))).run Try.prog w = .ok () (w.setCell ⟨p, j, none⟩ (.int .u8 (x.toNat : Int))) := by
  simp [go_sem, hc, hf]
end Go.Proofs.Ytbfbiofndipaaaa
