/- Several texts in one: Lists of bytes' lists that came in as arguments, opened. No statement of the seat is proved here. Answers that came in as an argument. No statement of the seat is proved here. What the laws of chapter 13 use of finds, in plain words. No program in sight. -/
import Derived.Test.YtfpglkacjecoeaaGreatCt13
import Derived.Test.YtfpglkacjecoeaaGreatCt4
import Derived.Deep.Slices
import Derived.Test.YtfpglkacjecoeaaGreatCt11
import Derived.Deep.Fields
import Derived.Test.YtfpglkacjecoeaaGreatCt2
namespace Go.Proofs.YtfpglkacjecoeaaGreat
open Go.ChangeShapes Go.WideShapes Go.ChangeAt Go.RowKit

theorem bs_of_trod {H : Type} {enc : TypeId × Value → H} {W : World} {e u : TypeId} {fuel : Nat} {v : Value} {x : DataW H × List MemPlace} (he : Tryz.prog.underlying e = some (.slice u)) (hu : Tryz.prog.underlying u = some (.int .u8)) (hcu : Tryz.prog.cellsOf u = 1)
    (h : DataW.trod enc Tryz.prog W 0 (fun _ => true) true fuel e [v] = some x) : ∃ A n c l, v = .slice A n c ∧ Bs W A n c l := by
  have hs : ∃ A n c, v = .slice A n c := by
    rcases Go.Deep.open_slice he h with ⟨hcs, _⟩ | ⟨_, _, _, _, _, _, _, hcs, _⟩
    · injection hcs with hcs; exact ⟨_, _, _, hcs⟩
    · injection hcs with hcs; exact ⟨_, _, _, hcs⟩
  obtain ⟨A, n, c, rfl⟩ := hs
  obtain ⟨zs, hz⟩ := IsRow.of_trod (k := .u8) he hu hcu (show DataW.Trod enc Tryz.prog W 0 (fun _ => true) true e (.slice A n c) x.1 x.2 from ⟨fuel, by simpa [Value.cells] using h⟩)
  obtain ⟨l, hl⟩ := hz.bytes
  exact ⟨A, n, c, l, rfl, hl⟩
theorem mx_of_trod {H : Type} {enc : TypeId × Value → H} {W : World} {t e u : TypeId} {fuel : Nat} {v : Value} {x : DataW H × List MemPlace} (ht : Tryz.prog.underlying t = some (.slice e)) (hce : Tryz.prog.cellsOf e = 1) (he : Tryz.prog.underlying e = some (.slice u)) (hu : Tryz.prog.underlying u = some (.int .u8)) (hcu : Tryz.prog.cellsOf u = 1)
    (h : DataW.trod enc Tryz.prog W 0 (fun _ => true) true fuel t [v] = some x) : ∃ A n c m, v = .slice A n c ∧ Mx W A n c m := by
  rcases Go.Deep.open_slice1 ht hce h with ⟨hcs, _⟩ | ⟨a, len, cap, m, nf, V, D, Pl, hcs, hb, hl, hm, hmm, _, hV⟩
  · injection hcs with hcs
    exact ⟨none, 0, 0, [], hcs, Mx.none W⟩
  · injection hcs with hcs
    have hmc : m = cap := by rw [hmm]; rfl
    have each : ∀ i, i < len → ∃ q : Option Addr × Nat × Nat × List UInt8, V i = .slice q.1 q.2.1 q.2.2.1 ∧ Bs W q.1 q.2.1 q.2.2.1 q.2.2.2 := fun i hi => by
      obtain ⟨A, n, c, l, e1, e2⟩ := bs_of_trod he hu hcu (hV i (by omega)).2
      exact ⟨(A, n, c, l), e1, e2⟩
    obtain ⟨f, hf⟩ := Go.Deep.choose_lt each
    refine ⟨some a, len, cap, (List.range len).map fun i => (f i).2.2.2, hcs, by simp, hl, by unfold maxLen at hm; omega, (List.range len).map V, ⟨by simp, fun hn => ?_⟩, ⟨by simp, fun i hi => ?_⟩⟩
    · have hsp := cells_spot (hV 0 (by omega)).1
      refine ⟨a.block, a.off, by rw [← hsp], fun j w hw => ?_⟩
      have hj : j < len := by have := (List.getElem?_eq_some_iff.1 hw).1; simpa using this
      have hc := (hV j (by omega)).1
      rw [hsp, addr_add] at hc
      rw [hc, ← hw]
      simp [hj]
    · simp only [List.length_map, List.length_range] at hi
      obtain ⟨e1, e2⟩ := hf i hi
      refine ⟨(f i).1, (f i).2.1, (f i).2.2.1, by simp [hi, e1], ?_⟩
      rw [Gm.row_range _ hi]
      exact e2
set_option maxRecDepth 100000 in
theorem mx_open {H : Type} {enc : TypeId × Value → H} {W : World} {t e u : TypeId} {v : Value} {d : DataW H} {p : List MemPlace} (ht : Tryz.prog.underlying t = some (.slice e)) (hce : Tryz.prog.cellsOf e = 1) (he : Tryz.prog.underlying e = some (.slice u)) (hu : Tryz.prog.underlying u = some (.int .u8)) (hcu : Tryz.prog.cellsOf u = 1)
    {r : Reach} {b0 : Nat} (hv : Value.okWide Tryz.prog W r b0 t v) (h : DataW.Trod enc Tryz.prog W 0 (fun _ => true) true t v d p) : ∃ A n c m, v = .slice A n c ∧ Mx W A n c m := by
  obtain ⟨A, n, c, rfl⟩ := okWide_slice ht hv
  obtain ⟨fuel, hf⟩ := h
  exact mx_of_trod ht hce he hu hcu (by simpa [Value.cells] using hf)
end Go.Proofs.YtfpglkacjecoeaaGreat
namespace Go.Proofs.YtfpglkacjecoeaaGreat
open Go.ChangeShapes Go.WideShapes Go.ChangeAt Go.RowKit

/-- An answer. -/
structure Op13 where
  lost : Bool
  index : Int
  e : Int
  A : Option Addr
  m : Nat
  c : Nat
  b : List UInt8
instance : Inhabited Op13 := ⟨⟨false, 0, 0, none, 0, 0, []⟩⟩
/-- A slice of answers. -/
structure Os13 (w : World) (A : Option Addr) (n c : Nat) (o : Nat → Op13) : Prop where
  le : n ≤ c
  max : c ≤ 9223372036854775807
  at_ : ∀ k, k < n → ∃ b off, A = some ⟨b, off, none⟩ ∧ w.cell? ⟨b, off + k * 4, none⟩ = some (.bool (o k).lost) ∧ w.cell? ⟨b, off + k * 4 + 1, none⟩ = some (.int .i64 (o k).index) ∧ w.cell? ⟨b, off + k * 4 + 2, none⟩ = some (.int .i64 (o k).e) ∧ w.cell? ⟨b, off + k * 4 + 3, none⟩ = some (.slice (o k).A (o k).m (o k).c) ∧ Bs w (o k).A (o k).m (o k).c (o k).b
theorem Os13.ext {w w' : World} {A : Option Addr} {n c : Nat} {o : Nat → Op13} (h : Os13 w A n c o) (hx : Ext w w') : Os13 w' A n c o :=
  ⟨h.le, h.max, fun k hk => by
    obtain ⟨b, off, e, c0, c1, c2, c3, c4⟩ := h.at_ k hk
    exact ⟨b, off, e, hx.cell c0, hx.cell c1, hx.cell c2, hx.cell c3, c4.ext hx⟩⟩
theorem Os13.bs {w : World} {A : Option Addr} {n c : Nat} {o : Nat → Op13} (h : Os13 w A n c o) {k : Nat} (hk : k < n) : Bs w (o k).A (o k).m (o k).c (o k).b := by
  obtain ⟨_, _, _, _, _, _, _, h⟩ := h.at_ k hk
  exact h
set_option maxRecDepth 100000 in
set_option maxHeartbeats 1000000 in
theorem os13_open {H : Type} {enc : TypeId × Value → H} {W : World} {r : Reach} {b0 : Nat} {v : Value} {d : DataW H} {p : List MemPlace} (hv : Value.okWide Tryz.prog W r b0 27 v) (h : DataW.Trod enc Tryz.prog W 0 (fun _ => true) true 27 v d p) : ∃ A n c o, v = .slice A n c ∧ Os13 W A n c o := by
  obtain ⟨A, len, cap, rfl⟩ := okWide_slice Tryz.underlying27 hv
  have hce : Tryz.prog.cellsOf 48 = 4 := by kernel_rfl
  obtain ⟨fuel, hf⟩ := h
  rcases Go.Deep.open_slice Tryz.underlying27 hf with ⟨hcs, _⟩ | ⟨x, l, c, m, n, D, Pl, hcs, _, hl, hm, hmm, _, hx⟩
  · simp [Value.cells] at hcs
    obtain ⟨rfl, rfl, rfl⟩ := hcs
    exact ⟨none, 0, 0, fun _ => default, rfl, Nat.le_refl _, by omega, fun k hk => absurd hk (Nat.not_lt_zero _)⟩
  · simp [Value.cells] at hcs
    obtain ⟨rfl, rfl, rfl⟩ := hcs
    have cellsAt : ∀ k, k < len → ∃ q : Op13, W.cell? (x.add (k * 4)) = some (.bool q.lost) ∧ W.cell? (x.add (k * 4 + 1)) = some (.int .i64 q.index) ∧ W.cell? (x.add (k * 4 + 2)) = some (.int .i64 q.e) ∧ W.cell? (x.add (k * 4 + 3)) = some (.slice q.A q.m q.c) ∧ Bs W q.A q.m q.c q.b := by
      intro k hk
      obtain ⟨cs', h1, h2⟩ := hx k (by rw [hmm]; simp; omega)
      obtain ⟨_, hlen, hcell⟩ := World.cells?_some h1
      rw [hce] at hlen
      match cs', hlen with
      | [c0, c1, c2, c3], _ =>
        obtain ⟨xs, n', _, _, _, hxl, hg⟩ := DataW.trod_struct Tryz.underlying48 h2
        have fld : ∀ (i : Nat) (f : Field) (c : Value), f.offset = i → Tryz.prog.cellsOf f.type = 1 → ([c0, c1, c2, c3] : List Value)[i]? = some c → DataW.trod enc Tryz.prog W 0 (fun _ => true) true n' f.type ((([c0, c1, c2, c3] : List Value).drop f.offset).take (Tryz.prog.cellsOf f.type)) = xs[i]? → i < 4 → ∃ y, DataW.trod enc Tryz.prog W 0 (fun _ => true) true n' f.type [c] = some y := by
          intro i f c ho hc hi hy h5
          have hx5 : xs.length = 4 := hxl
          rw [List.getElem?_eq_getElem (by omega), ho, hc] at hy
          have hl : i < ([c0, c1, c2, c3] : List Value).length := h5
          rw [List.drop_eq_getElem_cons hl] at hy
          rw [List.getElem?_eq_getElem hl] at hi
          injection hi with hi
          rw [hi] at hy
          exact ⟨_, hy⟩
        obtain ⟨y0, k0⟩ := fld 0 _ c0 rfl (by kernel_rfl) rfl (hg 0 _ rfl) (by omega)
        obtain ⟨y1, k1⟩ := fld 1 _ c1 rfl (by kernel_rfl) rfl (hg 1 _ rfl) (by omega)
        obtain ⟨y2, k2⟩ := fld 2 _ c2 rfl (by kernel_rfl) rfl (hg 2 _ rfl) (by omega)
        obtain ⟨y3, k3⟩ := fld 3 _ c3 rfl (by kernel_rfl) rfl (hg 3 _ rfl) (by omega)
        obtain ⟨z0, e0, _⟩ := DataW.trod_bool Tryz.underlying4 k0
        obtain ⟨z1, e1, _, _⟩ := DataW.trod_int Tryz.underlying3 k1
        obtain ⟨z2, e2, _, _⟩ := DataW.trod_int Tryz.underlying30 k2
        injection e0 with e0
        injection e1 with e1
        injection e2 with e2
        subst e0 e1 e2
        obtain ⟨B, q, e, l, rfl, hl⟩ := bs_of_trod Tryz.underlying46 Tryz.underlying5 (by kernel_rfl) k3
        have j0 := hcell 0 (by rw [hce]; omega)
        have j1 := hcell 1 (by rw [hce]; omega)
        have j2 := hcell 2 (by rw [hce]; omega)
        have j3 := hcell 3 (by rw [hce]; omega)
        rw [hce, Go.Deep.add_add] at j0 j1 j2 j3
        exact ⟨⟨z0, z1, z2, B, q, e, l⟩, by simpa using j0, by simpa using j1, by simpa using j2, by simpa using j3, hl⟩
    have each : ∀ k, k < len → ∃ q : Op13, ∃ b off, x = ⟨b, off, none⟩ ∧ W.cell? ⟨b, off + k * 4, none⟩ = some (.bool q.lost) ∧ W.cell? ⟨b, off + k * 4 + 1, none⟩ = some (.int .i64 q.index) ∧ W.cell? ⟨b, off + k * 4 + 2, none⟩ = some (.int .i64 q.e) ∧ W.cell? ⟨b, off + k * 4 + 3, none⟩ = some (.slice q.A q.m q.c) ∧ Bs W q.A q.m q.c q.b := by
      intro k hk
      obtain ⟨q0, s0, _⟩ := cellsAt 0 (by omega)
      rw [Nat.zero_mul] at s0
      have hsp := cells_spot s0
      obtain ⟨q, r0, r1, r2, r3, r4⟩ := cellsAt k hk
      rw [hsp, addr_add] at r0 r1 r2 r3
      exact ⟨q, x.block, x.off, hsp, r0, by simpa [Nat.add_assoc] using r1, by simpa [Nat.add_assoc] using r2, by simpa [Nat.add_assoc] using r3, r4⟩
    obtain ⟨f, hf⟩ := Go.Deep.choose_lt each
    refine ⟨some x, len, cap, f, rfl, hl, by unfold maxLen at hm; omega, fun k hk => ?_⟩
    obtain ⟨b, off, e1, e2, e3, e4, e5, e6⟩ := hf k hk
    exact ⟨b, off, by rw [e1], e2, e3, e4, e5, e6⟩
end Go.Proofs.YtfpglkacjecoeaaGreat
namespace Finds
open Il

theorem right_len {f : F} (h : right f) : 1 ≤ f.marks.length ∧ f.marks.length ≤ 255 := by
  obtain ⟨_, _, h, _⟩ := h.1
  omega
theorem right_need {f : F} (h : right f) : 1 ≤ f.need ∧ f.need ≤ f.marks.length := h.1.2.2.2
theorem toldF_marks_length (f : F) (i e : Int) (b : List UInt8) : (toldF f i e b).marks.length = f.marks.length := by
  unfold toldF
  split
  · rw [(phased_keeps _).1]
    unfold told0
    split <;> simp
  · rfl
theorem toldF_need (f : F) (i e : Int) (b : List UInt8) : (toldF f i e b).need = f.need := by
  unfold toldF
  split
  · rw [(phased_keeps _).2.2.2.1]
    unfold told0
    split <;> rfl
  · rfl
theorem toldF_shut {f : F} {i : Int} (h : ¬ opens f i) (e : Int) (b : List UInt8) : toldF f i e b = f := if_neg fun k => h k.2
theorem toldF_late {f : F} (h : f.phase ≠ 1) (i e : Int) (b : List UInt8) : toldF f i e b = f := toldF_shut (fun k => h k.1) e b
/-- The phase of a right find. -/
theorem phase_done {f : F} (h : right f) : f.phase = 2 ↔ (cnt f.marks 1 : Int) = f.need := by
  rcases h.2.2.2.2.2 with ⟨a, b, c⟩ | ⟨a, b⟩ | ⟨a, b, c⟩ <;> omega
theorem phase_lost {f : F} (h : right f) : f.phase = 3 ↔ (cnt f.marks 1 : Int) < f.need ∧ (f.marks.length : Int) - f.need < cnt f.marks 2 := by
  rcases h.2.2.2.2.2 with ⟨a, b, c⟩ | ⟨a, b⟩ | ⟨a, b, c⟩ <;> omega
theorem asks_some {f : F} (h : right f) (hp : f.phase = 1) : 0 < cnt f.marks 0 := by
  have h2 := h.2.1
  rcases h.2.2.2.2.2 with ⟨a, b, c⟩ | ⟨a, b⟩ | ⟨a, b, c⟩ <;> omega
theorem wants_none {f : F} (h : right f) (hw : wantsL f = []) : f.phase ≠ 1 := by
  intro hp
  have := asks_some h hp
  unfold wantsL at hw
  rw [if_pos ⟨h, hp⟩] at hw
  unfold cnt at this
  rw [hw] at this
  exact absurd this (Nat.lt_irrefl 0)
theorem wants_mem {f : F} {x : Int} (h : x ∈ wantsL f) : right f ∧ f.phase = 1 ∧ 0 ≤ x ∧ x < f.marks.length ∧ get f.marks x.toNat = 0 := by
  unfold wantsL at h
  split at h
  · rename_i hc
    obtain ⟨j, h1, h2, h3⟩ := ofL_mem.1 h
    subst h2
    exact ⟨hc.1, hc.2, by omega, by omega, by simpa using h3⟩
  · cases h
theorem wants_get {f : F} {j : Nat} (h : j < (wantsL f).length) : right f ∧ f.phase = 1 ∧ 0 ≤ get (wantsL f) j ∧ get (wantsL f) j < f.marks.length ∧ get f.marks (get (wantsL f) j).toNat = 0 := by
  rw [get_of_lt h]
  exact wants_mem (List.getElem_mem h)
theorem told_opened {f : F} {i : Int} (hr : right f) (h0 : 0 ≤ i) (h1 : i < f.marks.length) (hp : f.phase = 1) (hm : get f.marks i.toNat = 0) (e : Int) (b : List UInt8) : toldF f i e b = phased (told0 f i.toNat e b) := if_pos ⟨⟨hr, h0, h1⟩, hp, hm⟩
/-- One index fewer is open. -/
theorem told_cnt0 {f : F} {i : Int} (hr : right f) (h0 : 0 ≤ i) (h1 : i < f.marks.length) (hp : f.phase = 1) (hm : get f.marks i.toNat = 0) (e : Int) (b : List UInt8) : cnt (toldF f i e b).marks 0 + 1 = cnt f.marks 0 := by
  rw [told_opened hr h0 h1 hp hm, (phased_keeps _).1]
  unfold told0
  split
  · have := cnt_set (l := f.marks) (i := i.toNat) (by omega) hm (m := 0) (show (0 : Int) ≠ 1 by decide)
    simp at this
    show cnt (f.marks.set i.toNat 1) 0 + 1 = _
    omega
  · have := cnt_set (l := f.marks) (i := i.toNat) (by omega) hm (m := 0) (show (0 : Int) ≠ 2 by decide)
    simp at this
    show cnt (f.marks.set i.toNat 2) 0 + 1 = _
    omega
theorem told_cnt0_le {f : F} (hr : right f) (i e : Int) (b : List UInt8) : cnt (toldF f i e b).marks 0 ≤ cnt f.marks 0 := by
  by_cases h : mayTell f i ∧ opens f i
  · have := told_cnt0 hr h.1.2.1 h.1.2.2 h.2.1 h.2.2 e b
    omega
  · rw [show toldF f i e b = f from if_neg h]
    exact Nat.le_refl _
theorem begun_right {s v n need : Int} (h : named s v n need) : right (beginF s v n need) := by
  unfold beginF
  rw [if_pos h]
  have hn : (n.toNat : Int) = n := by have := h.2.2.1; omega
  have one : ∀ m : Int, m ≠ 0 → ofL (List.replicate n.toNat (0 : Int)) m = [] := fun m hm => by
    apply List.eq_nil_iff_forall_not_mem.2
    intro x hx
    obtain ⟨j, h1, _, h3⟩ := ofL_mem.1 hx
    rw [get_of_lt h1] at h3
    simp at h3
    exact hm h3.symm
  have zero : ∀ k, k ≤ n.toNat → (upto (List.replicate n.toNat (0 : Int)) 0 k).length = k := fun k => by
    induction k with
    | zero => intro _; rfl
    | succ k ih =>
      intro hk
      rw [upto_succ, if_pos (by rw [get_of_lt (by rw [List.length_replicate]; omega)]; simp), List.length_append, ih (by omega)]
      rfl
  have c1 : cnt (List.replicate n.toNat (0 : Int)) 1 = 0 := by unfold cnt; rw [one 1 (by decide)]; rfl
  have c2 : cnt (List.replicate n.toNat (0 : Int)) 2 = 0 := by unfold cnt; rw [one 2 (by decide)]; rfl
  have c0 : cnt (List.replicate n.toNat (0 : Int)) 0 = n.toNat := by unfold cnt ofL; rw [List.length_replicate]; exact zero _ (Nat.le_refl _)
  refine ⟨?_, ?_, ?_, ?_, ?_, ?_⟩
  · show named s v ((List.replicate n.toNat (0 : Int)).length : Nat) need
    rw [List.length_replicate, hn]; exact h
  · show cnt (List.replicate n.toNat (0 : Int)) 0 + cnt (List.replicate n.toNat (0 : Int)) 1 + cnt (List.replicate n.toNat (0 : Int)) 2 = (List.replicate n.toNat (0 : Int)).length
    rw [c0, c1, c2, List.length_replicate]
    rfl
  · show srt [] = ofL (List.replicate n.toNat (0 : Int)) 1
    rw [one 1 (by decide)]
    exact List.eq_nil_of_length_eq_zero (srt_length [])
  · show ([] : List (List UInt8)).length = cnt (List.replicate n.toNat (0 : Int)) 1
    rw [c1]; rfl
  · intro b hb; cases hb
  · show phaseOk 1 (cnt (List.replicate n.toNat (0 : Int)) 1) (cnt (List.replicate n.toNat (0 : Int)) 2) (List.replicate n.toNat (0 : Int)).length need
    rw [c1, c2, List.length_replicate]
    left
    have := h.2.2.2
    exact ⟨rfl, by omega, by omega⟩
/-- What a mark turns into. -/
theorem told_marks {f : F} {i : Int} (hr : right f) (h0 : 0 ≤ i) (h1 : i < f.marks.length) (hp : f.phase = 1) (hm : get f.marks i.toNat = 0) (e : Int) (b : List UInt8) : (toldF f i e b).marks = f.marks.set i.toNat (if gets f e b then 1 else 2) ∧ (toldF f i e b).shards = (if gets f e b then f.shards ++ [b] else f.shards) ∧ (toldF f i e b).which = (if gets f e b then f.which ++ [(i.toNat : Int)] else f.which) := by
  rw [told_opened hr h0 h1 hp hm, (phased_keeps _).1, (phased_keeps _).2.2.1, (phased_keeps _).2.1]
  unfold told0
  split <;> exact ⟨rfl, rfl, rfl⟩
end Finds
