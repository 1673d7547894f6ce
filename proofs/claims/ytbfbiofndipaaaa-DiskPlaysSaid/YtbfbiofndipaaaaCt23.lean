/- Several texts in one: The contract of the document's with. The document's disk in memory stays where only a variable that holds one is written. -/
import Derived.Test.YtbfbiofndipaaaaCt22
namespace Go.Proofs.Ytbfbiofndipaaaa
open Go.ChangeShapes Go.WideShapes Go.ChangeAt Go.RowKit Go.Maps Go.Sort Go.Shelf

theorem cell84_info : (Try.prog.info? 84).map (fun i => (i.zero, i.size, i.bytes)) = some (some (.agg #[.slice none 0 0, .slice none 0 0]), 2, 48) := by kernel_rfl
/-- The cells of a document's disk, as a list. -/
theorem Rf.rd {w : World} {g m b : Nat} {A : Option Addr} {n c : Nat} {d : Disks.D} (h : Rf w g m b A n c d) : ∃ xs : List Value, Rd w 2 A n xs ∧ (∀ u ∈ xs, u.oneCell' = true) ∧ ∀ j, j < n → ∃ M mn mc C cn cc, xs[j * 2]? = some (.slice M mn mc) ∧ xs[j * 2 + 1]? = some (.slice C cn cc) ∧ Bs w M mn mc (Gm.row d.med j) ∧ Bs w C cn cc (cbytes d j) ∧ Awy g m b M ∧ Awy g m b C := by
  rcases Nat.eq_zero_or_pos n with h0 | h0
  · subst h0
    exact ⟨[], ⟨rfl, fun q => absurd q (Nat.lt_irrefl 0)⟩, ⟨fun u hu => absurd hu (List.not_mem_nil), fun j hj => absurd hj (Nat.not_lt_zero _)⟩⟩
  · obtain ⟨k, off, _, _, _, _, _, _, e, _⟩ := h.at_ 0 h0
    subst e
    have hat : ∀ j, j < n * 2 → ∃ v, w.cell? ⟨k, off + j, none⟩ = some v ∧ v.oneCell' = true := fun j hj => by
      obtain ⟨k', off', M, mn, mc, C, cn, cc, e, c1, c2, _⟩ := h.at_ (j / 2) (by omega)
      injection e with e
      injection e with e1 e2 _
      subst e1 e2
      rcases Nat.mod_two_eq_zero_or_one j with q | q
      · exact ⟨_, by rw [show off + j = off + j / 2 * 2 by omega]; exact c1, rfl⟩
      · exact ⟨_, by rw [show off + j = off + j / 2 * 2 + 1 by omega]; exact c2, rfl⟩
    have hget : ∀ j, ((List.range (n * 2)).map fun j => (w.cell? ⟨k, off + j, none⟩).getD undef)[j]? = if j < n * 2 then some ((w.cell? ⟨k, off + j, none⟩).getD undef) else none := fun j => by
      rw [List.getElem?_map]
      by_cases q : j < n * 2
      · rw [List.getElem?_range q, if_pos q]; rfl
      · rw [List.getElem?_eq_none (by rw [List.length_range]; omega), if_neg q]; rfl
    refine ⟨(List.range (n * 2)).map fun j => (w.cell? ⟨k, off + j, none⟩).getD undef, ⟨by simp, fun _ => ⟨k, off, rfl, fun j u hu => ?_⟩⟩, fun u hu => ?_, fun j hj => ?_⟩
    · rw [hget] at hu
      split at hu
      · rename_i q
        obtain ⟨v, hv, _⟩ := hat j q
        rw [hv] at hu
        injection hu with hu
        rw [hv, ← hu]
        rfl
      · cases hu
    · rw [List.mem_map] at hu
      obtain ⟨j, hj, rfl⟩ := hu
      obtain ⟨v, hv, ho⟩ := hat j (by simpa using hj)
      rw [hv]
      exact ho
    · obtain ⟨k', off', M, mn, mc, C, cn, cc, e, c1, c2, r⟩ := h.at_ j hj
      injection e with e
      injection e with e1 e2 _
      subst e1 e2
      refine ⟨M, mn, mc, C, cn, cc, ?_, ?_, r⟩
      · rw [hget, if_pos (by omega), c1]; rfl
      · rw [hget, if_pos (by omega), show off + (j * 2 + 1) = off + j * 2 + 1 by omega, c2]; rfl
theorem wo_of {w : World} {base n : Nat} {v : Value} {xs : List Value} (h : w.ownsRow base 84 2 v n xs) (hn : 0 < n) : ∃ g c cur, v = .slice (some ⟨g, 0, none⟩) n c ∧ (∀ j u, xs[j]? = some u → w.cell? ⟨g, j, none⟩ = some u) ∧ w.heap[g]? = some (.cells cur 84 (0, 0)) ∧ base ≤ g ∧ n ≤ c ∧ c ≤ 9223372036854775807 := by
  obtain ⟨hl, h2⟩ := h
  rcases h2 with ⟨_, h2⟩ | ⟨g, c, cur, rfl, hb, hg, hnc, hcm, hcs, hct⟩
  · exact absurd h2 (by omega)
  · refine ⟨g, c, cur, rfl, fun j u hu => ?_, hg, hb, hnc, by unfold maxLen at hcm; omega⟩
    rw [cell_of_row w _ _ _ _ _ hg]
    have hj : j < xs.length := (List.getElem?_eq_some_iff.1 hu).1
    have := congrArg (fun l : List Value => l[j]?) hct
    rw [List.getElem?_take, if_pos (by omega), Array.getElem?_toList] at this
    rw [this]
    exact hu
theorem apart_types {w : World} {g p : Nat} {cur : Array Value} {A : Option Addr} {n c : Nat} {arm : Int} {down : Bool} (h : w.heap[g]? = some (.cells cur 84 (0, 0))) (v : Vd w p A n c arm down) : g ≠ p := by
  intro e
  subst e
  have h2 := v.blk
  rw [h] at h2
  injection h2 with h2
  injection h2 with _ h3 _
  exact absurd h3 (by decide)
set_option maxRecDepth 100000 in
set_option maxHeartbeats 2000000 in
theorem ref5With (w : World) (g m b : Nat) (A : Option Addr) (n c : Nat) (d : Disks.D) (h : Rf w g m b A n c d) (hgmb : g < w.heap.size ∧ m < w.heap.size ∧ b < w.heap.size) (hN : n ≤ 70000) (arm : Int) (down : Bool) (i : Nat) (hi : i < n)
    (M : Option Addr) (mn mc : Nat) (lM : List UInt8) (C : Option Addr) (cn cc : Nat) (lC : List UInt8) (hM : Bs w M mn mc lM) (hC : Bs w C cn cc lC) (aM : Awy g m b M) (aC : Awy g m b C) :
    Calls Try.prog 43 #[.agg #[.slice A n c, .int .i64 arm, .bool down], .int .i64 (i : Int), .agg #[.slice M mn mc, .slice C cn cc]] w fun e w' => ∃ A' c', e = .returned (.agg #[.slice A' n c', .int .i64 arm, .bool down]) ∧ Ext w w' ∧ ∀ d' : Disks.D, d'.med = d.med.set i lM → (∀ j, j < n → cbytes d' j = if i = j then lC else cbytes d j) → Rf w' g m b A' n c' d' := by
  obtain ⟨i0, hi0, hz0, hz1, hz2⟩ := info_parts cell84_info
  obtain ⟨xs, hrd, hone, hxs⟩ := h.rd
  have hle := h.le
  have hmax := h.max
  have hxl := hrd.1
  have HXS := Lib.hid hxs
  have H := Lib.hid h
  have HM := Lib.hid hM
  have HC := Lib.hid hC
  have AM := Lib.hid aM
  have AC := Lib.hid aC
  have HG := Lib.hid hgmb
  have hii : (i : Int) < n := by omega
  clear hxs h hM hC aM aC hgmb
  go_enter Try.func43, Try.ntmps43
  go_upto_region 1 with (fail)
  obtain ⟨p, hp⟩ : ∃ p, w.heap.size = p := ⟨_, rfl⟩
  have e0 := heap_alloc_new w (.cells #[.slice A n c, .int .i64 arm, .bool down] 54)
  have e1 := heap_alloc_new (w.alloc (.cells #[.slice A n c, .int .i64 arm, .bool down] 54)) (.cells #[.slice M mn mc, .slice C cn cc] 84)
  have e2 := heap_alloc_new ((w.alloc (.cells #[.slice A n c, .int .i64 arm, .bool down] 54)).alloc (.cells #[.slice M mn mc, .slice C cn cc] 84)) (.cells #[.slice none 0 0, .int .i64 0, .bool false] 54)
  have z1 : (w.alloc (.cells #[.slice A n c, .int .i64 arm, .bool down] 54)).heap.size = p + 1 := by rw [← hp]; simp
  have z2 : ((w.alloc (.cells #[.slice A n c, .int .i64 arm, .bool down] 54)).alloc (.cells #[.slice M mn mc, .slice C cn cc] 84)).heap.size = p + 1 + 1 := by rw [← hp]; simp
  have z3 : (((w.alloc (.cells #[.slice A n c, .int .i64 arm, .bool down] 54)).alloc (.cells #[.slice M mn mc, .slice C cn cc] 84)).alloc (.cells #[.slice none 0 0, .int .i64 0, .bool false] 54)).heap.size = p + 1 + 1 + 1 := by rw [← hp]; simp
  rw [hp] at e0
  rw [z1] at e1
  rw [z2] at e2
  have x0 : Ext w (((w.alloc (.cells #[.slice A n c, .int .i64 arm, .bool down] 54)).alloc (.cells #[.slice M mn mc, .slice C cn cc] 84)).alloc (.cells #[.slice none 0 0, .int .i64 0, .bool false] 54)) := ((Ext.alloc _ _).thenAlloc _).thenAlloc _
  have v0 : Vd (((w.alloc (.cells #[.slice A n c, .int .i64 arm, .bool down] 54)).alloc (.cells #[.slice M mn mc, .slice C cn cc] 84)).alloc (.cells #[.slice none 0 0, .int .i64 0, .bool false] 54)) p A n c arm down := ⟨(((Ext.alloc _ _).thenAlloc _).block p (by rw [z1]; omega)).trans e0⟩
  have b1 : (((w.alloc (.cells #[.slice A n c, .int .i64 arm, .bool down] 54)).alloc (.cells #[.slice M mn mc, .slice C cn cc] 84)).alloc (.cells #[.slice none 0 0, .int .i64 0, .bool false] 54)).heap[p + 1]? = some (.cells #[.slice M mn mc, .slice C cn cc] 84 (0, 0)) := ((Ext.alloc _ _).block (p + 1) (by rw [z2]; omega)).trans e1
  have v2 : Vd (((w.alloc (.cells #[.slice A n c, .int .i64 arm, .bool down] 54)).alloc (.cells #[.slice M mn mc, .slice C cn cc] 84)).alloc (.cells #[.slice none 0 0, .int .i64 0, .bool false] 54)) (p + 1 + 1) none 0 0 0 false := ⟨e2⟩
  try rw [hp]
  generalize ((w.alloc (.cells #[.slice A n c, .int .i64 arm, .bool down] 54)).alloc (.cells #[.slice M mn mc, .slice C cn cc] 84)).alloc (.cells #[.slice none 0 0, .int .i64 0, .bool false] 54) = W at *
  have k0 := v0.c0
  have X0 := Lib.hid x0
  have V0 := Lib.hid v0
  have V2 := Lib.hid v2
  have B1 := Lib.hid b1
  have Z3 := Lib.hid z3
  have HP := Lib.hid hp
  clear e0 e1 e2 z1 z2 z3 x0 v0 b1 v2
  go_wp2_with (
    at_builtin
    refine wpList_append_rd _ rfl (.tmp 8) (.tmp 10) 52 rfl w.heap.size 84 i0 _ 2 48 Try.underlying52 hi0 hz0 hz1 hz2 rfl (by omega) (.slice none 0 0) 0 [] rfl (World.ownsRow_nil _ _ _ _) A n c xs rfl (hrd.ext X0.out) hone (by omega) (by unfold maxLen; omega) X0.out.size ?_
    intro v1 w1 hown hg hat
    have x1 : Ext W w1 := (Ext.refl W).ofGrown hg (by simp [Value.ownBlock])
    obtain ⟨g1, c1, cur, rfl, hcell, hg1, hb1, hnc, hcm⟩ := wo_of (n := n) (xs := xs) (by simpa using hown) (by omega)
    try rw [Nat.zero_add]
    have V01 := Lib.hid (V0.out.ext x1)
    have V21 := Lib.hid (V2.out.ext x1)
    have hbb := (x1.block (p + 1) (Array.getElem?_eq_some_iff.1 B1.out).1).trans B1.out
    have q0 := V01.out.c0
    have q1 := V01.out.c1
    have q2 := V01.out.c2
    have q3 := V01.out.fz 0
    have r0 : w1.cell? ⟨p + 1, 0, none⟩ = some (.slice M mn mc) := by rw [cell_of_row w1 _ _ _ _ _ hbb]; rfl
    have r1 : w1.cell? ⟨p + 1, 1, none⟩ = some (.slice C cn cc) := by rw [cell_of_row w1 _ _ _ _ _ hbb]; rfl
    obtain ⟨Mi, mni, mci, Ci, cni, cci, ex0, ex1, _⟩ := HXS.out i hi
    have s0 := hcell _ _ ex0
    have s1 := hcell _ _ ex1
    have s2 : w1.frozen? ⟨g1, i * 2, none⟩ = false := frozen_of_row w1 _ _ _ _ hg1
    have s3 : w1.frozen? ⟨g1, i * 2 + 1, none⟩ = false := frozen_of_row w1 _ _ _ _ hg1
    have t0 := V21.out.c0
    have t1 := V21.out.c1
    have t2 := V21.out.c2
    have t3 := V21.out.fz 0
    have t4 := V21.out.fz 1
    have t5 := V21.out.fz 2
    have HCELL := Lib.hid hcell
    have G1 := Lib.hid hg1
    have HB1 := Lib.hid hb1
    have X1 := Lib.hid x1
    have gn1 : g1 ≠ p := apart_types hg1 V01.out
    have gn2 : g1 ≠ p + 1 + 1 := apart_types hg1 V21.out
    have HNC := Lib.hid hnc
    have HCM := Lib.hid hcm
    clear hbb hcell hg1 hb1 x1 hg hat ex0 ex1 hown)
  have HP' := HP.out
  have HGG := HG.out
  have hb1 := HB1.out
  have xw : Ext w ((((((w1.setCell ⟨g1, i * 2, none⟩ (.slice M mn mc)).setCell ⟨g1, i * 2 + 1, none⟩ (.slice C cn cc)).setCell ⟨p, 0, none⟩ (.slice (some ⟨g1, 0, none⟩) n c1)).setCell ⟨p + 1 + 1, 0, none⟩ (.slice (some ⟨g1, 0, none⟩) n c1)).setCell ⟨p + 1 + 1, 1, none⟩ (.int .i64 arm)).setCell ⟨p + 1 + 1, 2, none⟩ (.bool down)) :=
    Ext.set3 (Below.setCell (Below.setCell (Below.setCell (X0.out.trans X1.out) (p := ⟨g1, i * 2, none⟩) hb1 _) (p := ⟨g1, i * 2 + 1, none⟩) hb1 _) (p := ⟨p, 0, none⟩) (by show w.heap.size ≤ p; omega) _) (by omega) _ _ _
  have hG : (((((((w1.setCell ⟨g1, i * 2, none⟩ (.slice M mn mc)).setCell ⟨g1, i * 2 + 1, none⟩ (.slice C cn cc)).setCell ⟨p, 0, none⟩ (.slice (some ⟨g1, 0, none⟩) n c1)).setCell ⟨p + 1 + 1, 0, none⟩ (.slice (some ⟨g1, 0, none⟩) n c1)).setCell ⟨p + 1 + 1, 1, none⟩ (.int .i64 arm)).setCell ⟨p + 1 + 1, 2, none⟩ (.bool down)) : World).heap[g1]? = some (.cells ((cur.setIfInBounds (i * 2) (.slice M mn mc)).setIfInBounds (i * 2 + 1) (.slice C cn cc)) 84 (0, 0)) := by
    have h1 := heap_setCell_same w1 g1 (i * 2) _ _ (.slice M mn mc) G1.out
    have h2 := heap_setCell_same _ g1 (i * 2 + 1) _ _ (.slice C cn cc) h1
    exact (heap_setCell_other _ ⟨p + 1 + 1, 2, none⟩ g1 _ gn2).trans ((heap_setCell_other _ ⟨p + 1 + 1, 1, none⟩ g1 _ gn2).trans ((heap_setCell_other _ ⟨p + 1 + 1, 0, none⟩ g1 _ gn2).trans ((heap_setCell_other _ ⟨p, 0, none⟩ g1 _ gn1).trans h2)))
  have hr := (((V21.out.far (q := ⟨g1, i * 2, none⟩) gn2 (.slice M mn mc)).far (q := ⟨g1, i * 2 + 1, none⟩) gn2 (.slice C cn cc)).far (q := ⟨p, 0, none⟩) (by show p ≠ p + 1 + 1; omega) (.slice (some ⟨g1, 0, none⟩) n c1)).set (some ⟨g1, 0, none⟩) n c1 arm down |>.res
  have hcur : ∀ j u, xs[j]? = some u → cur[j]? = some u := fun j u hu => by
    have := HCELL.out j u hu
    rw [cell_of_row w1 _ _ _ _ _ G1.out] at this
    exact this
  have hlen := H.out.len
  refine bodyPost_ret (v := .agg #[.slice (some ⟨g1, 0, none⟩) n c1, .int .i64 arm, .bool down]) ?_ rfl ⟨some ⟨g1, 0, none⟩, c1, rfl, xw, fun d' hm hc => ⟨by rw [hm, List.length_set]; exact hlen, HNC.out, HCM.out, fun q hq => ?_, fun j hj => ?_⟩⟩
  · rw [results_cell15 rfl]
    simp [asAddr, Result.andThen, hr]
  · injection hq with hq
    rw [← hq]
    exact ⟨fun e => by have e : g1 = g := e; omega, fun e => by have e : g1 = m := e; omega, fun e => by have e : g1 = b := e; omega⟩
  · obtain ⟨Mj, mnj, mcj, Cj, cnj, ccj, y0, y1, y2, y3, y4, y5⟩ := HXS.out j hj
    have hrow : Gm.row d'.med j = if i = j then lM else Gm.row d.med j := by rw [hm]; exact row_set _ _ _ _ (by rw [hlen]; exact hi)
    by_cases e : i = j
    · subst e
      rw [if_pos rfl] at hrow
      have hcb := hc i hi
      rw [if_pos rfl] at hcb
      have w0 := (Array.getElem?_eq_some_iff.1 (hcur _ _ y0)).1
      have w2 := (Array.getElem?_eq_some_iff.1 (hcur _ _ y1)).1
      refine ⟨g1, 0, M, mn, mc, C, cn, cc, rfl, ?_, ?_, by rw [hrow]; exact HM.out.ext xw, by rw [hcb]; exact HC.out.ext xw, AM.out, AC.out⟩
      · rw [cell_of_row _ _ _ _ _ _ hG, Nat.zero_add, Array.getElem?_setIfInBounds, if_neg (by omega), Array.getElem?_setIfInBounds, if_pos rfl, if_pos w0]
      · rw [cell_of_row _ _ _ _ _ _ hG, Nat.zero_add, Array.getElem?_setIfInBounds, if_pos rfl, if_pos (by simpa using w2)]
    · rw [if_neg e] at hrow
      have hcb := hc j hj
      rw [if_neg e] at hcb
      refine ⟨g1, 0, Mj, mnj, mcj, Cj, cnj, ccj, rfl, ?_, ?_, by rw [hrow]; exact y2.ext xw, by rw [hcb]; exact y3.ext xw, y4, y5⟩
      · rw [cell_of_row _ _ _ _ _ _ hG, Nat.zero_add, Array.getElem?_setIfInBounds, if_neg (by omega), Array.getElem?_setIfInBounds, if_neg (by omega)]
        exact hcur _ _ y0
      · rw [cell_of_row _ _ _ _ _ _ hG, Nat.zero_add, Array.getElem?_setIfInBounds, if_neg (by omega), Array.getElem?_setIfInBounds, if_neg (by omega)]
        exact hcur _ _ y1
end Go.Proofs.Ytbfbiofndipaaaa
namespace Go.Proofs.Ytbfbiofndipaaaa
open Go.ChangeShapes Go.WideShapes Go.ChangeAt Go.RowKit Go.Maps Go.Sort Go.Shelf

theorem own_bs5 {w : World} {base : Nat} {v : Value} {l : List UInt8} (h : w.ownsRow base 5 1 v l.length (bcells l)) : ∃ A c, v = .slice A l.length c ∧ Bs w A l.length c l ∧ ∀ p, A = some p → base ≤ p.block := by
  obtain ⟨A, c, rfl, _, _⟩ := ownsRow_slice h
  refine ⟨A, c, rfl, (Own.mk (base := base) (e := 5) h).bs, fun p hp => ?_⟩
  subst hp
  exact (h.lt p.block rfl).1
section
variable {w w' : World} {p : Nat} {A : Option Addr} {n c : Nat} {arm : Int} {down : Bool}
theorem Vd.cells (v : Vd w p A n c arm down) {j : Nat} {u : Value} (h : w.cell? ⟨p, j, none⟩ = some u) : (j = 0 ∧ u = .slice A n c) ∨ (j = 1 ∧ u = .int .i64 arm) ∨ (j = 2 ∧ u = .bool down) := by
  rw [cell_of_row w _ _ _ _ _ v.blk] at h
  match j, h with
  | 0, h => exact Or.inl ⟨rfl, (Option.some.inj h).symm⟩
  | 1, h => exact Or.inr (Or.inl ⟨rfl, (Option.some.inj h).symm⟩)
  | 2, h => exact Or.inr (Or.inr ⟨rfl, (Option.some.inj h).symm⟩)
  | j + 3, h => cases h
theorem Bs.same5 {B : Option Addr} {nb cb : Nat} {l : List UInt8} (h : Bs w B nb cb l) (v : Vd w p A n c arm down) (hb : ∀ q, q < w.heap.size → q ≠ p → w'.heap[q]? = w.heap[q]?) : Bs w' B nb cb l := by
  refine ⟨h.len, h.le, h.max, h.rd.1, fun hn => ?_⟩
  obtain ⟨k, o, e, hc⟩ := h.rd.2 hn
  refine ⟨k, o, e, fun j u hu => ?_⟩
  have q := hc j u hu
  have hk : k ≠ p := fun e => by
    subst e
    have hx : ∃ x : UInt8, u = .int .u8 (x.toNat : Int) := by
      have hu2 : u ∈ bcells l := List.mem_of_getElem? hu
      unfold bcells at hu2
      obtain ⟨x, _, hx⟩ := List.mem_map.1 hu2
      exact ⟨x, hx.symm⟩
    obtain ⟨x, rfl⟩ := hx
    rcases v.cells q with ⟨_, h⟩ | ⟨_, h⟩ | ⟨_, h⟩ <;> cases h
  rw [← q]
  exact World.cell?_of_block (hb k (World.block_lt_of_cell? _ _ q) hk)
theorem Rf.same {g m b : Nat} {A' : Option Addr} {n' c' : Nat} {d : Disks.D} (h : Rf w g m b A' n' c' d) (v : Vd w p A n c arm down) (hb : ∀ q, q < w.heap.size → q ≠ p → w'.heap[q]? = w.heap[q]?) : Rf w' g m b A' n' c' d := by
  refine ⟨h.len, h.le, h.max, h.awy, fun i hi => ?_⟩
  obtain ⟨k, off, M, mn, mc, C, cn, cc, e, c1, c2, b1, b2, a1, a2⟩ := h.at_ i hi
  have hk : k ≠ p := fun e => by
    subst e
    rcases v.cells c1 with ⟨h1, _⟩ | ⟨_, h⟩ | ⟨_, h⟩
    · rcases v.cells c2 with ⟨h2, _⟩ | ⟨_, h⟩ | ⟨_, h⟩
      · omega
      · cases h
      · cases h
    · cases h
    · cases h
  refine ⟨k, off, M, mn, mc, C, cn, cc, e, ?_, ?_, b1.same5 v hb, b2.same5 v hb, a1, a2⟩
  · rw [← c1]; exact World.cell?_of_block (hb k (World.block_lt_of_cell? _ _ c1) hk)
  · rw [← c2]; exact World.cell?_of_block (hb k (World.block_lt_of_cell? _ _ c2) hk)
theorem others3 (w : World) (p : Nat) (x y z : Value) : ∀ q, q < w.heap.size → q ≠ p → (((w.setCell ⟨p, 0, none⟩ x).setCell ⟨p, 1, none⟩ y).setCell ⟨p, 2, none⟩ z).heap[q]? = w.heap[q]? := fun q _ hq => by
  rw [heap_setCell_other _ ⟨p, 2, none⟩ q _ hq, heap_setCell_other _ ⟨p, 1, none⟩ q _ hq, heap_setCell_other _ ⟨p, 0, none⟩ q _ hq]
theorem Vd.far3 (h : Vd w p A n c arm down) {q : Nat} (hq : q ≠ p) (x y z : Value) : Vd (((w.setCell ⟨q, 0, none⟩ x).setCell ⟨q, 1, none⟩ y).setCell ⟨q, 2, none⟩ z) p A n c arm down :=
  ((h.far (q := ⟨q, 0, none⟩) hq x).far (q := ⟨q, 1, none⟩) hq y).far (q := ⟨q, 2, none⟩) hq z
end
theorem set_row_self (l : List (List UInt8)) (j : Nat) : l.set j (Gm.row l j) = l := by
  by_cases h : j < l.length
  · have : Gm.row l j = l[j] := by simp [Gm.row, h]
    rw [this, List.set_getElem_self]
  · rw [List.set_eq_of_length_le (by omega)]
theorem cbytes_set (d d' : Disks.D) {j : Nat} {l : List UInt8} (hd : d'.cac = d.cac.set j (some l)) (hj : j < d.cac.length) (l' : List UInt8) (q : Nat) (hl : l = l' := by rfl) : cbytes d' q = if j = q then l' else cbytes d q := by
  subst hl
  unfold cbytes
  rw [hd]
  by_cases e : j = q
  · subst e
    rw [if_pos rfl, Disks.cget_set_eq hj]
    rfl
  · rw [if_neg e, Disks.cget_set_ne e]
end Go.Proofs.Ytbfbiofndipaaaa
