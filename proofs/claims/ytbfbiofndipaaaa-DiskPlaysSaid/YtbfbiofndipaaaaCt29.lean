/- Several texts in one: The contract of the document's New. What DiskPlays' walk holds: a disk, a variable that holds the document's. -/
import Derived.Test.YtbfbiofndipaaaaCt27
import Derived.Test.YtbfbiofndipaaaaCt28
import Derived.Test.YtbfbiofndipaaaaCt26
import Derived.Test.YtbfbiofndipaaaaCt18
namespace Go.Proofs.Ytbfbiofndipaaaa
open Go.ChangeShapes Go.WideShapes Go.ChangeAt Go.RowKit Go.Maps Go.Sort Go.Shelf
set_option linter.unusedSimpArgs false

structure Nw5 (W : World) (base : Nat) (xs : List Value) (t : Nat) : Prop where
  len : xs.length = t * 2
  at_ : ∀ j, j < t → ∃ q, xs[j * 2]? = some (.slice (some ⟨q, 0, none⟩) 64 64) ∧ xs[j * 2 + 1]? = some (.slice none 0 0) ∧ Bs W (some ⟨q, 0, none⟩) 64 64 zeros64 ∧ base ≤ q
theorem Nw5.ext {W W' : World} {base t : Nat} {xs : List Value} (h : Nw5 W base xs t) (hx : Ext W W') : Nw5 W' base xs t := ⟨h.len, fun j hj => by
  obtain ⟨q, a, b, c, d⟩ := h.at_ j hj
  exact ⟨q, a, b, c.ext hx, d⟩⟩
theorem Nw5.snoc {W : World} {base t : Nat} {xs : List Value} (h : Nw5 W base xs t) {q : Nat} (hq : Bs W (some ⟨q, 0, none⟩) 64 64 zeros64) (hb : base ≤ q) : Nw5 W base (xs ++ [.slice (some ⟨q, 0, none⟩) 64 64, .slice none 0 0]) (t + 1) := by
  have hl := h.len
  refine ⟨by rw [List.length_append, hl]; show t * 2 + 2 = _; omega, fun j hj => ?_⟩
  rcases Nat.lt_or_ge j t with e | e
  · obtain ⟨q', a, b, c, d⟩ := h.at_ j e
    exact ⟨q', by rw [List.getElem?_append_left (by omega)]; exact a, by rw [List.getElem?_append_left (by omega)]; exact b, c, d⟩
  · obtain rfl : j = t := by omega
    refine ⟨q, ?_, ?_, hq, hb⟩
    · rw [List.getElem?_append_right (by omega), hl, Nat.sub_self]; rfl
    · rw [List.getElem?_append_right (by omega), hl, show j * 2 + 1 - j * 2 = 1 by omega]; rfl
theorem Rd.lit2c (w : World) (c0 c1 : Value) (t : TypeId) : Rd (w.alloc (.cells #[c0, c1] t)) 2 (some ⟨w.heap.size, 0, none⟩) 1 [c0, c1] := by
  refine ⟨rfl, fun _ => ⟨w.heap.size, 0, rfl, fun j u hu => ?_⟩⟩
  rw [Nat.zero_add, World.cell?_alloc_new]
  simpa using hu
theorem Vd.grown {w w' : World} {p : Nat} {A : Option Addr} {n c : Nat} {arm : Int} {down : Bool} {row : Option Nat} (h : Vd w p A n c arm down) (hg : w.grownBy w' row) (hr : row ≠ some p) : Vd w' p A n c arm down := ⟨(hg.block p h.lt (fun e => hr e.symm)).trans h.blk⟩
theorem Bs.grown5 {w w' : World} {q n c : Nat} {l : List UInt8} {row : Option Nat} (h : Bs w (some ⟨q, 0, none⟩) n c l) (hg : w.grownBy w' row) (hr : row ≠ some q) : Bs w' (some ⟨q, 0, none⟩) n c l := by
  refine ⟨h.len, h.le, h.max, h.rd.1, fun hn => ?_⟩
  obtain ⟨k, o, e, hc⟩ := h.rd.2 hn
  injection e with e
  injection e with e1 e2 _
  subst e1 e2
  refine ⟨q, 0, rfl, fun j u hu => ?_⟩
  have a := hc j u hu
  rw [← a]
  exact World.cell?_of_block (hg.block q (World.block_lt_of_cell? _ _ a) (fun e => hr e.symm))
theorem Nw5.grown {W W' : World} {base base' t : Nat} {xs : List Value} {v : Value} (h : Nw5 W base xs t) (ow : W.ownsRow base' 84 2 v t xs) (hg : W.grownBy W' v.ownBlock) : Nw5 W' base xs t := ⟨h.len, fun j hj => by
  obtain ⟨q, a, b, c, d⟩ := h.at_ j hj
  refine ⟨q, a, b, c.grown5 hg ?_, d⟩
  obtain ⟨g, c1, cur, rfl, hcell, _⟩ := wo_of ow (by omega)
  intro e
  have e : g = q := by simpa [Value.ownBlock] using e
  subst e
  obtain ⟨q0, a0, _⟩ := h.at_ 0 (by omega)
  have c0 := hcell _ _ a0
  obtain ⟨k, o, e2, hc⟩ := c.rd.2 (by omega)
  injection e2 with e2
  injection e2 with e3 e4 _
  subst e3 e4
  have c1' := hc 0 (.int .u8 0) (by simp [bcells, zeros64])
  rw [c0] at c1'
  cases c1'⟩
theorem Vd.set0 {w : World} {p : Nat} {A : Option Addr} {n c : Nat} {arm : Int} {down : Bool} (h : Vd w p A n c arm down) (A' : Option Addr) (n' c' : Nat) : Vd (w.setCell ⟨p, 0, none⟩ (.slice A' n' c')) p A' n' c' arm down := ⟨heap_setCell_same w p 0 _ _ (.slice A' n' c') h.blk⟩
theorem Nw5.far5 {W : World} {base t p : Nat} {xs : List Value} (h : Nw5 W base xs t) (hp : p < base) (u : Value) : Nw5 (W.setCell ⟨p, 0, none⟩ u) base xs t := ⟨h.len, fun j hj => by
  obtain ⟨q, a, b, c, d⟩ := h.at_ j hj
  refine ⟨q, a, b, ⟨c.len, c.le, c.max, c.rd.1, fun hn => ?_⟩, d⟩
  obtain ⟨k, o, e, hc⟩ := c.rd.2 hn
  refine ⟨k, o, e, fun j' u' hu => ?_⟩
  injection e with e
  injection e with e1 _ _
  rw [← hc j' u' hu]
  exact World.cell?_of_block (heap_setCell_other W ⟨p, 0, none⟩ k u (by show k ≠ p; omega))⟩
theorem made5_zeros : made5 64 (.int .u8 0) = (bcells zeros64).toArray := by
  apply Array.ext'
  rw [made5_toList]
  simp [bcells, zeros64]
set_option maxRecDepth 100000 in
theorem ref5New_no (w : World) (n : Int) (hn : n < 1 ∨ 65536 < n) : Calls Try.prog 27 #[.int .i64 n] w fun e w' => e = .returned (.tuple #[.agg #[.slice none 0 0, .int .i64 0, .bool false], .int .i64 2]) ∧ Ext w w' := by
  have v1 := Vd.new w none 0 0 0 false
  have x0 := Ext.alloc w (.cells #[.slice none 0 0, .int .i64 0, .bool false] 54)
  obtain ⟨W, hW⟩ : ∃ W, w.alloc (.cells #[.slice none 0 0, .int .i64 0, .bool false] 54) = W := ⟨_, rfl⟩
  obtain ⟨p, hp⟩ : ∃ p, w.heap.size = p := ⟨_, rfl⟩
  rw [hW] at v1 x0
  rw [hp] at v1
  have HW := Lib.hid hW
  have V1 := Lib.hid v1
  have X0 := Lib.hid x0
  have HP := Lib.hid hp
  have z0 := v1.c0
  have z1 := v1.c1
  have z2 := v1.c2
  have y0 := v1.fz 0
  have y1 := v1.fz 1
  have y2 := v1.fz 2
  clear v1 x0 hW
  by_cases hn0 : n < 1
  · clear hn
    go_enter Try.func27, Try.ntmps27
    go_upto_region 1 with (fail)
    rw [HW.out]
    clear hp
    go_wp2_with (fail)
    refine bodyPost_ret (v := .tuple #[.agg #[.slice none 0 0, .int .i64 0, .bool false], .int .i64 2]) ?_ rfl ⟨rfl, X0.out.set3 (by have := HP.out; omega) _ _ _⟩
    have hr := (V1.out.set none 0 0 0 false).res
    rw [results_cell25 rfl]
    simp [asAddr, Result.andThen, hr]
  · have hn1 : 65536 < n := by omega
    clear hn
    go_enter Try.func27, Try.ntmps27
    go_upto_region 1 with (fail)
    rw [HW.out]
    clear hp
    go_wp2_with (fail)
    refine bodyPost_ret (v := .tuple #[.agg #[.slice none 0 0, .int .i64 0, .bool false], .int .i64 2]) ?_ rfl ⟨rfl, X0.out.set3 (by have := HP.out; omega) _ _ _⟩
    have hr := (V1.out.set none 0 0 0 false).res
    rw [results_cell25 rfl]
    simp [asAddr, Result.andThen, hr]
set_option maxRecDepth 100000 in
set_option maxHeartbeats 8000000 in
theorem ref5New_ok (w : World) (g m b : Nat) (hgmb : g < w.heap.size ∧ m < w.heap.size ∧ b < w.heap.size) (N : Nat) (h1 : 1 ≤ N) (h2 : N ≤ 20) : Calls Try.prog 27 #[.int .i64 (N : Int)] w fun e w' => ∃ A c, e = .returned (.tuple #[rval A N c (Disks.new N), .int .i64 0]) ∧ Ext w w' ∧ Rf w' g m b A N c (Disks.new N) := by
  obtain ⟨i0, hi0, hz0, hz1, hz2⟩ := info_parts cell84_info
  have hmk : ∀ W : World, (Instr.makeSlice 34 (.int .i64 64) (.int .i64 64)).run Try.prog W = .ok (.slice (some ⟨W.heap.size, 0, none⟩) 64 64) (W.alloc (.cells (made5 64 (.int .u8 0)) 5)) := fun W => run_make5 W 64 (by omega)
  have HMK := Lib.hid hmk
  have HG := Lib.hid hgmb
  obtain ⟨p, hp⟩ : ∃ p, w.heap.size = p := ⟨_, rfl⟩
  have HP := Lib.hid hp
  have a1 : ¬ (N : Int) < 1 := by omega
  have a2 : ¬ (65536 : Int) < N := by omega
  clear hmk hgmb
  go_enter Try.func27, Try.ntmps27
  go_upto_region 4 with (fail)
  have v1 := (Vd.new w none 0 0 0 false).ext (Ext.alloc _ (.cells #[.slice none 0 0, .int .i64 (-1), .bool false] 54))
  have vp := Vd.new (w.alloc (.cells #[.slice none 0 0, .int .i64 0, .bool false] 54)) none 0 0 (-1) false
  have x0 := (Ext.alloc w (.cells #[.slice none 0 0, .int .i64 0, .bool false] 54)).thenAlloc (.cells #[.slice none 0 0, .int .i64 (-1), .bool false] 54)
  have hz : (w.alloc (.cells #[.slice none 0 0, .int .i64 0, .bool false] 54)).heap.size = p + 1 := by rw [← hp]; simp
  have hs : ((w.alloc (.cells #[.slice none 0 0, .int .i64 0, .bool false] 54)).alloc (.cells #[.slice none 0 0, .int .i64 (-1), .bool false] 54)).heap.size = p + 2 := by rw [← hp]; simp
  rw [hz] at vp
  rw [hp] at v1
  obtain ⟨W0, hW0⟩ : ∃ W0, (w.alloc (.cells #[.slice none 0 0, .int .i64 0, .bool false] 54)).alloc (.cells #[.slice none 0 0, .int .i64 (-1), .bool false] 54) = W0 := ⟨_, rfl⟩
  rw [hW0] at v1 vp x0 hs
  rw [hW0]
  have V1 := Lib.hid v1
  have VP0 := Lib.hid vp
  have X0 := Lib.hid x0
  have HS := Lib.hid hs
  clear v1 vp x0 hs hz hW0 hp
  go_wp2_with (fail)
  go_loopw [5] (fun i wr => ∃ (t : Nat) (A1 : Option Addr) (c1 : Nat) (xs : List Value), t ≤ N ∧ i = .int .i64 (t : Int) ∧ RowKit.Hid (Vd wr (p + 1) A1 t c1 (-1) false) ∧ RowKit.Hid (Vd wr p none 0 0 0 false) ∧ RowKit.Hid (Ext w wr) ∧ RowKit.Hid (wr.ownsRow (p + 2) 84 2 (.slice A1 t c1) t xs) ∧ RowKit.Hid (Nw5 wr (p + 2) xs t)) (fun i _ => N - (intOf i).toNat)
  case atStart => exact ⟨0, none, 0, [], by omega, rfl, VP0, V1, X0, Lib.hid (World.ownsRow_nil _ _ _ _), Lib.hid ⟨rfl, fun j hj => absurd hj (Nat.not_lt_zero _)⟩⟩
  case round =>
    obtain ⟨t, A1, c1, xs, ht, rfl, VP, VQ, XW, OW, NW⟩ := hrel
    by_cases hlt : t < N
    · have r1 : (t : Int) < N := by omega
      have hsz := VP.out.lt
      obtain ⟨W2, q, hm2, hx2, hb2, hq2, hqs⟩ : ∃ W2 q, (Instr.makeSlice 34 (.int .i64 64) (.int .i64 64)).run Try.prog wr.drew = .ok (.slice (some ⟨q, 0, none⟩) 64 64) W2 ∧ Ext wr W2 ∧ Bs W2 (some ⟨q, 0, none⟩) 64 64 zeros64 ∧ wr.heap.size ≤ q ∧ W2.heap.size = q + 1 := by
        refine ⟨_, _, HMK.out wr.drew, (Ext.drew wr).thenAlloc _, ?_, ?_, by simp⟩
        · have o : Ob wr.drew (wr.drew.alloc (.cells (made5 64 (.int .u8 0)) 5)) wr.drew.heap.size zeros64 := ⟨Ext.alloc _ _, Nat.le_refl _, by rw [made5_zeros]; exact heap_alloc_new _ _⟩
          exact o.bs (by rw [zeros64_len]; omega) zeros64_len
        · exact Nat.le_refl _
      have HM2 := Lib.hid hm2
      have hx4 : Ext wr (W2.alloc (.cells #[.slice (some ⟨q, 0, none⟩) 64 64, .slice none 0 0] 84)) := hx2.thenAlloc _
      have HB2 := Lib.hid hb2
      have HQ2 := Lib.hid hq2
      have HQS := Lib.hid hqs
      clear hm2 hb2 hq2 hqs
      go_upto_region 7 with (fail)
      have hS : (fun W : World => Hid (Vd W (p + 1) A1 t c1 (-1) false)) wr.drew := Lib.hid (VP.out.ext (Ext.drew _))
      refine wp_region_T (S := fun W : World => Hid (Vd W (p + 1) A1 t c1 (-1) false)) 7 rfl rfl ?_
      refine takeT (i := 0) (v := ?_) rfl (by kernel_rfl) (by kernel_rfl) (by kernel_rfl) (by kernel_rfl) (by decide) (fun _ _ _ h => h) (by kernel_rfl) (Or.inl ⟨by rfl, ?_⟩) (by assumption) ?_
      rotate_left
      · (intro W9 hSw; go_simp; (try with_reducible rfl))
      try simp only [Act.put, List.setIfInBounds_toArray, List.set_cons_zero, List.set_cons_succ]
      refine takeT (i := 1) (v := ?_) rfl (by kernel_rfl) (by kernel_rfl) (by kernel_rfl) (by kernel_rfl) (by decide) (fun _ _ _ h => h) (by kernel_rfl) (Or.inl ⟨by rfl, ?_⟩) (by assumption) ?_
      rotate_left
      · (intro W9 hSw; (have k0 := hSw.out.c0; clear hSw; skip); go_simp; (try with_reducible rfl))
      try simp only [Act.put, List.setIfInBounds_toArray, List.set_cons_zero, List.set_cons_succ]
      refine oneT (i := 2) rfl (by kernel_rfl) (fun K hK => ?_)
      rw [if_pos (by kernel_rfl)]
      have hm2 := HM2.out
      go_wp2_with (fail)
      have hS2 : (fun W : World => Hid (Vd W (p + 1) A1 t c1 (-1) false)) W2 := Lib.hid (VP.out.ext hx2)
      clear hm2 hS
      refine hK.out _ _ (fun _ => hS2) ?_
      clear hK K
      try simp only [Act.put, List.setIfInBounds_toArray, List.set_cons_zero, List.set_cons_succ]
      refine takeT (i := 3) (v := ?_) rfl (by kernel_rfl) (by kernel_rfl) (by kernel_rfl) (by kernel_rfl) (by decide) (fun _ _ _ h => h) (by kernel_rfl) (Or.inl ⟨by rfl, ?_⟩) (by assumption) ?_
      rotate_left
      · (intro W9 hSw; go_simp; (try with_reducible rfl))
      try simp only [Act.put, List.setIfInBounds_toArray, List.set_cons_zero, List.set_cons_succ]
      refine oneT (i := 4) rfl (by kernel_rfl) (fun K hK => ?_)
      rw [if_pos (by kernel_rfl)]
      go_wp2_with (fail)
      have hS4 : (fun W : World => Hid (Vd W (p + 1) A1 t c1 (-1) false)) (W2.alloc (.cells #[.slice (some ⟨q, 0, none⟩) 64 64, .slice none 0 0] 84)) := Lib.hid (VP.out.ext (hx2.thenAlloc _))
      refine hK.out _ _ (fun _ => hS4) ?_
      clear hK K
      try simp only [Act.put, List.setIfInBounds_toArray, List.set_cons_zero, List.set_cons_succ]
      refine oneT (i := 5) rfl (by kernel_rfl) (fun K hK => ?_)
      refine step_append_rd _ (by rfl) (.tmp 20) (.tmp 23) 52 (by rfl) (p + 2) 84 i0 _ 2 48 Try.underlying52 hi0 hz0 hz1 hz2 (by rfl) (by omega) (.slice A1 t c1) t xs (by rfl) (ownsRow_ext OW.out hx4) (some ⟨W2.heap.size, 0, none⟩) 1 1 [.slice (some ⟨q, 0, none⟩) 64 64, .slice none 0 0] (by rfl) (Rd.lit2c ..) (by simp [Value.oneCell']) (by omega) (by unfold maxLen; omega) (by have := hx4.size; omega) ?_
      intro v5 w5 hown hgr hat
      have hob : ∀ k, (Value.slice A1 t c1).ownBlock = some k → p + 2 ≤ k := own_row OW.out
      have VP5 := Lib.hid (hS4.out.grown hgr (fun e => by have := hob _ e; omega))
      have VQ5 := Lib.hid ((VQ.out.ext hx4).grown hgr (fun e => by have := hob _ e; omega))
      have X5 := Lib.hid ((XW.out.trans hx4).ofGrown hgr (fun k hk => by have := hob _ hk; have := HP.out; omega))
      have N5 := Lib.hid (((NW.out.ext hx4).grown (ownsRow_ext OW.out hx4) hgr).snoc (q := q) (((HB2.out.ext (Ext.alloc _ _)).grown5 hgr (fun e => by have := (OW.out.lt q e).2; have := HQ2.out; omega))) (by have := HQ2.out; omega))
      have O5 := Lib.hid hown
      clear hown hgr hat hob hS4
      refine hK.out _ _ (fun _ => VP5) ?_
      clear hK K
      try simp only [Act.put, List.setIfInBounds_toArray, List.set_cons_zero, List.set_cons_succ]
      have VPS : (fun W : World => Hid (Vd W (p + 1) A1 t c1 (-1) false)) w5 := VP5
      refine takeT (i := 6) (v := ?_) rfl (by kernel_rfl) (by kernel_rfl) (by kernel_rfl) (by kernel_rfl) (by decide) (fun _ _ _ h => h) (by kernel_rfl) (Or.inl ⟨by rfl, ?_⟩) (by assumption) ?_
      rotate_left
      · (intro W9 hSw; go_simp; (try with_reducible rfl))
      try simp only [Act.put, List.setIfInBounds_toArray, List.set_cons_zero, List.set_cons_succ]
      obtain ⟨A5, c5, rfl, _, _⟩ := ownsRow_slice O5.out
      have k0 := VP5.out.c0
      have u0 := VP5.out.fz 0
      refine oneT (i := 7) rfl (by kernel_rfl) (fun K hK => ?_)
      rw [if_pos (by kernel_rfl)]
      go_wp2_with (fail)
      refine hK.out _ _ (fun h => absurd (show true = false from h) (by decide)) ?_
      clear hK K
      try simp only [Act.put, List.setIfInBounds_toArray, List.set_cons_zero, List.set_cons_succ]
      refine doneT (by kernel_rfl) ?_ _
      go_wp2_with (fail)
      refine ⟨⟨t + 1, A5, c5, _, by omega, by go_num, Lib.hid (VP5.out.set0 A5 (t + 1) c5), Lib.hid (VQ5.out.far (q := ⟨p + 1, 0, none⟩) (by show p + 1 ≠ p; omega) _), Lib.hid (Below.setCell X5.out (p := ⟨p + 1, 0, none⟩) (by show w.heap.size ≤ p + 1; have := HP.out; omega) _), Lib.hid (ownsRow_setCell_below O5.out (by show p + 1 < p + 2; omega) _), Lib.hid (N5.out.far5 (p := p + 1) (by omega) _)⟩, by simp [intOf]; omega⟩
    · have r1 : ¬ (t : Int) < N := by omega
      obtain rfl : t = N := by omega
      have k0 := VP.out.c0
      have k1 := VP.out.c1
      have k2 := VP.out.c2
      have z0 := VQ.out.c0
      have z1 := VQ.out.c1
      have z2 := VQ.out.c2
      have y0 := VQ.out.fz 0
      have y1 := VQ.out.fz 1
      have y2 := VQ.out.fz 2
      go_wp2_with (fail)
      have xw := Ext.set3 XW.out (q := p) (by have := HP.out; omega) (.slice A1 t c1) (.int .i64 (-1)) (.bool false)
      refine bodyPost_ret (v := .tuple #[.agg #[.slice A1 t c1, .int .i64 (-1), .bool false], .int .i64 0]) ?_ rfl ⟨A1, c1, rfl, xw, ?_⟩
      · have hr := (VQ.out.set A1 t c1 (-1) false).res
        rw [results_cell25 rfl]
        simp [asAddr, Result.andThen, hr]
      · have hgg := HG.out
        have hpp := HP.out
        refine Rf.same (w := wr) ?_ VQ.out (others3 _ _ _ _ _)
        obtain ⟨gb, cc, cur, e, hcell, hgb, hbase, hnc, hcm⟩ := wo_of OW.out (by omega)
        injection e with e1 e2 e3
        subst e1 e3
        refine ⟨by show (List.replicate t _).length = t; simp, hnc, hcm, fun q hq => ?_, fun i hi => ?_⟩
        · injection hq with hq
          subst hq
          exact ⟨by show gb ≠ g; omega, by show gb ≠ m; omega, by show gb ≠ b; omega⟩
        · obtain ⟨q, x1, x2, bq, hb⟩ := NW.out.at_ i hi
          have hr0 : Gm.row (Disks.new t).med i = zeros64 := zrow t i hi
          have hc0 : cbytes (Disks.new t) i = [] := by
            unfold cbytes
            rw [show (Disks.new t).cac = List.replicate t none from rfl, Disks.cget_empty]
            rfl
          refine ⟨gb, 0, some ⟨q, 0, none⟩, 64, 64, none, 0, 0, rfl, by rw [Nat.zero_add]; exact hcell _ _ x1, by rw [Nat.zero_add]; exact hcell _ _ x2, by rw [hr0]; exact bq, by rw [hc0]; exact bs_nil _, fun z hz => ?_, Awy.no g m b⟩
          injection hz with hz
          subst hz
          exact ⟨by show q ≠ g; omega, by show q ≠ m; omega, by show q ≠ b; omega⟩
end Go.Proofs.Ytbfbiofndipaaaa
namespace Go.Proofs.Ytbfbiofndipaaaa
open Go.ChangeShapes Go.WideShapes Go.ChangeAt Go.RowKit Go.Maps Go.Sort Go.Shelf

/-- The disk g m b is d, the document's in variable p is e. -/
structure Pw (w wr : World) (g m b p N : Nat) (A : Option Addr) (c n : Nat) (d e : Disks.D) : Prop where
  ds : Ds wr g m b N d
  vd : Vd wr p A n c e.arm e.down
  rf : Rf wr g m b A n c e
  ext : Ext w wr
/-- Where they lie. -/
structure Lie5 (w : World) (g m b p : Nat) : Prop where
  lg : w.heap.size ≤ g
  lm : w.heap.size ≤ m
  lb : w.heap.size ≤ b
  lp : w.heap.size ≤ p
  pg : p ≠ g
  pm : p ≠ m
  pb : p ≠ b
section
variable {w wr w2 w3 : World} {g m b p N N' : Nat} {A A' : Option Addr} {c c' n : Nat} {d e d1 : Disks.D}
theorem Pw.ext' (h : Pw w wr g m b p N A c n d e) (hx : Ext wr w2) : Pw w w2 g m b p N A c n d e := ⟨h.ds.ext hx, h.vd.ext hx, h.rf.ext hx, h.ext.trans hx⟩
theorem Pw.mono (h : Pw w wr g m b p N A c n d e) (hN : N ≤ N') : Pw w wr g m b p N' A c n d e := ⟨h.ds.mono hN, h.vd, h.rf, h.ext⟩
theorem Vd.kp {down : Bool} {arm : Int} (h : Vd wr p A n c arm down) (hk : Kp g m b wr w2) (h1 : p ≠ g) (h2 : p ≠ m) (h3 : p ≠ b) : Vd w2 p A n c arm down := ⟨(hk.block p h.lt h1 h2 h3).trans h.blk⟩
theorem Pw.kp (h : Pw w wr g m b p N A c n d e) (l : Lie5 w g m b p) (hk : Kp g m b wr w2) (hd : Ds w2 g m b N' d1) : Pw w w2 g m b p N' A c n d1 e :=
  ⟨hd, h.vd.kp hk l.pg l.pm l.pb, h.rf.kp hk, h.ext.kp hk l.lg l.lm l.lb⟩
theorem Pw.put (h : Pw w wr g m b p N A c n d1 e) (l : Lie5 w g m b p) (hx : Ext wr w3) (hR : Rf w3 g m b A' n c' d1) : Pw w (((w3.setCell ⟨p, 0, none⟩ (.slice A' n c')).setCell ⟨p, 1, none⟩ (.int .i64 d1.arm)).setCell ⟨p, 2, none⟩ (.bool d1.down)) g m b p N A' c' n d1 d1 :=
  have hv := h.vd.ext hx
  ⟨(((h.ds.ext hx).farC (p := ⟨p, 0, none⟩) l.pg l.pm l.pb _).farC (p := ⟨p, 1, none⟩) l.pg l.pm l.pb _).farC (p := ⟨p, 2, none⟩) l.pg l.pm l.pb _,
    hv.set A' n c' d1.arm d1.down, hR.same hv (others3 _ _ _ _ _), Ext.set3 (h.ext.trans hx) l.lp _ _ _⟩
theorem Pw.lts (h : Pw w wr g m b p N A c n d e) : g < wr.heap.size ∧ m < wr.heap.size ∧ b < wr.heap.size := h.ds.lts
end
theorem reads5 {w : World} {g m b N : Nat} {d : Disks.D} (h : Ds w g m b N d) (i : Int) : Calls Try.prog 24 #[dptr g, .int .i64 i] w fun e w' => ∃ B nb cb, e = .returned (.tuple #[.slice B nb cb, .int .i64 (Disks.there d i)]) ∧ Bs w' B nb cb (Disks.readB d i) ∧ Ext w w' := by
  by_cases h0 : Disks.there d i = 0
  · refine (h.readOk i h0 rfl).mono ?_
    rintro e w' ⟨k, rfl, hs⟩
    rw [h0]
    refine ⟨_, _, _, rfl, ?_, hs.ext⟩
    have e1 : Disks.readB d i = Disks.sec d i.toNat := by unfold Disks.readB; rw [h0, if_neg (by omega)]
    rw [e1]
    exact hs.bs
  · refine (h.readNo i rfl h0).mono ?_
    rintro e w' ⟨rfl, hx⟩
    refine ⟨_, _, _, rfl, ?_, hx⟩
    have e1 : Disks.readB d i = [] := by unfold Disks.readB; rw [if_pos h0]
    rw [e1]
    exact bs_nil _
theorem Disks5_arm_med (d : Disks.D) (x : Int) : (Disks.armD d x).med = d.med := by unfold Disks.armD; split <;> rfl
theorem Disks5_arm_cac (d : Disks.D) (x : Int) : (Disks.armD d x).cac = d.cac := by unfold Disks.armD; split <;> rfl
theorem nine_bs (W : World) (v : Nat) (hv : v ≤ 1000) : ∃ q W', (Instr.makeSlice 34 (.int .i64 (v : Int)) (.int .i64 (v : Int))).run Try.prog W = .ok (.slice (some ⟨q, 0, none⟩) v v) W' ∧ Ob W W' q (List.replicate v 0) :=
  ⟨_, _, run_make5 W v (by omega), ⟨Ext.alloc _ _, Nat.le_refl _, by
    have e : made5 v (.int .u8 0) = (bcells (List.replicate v 0)).toArray := by
      apply Array.ext'
      rw [made5_toList]
      simp [bcells]
    rw [e]
    exact heap_alloc_new _ _⟩⟩
end Go.Proofs.Ytbfbiofndipaaaa
