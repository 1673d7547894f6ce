/- Several texts in one: The contract of the document's Flush. The contract of the document's Crash. -/
import Derived.Test.YtbfbiofndipaaaaCt26
import Derived.Test.YtbfbiofndipaaaaCt24
namespace Go.Proofs.Ytbfbiofndipaaaa
open Go.ChangeShapes Go.WideShapes Go.ChangeAt Go.RowKit Go.Maps Go.Sort Go.Shelf
set_option linter.unusedSimpArgs false

/-- Alike, sector by sector. -/
theorem Rf.alike {w : World} {g m b : Nat} {A : Option Addr} {n c : Nat} {d e : Disks.D} (h : Rf w g m b A n c d) (hl : e.med.length = d.med.length) (hm : ∀ i, i < n → Gm.row e.med i = Gm.row d.med i) (hc : ∀ i, i < n → cbytes e i = cbytes d i) : Rf w g m b A n c e :=
  ⟨by rw [hl]; exact h.len, h.le, h.max, h.awy, fun i hi => by
    obtain ⟨k, off, M, mn, mc, C, cn, cc, e', c1, c2, b1, b2, a1, a2⟩ := h.at_ i hi
    exact ⟨k, off, M, mn, mc, C, cn, cc, e', c1, c2, by rw [hm i hi]; exact b1, by rw [hc i hi]; exact b2, a1, a2⟩⟩
theorem Awy.no (g m b : Nat) : Awy g m b none := fun q hq => by cases hq
theorem cbytes_cut (e : Disks.D) (M : List (List UInt8)) (t j : Nat) : cbytes { e with med := M, cac := e.cac.set t none } j = if t = j then [] else cbytes e j := by
  unfold cbytes
  show (Disks.cget (e.cac.set t none) j).getD [] = _
  by_cases q : t = j
  · subst q
    rw [if_pos rfl]
    by_cases z : t < e.cac.length
    · rw [Disks.cget_set_eq z]; rfl
    · rw [Disks.cget_ge (by rw [List.length_set]; omega)]; rfl
  · rw [if_neg q, Disks.cget_set_ne q]
/-- Some of the sectors are as x says, with nothing cached; the others are as they were. -/
structure Upto (d e : Disks.D) (n t : Nat) (x : Nat → List UInt8) : Prop where
  len : e.med.length = n
  row : ∀ i, i < n → Gm.row e.med i = if i < t then x i else Gm.row d.med i
  cac : ∀ i, i < n → cbytes e i = if i < t then [] else cbytes d i
theorem Upto.start (d : Disks.D) {n : Nat} (h : d.med.length = n) (x : Nat → List UInt8) : Upto d d n 0 x := ⟨h, fun i _ => by rw [if_neg (by omega)], fun i _ => by rw [if_neg (by omega)]⟩
theorem Upto.step {d e : Disks.D} {n t : Nat} {x : Nat → List UInt8} (h : Upto d e n t x) (ht : t < n) {l : List UInt8} (hl : l = x t) : Upto d { e with med := e.med.set t l, cac := e.cac.set t none } n (t + 1) x := by
  subst hl
  refine ⟨by show (e.med.set t _).length = n; rw [List.length_set]; exact h.len, fun i hi => ?_, fun i hi => ?_⟩
  · show Gm.row (e.med.set t (x t)) i = _
    rw [row_set e.med t i _ (by rw [h.len]; exact ht)]
    by_cases q : t = i
    · subst q; rw [if_pos rfl, if_pos (by omega)]
    · rw [if_neg q, h.row i hi]
      by_cases z : i < t
      · rw [if_pos z, if_pos (by omega)]
      · rw [if_neg z, if_neg (by omega)]
  · rw [cbytes_cut]
    by_cases q : t = i
    · subst q; rw [if_pos rfl, if_pos (by omega)]
    · rw [if_neg q, h.cac i hi]
      by_cases z : i < t
      · rw [if_pos z, if_pos (by omega)]
      · rw [if_neg z, if_neg (by omega)]
theorem Upto.skip {d e : Disks.D} {n t : Nat} {x : Nat → List UInt8} (h : Upto d e n t x) (hx : Gm.row d.med t = x t) (hc : cbytes d t = []) : Upto d e n (t + 1) x := by
  refine ⟨h.len, fun i hi => ?_, fun i hi => ?_⟩
  · rw [h.row i hi]
    by_cases z : i < t
    · rw [if_pos z, if_pos (by omega)]
    · rw [if_neg z]
      by_cases q : i = t
      · subst q; rw [if_pos (by omega)]; exact hx
      · rw [if_neg (by omega)]
  · rw [h.cac i hi]
    by_cases z : i < t
    · rw [if_pos z, if_pos (by omega)]
    · rw [if_neg z]
      by_cases q : i = t
      · subst q; rw [if_pos (by omega)]; exact hc
      · rw [if_neg (by omega)]
set_option maxRecDepth 100000 in
set_option maxHeartbeats 4000000 in
theorem ref5Flush (w : World) (g m b : Nat) (A : Option Addr) (n c : Nat) (d : Disks.D) (h : Rf w g m b A n c d) (hgmb : g < w.heap.size ∧ m < w.heap.size ∧ b < w.heap.size) (hok : Disks.Ok d) :
    Calls Try.prog 29 #[rval A n c d] w (Gives5 g m b n (Disks.flushD d) (Disks.flushE d) w) := by
  have hN : n ≤ 70000 := by have := hok.wf.max; have := h.len; omega
  obtain ⟨p, hp⟩ : ∃ p, w.heap.size = p := ⟨_, rfl⟩
  obtain ⟨am, ham⟩ : ∃ am, d.arm = am := ⟨_, rfl⟩
  obtain ⟨dn, hdn⟩ : ∃ dn, d.down = dn := ⟨_, rfl⟩
  obtain ⟨v0, v1, x0⟩ := rworld_facts w A n c am dn
  rw [hp] at v0 v1
  obtain ⟨W, hW⟩ : ∃ W, rworld w A n c am dn = W := ⟨_, rfl⟩
  rw [hW] at v0 v1 x0
  unfold rworld at hW
  have HW := Lib.hid hW
  have V1 := Lib.hid v1
  have V0 := Lib.hid v0
  have X0 := Lib.hid x0
  have HP := Lib.hid (show w.heap.size ≤ p from by omega)
  have k0 := v0.c0
  have k1 := v0.c1
  have k2 := v0.c2
  have z0 := v1.c0
  have z1 := v1.c1
  have z2 := v1.c2
  have y0 := v1.fz 0
  have y1 := v1.fz 1
  have y2 := v1.fz 2
  have u0 := v0.fz 0
  have u1 := v0.fz 1
  have u2 := v0.fz 2
  have hle := h.le
  have hmx := h.max
  have hln := h.len
  have H := Lib.hid h
  have ARM := Lib.hid ham
  have DN := Lib.hid hdn
  clear v0 v1 x0 hW
  have OK := Lib.hid hok
  have HG := Lib.hid hgmb
  have hpos := hok.wf.pos
  clear h hok hgmb
  unfold rval
  rw [ham, hdn]
  cases dn
  · have ht : Disks.there d 0 = 0 := by unfold Disks.there; rw [if_neg (by rw [hdn]; decide), if_neg (by omega)]
    by_cases h0 : am = 0
    · skip
      have e0 : Disks.opE d = 15 := if_pos (by omega)
      have hop := ref5Op W A n c d OK.out.wf.arm OK.out.top
      rw [ham, h0, decide_eq_true rfl] at hop
      unfold rval at hop
      rw [ham, hdn, h0] at hop
      have eop : Disks.op d = { { d with down := true } with arm := -1 } := if_pos (by omega)
      rw [eop] at hop
      simp only at hop
      have HOP := Lib.hid hop
      have EOP := Lib.hid eop
      have E := Lib.hid (show Disks.flushE d = 15 by unfold Disks.flushE; rw [ht, if_neg (by omega), e0])
      have ED := Lib.hid (show Disks.flushD d = Disks.op d by unfold Disks.flushD; rw [ht, if_neg (by omega), if_pos (by omega)])
      clear ht ham hdn e0 hop eop
      subst h0
      go_enter Try.func29, Try.ntmps29
      go_upto_region 1 with (fail)
      rw [HW.out]
      clear hp
      go_wp2_with (fail)
      with_reducible refine HOP.out.mono ?_
      rintro e w2 ⟨rfl, x2⟩
      have V02 := Lib.hid (V0.out.ext x2)
      have V12 := Lib.hid (V1.out.ext x2)
      have X2 := Lib.hid (X0.out.trans x2)
      have k0' := V02.out.c0
      have k1' := V02.out.c1
      have k2' := V02.out.c2
      have u0' := V02.out.fz 0
      have u1' := V02.out.fz 1
      have u2' := V02.out.fz 2
      have z0' := V12.out.c0
      have z1' := V12.out.c1
      have z2' := V12.out.c2
      have y0' := V12.out.fz 0
      have y1' := V12.out.fz 1
      have y2' := V12.out.fz 2
      clear x2
      go_wp2_with (fail)
      have HP' := HP.out
      have xw := Ext.set3 (Ext.set3 X2.out (q := p) HP' (.slice A n c) (.int .i64 (-1)) (.bool true)) (q := p + 1) (by omega) (.slice A n c) (.int .i64 (-1)) (.bool true)
      refine bodyPost_ret (v := .tuple #[.agg #[.slice A n c, .int .i64 (-1), .bool true], .int .i64 15]) ?_ rfl ⟨A, c, by rw [E.out, ED.out, EOP.out], xw, by rw [ED.out]; exact (H.out.ext xw).like (Disks.op_med d) (Disks.op_cac d)⟩
      have hr := ((((V12.out.far (q := ⟨p, 0, none⟩) (by show p ≠ p + 1; omega) (.slice A n c)).far (q := ⟨p, 1, none⟩) (by show p ≠ p + 1; omega) (.int .i64 (-1))).far (q := ⟨p, 2, none⟩) (by show p ≠ p + 1; omega) (.bool true)).set A n c (-1) true).res
      rw [results_cell25 rfl]
      simp [asAddr, Result.andThen, hr]
    · have h0' : d.arm ≠ 0 := by omega
      have e0 : Disks.opE d = 0 := if_neg h0'
      have E := Lib.hid (show Disks.flushE d = 0 by unfold Disks.flushE; rw [ht, if_neg (by omega), e0])
      have ED := Lib.hid (show Disks.flushD d = { Disks.op d with med := Disks.merged d, cac := Disks.emptied d } by unfold Disks.flushD; rw [ht, if_neg (by omega), if_neg h0'])
      have hop := ref5Op W A n c d OK.out.wf.arm OK.out.top
      rw [decide_eq_false h0'] at hop
      unfold rval at hop
      obtain ⟨an, han⟩ : ∃ an, max (d.arm - 1) (-1) = an := ⟨_, rfl⟩
      have eop : Disks.op d = { d with arm := an } := by unfold Disks.op; rw [if_neg h0', han]
      rw [eop] at hop
      simp only at hop
      rw [ham, hdn] at hop
      simp only [Bool.not_false] at hop
      have HOP := Lib.hid hop
      have EOP := Lib.hid eop
      have HAN := Lib.hid han
      clear ht ham hdn e0 hop eop han h0'
      go_enter Try.func29, Try.ntmps29
      go_upto_region 1 with (fail)
      rw [HW.out]
      clear hp
      go_wp2_with (fail)
      with_reducible refine HOP.out.mono ?_
      rintro e w2 ⟨rfl, x2⟩
      have V02 := Lib.hid (V0.out.ext x2)
      have V12 := Lib.hid (V1.out.ext x2)
      have X2 := Lib.hid (X0.out.trans x2)
      have k0' := V02.out.c0
      have k1' := V02.out.c1
      have k2' := V02.out.c2
      have u0' := V02.out.fz 0
      have u1' := V02.out.fz 1
      have u2' := V02.out.fz 2
      clear x2 k0 k1 k2 z0 z1 z2 y0 y1 y2 u0 u1 u2
      go_upto_region 6 with (fail)
      obtain ⟨W3, hW3⟩ : ∃ W3, ((w2.setCell ⟨p, 0, none⟩ (.slice A n c)).setCell ⟨p, 1, none⟩ (.int .i64 an)).setCell ⟨p, 2, none⟩ (.bool false) = W3 := ⟨_, rfl⟩
      have v3 := V02.out.set A n c an false
      have v13 := V12.out.far3 (q := p) (by omega) (.slice A n c) (.int .i64 an) (.bool false)
      have x3 := Ext.set3 X2.out (q := p) HP.out (.slice A n c) (.int .i64 an) (.bool false)
      rw [hW3] at v3 v13 x3
      rw [hW3]
      have V3 := Lib.hid v3
      have V13 := Lib.hid v13
      have X3 := Lib.hid x3
      clear v3 v13 x3 hW3 k0' k1' k2' u0' u1' u2' V02 V12 X2 HOP
      go_wp2_with (fail)
      go_loopw [5] (fun i wr => ∃ (t : Nat) (A1 : Option Addr) (c1 : Nat) (e : Disks.D), t ≤ n ∧ i = .int .i64 (t : Int) ∧ RowKit.Hid (Vd wr p A1 n c1 an false) ∧ RowKit.Hid (Vd wr (p + 1) none 0 0 0 false) ∧ RowKit.Hid (Ext w wr) ∧ RowKit.Hid (Rf wr g m b A1 n c1 e) ∧ RowKit.Hid (Upto d e n t (Disks.sec d))) (fun i _ => n - (intOf i).toNat)
      case atStart => exact ⟨0, A, c, d, by omega, rfl, V3, V13, X3, Lib.hid (H.out.ext X3.out), Lib.hid (Upto.start d hln _)⟩
      case round =>
        obtain ⟨t, A1, c1, e, ht, rfl, VP, VQ, XW, RF, UP⟩ := hrel
        have k0 := VP.out.c0
        have k1 := VP.out.c1
        have k2 := VP.out.c2
        have hle1 := RF.out.le
        have hmx1 := RF.out.max
        by_cases hlt : t < n
        · have r1 : (t : Int) < n := by omega
          obtain ⟨k, off, M, mn, mc, C, cn, cc, rfl, e1, e2, b1, b2, a1, a2⟩ := RF.out.at_ t hlt
          have ec : cbytes e t = cbytes d t := by rw [UP.out.cac t hlt, if_neg (by omega)]
          rw [ec] at b2
          have C2 := Lib.hid e2
          have B2 := Lib.hid b2
          have A2 := Lib.hid a2
          have m2 := b2.max
          have l2 := b2.le
          have L2 := b2.len
          clear e1 b1 b2 a1 a2 ec
          by_cases hc : cbytes d t = []
          · have S := Lib.hid (sec_none d OK.out.wf hc)
            have HC := Lib.hid hc
            obtain rfl : cn = 0 := by rw [hc] at L2; exact L2.symm
            clear hc L2
            go_wp2_with (fail)
            exact ⟨⟨t + 1, _, c1, e, by omega, by go_num, VP, VQ, XW, RF, Lib.hid (UP.out.skip S.out.2.symm HC.out)⟩, by simp [intOf]; omega⟩
          · have S := Lib.hid (sec_some d hc)
            have hcn : (0 : Int) < cn := by
              have := List.length_pos_iff.2 hc
              omega
            clear hc L2
            go_upto_region 10 with (fail)
            clear e2
            have hS : (fun W : World => Hid (Ext wr W)) wr.drew := Lib.hid (Ext.drew _)
            refine wp_region_T (S := fun W : World => Hid (Ext wr W)) 10 rfl rfl ?_
            refine takeT (i := 0) (v := ?_) rfl (by kernel_rfl) (by kernel_rfl) (by kernel_rfl) (by kernel_rfl) (by decide) (fun _ _ _ h => h) (by kernel_rfl) (Or.inl ⟨by rfl, ?_⟩) (by assumption) ?_
            rotate_left
            · (intro W9 hSw; (have k0 := (VP.out.ext hSw.out).c0; have k1 := (VP.out.ext hSw.out).c1; have k2 := (VP.out.ext hSw.out).c2; clear hSw; skip); go_simp; (try with_reducible rfl))
            try simp only [Act.put, List.setIfInBounds_toArray, List.set_cons_zero, List.set_cons_succ]
            refine takeT (i := 1) (v := ?_) rfl (by kernel_rfl) (by kernel_rfl) (by kernel_rfl) (by kernel_rfl) (by decide) (fun _ _ _ h => h) (by kernel_rfl) (Or.inl ⟨by rfl, ?_⟩) (by assumption) ?_
            rotate_left
            · (intro W9 hSw; go_simp; (try with_reducible rfl))
            try simp only [Act.put, List.setIfInBounds_toArray, List.set_cons_zero, List.set_cons_succ]
            refine takeT (i := 2) (v := ?_) rfl (by kernel_rfl) (by kernel_rfl) (by kernel_rfl) (by kernel_rfl) (by decide) (fun _ _ _ h => h) (by kernel_rfl) (Or.inl ⟨by rfl, ?_⟩) (by assumption) ?_
            rotate_left
            · (intro W9 hSw; go_simp; (try with_reducible rfl))
            try simp only [Act.put, List.setIfInBounds_toArray, List.set_cons_zero, List.set_cons_succ]
            refine takeT (i := 3) (v := ?_) rfl (by kernel_rfl) (by kernel_rfl) (by kernel_rfl) (by kernel_rfl) (by decide) (fun _ _ _ h => h) (by kernel_rfl) (Or.inl ⟨by rfl, ?_⟩) (by assumption) ?_
            rotate_left
            · (intro W9 hSw; (have k0 := (VP.out.ext hSw.out).c0; have k1 := (VP.out.ext hSw.out).c1; have k2 := (VP.out.ext hSw.out).c2; clear hSw; skip); go_simp; (try with_reducible rfl))
            try simp only [Act.put, List.setIfInBounds_toArray, List.set_cons_zero, List.set_cons_succ]
            refine takeT (i := 4) (v := ?_) rfl (by kernel_rfl) (by kernel_rfl) (by kernel_rfl) (by kernel_rfl) (by decide) (fun _ _ _ h => h) (by kernel_rfl) (Or.inl ⟨by rfl, ?_⟩) (by assumption) ?_
            rotate_left
            · (intro W9 hSw; go_simp; (try with_reducible rfl))
            try simp only [Act.put, List.setIfInBounds_toArray, List.set_cons_zero, List.set_cons_succ]
            refine takeT (i := 5) (v := ?_) rfl (by kernel_rfl) (by kernel_rfl) (by kernel_rfl) (by kernel_rfl) (by decide) (fun _ _ _ h => h) (by kernel_rfl) (Or.inl ⟨by rfl, ?_⟩) (by assumption) ?_
            rotate_left
            · (intro W9 hSw; go_simp; (try with_reducible rfl))
            try simp only [Act.put, List.setIfInBounds_toArray, List.set_cons_zero, List.set_cons_succ]
            refine takeT (i := 6) (v := ?_) rfl (by kernel_rfl) (by kernel_rfl) (by kernel_rfl) (by kernel_rfl) (by decide) (fun _ _ _ h => h) (by kernel_rfl) (Or.inl ⟨by rfl, ?_⟩) (by assumption) ?_
            rotate_left
            · (intro W9 hSw; go_simp; (try with_reducible rfl))
            try simp only [Act.put, List.setIfInBounds_toArray, List.set_cons_zero, List.set_cons_succ]
            refine takeT (i := 7) (v := ?_) rfl (by kernel_rfl) (by kernel_rfl) (by kernel_rfl) (by kernel_rfl) (by decide) (fun _ _ _ h => h) (by kernel_rfl) (Or.inl ⟨by rfl, ?_⟩) (by assumption) ?_
            rotate_left
            · (intro W9 hSw; (have k9 := hSw.out.cell C2.out); go_simp; (try with_reducible rfl))
            try simp only [Act.put, List.setIfInBounds_toArray, List.set_cons_zero, List.set_cons_succ]
            refine takeT (i := 8) (v := ?_) rfl (by kernel_rfl) (by kernel_rfl) (by kernel_rfl) (by kernel_rfl) (by decide) (fun _ _ _ h => h) (by kernel_rfl) (Or.inl ⟨by rfl, ?_⟩) (by assumption) ?_
            rotate_left
            · (intro W9 hSw; go_simp; (try with_reducible rfl))
            try simp only [Act.put, List.setIfInBounds_toArray, List.set_cons_zero, List.set_cons_succ]
            refine oneT (i := 9) rfl (by kernel_rfl) (fun K hK => ?_)
            rw [if_pos (by kernel_rfl)]
            go_wp2_with (fail)
            have hg3 := HG.out
            have hs3 := XW.out.size
            have hs4 := hS.out.size
            with_reducible refine (ref5With wr.drew g m b (some ⟨k, off, none⟩) n c1 e (RF.out.ext (Ext.drew _)) ⟨by omega, by omega, by omega⟩ hN an false t hlt C cn cc _ none 0 0 [] (B2.out.ext (Ext.drew _)) (bs_nil _) A2.out (Awy.no ..)).mono ?_
            rintro e2 w5 ⟨A5, c5, rfl, x5, hR⟩
            have VQ5 := Lib.hid (VQ.out.ext (hS.out.trans x5))
            have VP5 := Lib.hid (VP.out.ext (hS.out.trans x5))
            have hS5 : (fun W : World => Hid (Ext wr W)) w5 := Lib.hid (hS.out.trans x5)
            have HR := Lib.hid hR
            have z0' := VP5.out.c0
            have z1' := VP5.out.c1
            have z2' := VP5.out.c2
            have y0' := VP5.out.fz 0
            have y1' := VP5.out.fz 1
            have y2' := VP5.out.fz 2
            clear x5 hR hg3 hs3 hs4 hS
            go_wp2_with (fail)
            refine hK.out _ _ (fun _ => hS5) ?_
            clear hK K
            try simp only [Act.put, List.setIfInBounds_toArray, List.set_cons_zero, List.set_cons_succ]
            refine oneT (i := 10) rfl (by kernel_rfl) (fun K hK => ?_)
            rw [if_pos (by kernel_rfl)]
            go_wp2_with (fail)
            refine hK.out _ _ (fun h => absurd (show true = false from h) (by decide)) ?_
            clear hK K
            try simp only [Act.put, List.setIfInBounds_toArray, List.set_cons_zero, List.set_cons_succ]
            refine doneT (by kernel_rfl) ?_ _
            go_wp2_with (fail)
            have xw := Ext.set3 (XW.out.trans hS5.out) (q := p) HP.out (.slice A5 n c5) (.int .i64 an) (.bool false)
            have vq := VQ5.out.far3 (q := p) (by omega) (.slice A5 n c5) (.int .i64 an) (.bool false)
            refine ⟨⟨t + 1, A5, c5, _, by omega, by go_num, Lib.hid (VP5.out.set A5 n c5 an false), Lib.hid vq, Lib.hid xw, Lib.hid ((HR.out _ rfl fun q hq => cbytes_cut e _ t q).same VP5.out (others3 _ _ _ _ _)), Lib.hid (UP.out.step hlt S.out.2.symm)⟩, by simp [intOf]; omega⟩
        · have r1 : ¬ (t : Int) < n := by omega
          obtain rfl : t = n := by omega
          have z0' := VQ.out.c0
          have z1' := VQ.out.c1
          have z2' := VQ.out.c2
          have y0' := VQ.out.fz 0
          have y1' := VQ.out.fz 1
          have y2' := VQ.out.fz 2
          go_wp2_with (fail)
          have xw := Ext.set3 XW.out (q := p + 1) (by have := HP.out; omega) (.slice A1 t c1) (.int .i64 an) (.bool false)
          refine bodyPost_ret (v := .tuple #[.agg #[.slice A1 t c1, .int .i64 an, .bool false], .int .i64 0]) ?_ rfl ⟨A1, c1, by rw [E.out, ED.out, EOP.out]; unfold rval; simp only; rw [DN.out], xw, ?_⟩
          · have hr := (VQ.out.set A1 t c1 an false).res
            rw [results_cell25 rfl]
            simp [asAddr, Result.andThen, hr]
          · rw [ED.out]
            refine (RF.out.alike ?_ (fun i hi => ?_) fun i hi => ?_).same VQ.out (others3 _ _ _ _ _)
            · show (Disks.merged d).length = _
              rw [Disks.len_merged, UP.out.len]; exact hln
            · show Gm.row (Disks.merged d) i = _
              rw [UP.out.row i hi, if_pos hi, Disks.row_merged d (by omega)]
            · rw [UP.out.cac i hi, if_pos hi]
              show (Disks.cget (Disks.emptied d) i).getD [] = []
              rw [Disks.emptied, Disks.cget_empty]
              rfl
  · have ht : Disks.there d 0 = 15 := by unfold Disks.there; rw [if_pos hdn]
    have E := Lib.hid (show Disks.flushE d = 15 by unfold Disks.flushE; rw [ht, if_pos (by omega)])
    have ED := Lib.hid (show Disks.flushD d = d by unfold Disks.flushD; rw [ht, if_pos (by omega)])
    clear ht ham hdn
    go_enter Try.func29, Try.ntmps29
    go_upto_region 1 with (fail)
    rw [HW.out]
    clear hp
    go_wp2_with (fail)
    refine bodyPost_ret (v := .tuple #[.agg #[.slice A n c, .int .i64 am, .bool true], .int .i64 15]) ?_ rfl ⟨A, c, by rw [E.out, ED.out]; unfold rval; rw [ARM.out, DN.out], X0.out.set3 (by have := HP.out; omega) _ _ _, by rw [ED.out]; exact H.out.ext (X0.out.set3 (by have := HP.out; omega) _ _ _)⟩
    have hr := (V1.out.set A n c am true).res
    rw [results_cell25 rfl]
    simp [asAddr, Result.andThen, hr]
end Go.Proofs.Ytbfbiofndipaaaa
namespace Go.Proofs.Ytbfbiofndipaaaa
open Go.ChangeShapes Go.WideShapes Go.ChangeAt Go.RowKit Go.Maps Go.Sort Go.Shelf
set_option linter.unusedSimpArgs false

abbrev Gives5c (g m b n : Nat) (d : Disks.D) (w : World) (e : Ending) (w' : World) : Prop := ∃ A c, e = .returned (rval A n c d) ∧ Ext w w' ∧ Rf w' g m b A n c d
theorem left_none (d : Disks.D) (keeps : List Bool) (t : Nat) (h : Disks.sec d t = Gm.row d.med t) : Gm.row d.med t = Disks.left d keeps t := by
  unfold Disks.left
  split
  · exact h.symm
  · rfl
set_option maxRecDepth 100000 in
set_option maxHeartbeats 8000000 in
theorem ref5Crash (w : World) (g m b : Nat) (A : Option Addr) (n c : Nat) (d : Disks.D) (h : Rf w g m b A n c d) (hgmb : g < w.heap.size ∧ m < w.heap.size ∧ b < w.heap.size) (hok : Disks.Ok d) (K : Option Addr) (nk ck : Nat) (keeps : List Bool) (hk : Bls w K nk ck keeps) (hnk : nk ≤ 1000) :
    Calls Try.prog 33 #[rval A n c d, .slice K nk ck] w (Gives5c g m b n (Disks.crashD d keeps) w) := by
  have hN : n ≤ 70000 := by have := hok.wf.max; have := h.len; omega
  obtain ⟨p, hp⟩ : ∃ p, w.heap.size = p := ⟨_, rfl⟩
  obtain ⟨am, ham⟩ : ∃ am, d.arm = am := ⟨_, rfl⟩
  obtain ⟨dn, hdn⟩ : ∃ dn, d.down = dn := ⟨_, rfl⟩
  obtain ⟨v0, v1, x0⟩ := rworld_facts w A n c am dn
  rw [hp] at v0 v1
  obtain ⟨W, hW⟩ : ∃ W, rworld w A n c am dn = W := ⟨_, rfl⟩
  rw [hW] at v0 v1 x0
  unfold rworld at hW
  have HW := Lib.hid hW
  have V1 := Lib.hid v1
  have V0 := Lib.hid v0
  have X0 := Lib.hid x0
  have HP := Lib.hid (show w.heap.size ≤ p from by omega)
  have k0 := v0.c0
  have k1 := v0.c1
  have k2 := v0.c2
  have z0 := v1.c0
  have z1 := v1.c1
  have z2 := v1.c2
  have y0 := v1.fz 0
  have y1 := v1.fz 1
  have y2 := v1.fz 2
  have u0 := v0.fz 0
  have u1 := v0.fz 1
  have u2 := v0.fz 2
  have hle := h.le
  have hmx := h.max
  have hln := h.len
  have H := Lib.hid h
  have ARM := Lib.hid ham
  have DN := Lib.hid hdn
  clear v0 v1 x0 hW
  have OK := Lib.hid hok
  have HG := Lib.hid hgmb
  have HK := Lib.hid hk
  have hkl := hk.len
  have hkc := hk.le
  have hkm := hk.max
  clear h hok hgmb hk
  unfold rval
  rw [ham, hdn]
  clear ham hdn
  go_enter Try.func33, Try.ntmps33
  go_upto_region 1 with (fail)
  rw [HW.out]
  clear hp
  go_wp2_with (fail)
  go_loopw [5, 6] (fun kk i wr => ∃ (t : Nat) (A1 : Option Addr) (c1 : Nat) (e : Disks.D), t ≤ n ∧ (Disks.upto d.cac t).length ≤ t ∧ i = .int .i64 (t : Int) ∧ kk = .int .i64 ((Disks.upto d.cac t).length : Int) ∧ RowKit.Hid (Vd wr p A1 n c1 am dn) ∧ RowKit.Hid (Vd wr (p + 1) none 0 0 0 false) ∧ RowKit.Hid (Ext w wr) ∧ RowKit.Hid (Rf wr g m b A1 n c1 e) ∧ RowKit.Hid (Upto d e n t (Disks.left d keeps))) (fun _ i _ => n - (intOf i).toNat)
  case atStart => exact ⟨0, A, c, d, by omega, by simp [Disks.upto], rfl, rfl, V0, V1, X0, Lib.hid (H.out.ext X0.out), Lib.hid (Upto.start d hln _)⟩
  case round =>
    obtain ⟨t, A1, c1, e, ht, hut, rfl, rfl, VP, VQ, XW, RF, UP⟩ := hrel
    have k0 := VP.out.c0
    have k1 := VP.out.c1
    have k2 := VP.out.c2
    have hle1 := RF.out.le
    have hmx1 := RF.out.max
    by_cases hlt : t < n
    · have r1 : (t : Int) < n := by omega
      obtain ⟨k, off, M, mn, mc, C, cn, cc, rfl, e1, e2, b1, b2, a1, a2⟩ := RF.out.at_ t hlt
      have er : Gm.row e.med t = Gm.row d.med t := by rw [UP.out.row t hlt, if_neg (by omega)]
      have ec : cbytes e t = cbytes d t := by rw [UP.out.cac t hlt, if_neg (by omega)]
      rw [ec] at b2
      rw [er] at b1
      have C1 := Lib.hid e1
      have B1 := Lib.hid b1
      have A1' := Lib.hid a1
      have C2 := Lib.hid e2
      have B2 := Lib.hid b2
      have A2 := Lib.hid a2
      have m1 := b1.max
      have l1 := b1.le
      have m2 := b2.max
      have l2 := b2.le
      have L2 := b2.len
      clear b1 b2 a1 a2 ec er e1
      by_cases hc : cbytes d t = []
      · have S := Lib.hid (sec_none d OK.out.wf hc)
        have HC := Lib.hid hc
        have U := Lib.hid (show Disks.upto d.cac (t + 1) = Disks.upto d.cac t by rw [Disks.upto, if_neg (by rw [S.out.1]; decide)])
        obtain rfl : cn = 0 := by rw [hc] at L2; exact L2.symm
        clear hc L2
        go_wp2_with (fail)
        exact ⟨⟨t + 1, _, c1, e, by omega, by rw [U.out]; omega, by go_num, by rw [U.out], VP, VQ, XW, RF, Lib.hid (UP.out.skip (left_none d keeps t S.out.2) HC.out)⟩, by simp [intOf]; omega⟩
      · have S := Lib.hid (sec_some d hc)
        have U := Lib.hid (show (Disks.upto d.cac (t + 1)).length = (Disks.upto d.cac t).length + 1 by rw [Disks.upto, if_pos (by rw [S.out.1]; rfl), List.length_append]; rfl)
        have hcn : ¬ (cn : Int) = 0 := by
          have := List.length_pos_iff.2 hc
          omega
        obtain ⟨u, hu⟩ : ∃ u, (Disks.upto d.cac t).length = u := ⟨_, rfl⟩
        rw [hu] at hut U ⊢
        have LF := Lib.hid (show Disks.left d keeps t = if bget keeps u = true then Disks.sec d t else Gm.row d.med t by rw [← hu]; rfl)
        have HU := Lib.hid hu
        clear hc L2 hu
        by_cases hku : u < nk ∧ bget keeps u = true
        · obtain ⟨hk1, hk2⟩ := hku
          have r2 : (u : Int) < nk := by omega
          obtain ⟨kb, ko, rfl, hkk⟩ := HK.out.rd u hk1
          have e3 := XW.out.cell hkk
          rw [hk2] at e3
          have LF := Lib.hid (show Disks.left d keeps t = cbytes d t by rw [LF.out, if_pos hk2, S.out.2])
          clear hkk hk2
          go_upto_region 7 with (fail)
          clear e2 e3
          have hS : (fun W : World => Hid (Ext wr W)) wr.drew := Lib.hid (Ext.drew _)
          refine wp_region_T (S := fun W : World => Hid (Ext wr W)) 10 rfl rfl ?_
          refine takeT (i := 0) (v := ?_) rfl (by kernel_rfl) (by kernel_rfl) (by kernel_rfl) (by kernel_rfl) (by decide) (fun _ _ _ h => h) (by kernel_rfl) (Or.inl ⟨by rfl, ?_⟩) (by assumption) ?_
          rotate_left
          · (intro W9 hSw; (have k0 := (VP.out.ext hSw.out).c0; have k1 := (VP.out.ext hSw.out).c1; have k2 := (VP.out.ext hSw.out).c2; clear hSw; skip); go_simp; (try with_reducible rfl))
          try simp only [Act.put, List.setIfInBounds_toArray, List.set_cons_zero, List.set_cons_succ]
          refine takeT (i := 1) (v := ?_) rfl (by kernel_rfl) (by kernel_rfl) (by kernel_rfl) (by kernel_rfl) (by decide) (fun _ _ _ h => h) (by kernel_rfl) (Or.inl ⟨by rfl, ?_⟩) (by assumption) ?_
          rotate_left
          · (intro W9 hSw; go_simp; (try with_reducible rfl))
          try simp only [Act.put, List.setIfInBounds_toArray, List.set_cons_zero, List.set_cons_succ]
          refine takeT (i := 2) (v := ?_) rfl (by kernel_rfl) (by kernel_rfl) (by kernel_rfl) (by kernel_rfl) (by decide) (fun _ _ _ h => h) (by kernel_rfl) (Or.inl ⟨by rfl, ?_⟩) (by assumption) ?_
          rotate_left
          · (intro W9 hSw; go_simp; (try with_reducible rfl))
          try simp only [Act.put, List.setIfInBounds_toArray, List.set_cons_zero, List.set_cons_succ]
          refine takeT (i := 3) (v := ?_) rfl (by kernel_rfl) (by kernel_rfl) (by kernel_rfl) (by kernel_rfl) (by decide) (fun _ _ _ h => h) (by kernel_rfl) (Or.inl ⟨by rfl, ?_⟩) (by assumption) ?_
          rotate_left
          · (intro W9 hSw; (have k0 := (VP.out.ext hSw.out).c0; have k1 := (VP.out.ext hSw.out).c1; have k2 := (VP.out.ext hSw.out).c2; clear hSw; skip); go_simp; (try with_reducible rfl))
          try simp only [Act.put, List.setIfInBounds_toArray, List.set_cons_zero, List.set_cons_succ]
          refine takeT (i := 4) (v := ?_) rfl (by kernel_rfl) (by kernel_rfl) (by kernel_rfl) (by kernel_rfl) (by decide) (fun _ _ _ h => h) (by kernel_rfl) (Or.inl ⟨by rfl, ?_⟩) (by assumption) ?_
          rotate_left
          · (intro W9 hSw; go_simp; (try with_reducible rfl))
          try simp only [Act.put, List.setIfInBounds_toArray, List.set_cons_zero, List.set_cons_succ]
          refine takeT (i := 5) (v := ?_) rfl (by kernel_rfl) (by kernel_rfl) (by kernel_rfl) (by kernel_rfl) (by decide) (fun _ _ _ h => h) (by kernel_rfl) (Or.inl ⟨by rfl, ?_⟩) (by assumption) ?_
          rotate_left
          · (intro W9 hSw; go_simp; (try with_reducible rfl))
          try simp only [Act.put, List.setIfInBounds_toArray, List.set_cons_zero, List.set_cons_succ]
          refine takeT (i := 6) (v := ?_) rfl (by kernel_rfl) (by kernel_rfl) (by kernel_rfl) (by kernel_rfl) (by decide) (fun _ _ _ h => h) (by kernel_rfl) (Or.inl ⟨by rfl, ?_⟩) (by assumption) ?_
          rotate_left
          · (intro W9 hSw; go_simp; (try with_reducible rfl))
          try simp only [Act.put, List.setIfInBounds_toArray, List.set_cons_zero, List.set_cons_succ]
          refine takeT (i := 7) (v := ?_) rfl (by kernel_rfl) (by kernel_rfl) (by kernel_rfl) (by kernel_rfl) (by decide) (fun _ _ _ h => h) (by kernel_rfl) (Or.inl ⟨by rfl, ?_⟩) (by assumption) ?_
          rotate_left
          · (intro W9 hSw; (have k9 := hSw.out.cell C2.out); go_simp; (try with_reducible rfl))
          try simp only [Act.put, List.setIfInBounds_toArray, List.set_cons_zero, List.set_cons_succ]
          refine takeT (i := 8) (v := ?_) rfl (by kernel_rfl) (by kernel_rfl) (by kernel_rfl) (by kernel_rfl) (by decide) (fun _ _ _ h => h) (by kernel_rfl) (Or.inl ⟨by rfl, ?_⟩) (by assumption) ?_
          rotate_left
          · (intro W9 hSw; go_simp; (try with_reducible rfl))
          try simp only [Act.put, List.setIfInBounds_toArray, List.set_cons_zero, List.set_cons_succ]
          refine oneT (i := 9) rfl (by kernel_rfl) (fun K hK => ?_)
          rw [if_pos (by kernel_rfl)]
          go_wp2_with (fail)
          have hg3 := HG.out
          have hs3 := XW.out.size
          have hs4 := hS.out.size
          with_reducible refine (ref5With wr.drew g m b (some ⟨k, off, none⟩) n c1 e (RF.out.ext (Ext.drew _)) ⟨by omega, by omega, by omega⟩ hN am dn t hlt C cn cc _ none 0 0 [] (B2.out.ext (Ext.drew _)) (bs_nil _) A2.out (Awy.no ..)).mono ?_
          rintro e2 w5 ⟨A5, c5, rfl, x5, hR⟩
          have VQ5 := Lib.hid (VQ.out.ext (hS.out.trans x5))
          have VP5 := Lib.hid (VP.out.ext (hS.out.trans x5))
          have hS5 : (fun W : World => Hid (Ext wr W)) w5 := Lib.hid (hS.out.trans x5)
          have HR := Lib.hid hR
          have z0' := VP5.out.c0
          have z1' := VP5.out.c1
          have z2' := VP5.out.c2
          have y0' := VP5.out.fz 0
          have y1' := VP5.out.fz 1
          have y2' := VP5.out.fz 2
          clear x5 hR hg3 hs3 hs4 hS
          go_wp2_with (fail)
          refine hK.out _ _ (fun _ => hS5) ?_
          clear hK K
          try simp only [Act.put, List.setIfInBounds_toArray, List.set_cons_zero, List.set_cons_succ]
          refine oneT (i := 10) rfl (by kernel_rfl) (fun K hK => ?_)
          rw [if_pos (by kernel_rfl)]
          go_wp2_with (fail)
          refine hK.out _ _ (fun h => absurd (show true = false from h) (by decide)) ?_
          clear hK K
          try simp only [Act.put, List.setIfInBounds_toArray, List.set_cons_zero, List.set_cons_succ]
          refine doneT (by kernel_rfl) ?_ _
          go_wp2_with (fail)
          have xw := Ext.set3 (XW.out.trans hS5.out) (q := p) HP.out (.slice A5 n c5) (.int .i64 am) (.bool dn)
          have vq := VQ5.out.far3 (q := p) (by omega) (.slice A5 n c5) (.int .i64 am) (.bool dn)
          refine ⟨⟨t + 1, A5, c5, _, by omega, by rw [U.out]; omega, by go_num, by rw [U.out]; go_num, Lib.hid (VP5.out.set A5 n c5 am dn), Lib.hid vq, Lib.hid xw, Lib.hid ((HR.out _ rfl fun q hq => cbytes_cut e _ t q).same VP5.out (others3 _ _ _ _ _)), Lib.hid (UP.out.step hlt LF.out.symm)⟩, by simp [intOf]; omega⟩
        · have LF := Lib.hid (show Disks.left d keeps t = Gm.row d.med t by
            rw [LF.out]
            by_cases q : u < nk
            · rw [if_neg (fun z => hku ⟨q, z⟩)]
            · rw [if_neg]
              unfold bget
              rw [List.getD_eq_getElem?_getD, List.getElem?_eq_none (by omega)]
              decide)
          by_cases hk1 : u < nk
          · have r2 : (u : Int) < nk := by omega
            obtain ⟨kb, ko, rfl, hkk⟩ := HK.out.rd u hk1
            have e3 := XW.out.cell hkk
            have hk2 : bget keeps u = false := by simpa using fun z => hku ⟨hk1, z⟩
            rw [hk2] at e3
            clear hkk hk2 hku
            go_upto_region 8 with (fail)
            clear e3 e2
            have hS : (fun W : World => Hid (Ext wr W)) wr.drew := Lib.hid (Ext.drew _)
            refine wp_region_T (S := fun W : World => Hid (Ext wr W)) 10 rfl rfl ?_
            refine takeT (i := 0) (v := ?_) rfl (by kernel_rfl) (by kernel_rfl) (by kernel_rfl) (by kernel_rfl) (by decide) (fun _ _ _ h => h) (by kernel_rfl) (Or.inl ⟨by rfl, ?_⟩) (by assumption) ?_
            rotate_left
            · (intro W9 hSw; (have k0 := (VP.out.ext hSw.out).c0; have k1 := (VP.out.ext hSw.out).c1; have k2 := (VP.out.ext hSw.out).c2; clear hSw; skip); go_simp; (try with_reducible rfl))
            try simp only [Act.put, List.setIfInBounds_toArray, List.set_cons_zero, List.set_cons_succ]
            refine takeT (i := 1) (v := ?_) rfl (by kernel_rfl) (by kernel_rfl) (by kernel_rfl) (by kernel_rfl) (by decide) (fun _ _ _ h => h) (by kernel_rfl) (Or.inl ⟨by rfl, ?_⟩) (by assumption) ?_
            rotate_left
            · (intro W9 hSw; go_simp; (try with_reducible rfl))
            try simp only [Act.put, List.setIfInBounds_toArray, List.set_cons_zero, List.set_cons_succ]
            refine takeT (i := 2) (v := ?_) rfl (by kernel_rfl) (by kernel_rfl) (by kernel_rfl) (by kernel_rfl) (by decide) (fun _ _ _ h => h) (by kernel_rfl) (Or.inl ⟨by rfl, ?_⟩) (by assumption) ?_
            rotate_left
            · (intro W9 hSw; go_simp; (try with_reducible rfl))
            try simp only [Act.put, List.setIfInBounds_toArray, List.set_cons_zero, List.set_cons_succ]
            refine takeT (i := 3) (v := ?_) rfl (by kernel_rfl) (by kernel_rfl) (by kernel_rfl) (by kernel_rfl) (by decide) (fun _ _ _ h => h) (by kernel_rfl) (Or.inl ⟨by rfl, ?_⟩) (by assumption) ?_
            rotate_left
            · (intro W9 hSw; (have k0 := (VP.out.ext hSw.out).c0; have k1 := (VP.out.ext hSw.out).c1; have k2 := (VP.out.ext hSw.out).c2; clear hSw; skip); go_simp; (try with_reducible rfl))
            try simp only [Act.put, List.setIfInBounds_toArray, List.set_cons_zero, List.set_cons_succ]
            refine takeT (i := 4) (v := ?_) rfl (by kernel_rfl) (by kernel_rfl) (by kernel_rfl) (by kernel_rfl) (by decide) (fun _ _ _ h => h) (by kernel_rfl) (Or.inl ⟨by rfl, ?_⟩) (by assumption) ?_
            rotate_left
            · (intro W9 hSw; go_simp; (try with_reducible rfl))
            try simp only [Act.put, List.setIfInBounds_toArray, List.set_cons_zero, List.set_cons_succ]
            refine takeT (i := 5) (v := ?_) rfl (by kernel_rfl) (by kernel_rfl) (by kernel_rfl) (by kernel_rfl) (by decide) (fun _ _ _ h => h) (by kernel_rfl) (Or.inl ⟨by rfl, ?_⟩) (by assumption) ?_
            rotate_left
            · (intro W9 hSw; go_simp; (try with_reducible rfl))
            try simp only [Act.put, List.setIfInBounds_toArray, List.set_cons_zero, List.set_cons_succ]
            refine takeT (i := 6) (v := ?_) rfl (by kernel_rfl) (by kernel_rfl) (by kernel_rfl) (by kernel_rfl) (by decide) (fun _ _ _ h => h) (by kernel_rfl) (Or.inl ⟨by rfl, ?_⟩) (by assumption) ?_
            rotate_left
            · (intro W9 hSw; go_simp; (try with_reducible rfl))
            try simp only [Act.put, List.setIfInBounds_toArray, List.set_cons_zero, List.set_cons_succ]
            refine takeT (i := 7) (v := ?_) rfl (by kernel_rfl) (by kernel_rfl) (by kernel_rfl) (by kernel_rfl) (by decide) (fun _ _ _ h => h) (by kernel_rfl) (Or.inl ⟨by rfl, ?_⟩) (by assumption) ?_
            rotate_left
            · (intro W9 hSw; (have k9 := hSw.out.cell C1.out); go_simp; (try with_reducible rfl))
            try simp only [Act.put, List.setIfInBounds_toArray, List.set_cons_zero, List.set_cons_succ]
            refine takeT (i := 8) (v := ?_) rfl (by kernel_rfl) (by kernel_rfl) (by kernel_rfl) (by kernel_rfl) (by decide) (fun _ _ _ h => h) (by kernel_rfl) (Or.inl ⟨by rfl, ?_⟩) (by assumption) ?_
            rotate_left
            · (intro W9 hSw; go_simp; (try with_reducible rfl))
            try simp only [Act.put, List.setIfInBounds_toArray, List.set_cons_zero, List.set_cons_succ]
            refine oneT (i := 9) rfl (by kernel_rfl) (fun K hK => ?_)
            rw [if_pos (by kernel_rfl)]
            go_wp2_with (fail)
            have hg3 := HG.out
            have hs3 := XW.out.size
            have hs4 := hS.out.size
            with_reducible refine (ref5With wr.drew g m b (some ⟨k, off, none⟩) n c1 e (RF.out.ext (Ext.drew _)) ⟨by omega, by omega, by omega⟩ hN am dn t hlt M mn mc _ none 0 0 [] (B1.out.ext (Ext.drew _)) (bs_nil _) A1'.out (Awy.no ..)).mono ?_
            rintro e2 w5 ⟨A5, c5, rfl, x5, hR⟩
            have VQ5 := Lib.hid (VQ.out.ext (hS.out.trans x5))
            have VP5 := Lib.hid (VP.out.ext (hS.out.trans x5))
            have hS5 : (fun W : World => Hid (Ext wr W)) w5 := Lib.hid (hS.out.trans x5)
            have HR := Lib.hid hR
            have z0' := VP5.out.c0
            have z1' := VP5.out.c1
            have z2' := VP5.out.c2
            have y0' := VP5.out.fz 0
            have y1' := VP5.out.fz 1
            have y2' := VP5.out.fz 2
            clear x5 hR hg3 hs3 hs4 hS
            go_wp2_with (fail)
            refine hK.out _ _ (fun _ => hS5) ?_
            clear hK K
            try simp only [Act.put, List.setIfInBounds_toArray, List.set_cons_zero, List.set_cons_succ]
            refine oneT (i := 10) rfl (by kernel_rfl) (fun K hK => ?_)
            rw [if_pos (by kernel_rfl)]
            go_wp2_with (fail)
            refine hK.out _ _ (fun h => absurd (show true = false from h) (by decide)) ?_
            clear hK K
            try simp only [Act.put, List.setIfInBounds_toArray, List.set_cons_zero, List.set_cons_succ]
            refine doneT (by kernel_rfl) ?_ _
            go_wp2_with (fail)
            have xw := Ext.set3 (XW.out.trans hS5.out) (q := p) HP.out (.slice A5 n c5) (.int .i64 am) (.bool dn)
            have vq := VQ5.out.far3 (q := p) (by omega) (.slice A5 n c5) (.int .i64 am) (.bool dn)
            refine ⟨⟨t + 1, A5, c5, _, by omega, by rw [U.out]; omega, by go_num, by rw [U.out]; go_num, Lib.hid (VP5.out.set A5 n c5 am dn), Lib.hid vq, Lib.hid xw, Lib.hid ((HR.out _ rfl fun q hq => cbytes_cut e _ t q).same VP5.out (others3 _ _ _ _ _)), Lib.hid (UP.out.step hlt LF.out.symm)⟩, by simp [intOf]; omega⟩
          · have r2 : ¬ (u : Int) < nk := by omega
            clear hku
            go_upto_region 8 with (fail)
            clear e2
            have hS : (fun W : World => Hid (Ext wr W)) wr.drew := Lib.hid (Ext.drew _)
            refine wp_region_T (S := fun W : World => Hid (Ext wr W)) 10 rfl rfl ?_
            refine takeT (i := 0) (v := ?_) rfl (by kernel_rfl) (by kernel_rfl) (by kernel_rfl) (by kernel_rfl) (by decide) (fun _ _ _ h => h) (by kernel_rfl) (Or.inl ⟨by rfl, ?_⟩) (by assumption) ?_
            rotate_left
            · (intro W9 hSw; (have k0 := (VP.out.ext hSw.out).c0; have k1 := (VP.out.ext hSw.out).c1; have k2 := (VP.out.ext hSw.out).c2; clear hSw; skip); go_simp; (try with_reducible rfl))
            try simp only [Act.put, List.setIfInBounds_toArray, List.set_cons_zero, List.set_cons_succ]
            refine takeT (i := 1) (v := ?_) rfl (by kernel_rfl) (by kernel_rfl) (by kernel_rfl) (by kernel_rfl) (by decide) (fun _ _ _ h => h) (by kernel_rfl) (Or.inl ⟨by rfl, ?_⟩) (by assumption) ?_
            rotate_left
            · (intro W9 hSw; go_simp; (try with_reducible rfl))
            try simp only [Act.put, List.setIfInBounds_toArray, List.set_cons_zero, List.set_cons_succ]
            refine takeT (i := 2) (v := ?_) rfl (by kernel_rfl) (by kernel_rfl) (by kernel_rfl) (by kernel_rfl) (by decide) (fun _ _ _ h => h) (by kernel_rfl) (Or.inl ⟨by rfl, ?_⟩) (by assumption) ?_
            rotate_left
            · (intro W9 hSw; go_simp; (try with_reducible rfl))
            try simp only [Act.put, List.setIfInBounds_toArray, List.set_cons_zero, List.set_cons_succ]
            refine takeT (i := 3) (v := ?_) rfl (by kernel_rfl) (by kernel_rfl) (by kernel_rfl) (by kernel_rfl) (by decide) (fun _ _ _ h => h) (by kernel_rfl) (Or.inl ⟨by rfl, ?_⟩) (by assumption) ?_
            rotate_left
            · (intro W9 hSw; (have k0 := (VP.out.ext hSw.out).c0; have k1 := (VP.out.ext hSw.out).c1; have k2 := (VP.out.ext hSw.out).c2; clear hSw; skip); go_simp; (try with_reducible rfl))
            try simp only [Act.put, List.setIfInBounds_toArray, List.set_cons_zero, List.set_cons_succ]
            refine takeT (i := 4) (v := ?_) rfl (by kernel_rfl) (by kernel_rfl) (by kernel_rfl) (by kernel_rfl) (by decide) (fun _ _ _ h => h) (by kernel_rfl) (Or.inl ⟨by rfl, ?_⟩) (by assumption) ?_
            rotate_left
            · (intro W9 hSw; go_simp; (try with_reducible rfl))
            try simp only [Act.put, List.setIfInBounds_toArray, List.set_cons_zero, List.set_cons_succ]
            refine takeT (i := 5) (v := ?_) rfl (by kernel_rfl) (by kernel_rfl) (by kernel_rfl) (by kernel_rfl) (by decide) (fun _ _ _ h => h) (by kernel_rfl) (Or.inl ⟨by rfl, ?_⟩) (by assumption) ?_
            rotate_left
            · (intro W9 hSw; go_simp; (try with_reducible rfl))
            try simp only [Act.put, List.setIfInBounds_toArray, List.set_cons_zero, List.set_cons_succ]
            refine takeT (i := 6) (v := ?_) rfl (by kernel_rfl) (by kernel_rfl) (by kernel_rfl) (by kernel_rfl) (by decide) (fun _ _ _ h => h) (by kernel_rfl) (Or.inl ⟨by rfl, ?_⟩) (by assumption) ?_
            rotate_left
            · (intro W9 hSw; go_simp; (try with_reducible rfl))
            try simp only [Act.put, List.setIfInBounds_toArray, List.set_cons_zero, List.set_cons_succ]
            refine takeT (i := 7) (v := ?_) rfl (by kernel_rfl) (by kernel_rfl) (by kernel_rfl) (by kernel_rfl) (by decide) (fun _ _ _ h => h) (by kernel_rfl) (Or.inl ⟨by rfl, ?_⟩) (by assumption) ?_
            rotate_left
            · (intro W9 hSw; (have k9 := hSw.out.cell C1.out); go_simp; (try with_reducible rfl))
            try simp only [Act.put, List.setIfInBounds_toArray, List.set_cons_zero, List.set_cons_succ]
            refine takeT (i := 8) (v := ?_) rfl (by kernel_rfl) (by kernel_rfl) (by kernel_rfl) (by kernel_rfl) (by decide) (fun _ _ _ h => h) (by kernel_rfl) (Or.inl ⟨by rfl, ?_⟩) (by assumption) ?_
            rotate_left
            · (intro W9 hSw; go_simp; (try with_reducible rfl))
            try simp only [Act.put, List.setIfInBounds_toArray, List.set_cons_zero, List.set_cons_succ]
            refine oneT (i := 9) rfl (by kernel_rfl) (fun K hK => ?_)
            rw [if_pos (by kernel_rfl)]
            go_wp2_with (fail)
            have hg3 := HG.out
            have hs3 := XW.out.size
            have hs4 := hS.out.size
            with_reducible refine (ref5With wr.drew g m b (some ⟨k, off, none⟩) n c1 e (RF.out.ext (Ext.drew _)) ⟨by omega, by omega, by omega⟩ hN am dn t hlt M mn mc _ none 0 0 [] (B1.out.ext (Ext.drew _)) (bs_nil _) A1'.out (Awy.no ..)).mono ?_
            rintro e2 w5 ⟨A5, c5, rfl, x5, hR⟩
            have VQ5 := Lib.hid (VQ.out.ext (hS.out.trans x5))
            have VP5 := Lib.hid (VP.out.ext (hS.out.trans x5))
            have hS5 : (fun W : World => Hid (Ext wr W)) w5 := Lib.hid (hS.out.trans x5)
            have HR := Lib.hid hR
            have z0' := VP5.out.c0
            have z1' := VP5.out.c1
            have z2' := VP5.out.c2
            have y0' := VP5.out.fz 0
            have y1' := VP5.out.fz 1
            have y2' := VP5.out.fz 2
            clear x5 hR hg3 hs3 hs4 hS
            go_wp2_with (fail)
            refine hK.out _ _ (fun _ => hS5) ?_
            clear hK K
            try simp only [Act.put, List.setIfInBounds_toArray, List.set_cons_zero, List.set_cons_succ]
            refine oneT (i := 10) rfl (by kernel_rfl) (fun K hK => ?_)
            rw [if_pos (by kernel_rfl)]
            go_wp2_with (fail)
            refine hK.out _ _ (fun h => absurd (show true = false from h) (by decide)) ?_
            clear hK K
            try simp only [Act.put, List.setIfInBounds_toArray, List.set_cons_zero, List.set_cons_succ]
            refine doneT (by kernel_rfl) ?_ _
            go_wp2_with (fail)
            have xw := Ext.set3 (XW.out.trans hS5.out) (q := p) HP.out (.slice A5 n c5) (.int .i64 am) (.bool dn)
            have vq := VQ5.out.far3 (q := p) (by omega) (.slice A5 n c5) (.int .i64 am) (.bool dn)
            refine ⟨⟨t + 1, A5, c5, _, by omega, by rw [U.out]; omega, by go_num, by rw [U.out]; go_num, Lib.hid (VP5.out.set A5 n c5 am dn), Lib.hid vq, Lib.hid xw, Lib.hid ((HR.out _ rfl fun q hq => cbytes_cut e _ t q).same VP5.out (others3 _ _ _ _ _)), Lib.hid (UP.out.step hlt LF.out.symm)⟩, by simp [intOf]; omega⟩
    · have r1 : ¬ (t : Int) < n := by omega
      obtain rfl : t = n := by omega
      have z0' := VQ.out.c0
      have z1' := VQ.out.c1
      have z2' := VQ.out.c2
      have y0' := VQ.out.fz 0
      have y1' := VQ.out.fz 1
      have y2' := VQ.out.fz 2
      have u0' := VP.out.fz 0
      have u1' := VP.out.fz 1
      have u2' := VP.out.fz 2
      go_upto_region 12 with (fail)
      obtain ⟨W3, hW3⟩ : ∃ W3, (wr.setCell ⟨p, 2, none⟩ (.bool false)).setCell ⟨p, 1, none⟩ (.int .i64 (-1)) = W3 := ⟨_, rfl⟩
      have v3 := (VP.out.set2 false).set1 (-1)
      have v13 := (VQ.out.far (q := ⟨p, 2, none⟩) (by show p ≠ p + 1; omega) (.bool false)).far (q := ⟨p, 1, none⟩) (by show p ≠ p + 1; omega) (.int .i64 (-1))
      have x3 : Ext w ((wr.setCell ⟨p, 2, none⟩ (.bool false)).setCell ⟨p, 1, none⟩ (.int .i64 (-1))) := Below.setCell (Below.setCell XW.out (p := ⟨p, 2, none⟩) HP.out _) (p := ⟨p, 1, none⟩) HP.out _
      have r3 := RF.out.same VP.out (w' := (wr.setCell ⟨p, 2, none⟩ (.bool false)).setCell ⟨p, 1, none⟩ (.int .i64 (-1))) (fun q _ hq => by rw [heap_setCell_other _ ⟨p, 1, none⟩ q _ hq, heap_setCell_other _ ⟨p, 2, none⟩ q _ hq])
      rw [hW3] at v3 v13 x3 r3
      rw [hW3]
      have V3 := Lib.hid v3
      have V13 := Lib.hid v13
      have X3 := Lib.hid x3
      have R3 := Lib.hid r3
      clear z0' z1' z2' y0' y1' y2' u0' u1' u2' k0 k1 k2 v3 v13 x3 r3 hW3
      have k0 := V3.out.c0
      have k1 := V3.out.c1
      have k2 := V3.out.c2
      have z0' := V13.out.c0
      have z1' := V13.out.c1
      have z2' := V13.out.c2
      have y0' := V13.out.fz 0
      have y1' := V13.out.fz 1
      have y2' := V13.out.fz 2
      go_wp2_with (fail)
      have xw := Ext.set3 X3.out (q := p + 1) (by have := HP.out; omega) (.slice A1 t c1) (.int .i64 (-1)) (.bool false)
      refine bodyPost_ret (v := .agg #[.slice A1 t c1, .int .i64 (-1), .bool false]) ?_ rfl ⟨A1, c1, rfl, xw, ?_⟩
      · have hr := (V13.out.set A1 t c1 (-1) false).res
        rw [results_cell15 rfl]
        simp [asAddr, Result.andThen, hr]
      · refine (R3.out.alike ?_ (fun i hi => ?_) fun i hi => ?_).same V13.out (others3 _ _ _ _ _)
        · show ((List.range d.med.length).map (Disks.left d keeps)).length = _
          rw [List.length_map, List.length_range, UP.out.len]; exact hln
        · show Gm.row ((List.range d.med.length).map (Disks.left d keeps)) i = _
          rw [UP.out.row i hi, if_pos hi, Disks.row_left d keeps (by omega)]
        · rw [UP.out.cac i hi, if_pos hi]
          show (Disks.cget (Disks.emptied d) i).getD [] = []
          rw [Disks.emptied, Disks.cget_empty]
          rfl
end Go.Proofs.Ytbfbiofndipaaaa
