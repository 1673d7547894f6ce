/- Several texts in one: The contract of the document's Spoil. 'append(s, x...)' as one step of a region that draws its order; no statement of the seat is proved here. -/
import Derived.Test.YtbfbiofndipaaaaCt27
import Derived.Test.YtbfbiofndipaaaaCt1
namespace Go.Proofs.Ytbfbiofndipaaaa
open Go.ChangeShapes Go.WideShapes Go.ChangeAt Go.RowKit Go.Maps Go.Sort Go.Shelf
set_option linter.unusedSimpArgs false

set_option maxRecDepth 100000 in
set_option maxHeartbeats 8000000 in
theorem ref5Spoil (w : World) (g m b : Nat) (A : Option Addr) (n c : Nat) (d : Disks.D) (h : Rf w g m b A n c d) (hgmb : g < w.heap.size ∧ m < w.heap.size ∧ b < w.heap.size) (hok : Disks.Ok d) (i at_ : Int) (x : UInt8) :
    Calls Try.prog 31 #[rval A n c d, .int .i64 i, .int .i64 at_, .int .u8 (x.toNat : Int)] w (Gives5 g m b n (Disks.spoilD d i at_ x) (Disks.spoilE d i at_) w) := by
  have hN : n ≤ 70000 := by have := hok.wf.max; have := h.len; omega
  obtain ⟨p, hp⟩ : ∃ p, w.heap.size = p := ⟨_, rfl⟩
  obtain ⟨am, ham⟩ : ∃ am, d.arm = am := ⟨_, rfl⟩
  obtain ⟨dn, hdn⟩ : ∃ dn, d.down = dn := ⟨_, rfl⟩
  obtain ⟨v0, v1, x0⟩ := rworld_facts w A n c am dn
  rw [hp] at v0 v1
  obtain ⟨W, hW⟩ : ∃ W, rworld w A n c am dn = W := ⟨_, rfl⟩
  rw [hW] at v0 v1 x0
  unfold rworld at hW
  have HW := Lib.hid hW
  have V1 := Lib.hid v1
  have V0 := Lib.hid v0
  have X0 := Lib.hid x0
  have HP := Lib.hid (show w.heap.size ≤ p from by omega)
  have k0 := v0.c0
  have k1 := v0.c1
  have k2 := v0.c2
  have z0 := v1.c0
  have z1 := v1.c1
  have z2 := v1.c2
  have y0 := v1.fz 0
  have y1 := v1.fz 1
  have y2 := v1.fz 2
  have u0 := v0.fz 0
  have u1 := v0.fz 1
  have u2 := v0.fz 2
  have hle := h.le
  have hmx := h.max
  have hln := h.len
  have H := Lib.hid h
  have ARM := Lib.hid ham
  have DN := Lib.hid hdn
  clear v0 v1 x0 hW
  have OK := Lib.hid hok
  have HG := Lib.hid hgmb
  clear h hok hgmb
  unfold rval
  rw [ham, hdn]
  by_cases hi : i < 0 ∨ (n : Int) ≤ i
  · have e0 : Disks.spoilE d i at_ = 50 := by unfold Disks.spoilE; rw [if_pos (by omega)]
    have E := Lib.hid e0
    have ED := Lib.hid (show Disks.spoilD d i at_ x = d by unfold Disks.spoilD; rw [e0, if_pos (by omega)])
    clear e0 ham hdn
    rcases hi with hi | hi
    · go_enter Try.func31, Try.ntmps31
      go_upto_region 1 with (fail)
      rw [HW.out]
      clear hp
      go_wp2_with (fail)
      refine bodyPost_ret (v := .tuple #[.agg #[.slice A n c, .int .i64 am, .bool dn], .int .i64 50]) ?_ rfl ⟨A, c, by rw [E.out, ED.out]; unfold rval; rw [ARM.out, DN.out], X0.out.set3 (by have := HP.out; omega) _ _ _, by rw [ED.out]; exact H.out.ext (X0.out.set3 (by have := HP.out; omega) _ _ _)⟩
      have hr := (V1.out.set A n c am dn).res
      rw [results_cell25 rfl]
      simp [asAddr, Result.andThen, hr]
    · have hi0 : ¬ i < 0 := by omega
      go_enter Try.func31, Try.ntmps31
      go_upto_region 1 with (fail)
      rw [HW.out]
      clear hp
      go_wp2_with (fail)
      refine bodyPost_ret (v := .tuple #[.agg #[.slice A n c, .int .i64 am, .bool dn], .int .i64 50]) ?_ rfl ⟨A, c, by rw [E.out, ED.out]; unfold rval; rw [ARM.out, DN.out], X0.out.set3 (by have := HP.out; omega) _ _ _, by rw [ED.out]; exact H.out.ext (X0.out.set3 (by have := HP.out; omega) _ _ _)⟩
      have hr := (V1.out.set A n c am dn).res
      rw [results_cell25 rfl]
      simp [asAddr, Result.andThen, hr]
  · have hi0 : ¬ i < 0 := by omega
    have hi1 : ¬ (n : Int) ≤ i := by omega
    by_cases ha : at_ < 0 ∨ 64 ≤ at_
    · have e0 : Disks.spoilE d i at_ = 2 := by unfold Disks.spoilE; rw [if_neg (by omega), if_pos (by omega)]
      have E := Lib.hid e0
      have ED := Lib.hid (show Disks.spoilD d i at_ x = d by unfold Disks.spoilD; rw [e0, if_pos (by omega)])
      clear e0 ham hdn hi
      rcases ha with ha | ha
      · go_enter Try.func31, Try.ntmps31
        go_upto_region 1 with (fail)
        rw [HW.out]
        clear hp
        go_wp2_with (fail)
        refine bodyPost_ret (v := .tuple #[.agg #[.slice A n c, .int .i64 am, .bool dn], .int .i64 2]) ?_ rfl ⟨A, c, by rw [E.out, ED.out]; unfold rval; rw [ARM.out, DN.out], X0.out.set3 (by have := HP.out; omega) _ _ _, by rw [ED.out]; exact H.out.ext (X0.out.set3 (by have := HP.out; omega) _ _ _)⟩
        have hr := (V1.out.set A n c am dn).res
        rw [results_cell25 rfl]
        simp [asAddr, Result.andThen, hr]
      · have ha0 : ¬ at_ < 0 := by omega
        go_enter Try.func31, Try.ntmps31
        go_upto_region 1 with (fail)
        rw [HW.out]
        clear hp
        go_wp2_with (fail)
        refine bodyPost_ret (v := .tuple #[.agg #[.slice A n c, .int .i64 am, .bool dn], .int .i64 2]) ?_ rfl ⟨A, c, by rw [E.out, ED.out]; unfold rval; rw [ARM.out, DN.out], X0.out.set3 (by have := HP.out; omega) _ _ _, by rw [ED.out]; exact H.out.ext (X0.out.set3 (by have := HP.out; omega) _ _ _)⟩
        have hr := (V1.out.set A n c am dn).res
        rw [results_cell25 rfl]
        simp [asAddr, Result.andThen, hr]
    · have ha0 : ¬ at_ < 0 := by omega
      have ha1 : ¬ 64 ≤ at_ := by omega
      obtain ⟨j, rfl⟩ : ∃ j : Nat, i = (j : Int) := ⟨i.toNat, by omega⟩
      obtain ⟨s, rfl⟩ : ∃ s : Nat, at_ = (s : Int) := ⟨at_.toNat, by omega⟩
      have hlt : j < n := by omega
      have hs : s < 64 := by omega
      have e0 : Disks.spoilE d (j : Int) (s : Int) = 0 := by unfold Disks.spoilE; rw [if_neg (by omega), if_neg (by omega)]
      have E := Lib.hid e0
      have ED := Lib.hid (show Disks.spoilD d (j : Int) (s : Int) x = { d with med := d.med.set j (Disks.turn (Gm.row d.med j) s x) } by unfold Disks.spoilD; rw [e0, if_neg (by omega), Int.toNat_natCast, Int.toNat_natCast])
      obtain ⟨k, off, M, mn, mc, C, cn, cc, rfl, e1, e2, b1, b2, a1, a2⟩ := H.out.at_ j hlt
      have hrl := OK.out.wf.med j (by omega)
      have e3 := X0.out.cell e1
      have C2 := Lib.hid e2
      have B1 := Lib.hid b1
      have B2 := Lib.hid b2
      have A2 := Lib.hid a2
      have HRL := Lib.hid hrl
      have hmn : mn = 64 := by have := b1.len; omega
      subst hmn
      have m1 := b1.max
      have l1 := b1.le
      have m2 := b2.max
      have l2 := b2.le
      have r1 : (s : Int) < 64 := by omega
      have r2 : (j : Int) < n := by omega
      clear e0 ham hdn hi ha e1 e2 b1 b2 a1 a2 hrl
      go_enter Try.func31, Try.ntmps31
      go_upto_region 1 with (fail)
      rw [HW.out]
      clear hp
      go_wp2_with (fail)
      with_reducible refine (ref5Own W M 64 mc (Gm.row d.med j) (B1.out.ext X0.out) (by omega)).mono ?_
      rintro e w2 ⟨v2, rfl, ow, x2⟩
      rw [HRL.out] at ow
      obtain ⟨A4, c4, rfl, _, _⟩ := ownsRow_slice ow
      obtain ⟨q, rfl, hq1, hq2⟩ := own_addr ow (by omega)
      have hc4 : w2.cell? ⟨q, s, none⟩ = some (.int .u8 ((Gf.get (Gm.row d.med j) s).toNat : Int)) := by
        rw [ow.cellAt s (by omega)]; exact dk_bcells_get (by rw [HRL.out]; exact hs)
      have hf4 : w2.frozen? ⟨q, s, none⟩ = false := ow.frozenAt s
      have OW := Lib.hid ow
      have V02 := Lib.hid (V0.out.ext x2)
      have V12 := Lib.hid (V1.out.ext x2)
      have X2 := Lib.hid (X0.out.trans x2)
      have XB := Lib.hid x2
      have HQ := Lib.hid hq1
      obtain ⟨y, hy⟩ : ∃ y, Gf.get (Gm.row d.med j) s = y := ⟨_, rfl⟩
      rw [hy] at hc4
      have TU := Lib.hid (show Disks.turn (Gm.row d.med j) s x = (Gm.row d.med j).set s (y ^^^ x) by unfold Disks.turn; rw [hy])
      clear x2 ow hy k0 k1 k2 z0 z1 z2 y0 y1 y2 u0 u1 u2 e3 hq1 hq2
      go_upto_region 7 with (fail)
      rw [xor_u8]
      obtain ⟨W3, hW3⟩ : ∃ W3, w2.setCell ⟨q, s, none⟩ (.int .u8 ((y ^^^ x).toNat : Int)) = W3 := ⟨_, rfl⟩
      have hpq : p + 1 < q := Nat.lt_of_lt_of_le V1.out.lt HQ.out
      have v3 := V02.out.far (q := ⟨q, s, none⟩) (by show q ≠ p; omega) (.int .u8 ((y ^^^ x).toNat : Int))
      have v13 := V12.out.far (q := ⟨q, s, none⟩) (by show q ≠ p + 1; omega) (.int .u8 ((y ^^^ x).toNat : Int))
      have x3 : Ext w (w2.setCell ⟨q, s, none⟩ (.int .u8 ((y ^^^ x).toNat : Int))) := Below.setCell X2.out (p := ⟨q, s, none⟩) (by show w.heap.size ≤ q; have := HP.out; omega) _
      have o3 := (OW.out.stored s (.int .u8 ((y ^^^ x).toNat : Int))).1
      rw [hW3] at v3 v13 x3 o3
      rw [hW3]
      have V3 := Lib.hid v3
      have V13 := Lib.hid v13
      have X3 := Lib.hid x3
      have BS3 := Lib.hid (show Bs W3 (some ⟨q, 0, none⟩) 64 c4 ((Gm.row d.med j).set s (y ^^^ x)) from by
        rw [← dk_bcells_set] at o3
        exact (Own.mk (base := W.heap.size) (e := 5) o3).bs)
      have LB3 := Lib.hid (show w.heap.size < q from by have := HP.out; omega)
      clear v3 v13 x3 o3 hW3 hc4 hf4 OW V02 V12 X2 XB
      have hS : (fun W : World => Hid (Ext W3 W)) W3.drew := Lib.hid (Ext.drew _)
      refine wp_region_T (S := fun W : World => Hid (Ext W3 W)) 11 rfl rfl ?_
      refine takeT (i := 0) (v := ?_) rfl (by kernel_rfl) (by kernel_rfl) (by kernel_rfl) (by kernel_rfl) (by decide) (fun _ _ _ h => h) (by kernel_rfl) (Or.inl ⟨by rfl, ?_⟩) (by assumption) ?_
      rotate_left
      · (intro W9 hSw; (have k0 := (V3.out.ext hSw.out).c0; have k1 := (V3.out.ext hSw.out).c1; have k2 := (V3.out.ext hSw.out).c2; clear hSw; skip); go_simp; (try with_reducible rfl))
      try simp only [Act.put, List.setIfInBounds_toArray, List.set_cons_zero, List.set_cons_succ]
      refine takeT (i := 1) (v := ?_) rfl (by kernel_rfl) (by kernel_rfl) (by kernel_rfl) (by kernel_rfl) (by decide) (fun _ _ _ h => h) (by kernel_rfl) (Or.inl ⟨by rfl, ?_⟩) (by assumption) ?_
      rotate_left
      · (intro W9 hSw; go_simp; (try with_reducible rfl))
      try simp only [Act.put, List.setIfInBounds_toArray, List.set_cons_zero, List.set_cons_succ]
      refine takeT (i := 2) (v := ?_) rfl (by kernel_rfl) (by kernel_rfl) (by kernel_rfl) (by kernel_rfl) (by decide) (fun _ _ _ h => h) (by kernel_rfl) (Or.inl ⟨by rfl, ?_⟩) (by assumption) ?_
      rotate_left
      · (intro W9 hSw; go_simp; (try with_reducible rfl))
      try simp only [Act.put, List.setIfInBounds_toArray, List.set_cons_zero, List.set_cons_succ]
      refine takeT (i := 3) (v := ?_) rfl (by kernel_rfl) (by kernel_rfl) (by kernel_rfl) (by kernel_rfl) (by decide) (fun _ _ _ h => h) (by kernel_rfl) (Or.inl ⟨by rfl, ?_⟩) (by assumption) ?_
      rotate_left
      · (intro W9 hSw; go_simp; (try with_reducible rfl))
      try simp only [Act.put, List.setIfInBounds_toArray, List.set_cons_zero, List.set_cons_succ]
      refine takeT (i := 4) (v := ?_) rfl (by kernel_rfl) (by kernel_rfl) (by kernel_rfl) (by kernel_rfl) (by decide) (fun _ _ _ h => h) (by kernel_rfl) (Or.inl ⟨by rfl, ?_⟩) (by assumption) ?_
      rotate_left
      · (intro W9 hSw; (have k0 := (V3.out.ext hSw.out).c0; have k1 := (V3.out.ext hSw.out).c1; have k2 := (V3.out.ext hSw.out).c2; clear hSw; skip); go_simp; (try with_reducible rfl))
      try simp only [Act.put, List.setIfInBounds_toArray, List.set_cons_zero, List.set_cons_succ]
      refine takeT (i := 5) (v := ?_) rfl (by kernel_rfl) (by kernel_rfl) (by kernel_rfl) (by kernel_rfl) (by decide) (fun _ _ _ h => h) (by kernel_rfl) (Or.inl ⟨by rfl, ?_⟩) (by assumption) ?_
      rotate_left
      · (intro W9 hSw; go_simp; (try with_reducible rfl))
      try simp only [Act.put, List.setIfInBounds_toArray, List.set_cons_zero, List.set_cons_succ]
      refine takeT (i := 6) (v := ?_) rfl (by kernel_rfl) (by kernel_rfl) (by kernel_rfl) (by kernel_rfl) (by decide) (fun _ _ _ h => h) (by kernel_rfl) (Or.inl ⟨by rfl, ?_⟩) (by assumption) ?_
      rotate_left
      · (intro W9 hSw; go_simp; (try with_reducible rfl))
      try simp only [Act.put, List.setIfInBounds_toArray, List.set_cons_zero, List.set_cons_succ]
      refine takeT (i := 7) (v := ?_) rfl (by kernel_rfl) (by kernel_rfl) (by kernel_rfl) (by kernel_rfl) (by decide) (fun _ _ _ h => h) (by kernel_rfl) (Or.inl ⟨by rfl, ?_⟩) (by assumption) ?_
      rotate_left
      · (intro W9 hSw; go_simp; (try with_reducible rfl))
      try simp only [Act.put, List.setIfInBounds_toArray, List.set_cons_zero, List.set_cons_succ]
      refine takeT (i := 8) (v := ?_) rfl (by kernel_rfl) (by kernel_rfl) (by kernel_rfl) (by kernel_rfl) (by decide) (fun _ _ _ h => h) (by kernel_rfl) (Or.inl ⟨by rfl, ?_⟩) (by assumption) ?_
      rotate_left
      · (intro W9 hSw; (have k9 := (X3.out.trans hSw.out).cell C2.out); go_simp; (try with_reducible rfl))
      try simp only [Act.put, List.setIfInBounds_toArray, List.set_cons_zero, List.set_cons_succ]
      refine takeT (i := 9) (v := ?_) rfl (by kernel_rfl) (by kernel_rfl) (by kernel_rfl) (by kernel_rfl) (by decide) (fun _ _ _ h => h) (by kernel_rfl) (Or.inl ⟨by rfl, ?_⟩) (by assumption) ?_
      rotate_left
      · (intro W9 hSw; go_simp; (try with_reducible rfl))
      try simp only [Act.put, List.setIfInBounds_toArray, List.set_cons_zero, List.set_cons_succ]
      refine oneT (i := 10) rfl (by kernel_rfl) (fun K hK => ?_)
      rw [if_pos (by kernel_rfl)]
      go_wp2_with (fail)
      have hg3 := HG.out
      have hs3 := X3.out.size
      have hs4 := hS.out.size
      have hs5 := LB3.out
      have haw : Awy g m b (some ⟨q, 0, none⟩) := fun z hz => by cases hz; exact ⟨by show q ≠ g; omega, by show q ≠ m; omega, by show q ≠ b; omega⟩
      with_reducible refine (ref5With W3.drew g m b (some ⟨k, off, none⟩) n c d (H.out.ext (X3.out.trans (Ext.drew _))) ⟨by omega, by omega, by omega⟩ hN am dn j hlt (some ⟨q, 0, none⟩) 64 c4 _ C cn cc (cbytes d j) (BS3.out.ext (Ext.drew _)) (B2.out.ext (X3.out.trans (Ext.drew _))) haw A2.out).mono ?_
      rintro e2 w5 ⟨A5, c5, rfl, x5, hR⟩
      have V15 := Lib.hid (V13.out.ext (hS.out.trans x5))
      have hS5 : (fun W : World => Hid (Ext W3 W)) w5 := Lib.hid (hS.out.trans x5)
      have HR := Lib.hid hR
      have z0' := V15.out.c0
      have z1' := V15.out.c1
      have z2' := V15.out.c2
      have y0' := V15.out.fz 0
      have y1' := V15.out.fz 1
      have y2' := V15.out.fz 2
      clear x5 hR hg3 hs3 hs4 hs5 hS haw
      go_wp2_with (fail)
      refine hK.out _ _ (fun _ => hS5) ?_
      clear hK K
      try simp only [Act.put, List.setIfInBounds_toArray, List.set_cons_zero, List.set_cons_succ]
      refine oneT (i := 11) rfl (by kernel_rfl) (fun K hK => ?_)
      rw [if_pos (by kernel_rfl)]
      go_wp2_with (fail)
      refine hK.out _ _ (fun h => absurd (show true = false from h) (by decide)) ?_
      clear hK K
      try simp only [Act.put, List.setIfInBounds_toArray, List.set_cons_zero, List.set_cons_succ]
      refine oneT (i := 12) rfl (by kernel_rfl) (fun K hK => ?_)
      rw [if_pos (by kernel_rfl)]
      go_wp2_with (fail)
      refine hK.out _ _ (fun h => absurd (show true = false from h) (by decide)) ?_
      clear hK K
      try simp only [Act.put, List.setIfInBounds_toArray, List.set_cons_zero, List.set_cons_succ]
      refine doneT (by kernel_rfl) ?_ _
      go_wp2_with (fail)
      have xw := Ext.set3 (X3.out.trans hS5.out) (q := p + 1) (by have := HP.out; omega) (.slice A5 n c5) (.int .i64 am) (.bool dn)
      refine bodyPost_ret (v := .tuple #[.agg #[.slice A5 n c5, .int .i64 am, .bool dn], .int .i64 0]) ?_ rfl ⟨A5, c5, by rw [E.out, ED.out]; unfold rval; simp only; rw [ARM.out, DN.out], xw, ?_⟩
      · have hr := (V15.out.set A5 n c5 am dn).res
        rw [results_cell25 rfl]
        simp [asAddr, Result.andThen, hr]
      · rw [ED.out]
        refine (HR.out _ (by show d.med.set j _ = _; rw [TU.out]) fun r hr => ?_).same V15.out (others3 _ _ _ _ _)
        by_cases e : j = r
        · rw [if_pos e, ← e]; rfl
        · rw [if_neg e]; rfl
end Go.Proofs.Ytbfbiofndipaaaa
namespace Go.Proofs.Ytbfbiofndipaaaa
open Go.RowKit
theorem step_append_rd {P : Program} (w : World) {ops : Array Oper} {o : Oper} {a : Act} {K : Act → World → Prop} {Q : Exit → Act → World → Prop} {E : Prop} (hgd : o.guard = none) (s x : Operand) (t : TypeId)
    (ho : o.op = .call { callee := .builtin .append, args := #[s, x], argTypes := #[t, t] })
    (base : Nat) (e : TypeId) (i : TypeInfo) (z : Value) (size bytes : Nat) (ht : P.underlying t = some (.slice e)) (hi : P.info? e = some i) (hz : i.zero = some z)
    (hsize : i.size = size) (hby : i.bytes = bytes) (hzs : z.cells.size = size) (hsz : 0 < size)
    (v : Value) (n : Nat) (xs : List Value) (hs : a.eval s = v) (hown : w.ownsRow base e size v n xs)
    (A : Option Addr) (m c : Nat) (news : List Value) (hx : a.eval x = .slice A m c) (hr : Rd w size A m news) (h1 : ∀ u ∈ news, u.oneCell' = true)
    (hbytes : (n + m) * bytes ≤ 140737488355328) (h63 : n + m ≤ maxLen) (hbase : base ≤ w.heap.size)
    (h : ∀ v' w', w'.ownsRow base e size v' (n + m) (xs ++ news) → w.grownBy w' v.ownBlock → (v'.ownBlock = v.ownBlock ∨ v'.ownBlock = some w.heap.size) → K (a.put o.dst v') w') :
    if Region.wanted o (yielded ops a.tmps) = true then Oper.wp P o a w K Q else E := by
  have hw : Region.wanted o (yielded ops a.tmps) = true := by simp [Region.wanted, hgd]
  rw [if_pos hw]
  exact wp_append_rd w s x t ho base e i z size bytes ht hi hz hsize hby hzs hsz v n xs hs hown A m c news hx hr h1 hbytes h63 hbase h
/-- The same at an operation of a list that a guard lets through. -/
theorem wpList_append_wanted {P : Program} (w : World) {ops : Array Oper} {rest : List Oper} {o : Oper} {a : Act} {Q : Exit → Act → World → Prop} (hw : Region.wanted o (yielded ops a.tmps) = true) (s x : Operand) (t : TypeId)
    (ho : o.op = .call { callee := .builtin .append, args := #[s, x], argTypes := #[t, t] })
    (base : Nat) (e : TypeId) (i : TypeInfo) (z : Value) (size bytes : Nat) (ht : P.underlying t = some (.slice e)) (hi : P.info? e = some i) (hz : i.zero = some z)
    (hsize : i.size = size) (hby : i.bytes = bytes) (hzs : z.cells.size = size) (hsz : 0 < size)
    (v : Value) (n : Nat) (xs : List Value) (hs : a.eval s = v) (hown : w.ownsRow base e size v n xs)
    (A : Option Addr) (m c : Nat) (news : List Value) (hx : a.eval x = .slice A m c) (hr : Rd w size A m news) (h1 : ∀ u ∈ news, u.oneCell' = true)
    (hbytes : (n + m) * bytes ≤ 140737488355328) (h63 : n + m ≤ maxLen) (hbase : base ≤ w.heap.size)
    (h : ∀ v' w', w'.ownsRow base e size v' (n + m) (xs ++ news) → w.grownBy w' v.ownBlock → (v'.ownBlock = v.ownBlock ∨ v'.ownBlock = some w.heap.size) → wpList P ops Q rest (a.put o.dst v') w') : wpList P ops Q (o :: rest) a w :=
  wpList_step fun _ hK => by
    rw [if_pos hw]
    exact wp_append_rd w s x t ho base e i z size bytes ht hi hz hsize hby hzs hsz v n xs hs hown A m c news hx hr h1 hbytes h63 hbase fun v' w' h2 h3 h4 => hK _ _ (h v' w' h2 h3 h4)
end Go.Proofs.Ytbfbiofndipaaaa
