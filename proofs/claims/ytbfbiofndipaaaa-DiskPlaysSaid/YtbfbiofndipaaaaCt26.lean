/- Several texts in one: The contract of SameDisk, where both are one disk. The contract of the document's Write. -/
import Derived.Test.YtbfbiofndipaaaaCt25
import Derived.Test.YtbfbiofndipaaaaCt17
import Derived.Test.YtbfbiofndipaaaaCt23
import Derived.Test.YtbfbiofndipaaaaCt8
namespace Go.Proofs.Ytbfbiofndipaaaa
open Go.ChangeShapes Go.WideShapes Go.ChangeAt Go.RowKit Go.Maps Go.Sort Go.Shelf
set_option linter.unusedSimpArgs false

set_option maxRecDepth 100000 in
set_option maxHeartbeats 4000000 in
theorem sameDisk5 (w : World) (g m b N : Nat) (A : Option Addr) (n c : Nat) (d : Disks.D) (hd : Ds w g m b N d) (h : Rf w g m b A n c d) :
    Calls Try.prog 34 #[dptr g, rval A n c d] w fun e w' => e = .returned (.bool true) ∧ Ext w w' := by
  have hok := hd.ok
  obtain ⟨p, hp⟩ : ∃ p, w.heap.size = p := ⟨_, rfl⟩
  obtain ⟨am, ham⟩ : ∃ am, d.arm = am := ⟨_, rfl⟩
  obtain ⟨dn, hdn⟩ : ∃ dn, d.down = dn := ⟨_, rfl⟩
  have v0 := Vd.new w A n c am dn
  have x0 := Ext.alloc w (.cells #[.slice A n c, .int .i64 am, .bool dn] 54)
  rw [hp] at v0
  obtain ⟨w0, hW⟩ : ∃ w0, w.alloc (.cells #[.slice A n c, .int .i64 am, .bool dn] 54) = w0 := ⟨_, rfl⟩
  rw [hW] at v0 x0
  have HW := Lib.hid hW
  have V0 := Lib.hid v0
  have X0' := Lib.hid x0
  have HP := Lib.hid (show w.heap.size ≤ p from by omega)
  have k0 := v0.c0
  have k1 := v0.c1
  have k2 := v0.c2
  have hle := h.le
  have hmx := h.max
  have hln := h.len
  have H := Lib.hid h
  have ARM := Lib.hid ham
  have DN := Lib.hid hdn
  clear v0 x0 hW
  have OK := Lib.hid hok
  have HM := Lib.hid (show d.med.length = n from hln)
  have D := Lib.hid (hd.ext X0'.out)
  have R := Lib.hid (h.ext X0'.out)
  have HRC := Lib.hid (fun (W : World) (hW : Rf W g m b A n c d) => ref5Cached W g m b A n c d hW hok)
  have HRR := Lib.hid (fun (W : World) (hW : Rf W g m b A n c d) (i : Int) => ref5Read W g m b A n c d hW hok i)
  clear h hok hd
  unfold rval at HRC HRR ⊢
  rw [ham, hdn] at HRC HRR ⊢
  clear ham hdn k0 k1 k2
  go_enter Try.func34, Try.ntmps34
  go_upto_region 1 with (fail)
  rw [HW.out]
  clear hp
  have hS0 : (fun W : World => Hid (Vd W p A n c am dn)) w0.drew := Lib.hid (Vd.ext V0.out (Ext.drew _))
  have D0 := Lib.hid (D.out.ext (Ext.drew w0))
  have R0 := Lib.hid (R.out.ext (Ext.drew w0))
  have X0 := Lib.hid (X0'.out.trans (Ext.drew w0))
  refine wp_region_T (S := (fun W : World => Hid (Vd W p A n c am dn))) 20 rfl rfl ?_
  refine takeC [13,12,6,1] (i := 0) (v := ?_) rfl (by kernel_rfl) (by kernel_rfl) (by kernel_rfl) (by kernel_rfl) (by decide) (fun _ _ _ h => h) (by kernel_rfl) (Or.inl ⟨by kernel_rfl, ?_⟩) (by assumption) ?_
  rotate_left
  · (intro W9 hSw; go_simp; (try with_reducible rfl))
  try simp only [Act.put, List.setIfInBounds_toArray, List.set_cons_zero, List.set_cons_succ]
  refine takeC [13,12,6,5,4,3] (i := 2) (v := ?_) rfl (by kernel_rfl) (by kernel_rfl) (by kernel_rfl) (by kernel_rfl) (by decide) (fun _ _ _ h => h) (by kernel_rfl) (Or.inl ⟨by kernel_rfl, ?_⟩) (by assumption) ?_
  rotate_left
  · (intro W9 hSw; go_simp; (try with_reducible rfl))
  try simp only [Act.put, List.setIfInBounds_toArray, List.set_cons_zero, List.set_cons_succ]
  refine takeC [13,12,6,5,4] (i := 3) (v := ?_) rfl (by kernel_rfl) (by kernel_rfl) (by kernel_rfl) (by kernel_rfl) (by decide) (fun _ _ _ h => h) (by kernel_rfl) (Or.inl ⟨by kernel_rfl, ?_⟩) (by assumption) ?_
  rotate_left
  · (intro W9 hSw; (have k0 := hSw.out.c0; have k1 := hSw.out.c1; have k2 := hSw.out.c2; clear hSw; skip); go_simp; (try with_reducible rfl))
  try simp only [Act.put, List.setIfInBounds_toArray, List.set_cons_zero, List.set_cons_succ]
  refine takeC [13,12,6,5] (i := 4) (v := ?_) rfl (by kernel_rfl) (by kernel_rfl) (by kernel_rfl) (by kernel_rfl) (by decide) (fun _ _ _ h => h) (by kernel_rfl) (Or.inl ⟨by kernel_rfl, ?_⟩) (by assumption) ?_
  rotate_left
  · (intro W9 hSw; go_simp; (try with_reducible rfl))
  try simp only [Act.put, List.setIfInBounds_toArray, List.set_cons_zero, List.set_cons_succ]
  refine oneT (i := 1) rfl (by kernel_rfl) (fun K hK => ?_)
  rw [if_pos (by kernel_rfl)]
  go_wp2_with (fail)
  with_reducible refine (D0.out.size HM.out).mono ?_
  rintro e w1 ⟨rfl, x1⟩
  have D1 := Lib.hid (D0.out.ext x1)
  have R1 := Lib.hid (R0.out.ext x1)
  have X1 := Lib.hid (X0.out.trans x1)
  have hS1 : (fun W : World => Hid (Vd W p A n c am dn)) w1 := Lib.hid (Vd.ext hS0.out x1)
  clear x1
  go_wp2_with (fail)
  refine hK.out _ _ (fun _ => hS1) ?_
  clear hK K
  try simp only [Act.put, List.setIfInBounds_toArray, List.set_cons_zero, List.set_cons_succ]
  refine takeC [13,12,6] (i := 5) (v := ?_) rfl (by kernel_rfl) (by kernel_rfl) (by kernel_rfl) (by kernel_rfl) (by decide) (fun _ _ _ h => h) (by kernel_rfl) (Or.inl ⟨by kernel_rfl, ?_⟩) (by assumption) ?_
  rotate_left
  · (intro W9 hSw; go_simp; (try with_reducible rfl))
  try simp only [Act.put, List.setIfInBounds_toArray, List.set_cons_zero, List.set_cons_succ]
  refine takeC [13,12] (i := 6) (v := ?_) rfl (by kernel_rfl) (by kernel_rfl) (by kernel_rfl) (by kernel_rfl) (by decide) (fun _ _ _ h => h) (by kernel_rfl) (Or.inl ⟨by kernel_rfl, ?_⟩) (by assumption) ?_
  rotate_left
  · (intro W9 hSw; go_simp; (try with_reducible rfl))
  try simp only [Act.put, List.setIfInBounds_toArray, List.set_cons_zero, List.set_cons_succ]
  refine takeC [13,8] (i := 7) (v := ?_) rfl (by kernel_rfl) (by kernel_rfl) (by kernel_rfl) (by kernel_rfl) (by decide) (fun _ _ _ h => h) (by kernel_rfl) (Or.inl ⟨by kernel_rfl, ?_⟩) (by assumption) ?_
  rotate_left
  · (intro W9 hSw; go_simp; (try with_reducible rfl))
  try simp only [Act.put, List.setIfInBounds_toArray, List.set_cons_zero, List.set_cons_succ]
  refine takeC [13,12,11,10] (i := 9) (v := ?_) rfl (by kernel_rfl) (by kernel_rfl) (by kernel_rfl) (by kernel_rfl) (by decide) (fun _ _ _ h => h) (by kernel_rfl) (Or.inl ⟨by kernel_rfl, ?_⟩) (by assumption) ?_
  rotate_left
  · (intro W9 hSw; go_simp; (try with_reducible rfl))
  try simp only [Act.put, List.setIfInBounds_toArray, List.set_cons_zero, List.set_cons_succ]
  refine takeC [13,12,11] (i := 10) (v := ?_) rfl (by kernel_rfl) (by kernel_rfl) (by kernel_rfl) (by kernel_rfl) (by decide) (fun _ _ _ h => h) (by kernel_rfl) (Or.inl ⟨by kernel_rfl, ?_⟩) (by assumption) ?_
  rotate_left
  · (intro W9 hSw; (have k0 := hSw.out.c0; have k1 := hSw.out.c1; have k2 := hSw.out.c2; clear hSw; skip); go_simp; (try with_reducible rfl))
  try simp only [Act.put, List.setIfInBounds_toArray, List.set_cons_zero, List.set_cons_succ]
  refine oneT (i := 8) rfl (by kernel_rfl) (fun K hK => ?_)
  rw [if_pos (by kernel_rfl)]
  go_wp2_with (fail)
  with_reducible refine (D1.out.down DN.out).mono ?_
  rintro e w2 ⟨rfl, x2⟩
  have D2 := Lib.hid (D1.out.ext x2)
  have R2 := Lib.hid (R1.out.ext x2)
  have X2 := Lib.hid (X1.out.trans x2)
  have hS2 : (fun W : World => Hid (Vd W p A n c am dn)) w2 := Lib.hid (Vd.ext hS1.out x2)
  clear x2
  go_wp2_with (fail)
  refine hK.out _ _ (fun _ => hS2) ?_
  clear hK K
  try simp only [Act.put, List.setIfInBounds_toArray, List.set_cons_zero, List.set_cons_succ]
  refine takeC [13,12] (i := 11) (v := ?_) rfl (by kernel_rfl) (by kernel_rfl) (by kernel_rfl) (by kernel_rfl) (by decide) (fun _ _ _ h => h) (by kernel_rfl) (Or.inl ⟨by kernel_rfl, ?_⟩) (by assumption) ?_
  rotate_left
  · (intro W9 hSw; go_simp; (try with_reducible rfl))
  try simp only [Act.put, List.setIfInBounds_toArray, List.set_cons_zero, List.set_cons_succ]
  refine takeC [13] (i := 12) (v := ?_) rfl (by kernel_rfl) (by kernel_rfl) (by kernel_rfl) (by kernel_rfl) (by decide) (fun _ _ _ h => h) (by kernel_rfl) (Or.inl ⟨by kernel_rfl, ?_⟩) (by assumption) ?_
  rotate_left
  · (intro W9 hSw; go_simp; (try with_reducible rfl))
  try simp only [Act.put, List.setIfInBounds_toArray, List.set_cons_zero, List.set_cons_succ]
  refine takeC [] (i := 13) (v := ?_) rfl (by kernel_rfl) (by kernel_rfl) (by kernel_rfl) (by kernel_rfl) (by decide) (fun _ _ _ h => h) (by kernel_rfl) (Or.inl ⟨by kernel_rfl, ?_⟩) (by assumption) ?_
  rotate_left
  · (intro W9 hSw; go_simp; (try with_reducible rfl))
  try simp only [Act.put, List.setIfInBounds_toArray, List.set_cons_zero, List.set_cons_succ]
  refine takeC [19,18,15] (i := 14) (v := ?_) rfl (by kernel_rfl) (by kernel_rfl) (by kernel_rfl) (by kernel_rfl) (by decide) (fun _ _ _ h => h) (by kernel_rfl) (Or.inl ⟨by kernel_rfl, ?_⟩) (by assumption) ?_
  rotate_left
  · (intro W9 hSw; go_simp; (try with_reducible rfl))
  try simp only [Act.put, List.setIfInBounds_toArray, List.set_cons_zero, List.set_cons_succ]
  refine takeC [19,18,17] (i := 16) (v := ?_) rfl (by kernel_rfl) (by kernel_rfl) (by kernel_rfl) (by kernel_rfl) (by decide) (fun _ _ _ h => h) (by kernel_rfl) (Or.inl ⟨by kernel_rfl, ?_⟩) (by assumption) ?_
  rotate_left
  · (intro W9 hSw; (have k0 := hSw.out.c0; have k1 := hSw.out.c1; have k2 := hSw.out.c2; clear hSw; skip); go_simp; (try with_reducible rfl))
  try simp only [Act.put, List.setIfInBounds_toArray, List.set_cons_zero, List.set_cons_succ]
  refine oneT (i := 15) rfl (by kernel_rfl) (fun K hK => ?_)
  rw [if_pos (by kernel_rfl)]
  go_wp2_with (fail)
  with_reducible refine (D2.out.cached rfl).mono ?_
  rintro e w3 ⟨Ca, cca, rfl, ia, x3⟩
  have IA := Lib.hid ia
  have D3 := Lib.hid (D2.out.ext x3)
  have R3 := Lib.hid (R2.out.ext x3)
  have X3 := Lib.hid (X2.out.trans x3)
  have hS3 : (fun W : World => Hid (Vd W p A n c am dn)) w3 := Lib.hid (Vd.ext hS2.out x3)
  clear x3
  clear ia
  go_wp2_with (fail)
  refine hK.out _ _ (fun _ => hS3) ?_
  clear hK K
  try simp only [Act.put, List.setIfInBounds_toArray, List.set_cons_zero, List.set_cons_succ]
  refine oneT (i := 17) rfl (by kernel_rfl) (fun K hK => ?_)
  rw [if_pos (by kernel_rfl)]
  go_wp2_with (fail)
  with_reducible refine (HRC.out w3 R3.out).mono ?_
  rintro e w4 ⟨v4, rfl, hv⟩
  obtain ⟨Cb, ccb, rfl, ib⟩ := hv.is
  have x4 := hv.ext
  have IB := Lib.hid ib
  have IA := Lib.hid (IA.out.ext x4)
  have D4 := Lib.hid (D3.out.ext x4)
  have R4 := Lib.hid (R3.out.ext x4)
  have X4 := Lib.hid (X3.out.trans x4)
  have hS4 : (fun W : World => Hid (Vd W p A n c am dn)) w4 := Lib.hid (Vd.ext hS3.out x4)
  clear x4
  clear ib hv
  go_wp2_with (fail)
  refine hK.out _ _ (fun _ => hS4) ?_
  clear hK K
  try simp only [Act.put, List.setIfInBounds_toArray, List.set_cons_zero, List.set_cons_succ]
  refine oneT (i := 18) rfl (by kernel_rfl) (fun K hK => ?_)
  rw [if_pos (by kernel_rfl)]
  have hsi := sameInts_any w4 _ _ _ _ _ _ _ _ IA.out IB.out
  rw [decide_eq_true rfl] at hsi
  go_wp2_with (fail)
  with_reducible refine (hsi).mono ?_
  rintro e w5 ⟨rfl, x5⟩
  replace x5 := x5.ext
  have D5 := Lib.hid (D4.out.ext x5)
  have R5 := Lib.hid (R4.out.ext x5)
  have X5 := Lib.hid (X4.out.trans x5)
  have hS5 : (fun W : World => Hid (Vd W p A n c am dn)) w5 := Lib.hid (Vd.ext hS4.out x5)
  clear x5
  have VB := Lib.hid (show Vd w5 p A n c am dn from hS5.out)
  clear hsi
  go_wp2_with (fail)
  refine hK.out _ _ (fun _ => hS5) ?_
  clear hK K
  try simp only [Act.put, List.setIfInBounds_toArray, List.set_cons_zero, List.set_cons_succ]
  refine takeC [] (i := 19) (v := ?_) rfl (by kernel_rfl) (by kernel_rfl) (by kernel_rfl) (by kernel_rfl) (by decide) (fun _ _ _ h => h) (by kernel_rfl) (Or.inl ⟨by kernel_rfl, ?_⟩) (by assumption) ?_
  rotate_left
  · (intro W9 hSw; go_simp; (try with_reducible rfl))
  try simp only [Act.put, List.setIfInBounds_toArray, List.set_cons_zero, List.set_cons_succ]
  refine oneT (i := 20) rfl (by kernel_rfl) (fun K hK => ?_)
  rw [if_pos (by kernel_rfl)]
  go_wp2_with (fail)
  refine hK.out _ _ (fun h => absurd (show true = false from h) (by decide)) ?_
  clear hK K
  try simp only [Act.put, List.setIfInBounds_toArray, List.set_cons_zero, List.set_cons_succ]
  refine doneT (by kernel_rfl) ?_ _
  clear hS5
  go_wp2_with (fail)
  go_loopw [5] (fun i wr => ∃ t : Nat, t ≤ n ∧ i = .int .i64 (t : Int) ∧ RowKit.Hid (Ext w5 wr)) (fun i _ => n - (intOf i).toNat)
  case atStart => exact ⟨0, by omega, rfl, Lib.hid (Ext.refl w5)⟩
  case round =>
    obtain ⟨t, ht, rfl, HX⟩ := hrel
    have v6 := VB.out.ext HX.out
    have k0 := v6.c0
    have k1 := v6.c1
    have k2 := v6.c2
    have V6 := Lib.hid v6
    clear v6
    by_cases hlt : t < n
    · have r1 : (t : Int) < n := by omega
      have D6 := Lib.hid (D5.out.ext HX.out)
      have R6 := Lib.hid (R5.out.ext HX.out)
      have hrd : Calls Try.prog 24 #[dptr g, .int .i64 (t : Int)] wr fun e w' => ∃ B nb cb, e = .returned (.tuple #[.slice B nb cb, .int .i64 (Disks.there d (t : Int))]) ∧ Bs w' B nb cb (Disks.readB d (t : Int)) ∧ Ext wr w' := by
        by_cases h0 : Disks.there d (t : Int) = 0
        · refine (D6.out.readOk (t : Int) h0 rfl).mono ?_
          rintro e w' ⟨k, rfl, hs⟩
          rw [h0]
          refine ⟨_, _, _, rfl, ?_, hs.ext⟩
          have e1 : Disks.readB d (t : Int) = Disks.sec d (t : Int).toNat := by unfold Disks.readB; rw [h0, if_neg (by omega)]
          rw [e1]
          exact hs.bs
        · refine (D6.out.readNo (t : Int) rfl h0).mono ?_
          rintro e w' ⟨rfl, hx⟩
          refine ⟨_, _, _, rfl, ?_, hx⟩
          have e1 : Disks.readB d (t : Int) = [] := by unfold Disks.readB; rw [if_pos h0]
          rw [e1]
          exact bs_nil _
      go_upto_region 7 with (first | ((with_reducible refine hrd.mono ?_); rintro e w7 ⟨B1, nb1, cb1, rfl, bs1, x7⟩))
      have BS1 := Lib.hid bs1
      have V7 := Lib.hid (V6.out.ext x7)
      have R7 := Lib.hid (R6.out.ext x7)
      have X7 := Lib.hid (HX.out.trans x7)
      have k0' := V7.out.c0
      have k1' := V7.out.c1
      have k2' := V7.out.c2
      clear k0 k1 k2 bs1 x7 hrd
      go_wp2_with (fail)
      with_reducible refine (HRR.out w7 R7.out (t : Int)).mono ?_
      rintro e w8 ⟨B2, nb2, cb2, rfl, bs2, x8⟩
      have hsb := sameBytes5 w8 B1 B2 nb1 cb1 nb2 cb2 _ _ (BS1.out.ext x8) bs2
      rw [beq_self_eq_true] at hsb
      have V8 := Lib.hid (V7.out.ext x8)
      have X8 := Lib.hid (X7.out.trans x8)
      clear k0' k1' k2' x8 bs2
      obtain ⟨er, her⟩ : ∃ er, Disks.there d (t : Int) = er := ⟨_, rfl⟩
      rw [her]
      clear her
      go_wp2_with (fail)
      with_reducible refine hsb.mono ?_
      rintro e w9 ⟨rfl, rfl⟩
      have k0 := V8.out.c0
      clear hsb
      go_wp2_with (fail)
      exact ⟨⟨t + 1, by omega, by go_num, X8⟩, by simp [intOf]; omega⟩
    · have r1 : ¬ (t : Int) < n := by omega
      go_wp2_with (fail)
      go_ret
      exact ⟨rfl, X5.out.trans HX.out⟩
end Go.Proofs.Ytbfbiofndipaaaa
namespace Go.Proofs.Ytbfbiofndipaaaa
open Go.ChangeShapes Go.WideShapes Go.ChangeAt Go.RowKit Go.Maps Go.Sort Go.Shelf
set_option linter.unusedSimpArgs false

abbrev Gives5 (g m b n : Nat) (d : Disks.D) (er : Int) (w : World) (e : Ending) (w' : World) : Prop := ∃ A c, e = .returned (.tuple #[rval A n c d, .int .i64 er]) ∧ Ext w w' ∧ Rf w' g m b A n c d
set_option maxRecDepth 100000 in
set_option maxHeartbeats 4000000 in
theorem ref5Write (w : World) (g m b : Nat) (A : Option Addr) (n c : Nat) (d : Disks.D) (h : Rf w g m b A n c d) (hgmb : g < w.heap.size ∧ m < w.heap.size ∧ b < w.heap.size) (hok : Disks.Ok d) (i : Int) (B : Option Addr) (nb cb : Nat) (l : List UInt8) (hl : Bs w B nb cb l) (hnb : nb ≤ 100000) :
    Calls Try.prog 28 #[rval A n c d, .int .i64 i, .slice B nb cb] w (Gives5 g m b n (Disks.writeD d i l) (Disks.writeE d i l) w) := by
  have hN : n ≤ 70000 := by have := hok.wf.max; have := h.len; omega
  obtain ⟨p, hp⟩ : ∃ p, w.heap.size = p := ⟨_, rfl⟩
  obtain ⟨am, ham⟩ : ∃ am, d.arm = am := ⟨_, rfl⟩
  obtain ⟨dn, hdn⟩ : ∃ dn, d.down = dn := ⟨_, rfl⟩
  obtain ⟨v0, v1, x0⟩ := rworld_facts w A n c am dn
  rw [hp] at v0 v1
  obtain ⟨W, hW⟩ : ∃ W, rworld w A n c am dn = W := ⟨_, rfl⟩
  rw [hW] at v0 v1 x0
  unfold rworld at hW
  have HW := Lib.hid hW
  have V1 := Lib.hid v1
  have V0 := Lib.hid v0
  have X0 := Lib.hid x0
  have HP := Lib.hid (show w.heap.size ≤ p from by omega)
  have k0 := v0.c0
  have k1 := v0.c1
  have k2 := v0.c2
  have z0 := v1.c0
  have z1 := v1.c1
  have z2 := v1.c2
  have y0 := v1.fz 0
  have y1 := v1.fz 1
  have y2 := v1.fz 2
  have u0 := v0.fz 0
  have u1 := v0.fz 1
  have u2 := v0.fz 2
  have hle := h.le
  have hmx := h.max
  have hln := h.len
  have H := Lib.hid h
  have ARM := Lib.hid ham
  have DN := Lib.hid hdn
  clear v0 v1 x0 hW
  have OK := Lib.hid hok
  have HL := Lib.hid hl
  have HG := Lib.hid hgmb
  have hll := hl.len
  have hlc := hl.le
  have hlm := hl.max
  clear h hok hl hgmb
  unfold rval
  rw [ham, hdn]
  cases dn
  · by_cases hi : i < 0 ∨ (n : Int) ≤ i
    · have ht : Disks.there d i = 50 := by unfold Disks.there; rw [if_neg (by rw [hdn]; decide), if_pos (by omega)]
      have E := Lib.hid (show Disks.writeE d i l = 50 by unfold Disks.writeE; rw [ht, if_pos (by omega)])
      have ED := Lib.hid (show Disks.writeD d i l = d by unfold Disks.writeD; rw [ht, if_pos (by omega)])
      clear ht ham hdn
      rcases hi with hi | hi
      · go_enter Try.func28, Try.ntmps28
        go_upto_region 1 with (fail)
        rw [HW.out]
        clear hp
        go_wp2_with (fail)
        refine bodyPost_ret (v := .tuple #[.agg #[.slice A n c, .int .i64 am, .bool false], .int .i64 50]) ?_ rfl ⟨A, c, by rw [E.out, ED.out]; unfold rval; rw [ARM.out, DN.out], X0.out.set3 (by have := HP.out; omega) _ _ _, by rw [ED.out]; exact H.out.ext (X0.out.set3 (by have := HP.out; omega) _ _ _)⟩
        have hr := (V1.out.set A n c am false).res
        rw [results_cell25 rfl]
        simp [asAddr, Result.andThen, hr]
      · have hi0 : ¬ i < 0 := by omega
        go_enter Try.func28, Try.ntmps28
        go_upto_region 1 with (fail)
        rw [HW.out]
        clear hp
        go_wp2_with (fail)
        refine bodyPost_ret (v := .tuple #[.agg #[.slice A n c, .int .i64 am, .bool false], .int .i64 50]) ?_ rfl ⟨A, c, by rw [E.out, ED.out]; unfold rval; rw [ARM.out, DN.out], X0.out.set3 (by have := HP.out; omega) _ _ _, by rw [ED.out]; exact H.out.ext (X0.out.set3 (by have := HP.out; omega) _ _ _)⟩
        have hr := (V1.out.set A n c am false).res
        rw [results_cell25 rfl]
        simp [asAddr, Result.andThen, hr]
    · have hi0 : ¬ i < 0 := by omega
      have hi1 : ¬ (n : Int) ≤ i := by omega
      have ht : Disks.there d i = 0 := by unfold Disks.there; rw [if_neg (by rw [hdn]; decide), if_neg (by omega)]
      clear hi
      by_cases h64 : nb = 64
      · by_cases h0 : am = 0
        · have e0 : Disks.opE d = 15 := if_pos (by omega)
          have E := Lib.hid (show Disks.writeE d i l = 15 by unfold Disks.writeE; rw [ht, if_neg (by omega), if_neg (by omega), e0])
          have ED := Lib.hid (show Disks.writeD d i l = Disks.op d by unfold Disks.writeD; rw [ht, if_neg (by omega), if_neg (by omega), if_pos (by omega)])
          have hop := ref5Op W A n c d OK.out.wf.arm OK.out.top
          rw [ham, h0, decide_eq_true rfl] at hop
          unfold rval at hop
          rw [ham, hdn, h0] at hop
          have eop : Disks.op d = { { d with down := true } with arm := -1 } := if_pos (by omega)
          rw [eop] at hop
          simp only at hop
          have HOP := Lib.hid hop
          have EOP := Lib.hid eop
          clear ht ham hdn e0 hop eop
          subst h0
          subst h64
          go_enter Try.func28, Try.ntmps28
          go_upto_region 1 with (fail)
          rw [HW.out]
          clear hp
          go_wp2_with (fail)
          with_reducible refine HOP.out.mono ?_
          rintro e w2 ⟨rfl, x2⟩
          have V02 := Lib.hid (V0.out.ext x2)
          have V12 := Lib.hid (V1.out.ext x2)
          have X2 := Lib.hid (X0.out.trans x2)
          have k0' := V02.out.c0
          have k1' := V02.out.c1
          have k2' := V02.out.c2
          have u0' := V02.out.fz 0
          have u1' := V02.out.fz 1
          have u2' := V02.out.fz 2
          have z0' := V12.out.c0
          have z1' := V12.out.c1
          have z2' := V12.out.c2
          have y0' := V12.out.fz 0
          have y1' := V12.out.fz 1
          have y2' := V12.out.fz 2
          clear x2
          go_wp2_with (fail)
          have HP' := HP.out
          have xw := Ext.set3 (Ext.set3 X2.out (q := p) HP' (.slice A n c) (.int .i64 (-1)) (.bool true)) (q := p + 1) (by omega) (.slice A n c) (.int .i64 (-1)) (.bool true)
          refine bodyPost_ret (v := .tuple #[.agg #[.slice A n c, .int .i64 (-1), .bool true], .int .i64 15]) ?_ rfl ⟨A, c, by rw [E.out, ED.out, EOP.out], xw, by rw [ED.out]; exact (H.out.ext xw).like (Disks.op_med d) (Disks.op_cac d)⟩
          have hr := ((((V12.out.far (q := ⟨p, 0, none⟩) (by show p ≠ p + 1; omega) (.slice A n c)).far (q := ⟨p, 1, none⟩) (by show p ≠ p + 1; omega) (.int .i64 (-1))).far (q := ⟨p, 2, none⟩) (by show p ≠ p + 1; omega) (.bool true)).set A n c (-1) true).res
          rw [results_cell25 rfl]
          simp [asAddr, Result.andThen, hr]
        · have h0' : d.arm ≠ 0 := by omega
          have e0 : Disks.opE d = 0 := if_neg h0'
          obtain ⟨j, rfl⟩ : ∃ j : Nat, i = (j : Int) := ⟨i.toNat, by omega⟩
          have hjn : j < n := by omega
          have E := Lib.hid (show Disks.writeE d (j : Int) l = 0 by unfold Disks.writeE; rw [ht, if_neg (by omega), if_neg (by omega), e0])
          have ED := Lib.hid (show Disks.writeD d (j : Int) l = { Disks.op d with cac := d.cac.set j (some l) } by unfold Disks.writeD; rw [ht, if_neg (by omega), if_neg (by omega), if_neg h0', Int.toNat_natCast])
          have hop := ref5Op W A n c d OK.out.wf.arm OK.out.top
          rw [decide_eq_false h0'] at hop
          unfold rval at hop
          obtain ⟨an, han⟩ : ∃ an, max (d.arm - 1) (-1) = an := ⟨_, rfl⟩
          have eop : Disks.op d = { d with arm := an } := by unfold Disks.op; rw [if_neg h0', han]
          rw [eop] at hop
          simp only at hop
          rw [ham, hdn] at hop
          simp only [Bool.not_false] at hop
          obtain ⟨k, off, M, mn, mc, C, cn, cc, rfl, c1, c2, b1, b2, a1, a2⟩ := H.out.at_ j hjn
          have C1 := Lib.hid c1
          have B1 := Lib.hid b1
          have A1 := Lib.hid a1
          have HOP := Lib.hid hop
          have EOP := Lib.hid eop
          have HAN := Lib.hid han
          clear ht ham hdn e0 hop eop han c1 c2 b1 b2 a1 a2 h0'
          subst h64
          go_enter Try.func28, Try.ntmps28
          go_upto_region 1 with (fail)
          rw [HW.out]
          clear hp
          go_wp2_with (fail)
          with_reducible refine HOP.out.mono ?_
          rintro e w2 ⟨rfl, x2⟩
          have V02 := Lib.hid (V0.out.ext x2)
          have V12 := Lib.hid (V1.out.ext x2)
          have X2 := Lib.hid (X0.out.trans x2)
          have k0' := V02.out.c0
          have k1' := V02.out.c1
          have k2' := V02.out.c2
          have u0' := V02.out.fz 0
          have u1' := V02.out.fz 1
          have u2' := V02.out.fz 2
          clear x2 k0 k1 k2 z0 z1 z2 y0 y1 y2 u0 u1 u2
          go_upto_region 10 with (fail)
          obtain ⟨W3, hW3⟩ : ∃ W3, ((w2.setCell ⟨p, 0, none⟩ (.slice (some ⟨k, off, none⟩) n c)).setCell ⟨p, 1, none⟩ (.int .i64 an)).setCell ⟨p, 2, none⟩ (.bool false) = W3 := ⟨_, rfl⟩
          have v3 := V02.out.set (some ⟨k, off, none⟩) n c an false
          have v13 := V12.out.far3 (q := p) (by omega) (.slice (some ⟨k, off, none⟩) n c) (.int .i64 an) (.bool false)
          have x3 := Ext.set3 X2.out (q := p) HP.out (.slice (some ⟨k, off, none⟩) n c) (.int .i64 an) (.bool false)
          rw [hW3] at v3 v13 x3
          rw [hW3]
          have V3 := Lib.hid v3
          have V13 := Lib.hid v13
          have X3 := Lib.hid x3
          clear v3 v13 x3 hW3 k0' k1' k2' u0' u1' u2' V02 V12 X2
          have hS : (fun W : World => Hid (Ext W3 W)) W3.drew := Lib.hid (Ext.drew _)
          refine wp_region_T (S := fun W : World => Hid (Ext W3 W)) 12 rfl rfl ?_
          refine takeT (i := 0) (v := ?_) rfl (by kernel_rfl) (by kernel_rfl) (by kernel_rfl) (by kernel_rfl) (by decide) (fun _ _ _ h => h) (by kernel_rfl) (Or.inl ⟨by rfl, ?_⟩) (by assumption) ?_
          rotate_left
          · (intro W9 hSw; (have k0 := (V3.out.ext hSw.out).c0; have k1 := (V3.out.ext hSw.out).c1; have k2 := (V3.out.ext hSw.out).c2; clear hSw; skip); go_simp; (try with_reducible rfl))
          try simp only [Act.put, List.setIfInBounds_toArray, List.set_cons_zero, List.set_cons_succ]
          refine takeT (i := 1) (v := ?_) rfl (by kernel_rfl) (by kernel_rfl) (by kernel_rfl) (by kernel_rfl) (by decide) (fun _ _ _ h => h) (by kernel_rfl) (Or.inl ⟨by rfl, ?_⟩) (by assumption) ?_
          rotate_left
          · (intro W9 hSw; go_simp; (try with_reducible rfl))
          try simp only [Act.put, List.setIfInBounds_toArray, List.set_cons_zero, List.set_cons_succ]
          refine takeT (i := 2) (v := ?_) rfl (by kernel_rfl) (by kernel_rfl) (by kernel_rfl) (by kernel_rfl) (by decide) (fun _ _ _ h => h) (by kernel_rfl) (Or.inl ⟨by rfl, ?_⟩) (by assumption) ?_
          rotate_left
          · (intro W9 hSw; go_simp; (try with_reducible rfl))
          try simp only [Act.put, List.setIfInBounds_toArray, List.set_cons_zero, List.set_cons_succ]
          refine takeT (i := 3) (v := ?_) rfl (by kernel_rfl) (by kernel_rfl) (by kernel_rfl) (by kernel_rfl) (by decide) (fun _ _ _ h => h) (by kernel_rfl) (Or.inl ⟨by rfl, ?_⟩) (by assumption) ?_
          rotate_left
          · (intro W9 hSw; (have k0 := (V3.out.ext hSw.out).c0; have k1 := (V3.out.ext hSw.out).c1; have k2 := (V3.out.ext hSw.out).c2; clear hSw; skip); go_simp; (try with_reducible rfl))
          try simp only [Act.put, List.setIfInBounds_toArray, List.set_cons_zero, List.set_cons_succ]
          refine takeT (i := 4) (v := ?_) rfl (by kernel_rfl) (by kernel_rfl) (by kernel_rfl) (by kernel_rfl) (by decide) (fun _ _ _ h => h) (by kernel_rfl) (Or.inl ⟨by rfl, ?_⟩) (by assumption) ?_
          rotate_left
          · (intro W9 hSw; go_simp; (try with_reducible rfl))
          try simp only [Act.put, List.setIfInBounds_toArray, List.set_cons_zero, List.set_cons_succ]
          refine takeT (i := 5) (v := ?_) rfl (by kernel_rfl) (by kernel_rfl) (by kernel_rfl) (by kernel_rfl) (by decide) (fun _ _ _ h => h) (by kernel_rfl) (Or.inl ⟨by rfl, ?_⟩) (by assumption) ?_
          rotate_left
          · (intro W9 hSw; go_simp; (try with_reducible rfl))
          try simp only [Act.put, List.setIfInBounds_toArray, List.set_cons_zero, List.set_cons_succ]
          refine takeT (i := 6) (v := ?_) rfl (by kernel_rfl) (by kernel_rfl) (by kernel_rfl) (by kernel_rfl) (by decide) (fun _ _ _ h => h) (by kernel_rfl) (Or.inl ⟨by rfl, ?_⟩) (by assumption) ?_
          rotate_left
          · (intro W9 hSw; go_simp; (try with_reducible rfl))
          try simp only [Act.put, List.setIfInBounds_toArray, List.set_cons_zero, List.set_cons_succ]
          refine takeT (i := 7) (v := ?_) rfl (by kernel_rfl) (by kernel_rfl) (by kernel_rfl) (by kernel_rfl) (by decide) (fun _ _ _ h => h) (by kernel_rfl) (Or.inl ⟨by rfl, ?_⟩) (by assumption) ?_
          rotate_left
          · (intro W9 hSw; (have k9 := (X3.out.trans hSw.out).cell C1.out); go_simp; (try with_reducible rfl))
          try simp only [Act.put, List.setIfInBounds_toArray, List.set_cons_zero, List.set_cons_succ]
          refine takeT (i := 8) (v := ?_) rfl (by kernel_rfl) (by kernel_rfl) (by kernel_rfl) (by kernel_rfl) (by decide) (fun _ _ _ h => h) (by kernel_rfl) (Or.inl ⟨by rfl, ?_⟩) (by assumption) ?_
          rotate_left
          · (intro W9 hSw; go_simp; (try with_reducible rfl))
          try simp only [Act.put, List.setIfInBounds_toArray, List.set_cons_zero, List.set_cons_succ]
          refine oneT (i := 9) rfl (by kernel_rfl) (fun K hK => ?_)
          rw [if_pos (by kernel_rfl)]
          go_wp2_with (fail)
          with_reducible refine (ref5Own W3.drew B _ cb l (HL.out.ext (X3.out.trans (Ext.drew _))) (by omega)).mono ?_
          rintro e w4 ⟨v4, rfl, ow4, x4⟩
          obtain ⟨A4, c4, rfl, bs4, lb4⟩ := own_bs5 ow4
          rw [hll] at bs4
          have hS4 : (fun W : World => Hid (Ext W3 W)) w4 := Lib.hid ((Ext.drew _).trans x4)
          have BS4 := Lib.hid bs4
          have LB4 := Lib.hid lb4
          clear ow4 x4 bs4 lb4 hS
          go_wp2_with (fail)
          refine hK.out _ _ (fun _ => hS4) ?_
          clear hK K
          try simp only [Act.put, List.setIfInBounds_toArray, List.set_cons_zero, List.set_cons_succ]
          refine oneT (i := 10) rfl (by kernel_rfl) (fun K hK => ?_)
          rw [if_pos (by kernel_rfl)]
          go_wp2_with (fail)
          refine hK.out _ _ (fun _ => hS4) ?_
          clear hK K
          try simp only [Act.put, List.setIfInBounds_toArray, List.set_cons_zero, List.set_cons_succ]
          refine oneT (i := 11) rfl (by kernel_rfl) (fun K hK => ?_)
          rw [if_pos (by kernel_rfl)]
          go_wp2_with (fail)
          have hg3 := HG.out
          have hs3 := X3.out.size
          have hs4 := hS4.out.size
          have hs5 := HP.out
          have haw : Awy g m b A4 := fun q hq => by have := LB4.out q hq; have hs6 : W3.drew.heap.size = W3.heap.size := rfl; exact ⟨by omega, by omega, by omega⟩
          with_reducible refine (ref5With w4 g m b (some ⟨k, off, none⟩) n c d (H.out.ext (X3.out.trans hS4.out)) ⟨by omega, by omega, by omega⟩ hN an false j hjn M mn mc _ A4 64 c4 l (B1.out.ext (X3.out.trans hS4.out)) BS4.out A1.out haw).mono ?_
          rintro e w5 ⟨A5, c5, rfl, x5, hR⟩
          have V15 := Lib.hid (V13.out.ext (hS4.out.trans x5))
          have V05 := Lib.hid (V3.out.ext (hS4.out.trans x5))
          have hS5 : (fun W : World => Hid (Ext W3 W)) w5 := Lib.hid (hS4.out.trans x5)
          have HR := Lib.hid hR
          have z0' := V15.out.c0
          have z1' := V15.out.c1
          have z2' := V15.out.c2
          have y0' := V15.out.fz 0
          have y1' := V15.out.fz 1
          have y2' := V15.out.fz 2
          clear x5 hR hg3 hs3 hs4 hs5 haw
          go_wp2_with (fail)
          refine hK.out _ _ (fun _ => hS5) ?_
          clear hK K
          try simp only [Act.put, List.setIfInBounds_toArray, List.set_cons_zero, List.set_cons_succ]
          refine oneT (i := 12) rfl (by kernel_rfl) (fun K hK => ?_)
          rw [if_pos (by kernel_rfl)]
          go_wp2_with (fail)
          refine hK.out _ _ (fun h => absurd (show true = false from h) (by decide)) ?_
          clear hK K
          try simp only [Act.put, List.setIfInBounds_toArray, List.set_cons_zero, List.set_cons_succ]
          refine oneT (i := 13) rfl (by kernel_rfl) (fun K hK => ?_)
          rw [if_pos (by kernel_rfl)]
          go_wp2_with (fail)
          refine hK.out _ _ (fun h => absurd (show true = false from h) (by decide)) ?_
          clear hK K
          try simp only [Act.put, List.setIfInBounds_toArray, List.set_cons_zero, List.set_cons_succ]
          refine doneT (by kernel_rfl) ?_ _
          go_wp2_with (fail)
          have xw := Ext.set3 (X3.out.trans hS5.out) (q := p + 1) (by have := HP.out; omega) (.slice A5 n c5) (.int .i64 an) (.bool false)
          have hrow : { Disks.op d with cac := d.cac.set j (some l) }.med = d.med.set j (Gm.row d.med j) := by
            show (Disks.op d).med = _
            rw [Disks.op_med, set_row_self]
          refine bodyPost_ret (v := .tuple #[.agg #[.slice A5 n c5, .int .i64 an, .bool false], .int .i64 0]) ?_ rfl ⟨A5, c5, by rw [E.out, ED.out, EOP.out]; unfold rval; simp only; rw [DN.out], xw, ?_⟩
          · have hr := (V15.out.set A5 n c5 an false).res
            rw [results_cell25 rfl]
            simp [asAddr, Result.andThen, hr]
          · rw [ED.out]
            refine (HR.out _ hrow fun q hq => ?_).same V15.out (others3 _ _ _ _ _)
            exact cbytes_set d _ rfl (by rw [OK.out.wf.len, H.out.len]; exact hjn) l q
      · have E := Lib.hid (show Disks.writeE d i l = 2 by unfold Disks.writeE; rw [ht, if_neg (by omega), if_pos (by omega)])
        have ED := Lib.hid (show Disks.writeD d i l = d by unfold Disks.writeD; rw [ht, if_neg (by omega), if_pos (by omega)])
        have n64 : ¬ (nb : Int) = 64 := by omega
        clear ht ham hdn
        go_enter Try.func28, Try.ntmps28
        go_upto_region 1 with (fail)
        rw [HW.out]
        clear hp
        go_wp2_with (fail)
        refine bodyPost_ret (v := .tuple #[.agg #[.slice A n c, .int .i64 am, .bool false], .int .i64 2]) ?_ rfl ⟨A, c, by rw [E.out, ED.out]; unfold rval; rw [ARM.out, DN.out], X0.out.set3 (by have := HP.out; omega) _ _ _, by rw [ED.out]; exact H.out.ext (X0.out.set3 (by have := HP.out; omega) _ _ _)⟩
        have hr := (V1.out.set A n c am false).res
        rw [results_cell25 rfl]
        simp [asAddr, Result.andThen, hr]
  · have ht : Disks.there d i = 15 := by unfold Disks.there; rw [if_pos hdn]
    have E := Lib.hid (show Disks.writeE d i l = 15 by unfold Disks.writeE; rw [ht, if_pos (by omega)])
    have ED := Lib.hid (show Disks.writeD d i l = d by unfold Disks.writeD; rw [ht, if_pos (by omega)])
    clear ht ham hdn
    go_enter Try.func28, Try.ntmps28
    go_upto_region 1 with (fail)
    rw [HW.out]
    clear hp
    go_wp2_with (fail)
    refine bodyPost_ret (v := .tuple #[.agg #[.slice A n c, .int .i64 am, .bool true], .int .i64 15]) ?_ rfl ⟨A, c, by rw [E.out, ED.out]; unfold rval; rw [ARM.out, DN.out], X0.out.set3 (by have := HP.out; omega) _ _ _, by rw [ED.out]; exact H.out.ext (X0.out.set3 (by have := HP.out; omega) _ _ _)⟩
    have hr := (V1.out.set A n c am true).res
    rw [results_cell25 rfl]
    simp [asAddr, Result.andThen, hr]
end Go.Proofs.Ytbfbiofndipaaaa
