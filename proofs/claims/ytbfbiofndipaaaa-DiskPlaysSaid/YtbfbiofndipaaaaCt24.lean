/- Several texts in one: DiskNumbers' walk. The contract of the document's Read. -/
import Derived.Test.YtbfbiofndipaaaaCt17
import Derived.Test.YtbfbiofndipaaaaCt23
namespace Go.Proofs.Ytbfbiofndipaaaa
open Go.RowKit Go.Maps Go.Sort Go.Shelf

theorem Ds.far {w : World} {g m b N : Nat} {d : Disks.D} (h : Ds w g m b N d) {p : Addr} (h1 : p.block ≠ g) (h2 : p.block ≠ m) (h3 : p.block ≠ b) (u : Value) : Ds (w.setCell p u) g m b N d := by
  obtain ⟨n, D, hn, hd⟩ := h.ex
  exact ⟨⟨n, D, hn, hd.far h1 h2 h3 u⟩, h.ok⟩
theorem bs_nil (W : World) : Bs W none 0 0 [] := ⟨rfl, Nat.le_refl _, by omega, rfl, fun h => absurd h (Nat.lt_irrefl 0)⟩
theorem Ob.from {w0 w w' : World} {p : Nat} {l : List UInt8} (hx : Ext w0 w) (h : Ob w w' p l) : Ob w0 w' p l := ⟨hx.trans h.ext, Nat.le_trans hx.size h.le, h.blk⟩
theorem great_there : Disks.there (Disks.new 65536) 65535 = 0 := by
  have h : (Disks.new 65536).med.length = 65536 := List.length_replicate ..
  unfold Disks.there
  rw [h, if_neg (by decide), if_neg (by omega)]
theorem great_write : Disks.writeE (Disks.new 65536) 65535 (rep 5) = 0 := by
  unfold Disks.writeE
  rw [great_there, if_neg (by omega), if_neg (by rw [rep_len]; omega)]
  rfl
theorem make65 (w : World) : Bs (w.alloc (.cells (made5 65 (.int .u8 0)) 5)) (some ⟨w.heap.size, 0, none⟩) 65 65 (List.replicate 65 0) := by
  have e : made5 65 (.int .u8 0) = (bcells (List.replicate 65 0)).toArray := by
    refine Array.ext' ?_
    rw [made5_toList]
    simp [bcells]
  exact Ob.bs (w := w) ⟨Ext.alloc _ _, Nat.le_refl _, by rw [e]; exact heap_alloc_new w _⟩ (by rw [List.length_replicate]; omega) (List.length_replicate ..)
def dn0 : Disks.D := Disks.new 2
def dn1 : Disks.D := Disks.spoilD dn0 0 63 7
def dn2 : Disks.D := Disks.writeD dn1 0 (rep 3)
def dn3 : Disks.D := Disks.spoilD dn2 0 0 255
def dn4 : Disks.D := Disks.crashD dn3 []
def dn5 : Disks.D := Disks.armD dn4 (-3)
def dn6 : Disks.D := Disks.flushD dn5
def dn7 : Disks.D := Disks.armD dn6 (4)
def dn8 : Disks.D := Disks.flushD dn7
def dn9 : Disks.D := Disks.spoilD dn8 1 0 1
def dn10 : Disks.D := Disks.crashD dn9 []
def dn11 : Disks.D := Disks.flushD dn10
theorem dn_f0 : Disks.writeE dn0 (2) (rep 1) = 50 := by decide +kernel
theorem dn_f1 : Disks.writeE dn0 (-1) (rep 1) = 50 := by decide +kernel
theorem dn_f2 : Disks.writeE dn0 0 [] = 2 := by decide +kernel
theorem dn_f3 : Disks.writeE dn0 0 (List.replicate 65 0) = 2 := by decide +kernel
theorem dn_f4 : Disks.spoilE dn0 (2) (0) = 50 := by decide +kernel
theorem dn_f5 : Disks.spoilE dn0 (0) (64) = 2 := by decide +kernel
theorem dn_f6 : Disks.spoilE dn0 (0) (-1) = 2 := by decide +kernel
theorem dn_f7 : Disks.spoilE dn0 (0) (63) = 0 := by decide +kernel
theorem dn_f8 : Disks.there dn1 2 = 50 := by decide +kernel
theorem dn_f9 : Disks.writeE dn1 0 (rep 3) = 0 := by decide +kernel
theorem dn_f10 : Disks.there dn2 0 = 0 := by decide +kernel
theorem dn_f11 : Disks.spoilE dn2 0 0 = 0 := by decide +kernel
theorem dn_f12 : readsB dn3 0 3 = true := by decide +kernel
theorem dn_f13 : Disks.there dn4 0 = 0 := by decide +kernel
theorem dn_f14 : (Gf.get (Disks.sec dn4 0) 0).toNat = 255 := by decide +kernel
theorem dn_f15 : (Gf.get (Disks.sec dn4 0) 1).toNat = 0 := by decide +kernel
theorem dn_f16 : (Gf.get (Disks.sec dn4 0) 63).toNat = 7 := by decide +kernel
theorem dn_f17 : Disks.flushE dn5 = 15 := by decide +kernel
theorem dn_f18 : Disks.flushE dn7 = 15 := by decide +kernel
theorem dn_f19 : Disks.spoilE dn8 (1) (0) = 0 := by decide +kernel
theorem dn_f20 : Disks.flushE dn10 = 0 := by decide +kernel
theorem dn_f21 : Disks.there dn11 1 = 0 := by decide +kernel
theorem dn_f22 : (Gf.get (Disks.sec dn11 1) 0).toNat = 1 := by decide +kernel
set_option maxRecDepth 100000 in
set_option maxHeartbeats 8000000 in
theorem diskNumbers.walk (w : World) : Calls Try.prog 6 #[] w fun e w' => e = .returned (.bool true) ∧ Below w.heap.size w w' := by
  go_enter Try.func6, Try.ntmps6
  go_wp2_with (fail)
  have hi0 : Is (w.alloc (.cells #[.int .i64 0, .int .i64 (-1), .int .i64 65537] 3)) (some ⟨w.heap.size, 0, none⟩) 3 3 [0, -1, 65537] := by
    refine ⟨rfl, by omega, by omega, rfl, fun _ => ⟨w.heap.size, 0, rfl, fun j u hu => ?_⟩⟩
    rw [cell_of_row _ _ _ _ _ _ (heap_alloc_new w _), Nat.zero_add]
    simpa [icells] using hu
  have hx0 := Ext.alloc w (.cells #[.int .i64 0, .int .i64 (-1), .int .i64 65537] 3)
  generalize w.alloc (.cells #[.int .i64 0, .int .i64 (-1), .int .i64 65537] 3) = w0 at *
  generalize w.heap.size = h0 at *
  have HX0 := Lib.hid hx0
  have c0 := hi0.rd.2 (by omega)
  obtain ⟨z0, z1, z2, z3⟩ := c0
  injection z2 with z2
  injection z2 with z2 z4 _
  subst z2 z4
  have e0 := z3 0 (.int .i64 0) rfl
  have e1 := z3 1 (.int .i64 (-1)) rfl
  have e2 := z3 2 (.int .i64 65537) rfl
  clear z3 hi0 hx0
  go_loopw [29] (fun i wr => ∃ k : Nat, k ≤ 3 ∧ i = .int .i64 k ∧ wr = w0) (fun i _ => 3 - (intOf i).toNat)
  case atStart => exact ⟨0, by omega, rfl, rfl⟩
  case round =>
    obtain ⟨k, hk, rfl, rfl⟩ := hrel
    by_cases hlt : k < 3
    · obtain rfl | rfl | rfl : k = 0 ∨ k = 1 ∨ k = 2 := by omega
      · have hn := dkNew_no wr 0 (by omega)
        clear e1 e2
        go_wp2_with (fail)
        with_reducible refine hn.mono ?_
        rintro e wz ⟨rfl, rfl⟩
        go_wp2_with (fail)
        exact ⟨⟨1, by omega, rfl, trivial⟩, by simp [intOf]⟩
      · have hn := dkNew_no wr (-1) (by omega)
        clear e0 e2
        go_wp2_with (fail)
        with_reducible refine hn.mono ?_
        rintro e wz ⟨rfl, rfl⟩
        go_wp2_with (fail)
        exact ⟨⟨2, by omega, rfl, trivial⟩, by simp [intOf]⟩
      · have hn := dkNew_no wr 65537 (by omega)
        clear e0 e1
        go_wp2_with (fail)
        with_reducible refine hn.mono ?_
        rintro e wz ⟨rfl, rfl⟩
        go_wp2_with (fail)
        exact ⟨⟨3, by omega, rfl, trivial⟩, by simp [intOf]⟩
    · obtain rfl : k = 3 := by omega
      clear e0 e1 e2
      go_wp2_with (fail)
      have hc0 := (show Calls Try.prog 11 #[.int .i64 65536] wr _ from dsNew wr 65536 (by omega) (by omega))
      with_reducible refine hc0.mono ?_
      rintro e w1 ⟨gG, rfl, mG, bG, dk1, x1, gg1, mm1, bb1⟩
      have HX1 := Lib.hid (HX0.out.trans x1)
      have HG1 := Lib.hid (show Ds w1 gG mG bG 0 (Disks.new 65536) from dk1)
      have GG := Lib.hid (show w.heap.size ≤ gG ∧ w.heap.size ≤ mG ∧ w.heap.size ≤ bG from by have := HX0.out.size; omega)
      clear hc0 dk1 x1 gg1 mm1 bb1
      go_wp2_with (fail)
      have hc1 := (show Calls Try.prog 11 #[.int .i64 2] w1 _ from dsNew w1 2 (by omega) (by omega))
      with_reducible refine hc1.mono ?_
      rintro e w2 ⟨gB, rfl, mB, bB, dk2, x2, gg2, mm2, bb2⟩
      have HG2 := Lib.hid (HG1.out.ext x2)
      have HX2 := Lib.hid (HX1.out.trans x2)
      have HB2 := Lib.hid (show Ds w2 gB mB bB 0 (dn0) from dk2)
      have GB := Lib.hid (show w.heap.size ≤ gB ∧ w.heap.size ≤ mB ∧ w.heap.size ≤ bB from by have := HX1.out.size; omega)
      have APGB := Lib.hid (show (gG ≠ gB ∧ gG ≠ mB ∧ gG ≠ bB) ∧ (mG ≠ gB ∧ mG ≠ mB ∧ mG ≠ bB) ∧ (bG ≠ gB ∧ bG ≠ mB ∧ bG ≠ bB) from by have := HG1.out.lts; omega)
      have APBG := Lib.hid (show (gB ≠ gG ∧ gB ≠ mG ∧ gB ≠ bG) ∧ (mB ≠ gG ∧ mB ≠ mG ∧ mB ≠ bG) ∧ (bB ≠ gG ∧ bB ≠ mG ∧ bB ≠ bG) from by have := HG1.out.lts; omega)
      clear hc1 dk2 x2 gg2 mm2 bb2
      go_wp2_with (fail)
      have hc2 := (show Calls Try.prog 26 #[dptr gG] w2 fun e w' => e = .returned (.int .i64 65536) ∧ Ext w2 w' from HG2.out.size (z := 65536) (List.length_replicate ..))
      with_reducible refine hc2.mono ?_
      rintro e w3 ⟨rfl, x3⟩
      have HG3 := Lib.hid (HG2.out.ext x3)
      have HB3 := Lib.hid (HB2.out.ext x3)
      have HX3 := Lib.hid (HX2.out.trans x3)
      clear x3 hc2
      go_wp2_with (fail)
      have hc3 := (show Calls Try.prog 14 #[.int .u8 5] w3 _ from of_any5 w3 5)
      with_reducible refine hc3.mono ?_
      rintro e w4 ⟨p4, rfl, o4⟩
      have OB4 := Lib.hid o4
      have HG4 := Lib.hid (HG3.out.ext o4.ext)
      have HB4 := Lib.hid (HB3.out.ext o4.ext)
      have HX4 := Lib.hid (HX3.out.trans o4.ext)
      have AWG4 := Lib.hid (Awy.fresh (o := 0) HG3.out o4.le)
      have AWB4 := Lib.hid (Awy.fresh (o := 0) HB3.out o4.le)
      clear o4 hc3
      go_wp2_with (fail)
      have hc4 := (HG4.out.write (by unfold maxLen; omega) 65535 _ _ _ (rep 5) (OB4.out.bs (by rw [rep_len]; omega) (rep_len _)) AWG4.out great_write rfl)
      with_reducible refine hc4.mono ?_
      rintro e w5 ⟨rfl, dk5, q5⟩
      have HB5 := Lib.hid (HB4.out.kp q5 APBG.out.1 APBG.out.2.1 APBG.out.2.2)
      have HX5 := Lib.hid (HX4.out.kp q5 GG.out.1 GG.out.2.1 GG.out.2.2)
      have HG5 := Lib.hid dk5
      clear dk5 q5 hc4
      go_wp2_with (fail)
      have hc5 := (show Calls Try.prog 14 #[.int .u8 1] w5 _ from of_any5 w5 1)
      with_reducible refine hc5.mono ?_
      rintro e w6 ⟨p6, rfl, o6⟩
      have OB6 := Lib.hid o6
      have HB6 := Lib.hid (HB5.out.ext o6.ext)
      have HX6 := Lib.hid (HX5.out.trans o6.ext)
      have AWB6 := Lib.hid (Awy.fresh (o := 0) HB5.out o6.le)
      clear o6 hc5
      go_wp2_with (fail)
      have hc6 := (show Calls Try.prog 13 #[dptr gB, .int .i64 (2), .slice (some ⟨p6, 0, none⟩) 64 64] w6 _ from HB6.out.write (by unfold maxLen; omega) (2) _ _ _ (rep 1) (OB6.out.bs (by rw [rep_len]; omega) (rep_len _)) AWB6.out dn_f0 (d' := dn0) rfl)
      with_reducible refine hc6.mono ?_
      rintro e w7 ⟨rfl, dk7, q7⟩
      have HX7 := Lib.hid (HX6.out.kp q7 GB.out.1 GB.out.2.1 GB.out.2.2)
      have HB7 := Lib.hid dk7
      clear dk7 q7 hc6
      go_wp2_with (fail)
      have hc7 := (show Calls Try.prog 14 #[.int .u8 1] w7 _ from of_any5 w7 1)
      with_reducible refine hc7.mono ?_
      rintro e w8 ⟨p8, rfl, o8⟩
      have OB8 := Lib.hid o8
      have HB8 := Lib.hid (HB7.out.ext o8.ext)
      have HX8 := Lib.hid (HX7.out.trans o8.ext)
      have AWB8 := Lib.hid (Awy.fresh (o := 0) HB7.out o8.le)
      clear o8 hc7
      go_wp2_with (fail)
      have hc8 := (show Calls Try.prog 13 #[dptr gB, .int .i64 (-1), .slice (some ⟨p8, 0, none⟩) 64 64] w8 _ from HB8.out.write (by unfold maxLen; omega) (-1) _ _ _ (rep 1) (OB8.out.bs (by rw [rep_len]; omega) (rep_len _)) AWB8.out dn_f1 (d' := dn0) rfl)
      with_reducible refine hc8.mono ?_
      rintro e w9 ⟨rfl, dk9, q9⟩
      have HX9 := Lib.hid (HX8.out.kp q9 GB.out.1 GB.out.2.1 GB.out.2.2)
      have HB9 := Lib.hid dk9
      clear dk9 q9 hc8
      go_wp2_with (fail)
      have hc9 := (HB9.out.write (by unfold maxLen; omega) 0 none 0 0 [] (bs_nil _) (Awy.nil gB mB bB) dn_f2 (d' := dn0) rfl)
      with_reducible refine hc9.mono ?_
      rintro e w10 ⟨rfl, dk10, q10⟩
      have HX10 := Lib.hid (HX9.out.kp q10 GB.out.1 GB.out.2.1 GB.out.2.2)
      have HB10 := Lib.hid dk10
      clear dk10 q10 hc9
      have hm65 : ∀ W : World, (Instr.makeSlice 34 (.int .i64 65) (.int .i64 65)).run Try.prog W = .ok (.slice (some ⟨W.heap.size, 0, none⟩) 65 65) (W.alloc (.cells (made5 65 (.int .u8 0)) 5)) := fun W => run_make5 W 65 (by omega)
      go_wp2_with (fail)
      have hc10 := (HB10.out.ext (Ext.alloc w10 _)).write (by unfold maxLen; omega) 0 _ _ _ _ (make65 w10) (Awy.fresh HB10.out (Nat.le_refl _)) dn_f3 (d' := dn0) rfl
      with_reducible refine hc10.mono ?_
      rintro e w11 ⟨rfl, dk11, q11⟩
      have HX11 := Lib.hid ((HX10.out.thenAlloc _).kp q11 GB.out.1 GB.out.2.1 GB.out.2.2)
      have HB11 := Lib.hid dk11
      clear dk11 q11 hc10 hm65
      go_wp2_with (fail)
      have hc11 := (show Calls Try.prog 23 #[dptr gB, .int .i64 (2), .int .i64 (0), .int .u8 1] w11 _ from HB11.out.spoil (2) (0) 1 dn_f4 (d' := dn0) rfl)
      with_reducible refine hc11.mono ?_
      rintro e w12 ⟨rfl, dk12, q12⟩
      have HX12 := Lib.hid (HX11.out.kp q12 GB.out.1 GB.out.2.1 GB.out.2.2)
      have HB12 := Lib.hid dk12
      clear dk12 q12 hc11
      go_wp2_with (fail)
      have hc12 := (show Calls Try.prog 23 #[dptr gB, .int .i64 (0), .int .i64 (64), .int .u8 1] w12 _ from HB12.out.spoil (0) (64) 1 dn_f5 (d' := dn0) rfl)
      with_reducible refine hc12.mono ?_
      rintro e w13 ⟨rfl, dk13, q13⟩
      have HX13 := Lib.hid (HX12.out.kp q13 GB.out.1 GB.out.2.1 GB.out.2.2)
      have HB13 := Lib.hid dk13
      clear dk13 q13 hc12
      go_wp2_with (fail)
      have hc13 := (show Calls Try.prog 23 #[dptr gB, .int .i64 (0), .int .i64 (-1), .int .u8 1] w13 _ from HB13.out.spoil (0) (-1) 1 dn_f6 (d' := dn0) rfl)
      with_reducible refine hc13.mono ?_
      rintro e w14 ⟨rfl, dk14, q14⟩
      have HX14 := Lib.hid (HX13.out.kp q14 GB.out.1 GB.out.2.1 GB.out.2.2)
      have HB14 := Lib.hid dk14
      clear dk14 q14 hc13
      go_wp2_with (fail)
      have hc14 := (show Calls Try.prog 23 #[dptr gB, .int .i64 (0), .int .i64 (63), .int .u8 7] w14 _ from HB14.out.spoil (0) (63) 7 dn_f7 (d' := dn1) rfl)
      with_reducible refine hc14.mono ?_
      rintro e w15 ⟨rfl, dk15, q15⟩
      have HX15 := Lib.hid (HX14.out.kp q15 GB.out.1 GB.out.2.1 GB.out.2.2)
      have HB15 := Lib.hid dk15
      clear dk15 q15 hc14
      go_wp2_with (fail)
      have hc15 := (HB15.out.readNo 2 dn_f8 (by decide))
      with_reducible refine hc15.mono ?_
      rintro e w16 ⟨rfl, x16⟩
      have HB16 := Lib.hid (HB15.out.ext x16)
      have HX16 := Lib.hid (HX15.out.trans x16)
      clear x16 hc15
      go_wp2_with (fail)
      have hc16 := (show Calls Try.prog 14 #[.int .u8 3] w16 _ from of_any5 w16 3)
      with_reducible refine hc16.mono ?_
      rintro e w17 ⟨p17, rfl, o17⟩
      have OB17 := Lib.hid o17
      have HB17 := Lib.hid (HB16.out.ext o17.ext)
      have HX17 := Lib.hid (HX16.out.trans o17.ext)
      have AWB17 := Lib.hid (Awy.fresh (o := 0) HB16.out o17.le)
      clear o17 hc16
      have IN17 := Lib.hid (Ob.from HX16.out OB17.out)
      go_wp2_with (fail)
      have hc17 := (HB17.out.write (by unfold maxLen; omega) 0 _ _ _ (rep 3) (OB17.out.bs (by rw [rep_len]; omega) (rep_len _)) AWB17.out dn_f9 (d' := dn2) rfl)
      with_reducible refine hc17.mono ?_
      rintro e w18 ⟨rfl, dk18, q18⟩
      have HX18 := Lib.hid (HX17.out.kp q18 GB.out.1 GB.out.2.1 GB.out.2.2)
      have IN18 := Lib.hid (IN17.out.kp q18 GB.out.1 GB.out.2.1 GB.out.2.2 (AWB17.out _ rfl).1 (AWB17.out _ rfl).2.1 (AWB17.out _ rfl).2.2)
      have HB18 := Lib.hid dk18
      clear dk18 q18 hc17
      have s1 := IN18.out.cell (k := 0) (by rw [rep_len]; omega)
      have s2 := IN18.out.fz 0
      have dB := Lib.hid (HB18.out.far (p := ⟨p17, 0, none⟩) (AWB17.out _ rfl).1 (AWB17.out _ rfl).2.1 (AWB17.out _ rfl).2.2 (.int .u8 9))
      have xB := Lib.hid (show Ext w _ from Below.setCell HX18.out IN18.out.le (p := ⟨p17, 0, none⟩) (.int .u8 9))
      go_wp2_with (fail)
      have hc := dB.out.readOk 0 dn_f10 rfl
      with_reducible refine hc.mono ?_
      rintro e w19 ⟨ko, rfl, so⟩
      have LO := Lib.hid (show ko ≠ gB ∧ ko ≠ mB ∧ ko ≠ bB from by have := dB.out.lts; have := so.le; omega)
      have HB19 := Lib.hid (dB.out.ext so.ext)
      have HX19 := Lib.hid (xB.out.trans so.ext)
      have LE := Lib.hid (Nat.le_trans xB.out.size so.le)
      have t1 := so.range 0 _ (dk_bcells_get (l := Disks.sec dn2 0) (k := 0) (by rw [show (Disks.sec dn2 0).length = 64 from so.len]; decide))
      have t2 := (so.ok 0 (by decide)).2
      clear so hc s1 s2
      have dB2 := Lib.hid (HB19.out.far (p := ⟨ko, 0, none⟩) LO.out.1 LO.out.2.1 LO.out.2.2 (.int .u8 9))
      have xB2 := Lib.hid (show Ext w _ from Below.setCell HX19.out LE.out (p := ⟨ko, 0, none⟩) (.int .u8 9))
      go_wp2_with (fail)
      have hc := (show Calls Try.prog 23 #[dptr gB, .int .i64 0, .int .i64 0, .int .u8 255] (w19.setCell ⟨ko, 0, none⟩ (.int .u8 9)) _ from dB2.out.spoil 0 0 255 dn_f11 (d' := dn3) rfl)
      with_reducible refine hc.mono ?_
      rintro e w20 ⟨rfl, dk, q⟩
      have HB20 := Lib.hid dk
      have HX20 := Lib.hid (xB2.out.kp q GB.out.1 GB.out.2.1 GB.out.2.2)
      clear dk q hc t1 t2
      go_wp2_with (fail)
      have hc20 := (show Calls Try.prog 18 #[dptr gB, .int .i64 (0), .int .u8 3] w20 _ from reads_any w20 gB mB bB _ _ HB20.out (0) 3 (dn_f12))
      with_reducible refine hc20.mono ?_
      rintro e w21 ⟨rfl, x21⟩
      have HB21 := Lib.hid (HB20.out.ext x21)
      have HX21 := Lib.hid (HX20.out.trans x21)
      clear x21 hc20
      go_wp2_with (fail)
      have hc21 := (HB21.out.crash none 0 0 [] (bls_none _) (Awy.nil gB mB bB) (d' := dn4) rfl)
      with_reducible refine hc21.mono ?_
      rintro e w22 ⟨rfl, dk22, q22⟩
      have HX22 := Lib.hid (HX21.out.kp q22 GB.out.1 GB.out.2.1 GB.out.2.2)
      have HB22 := Lib.hid dk22
      clear dk22 q22 hc21
      go_wp2_with (fail)
      have hc := HB22.out.readOk 0 dn_f13 rfl
      with_reducible refine hc.mono ?_
      rintro e w23 ⟨k9, rfl, s9⟩
      have t0 := s9.range 0 _ (dk_bcells_get (l := Disks.sec dn4 0) (k := 0) (by rw [show (Disks.sec dn4 0).length = 64 from s9.len]; decide))
      rw [dn_f14] at t0
      have t1 := s9.range 1 _ (dk_bcells_get (l := Disks.sec dn4 0) (k := 1) (by rw [show (Disks.sec dn4 0).length = 64 from s9.len]; decide))
      rw [dn_f15] at t1
      have t63 := s9.range 63 _ (dk_bcells_get (l := Disks.sec dn4 0) (k := 63) (by rw [show (Disks.sec dn4 0).length = 64 from s9.len]; decide))
      rw [dn_f16] at t63
      have S9 := Lib.hid s9
      have HB23 := Lib.hid (HB22.out.ext s9.ext)
      have HX23 := Lib.hid (HX22.out.trans s9.ext)
      clear s9 hc
      go_wp2_with (fail)
      have hc23 := (HB23.out.arm (-3) (by decide) (d' := dn5) rfl)
      with_reducible refine hc23.mono ?_
      rintro e w24 ⟨rfl, dk24, q24⟩
      have HX24 := Lib.hid (HX23.out.kp q24 GB.out.1 GB.out.2.1 GB.out.2.2)
      have HB24 := Lib.hid dk24
      clear dk24 q24 hc23
      clear t0 t1 t63 S9
      go_wp2_with (fail)
      have hc24 := (HB24.out.flush dn_f17 (d' := dn6) rfl)
      with_reducible refine hc24.mono ?_
      rintro e w25 ⟨rfl, dk25, q25⟩
      have HX25 := Lib.hid (HX24.out.kp q25 GB.out.1 GB.out.2.1 GB.out.2.2)
      have HB25 := Lib.hid dk25
      clear dk25 q25 hc24
      go_wp2_with (fail)
      have hc25 := (HB25.out.arm (4) (by decide) (d' := dn7) rfl)
      with_reducible refine hc25.mono ?_
      rintro e w26 ⟨rfl, dk26, q26⟩
      have HX26 := Lib.hid (HX25.out.kp q26 GB.out.1 GB.out.2.1 GB.out.2.2)
      have HB26 := Lib.hid dk26
      clear dk26 q26 hc25
      go_wp2_with (fail)
      have hc26 := (HB26.out.flush dn_f18 (d' := dn8) rfl)
      with_reducible refine hc26.mono ?_
      rintro e w27 ⟨rfl, dk27, q27⟩
      have HX27 := Lib.hid (HX26.out.kp q27 GB.out.1 GB.out.2.1 GB.out.2.2)
      have HB27 := Lib.hid dk27
      clear dk27 q27 hc26
      go_wp2_with (fail)
      have hc27 := (show Calls Try.prog 23 #[dptr gB, .int .i64 (1), .int .i64 (0), .int .u8 1] w27 _ from HB27.out.spoil (1) (0) 1 dn_f19 (d' := dn9) rfl)
      with_reducible refine hc27.mono ?_
      rintro e w28 ⟨rfl, dk28, q28⟩
      have HX28 := Lib.hid (HX27.out.kp q28 GB.out.1 GB.out.2.1 GB.out.2.2)
      have HB28 := Lib.hid dk28
      clear dk28 q28 hc27
      go_wp2_with (fail)
      have hc28 := (HB28.out.crash none 0 0 [] (bls_none _) (Awy.nil gB mB bB) (d' := dn10) rfl)
      with_reducible refine hc28.mono ?_
      rintro e w29 ⟨rfl, dk29, q29⟩
      have HX29 := Lib.hid (HX28.out.kp q29 GB.out.1 GB.out.2.1 GB.out.2.2)
      have HB29 := Lib.hid dk29
      clear dk29 q29 hc28
      go_wp2_with (fail)
      have hc29 := (HB29.out.flush dn_f20 (d' := dn11) rfl)
      with_reducible refine hc29.mono ?_
      rintro e w30 ⟨rfl, dk30, q30⟩
      have HX30 := Lib.hid (HX29.out.kp q30 GB.out.1 GB.out.2.1 GB.out.2.2)
      have HB30 := Lib.hid dk30
      clear dk30 q30 hc29
      go_wp2_with (fail)
      have hc := HB30.out.readOk 1 dn_f21 rfl
      with_reducible refine hc.mono ?_
      rintro e w31 ⟨k9, rfl, s9⟩
      have t0 := s9.range 0 _ (dk_bcells_get (l := Disks.sec dn11 1) (k := 0) (by rw [show (Disks.sec dn11 1).length = 64 from s9.len]; decide))
      rw [dn_f22] at t0
      have S9 := Lib.hid s9
      have HB31 := Lib.hid (HB30.out.ext s9.ext)
      have HX31 := Lib.hid (HX30.out.trans s9.ext)
      clear s9 hc
      go_wp2_with (fail)
      have hc31 := awake_any5 w31
      with_reducible refine hc31.mono ?_
      rintro e w32 ⟨rfl, x32⟩
      have HB32 := Lib.hid (HB31.out.ext x32)
      have HX32 := Lib.hid (HX31.out.trans x32)
      clear x32 hc31
      go_wp2_with (fail)
      go_ret
      exact ⟨rfl, HX32.out⟩
end Go.Proofs.Ytbfbiofndipaaaa
namespace Go.Proofs.Ytbfbiofndipaaaa
open Go.ChangeShapes Go.WideShapes Go.ChangeAt Go.RowKit Go.Maps Go.Sort Go.Shelf

theorem sec_none (d : Disks.D) {i : Nat} (hf : Disks.Wf d) (h : cbytes d i = []) : Disks.cget d.cac i = none ∧ Disks.sec d i = Gm.row d.med i := by
  unfold cbytes at h
  cases hc : Disks.cget d.cac i with
  | none => exact ⟨rfl, by unfold Disks.sec; rw [hc]; rfl⟩
  | some s =>
    rw [hc] at h
    have := hf.cac i s hc
    have h : s = [] := h
    rw [h] at this
    exact absurd this (by decide)
theorem sec_some (d : Disks.D) {i : Nat} (h : cbytes d i ≠ []) : Disks.cget d.cac i = some (cbytes d i) ∧ Disks.sec d i = cbytes d i := by
  unfold cbytes at h ⊢
  cases hc : Disks.cget d.cac i with
  | none => rw [hc] at h; exact absurd rfl h
  | some s => exact ⟨rfl, by unfold Disks.sec; rw [hc]; rfl⟩
set_option maxRecDepth 100000 in
set_option maxHeartbeats 2000000 in
theorem ref5Read (w : World) (g m b : Nat) (A : Option Addr) (n c : Nat) (d : Disks.D) (h : Rf w g m b A n c d) (hok : Disks.Ok d) (i : Int) :
    Calls Try.prog 30 #[rval A n c d, .int .i64 i] w fun e w' => ∃ B nb cb, e = .returned (.tuple #[.slice B nb cb, .int .i64 (Disks.there d i)]) ∧ Bs w' B nb cb (Disks.readB d i) ∧ Ext w w' := by
  obtain ⟨p, hp⟩ : ∃ p, w.heap.size = p := ⟨_, rfl⟩
  obtain ⟨am, ham⟩ : ∃ am, d.arm = am := ⟨_, rfl⟩
  obtain ⟨dn, hdn⟩ : ∃ dn, d.down = dn := ⟨_, rfl⟩
  have v0 := Vd.new w A n c am dn
  have x0 := Ext.alloc w (.cells #[.slice A n c, .int .i64 am, .bool dn] 54)
  rw [hp] at v0
  obtain ⟨W, hW⟩ : ∃ W, w.alloc (.cells #[.slice A n c, .int .i64 am, .bool dn] 54) = W := ⟨_, rfl⟩
  rw [hW] at v0 x0
  have HW := Lib.hid hW
  have V0 := Lib.hid v0
  have X0 := Lib.hid x0
  have HP := Lib.hid (show w.heap.size ≤ p from by omega)
  have k0 := v0.c0
  have k1 := v0.c1
  have k2 := v0.c2
  have hle := h.le
  have hmx := h.max
  have hln := h.len
  have H := Lib.hid h
  have ARM := Lib.hid ham
  have DN := Lib.hid hdn
  clear v0 x0 hW
  have OK := Lib.hid hok
  clear h hok
  unfold rval
  rw [ham, hdn]
  cases dn
  · by_cases hi : i < 0 ∨ (n : Int) ≤ i
    · have ht : Disks.there d i = 50 := by unfold Disks.there; rw [if_neg (by rw [hdn]; decide), if_pos (by omega)]
      have E := Lib.hid (show Disks.readB d i = [] by unfold Disks.readB; rw [ht, if_pos (by omega)])
      rw [ht]
      clear ht ham hdn
      rcases hi with hi | hi
      · go_enter Try.func30, Try.ntmps30
        go_upto_region 1 with (fail)
        rw [HW.out]
        clear hp
        go_wp2_with (fail)
        refine bodyPost_ret (results_tmp2 rfl _ _ _) rfl ?_
        exact ⟨_, _, _, rfl, by rw [E.out]; exact bs_nil _, X0.out⟩
      · have hi0 : ¬ i < 0 := by omega
        go_enter Try.func30, Try.ntmps30
        go_upto_region 1 with (fail)
        rw [HW.out]
        clear hp
        go_wp2_with (fail)
        refine bodyPost_ret (results_tmp2 rfl _ _ _) rfl ?_
        exact ⟨_, _, _, rfl, by rw [E.out]; exact bs_nil _, X0.out⟩
    · have hi0 : ¬ i < 0 := by omega
      have hi1 : ¬ (n : Int) ≤ i := by omega
      have ht : Disks.there d i = 0 := by unfold Disks.there; rw [if_neg (by rw [hdn]; decide), if_neg (by omega)]
      clear hi
      obtain ⟨j, rfl⟩ : ∃ j : Nat, i = (j : Int) := ⟨i.toNat, by omega⟩
      have hjn : j < n := by omega
      have hj1 : (j : Int) < n := by omega
      have E := Lib.hid (show Disks.readB d (j : Int) = Disks.sec d j by unfold Disks.readB; rw [ht, if_neg (by omega), Int.toNat_natCast])
      obtain ⟨k, off, M, mn, mc, C, cn, cc, rfl, c1, c2, b1, b2, _, _⟩ := H.out.at_ j hjn
      have e1 := X0.out.cell c1
      have e2 := X0.out.cell c2
      have B1 := Lib.hid (b1.ext X0.out)
      have B2 := Lib.hid (b2.ext X0.out)
      have m1 := b1.max
      have m2 := b2.max
      have l1 := b1.le
      have l2 := b2.le
      have L2 := b2.len
      rw [ht]
      clear ht ham hdn c1 c2 b1 b2
      by_cases hc : cbytes d j = []
      · have S := Lib.hid (sec_none d OK.out.wf hc)
        obtain rfl : cn = 0 := by rw [hc] at L2; exact L2.symm
        clear hc L2
        go_enter Try.func30, Try.ntmps30
        go_upto_region 1 with (fail)
        rw [HW.out]
        clear hp
        go_wp2_with (fail)
        refine bodyPost_ret (results_tmp2 rfl _ _ _) rfl ?_
        exact ⟨_, _, _, rfl, by rw [E.out, S.out.2]; exact B1.out, X0.out⟩
      · have S := Lib.hid (sec_some d hc)
        have hcn : (0 : Int) < cn := by
          have : cbytes d j ≠ [] := hc
          have := List.length_pos_iff.2 this
          omega
        clear hc L2
        go_enter Try.func30, Try.ntmps30
        go_upto_region 1 with (fail)
        rw [HW.out]
        clear hp
        go_wp2_with (fail)
        refine bodyPost_ret (results_tmp2 rfl _ _ _) rfl ?_
        exact ⟨_, _, _, rfl, by rw [E.out, S.out.2]; exact B2.out, X0.out⟩
  · have ht : Disks.there d i = 15 := by unfold Disks.there; rw [if_pos hdn]
    have E := Lib.hid (show Disks.readB d i = [] by unfold Disks.readB; rw [ht, if_pos (by omega)])
    rw [ht]
    clear ht ham hdn
    go_enter Try.func30, Try.ntmps30
    go_upto_region 1 with (fail)
    rw [HW.out]
    clear hp
    go_wp2_with (fail)
    refine bodyPost_ret (results_tmp2 rfl _ _ _) rfl ?_
    exact ⟨_, _, _, rfl, by rw [E.out]; exact bs_nil _, X0.out⟩
end Go.Proofs.Ytbfbiofndipaaaa
