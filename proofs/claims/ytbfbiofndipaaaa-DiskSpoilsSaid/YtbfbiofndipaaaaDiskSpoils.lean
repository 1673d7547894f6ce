/- DiskSpoils' walk. -/
import Derived.Test.YtbfbiofndipaaaaDiskAwake
import Derived.Test.YtbfbiofndipaaaaHold
namespace Go.Proofs.Ytbfbiofndipaaaa
open Go.ChangeShapes Go.WideShapes Go.ChangeAt Go.RowKit Go.Maps Go.Sort Go.Shelf

/-- A disk of two sectors. -/
def sp (m : List UInt8) (c : Option (List UInt8)) : Disks.D := ⟨[m, zeros64], [c, none], -1, false⟩
theorem sp_new : Disks.new 2 = sp zeros64 none := rfl
theorem sp_wE (m : List UInt8) (c : Option (List UInt8)) {l : List UInt8} (hl : l.length = 64) : Disks.writeE (sp m c) 0 l = 0 := by
  have h : Disks.there (sp m c) 0 = 0 := rfl
  unfold Disks.writeE
  rw [h, if_neg (by omega), if_neg (by omega)]
  rfl
theorem sp_wD (m : List UInt8) (c : Option (List UInt8)) {l : List UInt8} (hl : l.length = 64) : Disks.writeD (sp m c) 0 l = sp m (some l) := by
  have h : Disks.there (sp m c) 0 = 0 := rfl
  unfold Disks.writeD
  rw [h, if_neg (by omega), if_neg (by omega)]
  rfl
theorem sp_fE (m : List UInt8) (c : Option (List UInt8)) : Disks.flushE (sp m c) = 0 := rfl
theorem sp_fD (m l : List UInt8) : Disks.flushD (sp m (some l)) = sp l none := rfl
theorem sp_sE (m : List UInt8) (c : Option (List UInt8)) {k : Nat} (hk : k < 64) : Disks.spoilE (sp m c) 0 k = 0 := by
  have h : (sp m c).med.length = 2 := rfl
  unfold Disks.spoilE
  rw [h, if_neg (by omega), if_neg (by omega)]
theorem sp_sD (m : List UInt8) (c : Option (List UInt8)) {k : Nat} (hk : k < 64) (t : UInt8) : Disks.spoilD (sp m c) 0 k t = sp (Disks.turn m k t) c := by
  unfold Disks.spoilD
  rw [sp_sE m c hk, if_neg (by omega), show ((k : Int)).toNat = k by omega]
  rfl
theorem sp_rC (m l : List UInt8) (b : UInt8) : readsB (sp m (some l)) 0 b = (l == rep b) := rfl
theorem sp_rM (m : List UInt8) (b : UInt8) : readsB (sp m none) 0 b = (m == rep b) := rfl
theorem sp_cT (m l : List UInt8) : Disks.crashD (sp m (some l)) [true] = sp l none := rfl
theorem sp_cF (m l : List UInt8) : Disks.crashD (sp m (some l)) [false] = sp m none := rfl
theorem turn_rep (a t : UInt8) {k : Nat} (hk : k < 64) : Disks.turn (rep a) k t = (rep a).set k (a ^^^ t) := by
  have h : Gf.get (rep a) k = a := by unfold Gf.get rep; rw [List.getD_eq_getElem?_getD, List.getElem?_replicate, if_pos hk]; rfl
  unfold Disks.turn
  rw [h]
theorem turn_two (a t : UInt8) {k : Nat} (hk : k < 64) : Disks.turn (Disks.turn (rep a) k t) k t = rep a := by
  rw [turn_rep a t hk]
  unfold Disks.turn
  have h : Gf.get ((rep a).set k (a ^^^ t)) k = a ^^^ t := by unfold Gf.get; rw [List.getD_eq_getElem?_getD, List.getElem?_set, if_pos rfl, if_pos (by rw [rep_len]; exact hk)]; rfl
  rw [h, List.set_set, UInt8.xor_assoc, UInt8.xor_self, UInt8.xor_zero]
  apply List.ext_getElem?
  intro i
  rw [List.getElem?_set]
  by_cases e : k = i
  · rw [if_pos e, if_pos (by rw [rep_len]; omega)]
    unfold rep
    rw [List.getElem?_replicate, if_pos (by omega)]
  · rw [if_neg e]
set_option maxRecDepth 100000 in
set_option maxHeartbeats 4000000 in
theorem spoils_any (w : World) (a b at' t : UInt8) (keep : Bool) :
    Calls Try.prog 5 #[.int .u8 (a.toNat : Int), .int .u8 (b.toNat : Int), .int .u8 (at'.toNat : Int), .int .u8 (t.toNat : Int), .bool keep] w fun e w' => e = .returned (.bool true) ∧ Ext w w' := by
  obtain ⟨k, hk, hk2⟩ : ∃ k : Nat, (wrap64 (at'.toNat : Int)).tmod 64 = (k : Int) ∧ k < 64 := ⟨at'.toNat % 64, by have := at'.toNat_lt; rw [show wrap64 (at'.toNat : Int) = (at'.toNat : Int) by unfold wrap64; omega, Int.tmod_eq_emod_of_nonneg (by omega)]; rfl, Nat.mod_lt _ (by omega)⟩
  have HK := Lib.hid hk
  clear hk
  go_enter Try.func5, Try.ntmps5
  go_wp2_with (fail)
  have hc0 := (show Calls Try.prog 11 #[.int .i64 2] w _ from dsNew w 2 (by omega) (by omega))
  with_reducible refine hc0.mono ?_
  rintro e w1 ⟨gA, rfl, mA, bA, dk1, x1, gg1, mm1, bb1⟩
  have HX1 := Lib.hid x1
  have HA1 := Lib.hid (show Ds w1 gA mA bA 0 (sp zeros64 none) from dk1)
  have GA := Lib.hid (And.intro gg1 (And.intro mm1 bb1))
  clear hc0 dk1 x1 gg1 mm1 bb1
  go_wp2_with (fail)
  have hc1 := of_any5 w1 a
  with_reducible refine hc1.mono ?_
  rintro e w2 ⟨p2, rfl, o2⟩
  have OB2 := Lib.hid o2
  have HA2 := Lib.hid (HA1.out.ext o2.ext)
  have HX2 := Lib.hid (HX1.out.trans o2.ext)
  have AWA2 := Lib.hid (Awy.fresh (o := 0) HA1.out o2.le)
  clear o2 hc1
  go_wp2_with (fail)
  have hc2 := (HA2.out.write (by unfold maxLen; omega) 0 _ _ _ (rep a) (OB2.out.bs (by rw [rep_len]; omega) (rep_len _)) AWA2.out (sp_wE _ _ (rep_len a)) (sp_wD _ _ (rep_len a)))
  with_reducible refine hc2.mono ?_
  rintro e w3 ⟨rfl, dk3, q3⟩
  have HX3 := Lib.hid (HX2.out.kp q3 GA.out.1 GA.out.2.1 GA.out.2.2)
  have HA3 := Lib.hid dk3
  clear dk3 q3 hc2
  go_wp2_with (fail)
  have hc3 := (HA3.out.flush (sp_fE _ _) (sp_fD _ _))
  with_reducible refine hc3.mono ?_
  rintro e w4 ⟨rfl, dk4, q4⟩
  have HX4 := Lib.hid (HX3.out.kp q4 GA.out.1 GA.out.2.1 GA.out.2.2)
  have HA4 := Lib.hid dk4
  clear dk4 q4 hc3
  go_wp2_with (fail)
  rw [HK.out]
  have hcs := HA4.out.spoil 0 (k : Int) t (sp_sE (rep a) none hk2) (sp_sD (rep a) none hk2 t)
  with_reducible refine hcs.mono ?_
  rintro e w5 ⟨rfl, dk5, q5⟩
  have HX5 := Lib.hid (HX4.out.kp q5 GA.out.1 GA.out.2.1 GA.out.2.2)
  have HA5 := Lib.hid dk5
  clear dk5 q5 hcs
  go_wp2_with (fail)
  have hc5 := (HA5.out.spoil 0 (k : Int) t (sp_sE (Disks.turn (rep a) k t) none hk2) (sp_sD (Disks.turn (rep a) k t) none hk2 t))
  with_reducible refine hc5.mono ?_
  rintro e w6 ⟨rfl, dk6, q6⟩
  have HX6 := Lib.hid (HX5.out.kp q6 GA.out.1 GA.out.2.1 GA.out.2.2)
  have HA6 := Lib.hid dk6
  clear dk6 q6 hc5
  rw [turn_two a t hk2] at HA6
  go_wp2_with (fail)
  have hc6 := (reads_any w6 gA mA bA _ _ HA6.out (0) a ((sp_rM _ _).trans (beq_self_eq_true _)))
  with_reducible refine hc6.mono ?_
  rintro e w7 ⟨rfl, x7⟩
  have HA7 := Lib.hid (HA6.out.ext x7)
  have HX7 := Lib.hid (HX6.out.trans x7)
  clear x7 hc6
  go_wp2_with (fail)
  have hc7 := of_any5 w7 b
  with_reducible refine hc7.mono ?_
  rintro e w8 ⟨p8, rfl, o8⟩
  have OB8 := Lib.hid o8
  have HA8 := Lib.hid (HA7.out.ext o8.ext)
  have HX8 := Lib.hid (HX7.out.trans o8.ext)
  have AWA8 := Lib.hid (Awy.fresh (o := 0) HA7.out o8.le)
  clear o8 hc7
  go_wp2_with (fail)
  have hc8 := (HA8.out.write (by unfold maxLen; omega) 0 _ _ _ (rep b) (OB8.out.bs (by rw [rep_len]; omega) (rep_len _)) AWA8.out (sp_wE _ _ (rep_len b)) (sp_wD _ _ (rep_len b)))
  with_reducible refine hc8.mono ?_
  rintro e w9 ⟨rfl, dk9, q9⟩
  have HX9 := Lib.hid (HX8.out.kp q9 GA.out.1 GA.out.2.1 GA.out.2.2)
  have HA9 := Lib.hid dk9
  clear dk9 q9 hc8
  go_wp2_with (fail)
  have hc9 := (HA9.out.spoil 0 (k : Int) t (sp_sE (rep a) (some (rep b)) hk2) (sp_sD (rep a) (some (rep b)) hk2 t))
  with_reducible refine hc9.mono ?_
  rintro e w10 ⟨rfl, dk10, q10⟩
  have HX10 := Lib.hid (HX9.out.kp q10 GA.out.1 GA.out.2.1 GA.out.2.2)
  have HA10 := Lib.hid dk10
  clear dk10 q10 hc9
  go_wp2_with (fail)
  have hc10 := (reads_any w10 gA mA bA _ _ HA10.out (0) b ((sp_rC _ _ _).trans (beq_self_eq_true _)))
  with_reducible refine hc10.mono ?_
  rintro e w11 ⟨rfl, x11⟩
  have HA11 := Lib.hid (HA10.out.ext x11)
  have HX11 := Lib.hid (HX10.out.trans x11)
  clear x11 hc10
  rw [turn_rep a t hk2] at HA11
  cases keep
  · have hcr := (HA11.out.ext (Ext.alloc w11 (.cells #[.bool false] 4))).crash (some ⟨w11.heap.size, 0, none⟩) 1 1 [false] (bls_lit w11 [false] (by decide) rfl) (Awy.fresh HA11.out (Nat.le_refl _)) (sp_cF _ _)
    have HCR := Lib.hid hcr
    clear hcr
    go_wp2_with (fail)
    with_reducible refine HCR.out.mono ?_
    rintro e w12 ⟨rfl, dk12, q12⟩
    have HA12 := Lib.hid dk12
    have HX12 := Lib.hid ((HX11.out.thenAlloc _).kp q12 GA.out.1 GA.out.2.1 GA.out.2.2)
    clear dk12 q12 HCR
    go_wp2_with (fail)
    have hcr := HA12.out.readOk 0 rfl (show Disks.sec (sp ((rep a).set k (a ^^^ t)) none) (Int.toNat 0) = (rep a).set k (a ^^^ t) from rfl)
    with_reducible refine hcr.mono ?_
    rintro e w13 ⟨k9, rfl, s9⟩
    have S9 := Lib.hid s9
    have HA13 := Lib.hid (HA12.out.ext s9.ext)
    have HX13 := Lib.hid (HX12.out.trans s9.ext)
    clear s9 hcr
    go_wp2_with (fail)
    have hc13 := of_any5 w13 a
    with_reducible refine hc13.mono ?_
    rintro e w14 ⟨p14, rfl, o14⟩
    have OB14 := Lib.hid o14
    have HA14 := Lib.hid (HA13.out.ext o14.ext)
    have HX14 := Lib.hid (HX13.out.trans o14.ext)
    have AWA14 := Lib.hid (Awy.fresh (o := 0) HA13.out o14.le)
    clear o14 hc13
    have hcl := OB14.out.cell (k := k) (by rw [rep_len]; exact hk2)
    have hfz := OB14.out.fz k
    have hga : Gf.get (rep a) k = a := by unfold Gf.get rep; rw [List.getD_eq_getElem?_getD, List.getElem?_replicate, if_pos hk2]; rfl
    rw [hga] at hcl
    have hxo := xor_u8 a t
    obtain ⟨y, hy⟩ : ∃ y, a ^^^ t = y := ⟨_, rfl⟩
    rw [hy] at S9 hxo
    clear hy
    have ho9 := Lib.hid (OB14.out.set k y)
    have x9 := OB14.out
    have hsb := sameBytes5 _ _ _ _ _ _ _ _ _ (show Bs (w14.setCell ⟨p14, k, none⟩ (.int .u8 (y.toNat : Int))) (some ⟨k9, 0, none⟩) 64 64 ((rep a).set k y) from (S9.out.then (Below.setCell x9.ext x9.le _)).bs) (ho9.out.bs (by rw [List.length_set, rep_len]; omega) (by rw [List.length_set, rep_len]))
    rw [beq_self_eq_true] at hsb
    have HSB := Lib.hid hsb
    have HX9 := Lib.hid (HX13.out.trans (Below.setCell x9.ext x9.le (p := ⟨p14, k, none⟩) (.int .u8 (y.toNat : Int))))
    clear hsb x9 hga
    go_wp2_with (fail)
    with_reducible refine HSB.out.mono ?_
    rintro e w99 ⟨rfl, rfl⟩
    go_wp2_with (fail)
    have hcw := awake_any5 (w14.setCell ⟨p14, k, none⟩ (.int .u8 (y.toNat : Int)))
    with_reducible refine hcw.mono ?_
    rintro e w98 ⟨rfl, x98⟩
    go_wp2_with (fail)
    go_ret
    exact ⟨rfl, HX9.out.trans x98⟩
  · have hcr := (HA11.out.ext (Ext.alloc w11 (.cells #[.bool true] 4))).crash (some ⟨w11.heap.size, 0, none⟩) 1 1 [true] (bls_lit w11 [true] (by decide) rfl) (Awy.fresh HA11.out (Nat.le_refl _)) (sp_cT _ _)
    have HCR := Lib.hid hcr
    clear hcr
    go_wp2_with (fail)
    with_reducible refine HCR.out.mono ?_
    rintro e w12 ⟨rfl, dk12, q12⟩
    have HA12 := Lib.hid dk12
    have HX12 := Lib.hid ((HX11.out.thenAlloc _).kp q12 GA.out.1 GA.out.2.1 GA.out.2.2)
    clear dk12 q12 HCR
    go_wp2_with (fail)
    have hc12 := (reads_any w12 gA mA bA _ _ HA12.out (0) b ((sp_rM _ _).trans (beq_self_eq_true _)))
    with_reducible refine hc12.mono ?_
    rintro e w13 ⟨rfl, x13⟩
    have HA13 := Lib.hid (HA12.out.ext x13)
    have HX13 := Lib.hid (HX12.out.trans x13)
    clear x13 hc12
    go_wp2_with (fail)
    have hc13 := awake_any5 w13
    with_reducible refine hc13.mono ?_
    rintro e w14 ⟨rfl, x14⟩
    have HA14 := Lib.hid (HA13.out.ext x14)
    have HX14 := Lib.hid (HX13.out.trans x14)
    clear x14 hc13
    go_wp2_with (fail)
    go_ret
    exact ⟨rfl, HX14.out⟩
theorem diskSpoils.walk (w : World) (a0 a1 a2 a3 : Int) (b4 : Bool) (w0 : (Lit.int .u8 a0).wf = true) (w1 : (Lit.int .u8 a1).wf = true) (w2 : (Lit.int .u8 a2).wf = true) (w3 : (Lit.int .u8 a3).wf = true) :
    Calls Try.prog 5 #[.int .u8 a0, .int .u8 a1, .int .u8 a2, .int .u8 a3, .bool b4] w fun e w' => e = .returned (.bool true) ∧ Below w.heap.size w w' := by
  obtain ⟨x, rfl⟩ := wf_u8 w0
  obtain ⟨y, rfl⟩ := wf_u8 w1
  obtain ⟨z, rfl⟩ := wf_u8 w2
  obtain ⟨t, rfl⟩ := wf_u8 w3
  exact spoils_any w x y z t b4
end Go.Proofs.Ytbfbiofndipaaaa
