/- Several texts in one: The contract of the laws' same, of two disks that read alike. DiskRefused's walk. -/
import Derived.Test.YtbfbiofndipaaaaCt17
import Derived.Test.YtbfbiofndipaaaaCt18
import Derived.Test.YtbfbiofndipaaaaCt2
namespace Disks
/-- What is read of both is the same. -/
structure Alike (d e : D) : Prop where
  len : d.med.length = e.med.length
  at_ : ∀ i : Nat, i < d.med.length → there d i = there e i ∧ (there d i = 0 → sec d i = sec e i)
theorem Alike.refl (d : D) : Alike d d := ⟨rfl, fun _ _ => ⟨rfl, fun _ => rfl⟩⟩
end Disks
namespace Go.Proofs.Ytbfbiofndipaaaa
open Go.RowKit Go.Maps Go.Sort Go.Shelf

set_option maxRecDepth 100000 in
set_option maxHeartbeats 2000000 in
theorem same_any5 (w : World) (g m b N : Nat) (d : Disks.D) (h : Ds w g m b N d) (g' m' b' N' : Nat) (d' : Disks.D) (h' : Ds w g' m' b' N' d') (hs : Disks.Alike d d') :
    Calls Try.prog 35 #[dptr g, dptr g'] w fun e w' => e = .returned (.bool true) ∧ Ext w w' := by
  have hM := h.ok.wf.max
  obtain ⟨n, hn⟩ : ∃ n, d.med.length = n := ⟨_, rfl⟩
  have hn' : d'.med.length = n := hs.len.symm.trans hn
  rw [hn] at hM
  have HS := Lib.hid hs
  have HN := Lib.hid hn
  have HN' := Lib.hid hn'
  have H := Lib.hid h
  have H' := Lib.hid h'
  clear h h' hs hn hn'
  go_enter Try.func35, Try.ntmps35
  go_wp2_with (fail)
  go_loopw [5] (fun i wr => ∃ k : Nat, k ≤ n ∧ i = .int .i64 k ∧ Hid (Ext w wr)) (fun i _ => n - (intOf i).toNat)
  case atStart => exact ⟨0, by omega, rfl, Lib.hid (Ext.refl w)⟩
  case round =>
    obtain ⟨k, hk, rfl, HX⟩ := hrel
    have hc := (H.out.ext HX.out).size HN.out
    go_wp2_with (fail)
    with_reducible refine hc.mono ?_
    rintro e w1 ⟨rfl, x1⟩
    have X1 := Lib.hid (HX.out.trans x1)
    clear x1 hc
    by_cases hlt : k < n
    · have i1 : (k : Int) < n := by omega
      have ha := HS.out.at_ k (by rw [HN.out]; exact hlt)
      by_cases h0 : Disks.there d k = 0
      · have hr := (H.out.ext X1.out).readOk k h0 rfl
        have h0' : Disks.there d' k = 0 := ha.1.symm.trans h0
        have es := ha.2 h0
        rw [show ((k : Int)).toNat = k by omega] at hr
        obtain ⟨s, hse⟩ : ∃ s, Disks.sec d k = s := ⟨_, rfl⟩
        rw [hse] at hr es
        have H0 := Lib.hid h0'
        have ES := Lib.hid es.symm
        clear ha h0 h0' es hse
        go_wp2_with (fail)
        with_reducible refine hr.mono ?_
        rintro e w2 ⟨p, rfl, s2⟩
        have S2 := Lib.hid s2
        have X2 := Lib.hid (X1.out.trans s2.ext)
        clear s2 hr
        have hr := (H'.out.ext X2.out).readOk k H0.out (show Disks.sec d' ((k : Int)).toNat = s by rw [show ((k : Int)).toNat = k by omega]; exact ES.out)
        go_wp2_with (fail)
        with_reducible refine hr.mono ?_
        rintro e w3 ⟨p', rfl, s3⟩
        have hsb := sameBytes5 w3 _ _ _ _ _ _ _ _ (S2.out.then s3.ext).bs s3.bs
        rw [beq_self_eq_true] at hsb
        have X3 := Lib.hid (X2.out.trans s3.ext)
        have HSB := Lib.hid hsb
        clear s3 hr hsb
        go_wp2_with (fail)
        with_reducible refine HSB.out.mono ?_
        rintro e w4 ⟨rfl, rfl⟩
        go_wp2_with (fail)
        exact ⟨⟨k + 1, by omega, by go_num, X3⟩, by simp [intOf]; omega⟩
      · have hr := (H.out.ext X1.out).readNo k rfl h0
        obtain ⟨t, ht⟩ : ∃ t, Disks.there d k = t := ⟨_, rfl⟩
        rw [ht] at hr h0
        have H0 := Lib.hid (ha.1.symm.trans ht)
        have H1 := Lib.hid h0
        clear ha ht h0
        go_wp2_with (fail)
        with_reducible refine hr.mono ?_
        rintro e w2 ⟨rfl, x2⟩
        have X2 := Lib.hid (X1.out.trans x2)
        clear x2 hr
        have hr := (H'.out.ext X2.out).readNo k H0.out H1.out
        go_wp2_with (fail)
        with_reducible refine hr.mono ?_
        rintro e w3 ⟨rfl, x3⟩
        have X3 := Lib.hid (X2.out.trans x3)
        clear x3 hr
        have hsb := sameBytes5 w3 none none 0 0 0 0 [] [] ⟨rfl, Nat.le_refl _, by omega, rfl, fun h => absurd h (Nat.lt_irrefl 0)⟩ ⟨rfl, Nat.le_refl _, by omega, rfl, fun h => absurd h (Nat.lt_irrefl 0)⟩
        rw [beq_self_eq_true] at hsb
        have HSB := Lib.hid hsb
        clear hsb
        go_wp2_with (fail)
        with_reducible refine HSB.out.mono ?_
        rintro e w4 ⟨rfl, rfl⟩
        go_wp2_with (fail)
        exact ⟨⟨k + 1, by omega, by go_num, X3⟩, by simp [intOf]; omega⟩
    · have ek : k = n := by omega
      subst ek
      have hc := (H.out.ext X1.out).size HN.out
      go_wp2_with (fail)
      with_reducible refine hc.mono ?_
      rintro e w2 ⟨rfl, x2⟩
      have X2 := Lib.hid (X1.out.trans x2)
      clear x2 hc
      have hc := (H'.out.ext X2.out).size HN'.out
      go_wp2_with (fail)
      with_reducible refine hc.mono ?_
      rintro e w3 ⟨rfl, x3⟩
      go_wp2_with (fail)
      go_ret
      exact ⟨rfl, X2.out.trans x3⟩
end Go.Proofs.Ytbfbiofndipaaaa
namespace Disks
theorem len_write (d : D) (i : Int) (l : List UInt8) : (writeD d i l).med.length = d.med.length := by
  unfold writeD
  split
  · rfl
  · split
    · rfl
    · split
      · rw [op_med]
      · show (op d).med.length = _; rw [op_med]
theorem len_flush (d : D) : (flushD d).med.length = d.med.length := by
  unfold flushD
  split
  · rfl
  · split
    · rw [op_med]
    · exact len_merged d
theorem len_spoil (d : D) (i k : Int) (t : UInt8) : (spoilD d i k t).med.length = d.med.length := by
  unfold spoilD
  split
  · rfl
  · exact List.length_set
theorem len_arm (d : D) (n : Int) : (armD d n).med.length = d.med.length := by unfold armD; split <;> rfl
theorem len_crash (d : D) (k : List Bool) : (crashD d k).med.length = d.med.length := by show ((List.range _).map _).length = _; simp
/-- What is refused. -/
def noE (d : D) (e : Int) : Int := if d.down then 15 else e
theorem out_there {d : D} {i : Int} (h : i < 0 ∨ (d.med.length : Int) ≤ i) : there d i = noE d 50 := by
  unfold there noE
  by_cases hd : d.down = true
  · rw [if_pos hd, if_pos hd]
  · rw [if_neg hd, if_neg hd, if_pos h]
theorem noE_ne (d : D) {e : Int} (h : e ≠ 0) : noE d e ≠ 0 := by unfold noE; split <;> omega
theorem outE (d : D) {i : Int} (h : i < 0 ∨ (d.med.length : Int) ≤ i) (l : List UInt8) : writeE d i l = noE d 50 := by unfold writeE; rw [out_there h, if_pos (noE_ne d (by omega))]
theorem outD (d : D) {i : Int} (h : i < 0 ∨ (d.med.length : Int) ≤ i) (l : List UInt8) : writeD d i l = d := by unfold writeD; rw [out_there h, if_pos (noE_ne d (by omega))]
theorem in_there {d : D} {i : Int} (h : 0 ≤ i ∧ i < d.med.length) : there d i = noE d 0 := by
  unfold there noE
  by_cases hd : d.down = true
  · rw [if_pos hd, if_pos hd]
  · rw [if_neg hd, if_neg hd, if_neg (by omega)]
theorem fewE (d : D) {i : Int} (h : 0 ≤ i ∧ i < d.med.length) {l : List UInt8} (hl : l.length ≠ 64) : writeE d i l = noE d 2 := by
  unfold writeE
  rw [in_there h]
  unfold noE
  by_cases hd : d.down = true
  · rw [if_pos hd, if_pos hd, if_pos (by omega)]
  · rw [if_neg hd, if_neg hd, if_neg (by omega), if_pos hl]
theorem fewD (d : D) (i : Int) {l : List UInt8} (hl : l.length ≠ 64) : writeD d i l = d := by
  unfold writeD
  by_cases hd : there d i ≠ 0
  · rw [if_pos hd]
  · rw [if_neg hd, if_pos hl]
end Disks
namespace Go.Proofs.Ytbfbiofndipaaaa
open Go.ChangeShapes Go.WideShapes Go.ChangeAt Go.RowKit Go.Maps Go.Sort Go.Shelf

theorem len_does (d : Disks.D) (o : Op05) : (doesD d o).med.length = d.med.length := by
  unfold doesD
  split
  · exact Disks.len_write _ _ _
  · split
    · exact Disks.len_flush _
    · split
      · exact Disks.len_spoil _ _ _ _
      · split
        · exact Disks.len_arm _ _
        · split
          · exact Disks.len_crash _ _
          · rfl
theorem bs_one (W : World) (x : UInt8) : Bs (W.alloc (.cells #[.int .u8 (x.toNat : Int)] 5)) (some ⟨W.heap.size, 0, none⟩) 1 1 [x] :=
  Ob.bs (show Ob W (W.alloc (.cells #[.int .u8 (x.toNat : Int)] 5)) W.heap.size [x] from ⟨Ext.alloc _ _, Nat.le_refl _, heap_alloc_new W _⟩) (by show 1 < _; omega) rfl
set_option maxRecDepth 100000 in
set_option maxHeartbeats 8000000 in
theorem refused_any (w : World) (ar : UInt8) (A : Option Addr) (n c : Nat) (o : Nat → Op05) (ho : Os05 w A n c o) :
    Calls Try.prog 10 #[.int .u8 (ar.toNat : Int), .slice A n c] w fun e w' => e = .returned (.bool true) ∧ Ext w w' := by
  have q1 := ho.le
  have q2 := ho.max
  have OS := Lib.hid ho
  clear ho
  obtain ⟨K, hK, hK2⟩ : ∃ K : Int, (ar.toNat : Int) % 31 = K ∧ K < 2 ^ 63 := ⟨_, rfl, by omega⟩
  have HK := Lib.hid hK
  clear hK
  go_enter Try.func10, Try.ntmps10
  go_wp2_with (fail)
  have hc0 := (show Calls Try.prog 11 #[.int .i64 8] w _ from dsNew w 8 (by omega) (by omega))
  with_reducible refine hc0.mono ?_
  rintro e w1 ⟨gA, rfl, mA, bA, dk1, x1, gg1, mm1, bb1⟩
  have HX1 := Lib.hid x1
  have HA1 := Lib.hid (show Ds w1 gA mA bA 0 (Disks.new 8) from dk1)
  have GA := Lib.hid (And.intro gg1 (And.intro mm1 bb1))
  clear hc0 dk1 x1 gg1 mm1 bb1
  go_wp2_with (fail)
  have hc1 := (show Calls Try.prog 11 #[.int .i64 8] w1 _ from dsNew w1 8 (by omega) (by omega))
  with_reducible refine hc1.mono ?_
  rintro e w2 ⟨gB, rfl, mB, bB, dk2, x2, gg2, mm2, bb2⟩
  have HA2 := Lib.hid (HA1.out.ext x2)
  have HX2 := Lib.hid (HX1.out.trans x2)
  have HB2 := Lib.hid (show Ds w2 gB mB bB 0 (Disks.new 8) from dk2)
  have GB := Lib.hid (show w.heap.size ≤ gB ∧ w.heap.size ≤ mB ∧ w.heap.size ≤ bB from by have := HX1.out.size; omega)
  have APAB := Lib.hid (show (gA ≠ gB ∧ gA ≠ mB ∧ gA ≠ bB) ∧ (mA ≠ gB ∧ mA ≠ mB ∧ mA ≠ bB) ∧ (bA ≠ gB ∧ bA ≠ mB ∧ bA ≠ bB) from by have := HA1.out.lts; omega)
  have APBA := Lib.hid (show (gB ≠ gA ∧ gB ≠ mA ∧ gB ≠ bA) ∧ (mB ≠ gA ∧ mB ≠ mA ∧ mB ≠ bA) ∧ (bB ≠ gA ∧ bB ≠ mA ∧ bB ≠ bA) from by have := HA1.out.lts; omega)
  clear hc1 dk2 x2 gg2 mm2 bb2
  go_wp2_with (fail)
  rw [HK.out]
  have hc2 := HA2.out.arm K hK2 rfl
  with_reducible refine hc2.mono ?_
  rintro e w3 ⟨rfl, dk3, q3⟩
  have HB3 := Lib.hid (HB2.out.kp q3 APBA.out.1 APBA.out.2.1 APBA.out.2.2)
  have HX3 := Lib.hid (HX2.out.kp q3 GA.out.1 GA.out.2.1 GA.out.2.2)
  have HA3 := Lib.hid dk3
  clear dk3 q3 hc2
  go_wp2_with (fail)
  rw [HK.out]
  have hc3 := HB3.out.arm K hK2 rfl
  with_reducible refine hc3.mono ?_
  rintro e w4 ⟨rfl, dk4, q4⟩
  have HA4 := Lib.hid (HA3.out.kp q4 APAB.out.1 APAB.out.2.1 APAB.out.2.2)
  have HX4 := Lib.hid (HX3.out.kp q4 GB.out.1 GB.out.2.1 GB.out.2.2)
  have HB4 := Lib.hid dk4
  clear dk4 q4 hc3
  go_wp2_with (fail)
  have START : Hid (∃ d : Disks.D, d.med.length = 8 ∧ Ds w4 gA mA bA 0 d ∧ Ds w4 gB mB bB 0 d ∧ Ext w w4) := Lib.hid ⟨_, by rw [Disks.len_arm]; rfl, HA4.out, HB4.out, HX4.out⟩
  clear HA4 HB4 HX4 HX1 HX2 HX3 HA1 HA2 HA3 HB2 HB3
  go_loopw [9] (fun i wr => ∃ k : Nat, k ≤ n ∧ k ≤ 60 ∧ i = .int .i64 k ∧ Hid (∃ d : Disks.D, d.med.length = 8 ∧ Ds wr gA mA bA (3 * k) d ∧ Ds wr gB mB bB (3 * k) d ∧ Ext w wr)) (fun i _ => n - (intOf i).toNat)
  case atStart => exact ⟨0, by omega, by omega, rfl, START⟩
  case round =>
    obtain ⟨k, hkn, hk60, rfl, HR⟩ := hrel
    obtain ⟨w100, hw⟩ : ∃ w100, w100 = wr := ⟨_, rfl⟩
    subst hw
    obtain ⟨d, hd8, hA, hB, hX⟩ := HR.out
    have HA100 := Lib.hid hA
    have HB100 := Lib.hid hB
    have HX100 := Lib.hid hX
    have D8 := Lib.hid hd8
    clear START HR hA hB hX hd8
    by_cases h60 : k < 60
    · by_cases hlt : k < n
      · have i1 : (k : Int) < n := by omega
        have i2 : (k : Int) < 60 := by omega
        have OS100 := Lib.hid (OS.out.ext HX100.out)
        obtain ⟨z, off, rfl, e0, _⟩ := OS100.out.at_ k hlt
        obtain ⟨z', off', ez, hl⟩ := OS100.out.load hlt
        injection ez with ez
        injection ez with ez1 ez2 _
        subst ez1 ez2
        obtain ⟨OV, hOV⟩ : ∃ OV, oval (o k) = OV := ⟨_, rfl⟩
        rw [hOV] at hl
        have HL100 := Lib.hid hl
        have HOV := Lib.hid hOV
        clear hl hOV
        by_cases h9 : (o k).kind = 9
        · rw [h9] at e0
          go_wp2_with (fail)
          exact ⟨⟨k + 1, by omega, by omega, by go_num, Lib.hid ⟨d, D8.out, HA100.out.mono (by omega), HB100.out.mono (by omega), HX100.out⟩⟩, by simp [intOf]; omega⟩
        · have h9 : ((o k).kind == 9) = false := beq_eq_false_iff_ne.2 h9
          go_wp2_with (first | ((with_reducible refine opIs ⟨some 56, .load 31 (.tmp 55), _, _, _, _⟩ ?_); refine wpList_loadR rfl 31 (.tmp 55) rfl rfl HL100.out ?_))
          have OSX100 := OS100
          have hb100 := OS100.out.bls hlt
          have hc100 := does_any5 w100 gA mA bA _ _ HA100.out (by unfold maxLen; omega) (o k) hb100.2 (OSX100.out.bls hlt).1 (Bls.awy (OS.out.bls hlt).1 GA.out)
          rw [HOV.out] at hc100
          with_reducible refine hc100.mono ?_
          rintro e w101 ⟨rfl, dk101, q101⟩
          have HB101 := Lib.hid (HB100.out.kp q101 APBA.out.1 APBA.out.2.1 APBA.out.2.2)
          have HX101 := Lib.hid (HX100.out.kp q101 GA.out.1 GA.out.2.1 GA.out.2.2)
          have HA101 := Lib.hid dk101
          clear dk101 q101 hc100 hb100
          go_wp2_with (fail)
          have hc101 := (show Calls Try.prog 14 #[.int .u8 1] w101 _ from of_any5 w101 1)
          with_reducible refine hc101.mono ?_
          rintro e w102 ⟨p102, rfl, o102⟩
          have OB102 := Lib.hid o102
          have HA102 := Lib.hid (HA101.out.ext o102.ext)
          have HB102 := Lib.hid (HB101.out.ext o102.ext)
          have HX102 := Lib.hid (HX101.out.trans o102.ext)
          have AWA102 := Lib.hid (Awy.fresh (o := 0) HA101.out o102.le)
          have AWB102 := Lib.hid (Awy.fresh (o := 0) HB101.out o102.le)
          clear o102 hc101
          go_wp2_with (fail)
          have hc102 := (show Calls Try.prog 13 #[dptr gB, .int .i64 8, .slice (some ⟨p102, 0, none⟩) 64 64] w102 _ from HB102.out.write (by unfold maxLen; omega) 8 _ _ _ (rep 1) (OB102.out.bs (by rw [rep_len]; omega) (rep_len _)) AWB102.out (Disks.outE d (.inr (by rw [D8.out]; omega)) _) (Disks.outD d (.inr (by rw [D8.out]; omega)) _))
          with_reducible refine hc102.mono ?_
          rintro e w103 ⟨rfl, dk103, q103⟩
          have HA103 := Lib.hid (HA102.out.kp q103 APAB.out.1 APAB.out.2.1 APAB.out.2.2)
          have HX103 := Lib.hid (HX102.out.kp q103 GB.out.1 GB.out.2.1 GB.out.2.2)
          have HB103 := Lib.hid dk103
          clear dk103 q103 hc102
          go_wp2_with (fail)
          have hc103 := (HB103.out.ext (Ext.alloc w103 (.cells #[.int .u8 1] 5))).write (by unfold maxLen; omega) 0 (some ⟨w103.heap.size, 0, none⟩) 1 1 [1] (bs_one w103 1) (Awy.fresh HB103.out (Nat.le_refl _)) (Disks.fewE d (by rw [D8.out]; omega) (by decide)) (Disks.fewD d 0 (by decide))
          with_reducible refine hc103.mono ?_
          rintro e w104 ⟨rfl, dk104, q104⟩
          have HA104 := Lib.hid ((HA103.out.ext (Ext.alloc w103 (.cells #[.int .u8 1] 5))).kp q104 APAB.out.1 APAB.out.2.1 APAB.out.2.2)
          have HX104 := Lib.hid ((HX103.out.thenAlloc _).kp q104 GB.out.1 GB.out.2.1 GB.out.2.2)
          have HB104 := Lib.hid dk104
          clear dk104 q104 hc103
          have OSX104 := Lib.hid (OS.out.ext HX104.out)
          cases hdn : d.down
          · have e50 : Disks.noE d 50 = 50 := by unfold Disks.noE; rw [hdn]; rfl
            have e2 : Disks.noE d 2 = 2 := by unfold Disks.noE; rw [hdn]; rfl
            rw [e50, e2]
            clear e50 e2
            have DN := Lib.hid hdn
            clear hdn
            go_wp2_with (fail)
            have hc104 := (HB104.out.down DN.out)
            with_reducible refine hc104.mono ?_
            rintro e w105 ⟨rfl, x105⟩
            have HA105 := Lib.hid (HA104.out.ext x105)
            have HB105 := Lib.hid (HB104.out.ext x105)
            have HX105 := Lib.hid (HX104.out.trans x105)
            clear x105 hc104
            go_wp2_with (fail)
            have hc105 := (HB105.out.down DN.out)
            with_reducible refine hc105.mono ?_
            rintro e w106 ⟨rfl, x106⟩
            have HA106 := Lib.hid (HA105.out.ext x106)
            have HB106 := Lib.hid (HB105.out.ext x106)
            have HX106 := Lib.hid (HX105.out.trans x106)
            clear x106 hc105
            obtain ⟨z3, off3, ez, hl⟩ := (OS.out.ext HX106.out).load hlt
            injection ez with ez
            injection ez with ez1 ez2 _
            subst ez1 ez2
            rw [HOV.out] at hl
            have HLL := Lib.hid hl
            clear hl
            go_wp2_with (first | ((with_reducible refine opIs ⟨some 91, .load 31 (.tmp 90), _, _, _, _⟩ ?_); refine wpList_loadR rfl 31 (.tmp 90) rfl rfl HLL.out ?_))
            have OSX106 := Lib.hid (OS.out.ext HX106.out)
            have hb106 := OS100.out.bls hlt
            have hc106 := does_any5 w106 gB mB bB _ _ HB106.out (by unfold maxLen; omega) (o k) hb106.2 (OSX106.out.bls hlt).1 (Bls.awy (OS.out.bls hlt).1 GB.out)
            rw [HOV.out] at hc106
            with_reducible refine hc106.mono ?_
            rintro e w107 ⟨rfl, dk107, q107⟩
            have HA107 := Lib.hid (HA106.out.kp q107 APAB.out.1 APAB.out.2.1 APAB.out.2.2)
            have HX107 := Lib.hid (HX106.out.kp q107 GB.out.1 GB.out.2.1 GB.out.2.2)
            have HB107 := Lib.hid dk107
            clear dk107 q107 hc106 hb106
            go_wp2_with (fail)
            have hc107 := (HA107.out.down (z := (doesD d (o k)).down) rfl)
            with_reducible refine hc107.mono ?_
            rintro e w108 ⟨rfl, x108⟩
            have HA108 := Lib.hid (HA107.out.ext x108)
            have HB108 := Lib.hid (HB107.out.ext x108)
            have HX108 := Lib.hid (HX107.out.trans x108)
            clear x108 hc107
            go_wp2_with (fail)
            have hc108 := (HB108.out.down (z := (doesD d (o k)).down) rfl)
            with_reducible refine hc108.mono ?_
            rintro e w109 ⟨rfl, x109⟩
            have HA109 := Lib.hid (HA108.out.ext x109)
            have HB109 := Lib.hid (HB108.out.ext x109)
            have HX109 := Lib.hid (HX108.out.trans x109)
            clear x109 hc108
            go_wp2_with (fail)
            have hc109 := same_any5 w109 gA mA bA _ _ HA109.out gB mB bB _ _ HB109.out (Disks.Alike.refl _)
            with_reducible refine hc109.mono ?_
            rintro e w110 ⟨rfl, x110⟩
            have HA110 := Lib.hid (HA109.out.ext x110)
            have HB110 := Lib.hid (HB109.out.ext x110)
            have HX110 := Lib.hid (HX109.out.trans x110)
            clear x110 hc109
            go_wp2_with (fail)
            have hc110 := HA110.out.cached (L := Disks.cached (doesD d (o k))) rfl
            with_reducible refine hc110.mono ?_
            rintro e w111 ⟨AA, cA, rfl, iA, x111⟩
            have IA := Lib.hid iA
            have HA111 := Lib.hid (HA110.out.ext x111)
            have HB111 := Lib.hid (HB110.out.ext x111)
            have HX111 := Lib.hid (HX110.out.trans x111)
            clear x111 hc110 iA
            have hm2 := IA.out.max
            go_wp2_with (fail)
            have hc111 := HB111.out.cached (L := Disks.cached (doesD d (o k))) rfl
            with_reducible refine hc111.mono ?_
            rintro e w112 ⟨AB, cB, rfl, iB, x112⟩
            have IA := Lib.hid (IA.out.ext x112)
            have IB := Lib.hid iB
            have HA112 := Lib.hid (HA111.out.ext x112)
            have HB112 := Lib.hid (HB111.out.ext x112)
            have HX112 := Lib.hid (HX111.out.trans x112)
            clear x112 hc111 iB
            have hm3 := IB.out.max
            go_wp2_with (fail)
            have hc112 := sameInts_any w112 _ _ _ _ _ _ _ _ IA.out IB.out
            rw [decide_eq_true rfl] at hc112
            with_reducible refine hc112.mono ?_
            rintro e w113 ⟨rfl, x113⟩
            have HA113 := Lib.hid (HA112.out.ext x113.ext)
            have HB113 := Lib.hid (HB112.out.ext x113.ext)
            have HX113 := Lib.hid (HX112.out.trans x113.ext)
            clear x113 hc112
            go_wp2_with (fail)
            exact ⟨⟨k + 1, by omega, by omega, by go_num, Lib.hid ⟨doesD d (o k), (len_does _ _).trans D8.out, HA113.out.mono (by omega), HB113.out.mono (by omega), HX113.out⟩⟩, by simp [intOf]; omega⟩
          · have e50 : Disks.noE d 50 = 15 := by unfold Disks.noE; rw [hdn]; rfl
            have e2 : Disks.noE d 2 = 15 := by unfold Disks.noE; rw [hdn]; rfl
            rw [e50, e2]
            clear e50 e2
            have DN := Lib.hid hdn
            clear hdn
            go_wp2_with (fail)
            have hc104 := (HB104.out.down DN.out)
            with_reducible refine hc104.mono ?_
            rintro e w105 ⟨rfl, x105⟩
            have HA105 := Lib.hid (HA104.out.ext x105)
            have HB105 := Lib.hid (HB104.out.ext x105)
            have HX105 := Lib.hid (HX104.out.trans x105)
            clear x105 hc104
            go_wp2_with (fail)
            have hc105 := (HB105.out.down DN.out)
            with_reducible refine hc105.mono ?_
            rintro e w106 ⟨rfl, x106⟩
            have HA106 := Lib.hid (HA105.out.ext x106)
            have HB106 := Lib.hid (HB105.out.ext x106)
            have HX106 := Lib.hid (HX105.out.trans x106)
            clear x106 hc105
            obtain ⟨z3, off3, ez, hl⟩ := (OS.out.ext HX106.out).load hlt
            injection ez with ez
            injection ez with ez1 ez2 _
            subst ez1 ez2
            rw [HOV.out] at hl
            have HLL := Lib.hid hl
            clear hl
            go_wp2_with (first | ((with_reducible refine opIs ⟨some 91, .load 31 (.tmp 90), _, _, _, _⟩ ?_); refine wpList_loadR rfl 31 (.tmp 90) rfl rfl HLL.out ?_))
            have OSX106 := Lib.hid (OS.out.ext HX106.out)
            have hb106 := OS100.out.bls hlt
            have hc106 := does_any5 w106 gB mB bB _ _ HB106.out (by unfold maxLen; omega) (o k) hb106.2 (OSX106.out.bls hlt).1 (Bls.awy (OS.out.bls hlt).1 GB.out)
            rw [HOV.out] at hc106
            with_reducible refine hc106.mono ?_
            rintro e w107 ⟨rfl, dk107, q107⟩
            have HA107 := Lib.hid (HA106.out.kp q107 APAB.out.1 APAB.out.2.1 APAB.out.2.2)
            have HX107 := Lib.hid (HX106.out.kp q107 GB.out.1 GB.out.2.1 GB.out.2.2)
            have HB107 := Lib.hid dk107
            clear dk107 q107 hc106 hb106
            go_wp2_with (fail)
            have hc107 := (HA107.out.down (z := (doesD d (o k)).down) rfl)
            with_reducible refine hc107.mono ?_
            rintro e w108 ⟨rfl, x108⟩
            have HA108 := Lib.hid (HA107.out.ext x108)
            have HB108 := Lib.hid (HB107.out.ext x108)
            have HX108 := Lib.hid (HX107.out.trans x108)
            clear x108 hc107
            go_wp2_with (fail)
            have hc108 := (HB108.out.down (z := (doesD d (o k)).down) rfl)
            with_reducible refine hc108.mono ?_
            rintro e w109 ⟨rfl, x109⟩
            have HA109 := Lib.hid (HA108.out.ext x109)
            have HB109 := Lib.hid (HB108.out.ext x109)
            have HX109 := Lib.hid (HX108.out.trans x109)
            clear x109 hc108
            go_wp2_with (fail)
            have hc109 := same_any5 w109 gA mA bA _ _ HA109.out gB mB bB _ _ HB109.out (Disks.Alike.refl _)
            with_reducible refine hc109.mono ?_
            rintro e w110 ⟨rfl, x110⟩
            have HA110 := Lib.hid (HA109.out.ext x110)
            have HB110 := Lib.hid (HB109.out.ext x110)
            have HX110 := Lib.hid (HX109.out.trans x110)
            clear x110 hc109
            go_wp2_with (fail)
            have hc110 := HA110.out.cached (L := Disks.cached (doesD d (o k))) rfl
            with_reducible refine hc110.mono ?_
            rintro e w111 ⟨AA, cA, rfl, iA, x111⟩
            have IA := Lib.hid iA
            have HA111 := Lib.hid (HA110.out.ext x111)
            have HB111 := Lib.hid (HB110.out.ext x111)
            have HX111 := Lib.hid (HX110.out.trans x111)
            clear x111 hc110 iA
            have hm2 := IA.out.max
            go_wp2_with (fail)
            have hc111 := HB111.out.cached (L := Disks.cached (doesD d (o k))) rfl
            with_reducible refine hc111.mono ?_
            rintro e w112 ⟨AB, cB, rfl, iB, x112⟩
            have IA := Lib.hid (IA.out.ext x112)
            have IB := Lib.hid iB
            have HA112 := Lib.hid (HA111.out.ext x112)
            have HB112 := Lib.hid (HB111.out.ext x112)
            have HX112 := Lib.hid (HX111.out.trans x112)
            clear x112 hc111 iB
            have hm3 := IB.out.max
            go_wp2_with (fail)
            have hc112 := sameInts_any w112 _ _ _ _ _ _ _ _ IA.out IB.out
            rw [decide_eq_true rfl] at hc112
            with_reducible refine hc112.mono ?_
            rintro e w113 ⟨rfl, x113⟩
            have HA113 := Lib.hid (HA112.out.ext x113.ext)
            have HB113 := Lib.hid (HB112.out.ext x113.ext)
            have HX113 := Lib.hid (HX112.out.trans x113.ext)
            clear x113 hc112
            go_wp2_with (fail)
            exact ⟨⟨k + 1, by omega, by omega, by go_num, Lib.hid ⟨doesD d (o k), (len_does _ _).trans D8.out, HA113.out.mono (by omega), HB113.out.mono (by omega), HX113.out⟩⟩, by simp [intOf]; omega⟩
      · have ek : k = n := by omega
        subst ek
        go_wp2_with (fail)
        have hc100 := awake_any5 w100
        with_reducible refine hc100.mono ?_
        rintro e w101 ⟨rfl, x101⟩
        have HA101 := Lib.hid (HA100.out.ext x101)
        have HB101 := Lib.hid (HB100.out.ext x101)
        have HX101 := Lib.hid (HX100.out.trans x101)
        clear x101 hc100
        go_wp2_with (fail)
        go_ret
        exact ⟨rfl, HX101.out⟩
    · have ek : k = 60 := by omega
      subst ek
      by_cases hlt : 60 < n
      · have i1 : (60 : Int) < n := by omega
        go_wp2_with (fail)
        have hc100 := awake_any5 w100
        with_reducible refine hc100.mono ?_
        rintro e w101 ⟨rfl, x101⟩
        have HA101 := Lib.hid (HA100.out.ext x101)
        have HB101 := Lib.hid (HB100.out.ext x101)
        have HX101 := Lib.hid (HX100.out.trans x101)
        clear x101 hc100
        go_wp2_with (fail)
        go_ret
        exact ⟨rfl, HX101.out⟩
      · have i1 : n = 60 := by omega
        subst i1
        go_wp2_with (fail)
        have hc100 := awake_any5 w100
        with_reducible refine hc100.mono ?_
        rintro e w101 ⟨rfl, x101⟩
        have HA101 := Lib.hid (HA100.out.ext x101)
        have HB101 := Lib.hid (HB100.out.ext x101)
        have HX101 := Lib.hid (HX100.out.trans x101)
        clear x101 hc100
        go_wp2_with (fail)
        go_ret
        exact ⟨rfl, HX101.out⟩
set_option maxRecDepth 100000 in
theorem diskRefused.walk {H : Type} {enc : TypeId × Value → H} {base : Nat} (w : World) (a0 : Int) (v1 : Value) (d1 : DataW H) (p1 : List MemPlace) (w0 : (Lit.int .u8 a0).wf = true) (o1 : Value.okWide Try.prog w .any base 22 v1) (h1 : DataW.Trod enc Try.prog w 0 (fun _ => true) true 22 v1 d1 p1) :
    Calls Try.prog 10 #[.int .u8 a0, v1] w fun e w' => e = .returned (.bool true) ∧ Below w.heap.size w w' := by
  obtain ⟨x, rfl⟩ := wf_u8 w0
  obtain ⟨A, n, c, o, rfl, ho⟩ := os05_open o1 h1
  exact refused_any w x A n c o ho
end Go.Proofs.Ytbfbiofndipaaaa
