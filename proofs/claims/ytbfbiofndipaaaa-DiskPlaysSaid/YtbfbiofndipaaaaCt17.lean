/- Several texts in one: The contract of SameInts. The contract of the laws' awake: the chapter's examples come out as written. -/
import Derived.Test.YtbfbiofndipaaaaCt5
import Derived.Test.YtbfbiofndipaaaaCt16
namespace Go.Proofs.Ytbfbiofndipaaaa
open Go.RowKit

set_option maxHeartbeats 1000000 in
theorem sameInts_any (w : World) (A B : Option Addr) (n c m d : Nat) (x y : List Int) (hx : Is w A n c x) (hy : Is w B m d y) :
    Calls Try.prog 36 #[.slice A n c, .slice B m d] w fun e w' => e = .returned (.bool (decide (x = y))) ∧ Dr w w' := by
  have hm1 := hx.max
  have hm2 := hx.le
  have hm3 := hy.max
  have hm4 := hy.le
  have L1 := Lib.hid hx.len
  have L2 := Lib.hid hy.len
  by_cases hnm : n = m
  · subst hnm
    go_enter Try.func36, Try.ntmps36
    go_wp2
    go_loopw [5] (fun i wr => ∃ k : Nat, k ≤ n ∧ i = .int .i64 k ∧ (∀ j, j < k → Il.get x j = Il.get y j) ∧ Dr w wr) (fun i _ => n - (intOf i).toNat)
    case atStart => exact ⟨0, by omega, rfl, (fun j hj => by omega), Dr.refl w⟩
    case round =>
      obtain ⟨k, hk, rfl, hno, hd⟩ := hrel
      have H := Lib.hid hno
      clear hno
      by_cases hlt : k < n
      · obtain ⟨b1, o1, rfl, hc1⟩ := (hx.ext hd.ext).rd.intAt hlt
        obtain ⟨b2, o2, rfl, hc2⟩ := (hy.ext hd.ext).rd.intAt hlt
        have i1 : (k : Int) < n := by omega
        by_cases he : Il.get x k = Il.get y k
        · have e1 : (Il.get x k != Il.get y k) = false := by rw [he]; simp
          have E := Lib.hid he
          clear he
          go_wp2
          go_quiet (fail)
          go_wp2
          refine ⟨⟨k + 1, by omega, by go_num, (fun j hj => ?_), hd.more _⟩, by simp [intOf]; omega⟩
          by_cases hj' : j = k
          · rw [hj']; exact E.out
          · exact H.out j (by omega)
        · have e1 : (Il.get x k != Il.get y k) = true := by rw [bne_iff_ne]; exact he
          have E := Lib.hid he
          clear he
          go_wp2
          go_quiet (fail)
          go_wp2
          go_ret
          refine ⟨ret_bool (show false = decide (x = y) from ?_), hd.more _⟩
          rw [eq_comm, decide_eq_false_iff_not]
          exact fun e => E.out (by rw [e])
      · have i1 : ¬ (k : Int) < n := by omega
        go_wp2
        go_ret
        refine ⟨ret_bool (show true = decide (x = y) from ?_), hd⟩
        rw [eq_comm, decide_eq_true_eq]
        exact Il.ext_get (by rw [L1.out, L2.out]) fun j hj => H.out j (by rw [L1.out] at hj; omega)
  · have e1 : ((n : Int) != (m : Int)) = true := by rw [bne_iff_ne]; omega
    have N := Lib.hid hnm
    clear hnm
    go_enter Try.func36, Try.ntmps36
    go_wp2
    go_ret
    refine ⟨ret_bool (show false = decide (x = y) from ?_), Dr.refl w⟩
    rw [eq_comm, decide_eq_false_iff_not]
    exact fun e => N.out (by rw [← L1.out, ← L2.out, e])
end Go.Proofs.Ytbfbiofndipaaaa
namespace Go.Proofs.Ytbfbiofndipaaaa
open Go.RowKit Go.Maps Go.Sort Go.Shelf

theorem Awy.fresh {w : World} {g m b N p o : Nat} {d : Disks.D} (h : Ds w g m b N d) (hp : w.heap.size ≤ p) : Awy g m b (some ⟨p, o, none⟩) := fun q hq => by
  injection hq with hq
  rw [← hq]
  obtain ⟨h1, h2, h3⟩ := h.lts
  exact ⟨fun e => by have e : p = g := e; omega, fun e => by have e : p = m := e; omega, fun e => by have e : p = b := e; omega⟩
theorem Awy.nil (g m b : Nat) : Awy g m b none := fun q hq => by cases hq
theorem isOne5 (W : World) (x : Int) : Is (W.alloc (.cells #[.int .i64 x] 3)) (some ⟨W.heap.size, 0, none⟩) 1 1 [x] := by
  refine ⟨rfl, Nat.le_refl _, by omega, rfl, fun _ => ⟨W.heap.size, 0, rfl, fun j u hu => ?_⟩⟩
  rw [cell_of_row _ _ _ _ _ _ (heap_alloc_new W _), Nat.zero_add]
  simpa [icells] using hu
theorem bls_none (W : World) : Bls W none 0 0 [] := ⟨rfl, Nat.le_refl _, by omega, fun k hk => by omega⟩
theorem bls_lit (W : World) (l : List Bool) (hl : l.length < 2 ^ 62) {n : Nat} (hn : l.length = n) : Bls (W.alloc (.cells (l.map Value.bool).toArray 4)) (some ⟨W.heap.size, 0, none⟩) n n l := by
  subst hn
  refine ⟨rfl, Nat.le_refl _, by omega, fun k hk => ⟨W.heap.size, 0, rfl, ?_⟩⟩
  rw [cell_of_row _ _ _ _ _ _ (heap_alloc_new W _), Nat.zero_add]
  unfold bget
  simp [List.getD_eq_getElem?_getD, hk]

def aw0 : Disks.D := Disks.new 4
def aw1 : Disks.D := Disks.writeD aw0 1 (rep 1)
def aw2 : Disks.D := Disks.flushD aw1
def aw3 : Disks.D := Disks.writeD aw2 1 (rep 2)
def aw4 : Disks.D := Disks.writeD aw3 3 (rep 3)
def aw5 : Disks.D := Disks.crashD aw4 [false, true]
def aw6 : Disks.D := Disks.armD aw5 1
def aw7 : Disks.D := Disks.writeD aw6 0 (rep 9)
def aw8 : Disks.D := Disks.flushD aw7
def aw9 : Disks.D := Disks.crashD aw8 []
def aw10 : Disks.D := Disks.spoilD aw9 1 0 255
theorem aw_w1 : Disks.writeE aw0 1 (rep 1) = 0 := by decide +kernel
theorem aw_r1 : readsB aw1 1 1 = true := by decide +kernel
theorem aw_c1 : Disks.cached aw1 = [1] := by decide +kernel
theorem aw_f1 : Disks.flushE aw1 = 0 := by decide +kernel
theorem aw_w3 : Disks.writeE aw2 1 (rep 2) = 0 := by decide +kernel
theorem aw_w4 : Disks.writeE aw3 3 (rep 3) = 0 := by decide +kernel
theorem aw_r5 : readsB aw5 1 1 = true := by decide +kernel
theorem aw_s5 : readsB aw5 3 3 = true := by decide +kernel
theorem aw_w7 : Disks.writeE aw6 0 (rep 9) = 0 := by decide +kernel
theorem aw_f8 : Disks.flushE aw7 = 15 := by decide +kernel
theorem aw_t8 : Disks.there aw8 0 = 15 := by decide +kernel
theorem aw_d8 : aw8.down = true := by decide +kernel
theorem aw_p10 : Disks.spoilE aw9 1 0 = 0 := by decide +kernel
theorem aw_t10 : Disks.there aw10 1 = 0 := by decide +kernel
theorem aw_r10 : readsB aw10 0 0 = true := by decide +kernel
theorem aw_x10 : (Gf.get (Disks.sec aw10 1) 0).toNat = 254 := by decide +kernel
theorem aw_y10 : (Gf.get (Disks.sec aw10 1) 1).toNat = 1 := by decide +kernel
set_option maxRecDepth 100000 in
set_option maxHeartbeats 4000000 in
theorem awake_any5 (w : World) : Calls Try.prog 20 #[] w fun e w' => e = .returned (.bool true) ∧ Ext w w' := by
  have hof1 : ∀ W : World, Calls Try.prog 14 #[.int .u8 1] W fun e w' => ∃ p, e = .returned (.slice (some ⟨p, 0, none⟩) 64 64) ∧ Ob W w' p (rep 1) := fun W => of_any5 W 1
  have hof2 : ∀ W : World, Calls Try.prog 14 #[.int .u8 2] W fun e w' => ∃ p, e = .returned (.slice (some ⟨p, 0, none⟩) 64 64) ∧ Ob W w' p (rep 2) := fun W => of_any5 W 2
  have hof3 : ∀ W : World, Calls Try.prog 14 #[.int .u8 3] W fun e w' => ∃ p, e = .returned (.slice (some ⟨p, 0, none⟩) 64 64) ∧ Ob W w' p (rep 3) := fun W => of_any5 W 3
  have hof9 : ∀ W : World, Calls Try.prog 14 #[.int .u8 9] W fun e w' => ∃ p, e = .returned (.slice (some ⟨p, 0, none⟩) 64 64) ∧ Ob W w' p (rep 9) := fun W => of_any5 W 9
  have HO1 := Lib.hid hof1
  have HO2 := Lib.hid hof2
  have HO3 := Lib.hid hof3
  have HO9 := Lib.hid hof9
  clear hof1 hof2 hof3 hof9
  have hnew := (show Calls Try.prog 11 #[.int .i64 4] w _ from dsNew w 4 (by omega) (by omega))
  go_enter Try.func20, Try.ntmps20
  go_wp2_with (fail)
  with_reducible refine hnew.mono ?_
  rintro e w1 ⟨g, rfl, m, b, d1, x1, g1, m1, b1⟩
  have HD1 := Lib.hid (show Ds w1 g m b 0 aw0 from d1)
  have HX1 := Lib.hid x1
  have HG := Lib.hid (And.intro g1 (And.intro m1 b1))
  clear hnew d1 x1 g1 m1 b1
  go_wp2_with (fail)
  with_reducible refine (HO1.out _).mono ?_
  rintro e w2 ⟨p2, rfl, o2⟩
  have OB2 := Lib.hid o2
  have HD2 := Lib.hid (HD1.out.ext o2.ext)
  have HX2 := Lib.hid (HX1.out.trans o2.ext)
  have AW2 := Lib.hid (Awy.fresh (o := 0) HD1.out o2.le)
  clear o2
  go_wp2_with (fail)
  have hc2 := (HD2.out.write (by unfold maxLen; omega) 1 _ _ _ (rep 1) (OB2.out.bs (by rw [rep_len]; omega) (rep_len _)) AW2.out aw_w1 (d' := aw1) rfl)
  with_reducible refine hc2.mono ?_
  rintro e w3 ⟨rfl, d3, q3⟩
  have HD3 := Lib.hid d3
  have HX3 := Lib.hid (HX2.out.kp q3 HG.out.1 HG.out.2.1 HG.out.2.2)
  clear d3 q3 hc2
  go_wp2_with (fail)
  have hc3 := ((show Calls Try.prog 18 #[dptr g, .int .i64 1, .int .u8 1] w3 _ from reads_any w3 g m b _ _ HD3.out (1) 1 aw_r1))
  with_reducible refine hc3.mono ?_
  rintro e w4 ⟨rfl, x4⟩
  have HD4 := Lib.hid (HD3.out.ext x4)
  have HX4 := Lib.hid (HX3.out.trans x4)
  clear x4 hc3
  go_wp2_with (fail)
  with_reducible refine (HD4.out.cached aw_c1).mono ?_
  rintro e w5 ⟨A9, c9, rfl, i9, x5⟩
  have I9 := Lib.hid i9
  have HD5 := Lib.hid (HD4.out.ext x5)
  have HX5 := Lib.hid (HX4.out.trans x5)
  clear x5 i9
  have hsi := sameInts_any (w5.alloc (.cells #[.int .i64 1] 3)) A9 (some ⟨w5.heap.size, 0, none⟩) 1 c9 1 1 [1] [1] (I9.out.ext (Ext.alloc _ _)) (isOne5 w5 1)
  have HSI := Lib.hid hsi
  clear hsi
  go_wp2_with (fail)
  with_reducible refine HSI.out.mono ?_
  rintro e w6 ⟨rfl, x6⟩
  rw [decide_true]
  have HD6 := Lib.hid ((HD5.out.ext (Ext.alloc _ _)).ext x6.ext)
  have HX6 := Lib.hid ((HX5.out.thenAlloc _).trans x6.ext)
  clear x6 HSI
  go_wp2_with (fail)
  have hc6 := (HD6.out.flush aw_f1 (d' := aw2) rfl)
  with_reducible refine hc6.mono ?_
  rintro e w7 ⟨rfl, d7, q7⟩
  have HD7 := Lib.hid d7
  have HX7 := Lib.hid (HX6.out.kp q7 HG.out.1 HG.out.2.1 HG.out.2.2)
  clear d7 q7 hc6
  go_wp2_with (fail)
  with_reducible refine (HO2.out _).mono ?_
  rintro e w8 ⟨p8, rfl, o8⟩
  have OB8 := Lib.hid o8
  have HD8 := Lib.hid (HD7.out.ext o8.ext)
  have HX8 := Lib.hid (HX7.out.trans o8.ext)
  have AW8 := Lib.hid (Awy.fresh (o := 0) HD7.out o8.le)
  clear o8
  go_wp2_with (fail)
  have hc8 := (HD8.out.write (by unfold maxLen; omega) 1 _ _ _ (rep 2) (OB8.out.bs (by rw [rep_len]; omega) (rep_len _)) AW8.out aw_w3 (d' := aw3) rfl)
  with_reducible refine hc8.mono ?_
  rintro e w9 ⟨rfl, d9, q9⟩
  have HD9 := Lib.hid d9
  have HX9 := Lib.hid (HX8.out.kp q9 HG.out.1 HG.out.2.1 HG.out.2.2)
  clear d9 q9 hc8
  go_wp2_with (fail)
  with_reducible refine (HO3.out _).mono ?_
  rintro e w10 ⟨p10, rfl, o10⟩
  have OB10 := Lib.hid o10
  have HD10 := Lib.hid (HD9.out.ext o10.ext)
  have HX10 := Lib.hid (HX9.out.trans o10.ext)
  have AW10 := Lib.hid (Awy.fresh (o := 0) HD9.out o10.le)
  clear o10
  go_wp2_with (fail)
  have hc10 := (HD10.out.write (by unfold maxLen; omega) 3 _ _ _ (rep 3) (OB10.out.bs (by rw [rep_len]; omega) (rep_len _)) AW10.out aw_w4 (d' := aw4) rfl)
  with_reducible refine hc10.mono ?_
  rintro e w11 ⟨rfl, d11, q11⟩
  have HD11 := Lib.hid d11
  have HX11 := Lib.hid (HX10.out.kp q11 HG.out.1 HG.out.2.1 HG.out.2.2)
  clear d11 q11 hc10
  have hcr := (HD11.out.ext (Ext.alloc w11 (.cells #[.bool false, .bool true] 4))).crash (some ⟨w11.heap.size, 0, none⟩) 2 2 [false, true] (bls_lit w11 [false, true] (by decide) rfl) (Awy.fresh HD11.out (Nat.le_refl _)) (d' := aw5) rfl
  have HCR := Lib.hid hcr
  clear hcr
  go_wp2_with (fail)
  with_reducible refine HCR.out.mono ?_
  rintro e w12 ⟨rfl, d12, q12⟩
  have HD12 := Lib.hid d12
  have HX12 := Lib.hid ((HX11.out.thenAlloc _).kp q12 HG.out.1 HG.out.2.1 HG.out.2.2)
  clear d12 q12 HCR
  go_wp2_with (fail)
  have hc12 := ((show Calls Try.prog 18 #[dptr g, .int .i64 1, .int .u8 1] w12 _ from reads_any w12 g m b _ _ HD12.out (1) 1 aw_r5))
  with_reducible refine hc12.mono ?_
  rintro e w13 ⟨rfl, x13⟩
  have HD13 := Lib.hid (HD12.out.ext x13)
  have HX13 := Lib.hid (HX12.out.trans x13)
  clear x13 hc12
  go_wp2_with (fail)
  have hc13 := ((show Calls Try.prog 18 #[dptr g, .int .i64 3, .int .u8 3] w13 _ from reads_any w13 g m b _ _ HD13.out (3) 3 aw_s5))
  with_reducible refine hc13.mono ?_
  rintro e w14 ⟨rfl, x14⟩
  have HD14 := Lib.hid (HD13.out.ext x14)
  have HX14 := Lib.hid (HX13.out.trans x14)
  clear x14 hc13
  go_wp2_with (fail)
  have hc14 := (HD14.out.arm 1 (by decide) (d' := aw6) rfl)
  with_reducible refine hc14.mono ?_
  rintro e w15 ⟨rfl, d15, q15⟩
  have HD15 := Lib.hid d15
  have HX15 := Lib.hid (HX14.out.kp q15 HG.out.1 HG.out.2.1 HG.out.2.2)
  clear d15 q15 hc14
  go_wp2_with (fail)
  with_reducible refine (HO9.out _).mono ?_
  rintro e w16 ⟨p16, rfl, o16⟩
  have OB16 := Lib.hid o16
  have HD16 := Lib.hid (HD15.out.ext o16.ext)
  have HX16 := Lib.hid (HX15.out.trans o16.ext)
  have AW16 := Lib.hid (Awy.fresh (o := 0) HD15.out o16.le)
  clear o16
  go_wp2_with (fail)
  have hc16 := (HD16.out.write (by unfold maxLen; omega) 0 _ _ _ (rep 9) (OB16.out.bs (by rw [rep_len]; omega) (rep_len _)) AW16.out aw_w7 (d' := aw7) rfl)
  with_reducible refine hc16.mono ?_
  rintro e w17 ⟨rfl, d17, q17⟩
  have HD17 := Lib.hid d17
  have HX17 := Lib.hid (HX16.out.kp q17 HG.out.1 HG.out.2.1 HG.out.2.2)
  clear d17 q17 hc16
  go_wp2_with (fail)
  have hc17 := (HD17.out.flush aw_f8 (d' := aw8) rfl)
  with_reducible refine hc17.mono ?_
  rintro e w18 ⟨rfl, d18, q18⟩
  have HD18 := Lib.hid d18
  have HX18 := Lib.hid (HX17.out.kp q18 HG.out.1 HG.out.2.1 HG.out.2.2)
  clear d18 q18 hc17
  go_wp2_with (fail)
  have hc18 := (HD18.out.readNo 0 aw_t8 (by decide))
  with_reducible refine hc18.mono ?_
  rintro e w19 ⟨rfl, x19⟩
  have HD19 := Lib.hid (HD18.out.ext x19)
  have HX19 := Lib.hid (HX18.out.trans x19)
  clear x19 hc18
  go_wp2_with (fail)
  have hc19 := (HD19.out.down aw_d8)
  with_reducible refine hc19.mono ?_
  rintro e w20 ⟨rfl, x20⟩
  have HD20 := Lib.hid (HD19.out.ext x20)
  have HX20 := Lib.hid (HX19.out.trans x20)
  clear x20 hc19
  go_wp2_with (fail)
  have hc20 := (HD20.out.crash none 0 0 [] (bls_none _) (Awy.nil g m b) (d' := aw9) rfl)
  with_reducible refine hc20.mono ?_
  rintro e w21 ⟨rfl, d21, q21⟩
  have HD21 := Lib.hid d21
  have HX21 := Lib.hid (HX20.out.kp q21 HG.out.1 HG.out.2.1 HG.out.2.2)
  clear d21 q21 hc20
  go_wp2_with (fail)
  have hc21 := (show Calls Try.prog 23 #[dptr g, .int .i64 1, .int .i64 0, .int .u8 255] w21 _ from HD21.out.spoil 1 0 255 aw_p10 (d' := aw10) rfl)
  with_reducible refine hc21.mono ?_
  rintro e w22 ⟨rfl, d22, q22⟩
  have HD22 := Lib.hid d22
  have HX22 := Lib.hid (HX21.out.kp q22 HG.out.1 HG.out.2.1 HG.out.2.2)
  clear d22 q22 hc21
  go_wp2_with (fail)
  with_reducible refine (HD22.out.readOk 1 aw_t10 rfl).mono ?_
  rintro e w23 ⟨k9, rfl, s9⟩
  have S9 := Lib.hid s9
  have HD23 := Lib.hid (HD22.out.ext s9.ext)
  have HX23 := Lib.hid (HX22.out.trans s9.ext)
  clear s9
  go_wp2_with (fail)
  have hcz := (show Calls Try.prog 18 #[dptr g, .int .i64 0, .int .u8 0] w23 _ from reads_any w23 g m b _ _ HD23.out (0) 0 aw_r10)
  with_reducible refine hcz.mono ?_
  rintro e w24 ⟨rfl, x24⟩
  have hs0 := (S9.out.then x24).range 0 _ (dk_bcells_get (l := Disks.sec aw10 1) (k := 0) (by rw [show (Disks.sec aw10 1).length = 64 from S9.out.len]; decide))
  have hs1 := (S9.out.then x24).range 1 _ (dk_bcells_get (l := Disks.sec aw10 1) (k := 1) (by rw [show (Disks.sec aw10 1).length = 64 from S9.out.len]; decide))
  rw [aw_x10] at hs0
  rw [aw_y10] at hs1
  have HX24 := Lib.hid (HX23.out.trans x24)
  clear x24
  go_wp2_with (fail)
  go_ret
  exact ⟨rfl, HX24.out⟩
end Go.Proofs.Ytbfbiofndipaaaa
