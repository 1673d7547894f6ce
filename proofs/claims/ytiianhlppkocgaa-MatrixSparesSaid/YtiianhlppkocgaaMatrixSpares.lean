/- MatrixSpares' walk. -/
import Derived.Test.YtiianhlppkocgaaMatPok
import Derived.Test.YtiianhlppkocgaaMatCopy
import Derived.Test.YtiianhlppkocgaaMatAwake
import Derived.Test.YtiianhlppkocgaaHold
import Derived.Test.YtiianhlppkocgaaExq
import Derived.Deep.CutBlock
import Derived.Deep.DeepCutAuto
import Derived.Deep.RegionHeld3
namespace Go.Proofs.Ytiianhlppkocgaa
open Go.RowKit

theorem copy_r (w : World) (A : Option Addr) (n c : Nat) (m : Gm.L) (hm : Mx w A n c m) (hn : n ≤ 1000) (hw : ∀ i, i < n → (Gm.row m i).length ≤ 1000) :
    Calls Try.prog 20 #[.slice A n c] w (GivesR1 m n w) :=
  (copyMatrix_any w A n c m hm hn hw).mono fun e w' h => by
    obtain ⟨v, cs, rfl, hq, hx⟩ := h
    obtain ⟨A', c', rfl, hm'⟩ := hq.mx
    rw [hm.len] at hm' ⊢
    exact ⟨A', c', rfl, hm', hx⟩
theorem is_two (w : World) (t : TypeId) (k l : Int) {g : Nat} (hg : w.heap.size = g) : Is (w.alloc (.cells #[.int .i64 k, .int .i64 l] t)) (some ⟨g, 0, none⟩) 2 2 [k, l] := Is.lit w g hg [k, l] _ t 2 rfl rfl (by omega)
namespace matrixSpares
set_option maxRecDepth 100000 in
set_option maxHeartbeats 4000000 in
theorem walk (w : World) (a0 : Int) (A1 : Option Addr) (n1 c1 : Nat) (z1 : List Int) (w0 : (Lit.int .u8 a0).wf = true) (w1 : IsRow .u8 w A1 n1 c1 z1) :
    Calls Try.prog 9 #[.int .u8 a0, .slice A1 n1 c1] w fun e w' => e = .returned (.bool true) ∧ Ext w w' := by
  obtain ⟨b0, rfl⟩ := wf_u8 w0
  obtain ⟨b, hB⟩ := w1.bytes
  clear w0 w1
  obtain ⟨n, hn⟩ : ∃ n, 1 + b0.toNat % 6 = n := ⟨_, rfl⟩
  have hn1 : 1 ≤ n ∧ n ≤ 10 := by omega
  have HN := Lib.hid (show 1 ≤ n ∧ n ≤ 255 by omega)
  have lx := b0.toNat_lt
  have en2 : (1 + (b0.toNat : Int) % 6) = (n : Int) := by omega
  have EN2 := Lib.hid en2
  have RM := Lib.hid (square_rect n b)
  clear en2
  go_enter Try.func9, Try.ntmps9
  try dsimp only [List.append]
  go_wp2_with (fail)
  refine (new_any _).mono ?_
  rintro e w1 ⟨rfl, hf, y1⟩
  generalize hb : w.heap.size = fb at *
  have Hb := Lib.hid hb
  clear hb
  have y0 := y1
  replace hB := hB.ext y0
  have x0 := y0
  clear y0
  clear y1
  go_wp2_with (fail)
  rw [EN2.out]
  refine (square_r _ n _ _ _ b hB (by omega)).mono ?_
  rintro e u2 ⟨Am, cm, rfl, hm, y1⟩
  clear hB
  have y0 := y1
  replace hf := hf.ext y0
  replace x0 := Ext.trans x0 y0
  clear y0
  clear y1
  generalize squareL n b = m at *
  go_wp2_with (fail)
  refine (copy_r _ _ n _ m hm (by omega) (fun i hi => by rw [RM.out.wid i hi]; omega)).mono ?_
  rintro e u3 ⟨Aw, cw, rfl, hw, y1⟩
  have y0 := y1
  replace hf := hf.ext y0
  replace hm := hm.ext y0
  replace x0 := Ext.trans x0 y0
  clear y0
  clear y1
  go_wp2_with (fail)
  have y0 := Ext.alloc u3 (.cells #[.int .i64 0, .int .i64 0] 3)
  replace hf := hf.ext y0
  replace hm := hm.ext y0
  replace hw := hw.ext y0
  replace x0 := Ext.trans x0 y0
  clear y0
  have hpl : Places n [0, 0] := ⟨by simp, fun k hk => by
    have hk' : k = 0 ∨ k = 1 := by simp at hk; omega
    rcases hk' with rfl | rfl
    · have e : Il.get [0, 0] 0 = 0 := rfl
      rw [e]; omega
    · have e : Il.get [0, 0] 1 = 0 := rfl
      rw [e]; omega⟩
  have RX := Lib.hid (picked_rect RM.out hpl)
  have r0 : Gm.row (picked m [0, 0]) 0 = Gm.row m 0 := row_picked (by simp)
  have r1 : Gm.row (picked m [0, 0]) 1 = Gm.row m 0 := row_picked (by simp)
  have R0 := Lib.hid r0
  have R1 := Lib.hid r1
  clear r0 r1
  refine (pick_q _ _ n _ n m hm RM.out HN.out HN.out _ 2 _ [0, 0] (is_two u3 _ 0 0 rfl) (by omega) hpl).mono ?_
  clear hpl
  rintro e u4 ⟨vx, csx, rfl, hqx, y1⟩
  have s34 := y1.size
  have hm3 := hm
  have hw3 := hw
  have x03 := x0
  have y4 := y1
  have y0 := y1
  replace hf := hf.ext y0
  replace hm := hm.ext y0
  replace hw := hw.ext y0
  replace x0 := Ext.trans x0 y0
  clear y0
  clear y1
  obtain ⟨N3, hN3⟩ : ∃ N, (u3.alloc (.cells #[.int .i64 0, .int .i64 0] 3)).heap.size = N := ⟨_, rfl⟩
  have hlx : (picked m [0, 0]).length = 2 := rfl
  rw [hlx] at hqx
  rw [hN3] at hqx s34
  obtain ⟨wN, hwN⟩ : ∃ W, u3.alloc (.cells #[.int .i64 0, .int .i64 0] 3) = W := ⟨_, rfl⟩
  have hmN : Mx wN Am n cm m := by rw [← hwN]; exact hm3
  have hwN' : Mx wN Aw n cw m := by rw [← hwN]; exact hw3
  have xN : Ext wN u4 := by rw [← hwN]; exact y4
  have x0N : Ext w wN := by rw [← hwN]; exact x03
  have X0N := Lib.hid x0N
  have sN : wN.heap.size = N3 := by rw [← hwN]; exact hN3
  clear hm3 hw3 y4 hN3 hlx x03 x0N
  obtain ⟨Ax, cx, rfl, _, hcx⟩ := ownsRow_slice hqx.own
  obtain ⟨ox, rfl, hox3, hox4⟩ := own_addr hqx.own (by omega)
  have hxt0 : ∀ (i : Nat) (u : Value) (b : Nat), csx[i]? = some u → u.ownBlock = some b → b < u4.heap.size := fun i u b hu hb => (hqx.block hu hb).2
  have HXT := Lib.hid hxt0
  clear hxt0
  have HWN := Lib.hid hwN
  have HMN := Lib.hid hmN
  have HWN' := Lib.hid hwN'
  have SN := Lib.hid sN
  clear hwN hmN hwN' sN
  go_wp2_with (fail)
  refine (invert_q fb _ _ n _ m hf hm RM.out HN.out).mono ?_
  rintro e u5 ⟨vy, csy, My, er, rfl, her, hqy, hwy, y1⟩
  have s45 := y1.size
  replace xN := xN.trans y1
  have hyt0 : ∀ (i : Nat) (u : Value) (b : Nat), i < My.length → csy[i]? = some u → u.ownBlock = some b → b < u5.heap.size := fun i u b _ hu hb => (hqy.block hu hb).2
  have hyb20 : ∀ b, vy.ownBlock = some b → b < u5.heap.size := fun b hb => (hqy.own.lt b hb).2
  have HYT := Lib.hid hyt0
  have HYB2 := Lib.hid hyb20
  clear hyt0 hyb20
  have y0 := y1
  replace hf := hf.ext y0
  replace hm := hm.ext y0
  replace hw := hw.ext y0
  replace hqx := hqx.ext y0
  replace x0 := Ext.trans x0 y0
  clear y0
  clear y1
  go_wp2_with (fail)
  refine (unit_r _ n HN.out.1 HN.out.2).mono ?_
  rintro e u6 ⟨Au, cu, rfl, hu, y1⟩
  have s56 := y1.size
  replace xN := xN.trans y1
  have y0 := y1
  replace hf := hf.ext y0
  replace hm := hm.ext y0
  replace hw := hw.ext y0
  replace hqx := hqx.ext y0
  replace hqy := hqy.ext y0
  replace x0 := Ext.trans x0 y0
  clear y0
  clear y1
  go_wp2_with (fail)
  refine (mul_q fb _ _ _ n _ n _ n m (Gm.unit n) hf hm hu RM.out (Gm.unit_rect n) HN.out HN.out HN.out).mono ?_
  rintro e u7 ⟨vz, csz, rfl, hqz, y1⟩
  have s67 := y1.size
  replace xN := xN.trans y1
  have y0 := y1
  replace hf := hf.ext y0
  replace hm := hm.ext y0
  replace hw := hw.ext y0
  replace hqx := hqx.ext y0
  replace hqy := hqy.ext y0
  replace hu := hu.ext y0
  replace x0 := Ext.trans x0 y0
  clear y0
  clear y1
  rw [Gm.mulL_unit RM.out HN.out.1, RM.out.len] at hqz
  obtain ⟨wo, rfl⟩ : ∃ wo : World, wo = u7 := ⟨_, rfl⟩
  obtain ⟨Ay, cy, rfl, hly, hmy⟩ := ownsRow_slice hqy.own
  obtain ⟨Az, cz, rfl, hlz, hmz⟩ := ownsRow_slice hqz.own
  obtain ⟨ny, hny⟩ : ∃ k, My.length = k := ⟨_, rfl⟩
  rw [hny] at hqy hwy hly
  rw [hny]
  have HNY := Lib.hid hny
  have HWY := Lib.hid hwy
  have HQX := Lib.hid hqx
  have HQY := Lib.hid hqy
  have HQZ := Lib.hid hqz
  have XN := Lib.hid xN
  have HF := Lib.hid hf
  have X0 := Lib.hid x0
  clear hny hwy hqx hqy hqz xN hf x0 hm hw hu
  go_upto_region 9 with (fail)
  go_cut [77] (fun s77 wx => ∃ wv : World, wv = wx ∧ wo = wx ∧ s77 = .bool false)
  case first =>
    rcases her with rfl | rfl
    · go_wp2_with (fail)
      go_meet
      exact ⟨_, rfl, rfl, rfl⟩
    · go_wp2_with (fail)
      go_meet
      exact ⟨_, rfl, rfl, rfl⟩
  case rest =>
    obtain ⟨wv, rfl, rfl, rfl⟩ := hcut
    clear her
    obtain ⟨Ar0, cr0, hc0, hrow0⟩ := HQX.out.row 0 (by omega)
    obtain ⟨Ar1, cr1, hc1, hrow1⟩ := HQX.out.row 1 (by omega)
    rw [R0.out] at hc0 hrow0
    rw [R1.out] at hc1 hrow1
    have hlr : (Gm.row m 0).length = n := RM.out.wid 0 (by omega)
    obtain ⟨g0, rfl, hg0, _⟩ := own_addr hrow0 (by omega)
    obtain ⟨g1, rfl, hg1, hg1'⟩ := own_addr hrow1 (by omega)
    have hg04 : g0 < u4.heap.size := HXT.out 0 _ g0 hc0 rfl
    have hg14 : g1 < u4.heap.size := HXT.out 1 _ g1 hc1 rfl
    have hap : g0 ≠ g1 := fun e => HQX.out.apart 0 1 _ _ g0 (by omega) hc0 hc1 rfl (by rw [e]; rfl)
    have hco0 : g0 ≠ ox := fun e => HQX.out.cool 0 _ g0 hc0 rfl (.inl (by rw [e]; rfl))
    have hco1 : g1 ≠ ox := fun e => HQX.out.cool 1 _ g1 hc1 rfl (.inl (by rw [e]; rfl))
    have hyt := HYT.out
    rw [HNY.out] at hyt
    have hyb2 := HYB2.out
    rw [HNY.out] at hyb2
    have hyb : ∀ b, (Value.slice Ay ny cy).ownBlock = some b → u4.heap.size ≤ b ∧ b < wo.heap.size := fun b hb => HQY.out.own.lt b hb
    have hzb : ∀ b, (Value.slice Az n cz).ownBlock = some b → u6.heap.size ≤ b ∧ b < wo.heap.size := fun b hb => HQZ.out.own.lt b hb
    obtain ⟨NW, hNW⟩ : ∃ k, wo.heap.size = k := ⟨_, rfl⟩
    let H : Nat → Prop := fun b => N3 ≤ b ∧ b < NW ∧ b ≠ ox ∧ b ≠ g1 ∧ (Value.slice Ay ny cy).ownBlock ≠ some b ∧ (Value.slice Az n cz).ownBlock ≠ some b
    have px : Pok H wo (some ⟨ox, 0, none⟩) 1 cx := HQX.out.pok H (by omega) (fun i hi => by
        have : i = 0 := by omega
        subst this
        rw [R0.out]; omega) (fun i u b hi hu hb => by
        have : i = 0 := by omega
        subst this
        rw [hc0] at hu
        injection hu with hu
        subst hu
        have e : g0 = b := by have h : some g0 = some b := hb; injection h
        subst e
        exact ⟨by omega, by omega, hco0, hap, fun e => by have := (hyb _ e).1; omega, fun e => by have := (hzb _ e).1; omega⟩) (fun b hb h => h.2.2.1 (by have h : some ox = some b := hb; injection h with h; exact h.symm))
    have py : Pok H wo Ay ny cy := HQY.out.pok H (Nat.le_refl _) (fun i hi => HWY.out i hi) (fun i u b hi hu hb => by
        have h1 := HQY.out.block hu hb
        exact ⟨by omega, by omega, by omega, by omega, fun e => HQY.out.cool i u b hu hb (.inl e), fun e => by
          obtain ⟨A', c', e', ho'⟩ := HQY.out.row i hi
          have := (hzb _ e).1
          have h2 := hyt i u b hi hu hb
          omega⟩) (fun b hb h => h.2.2.2.2.1 hb)
    have pz : Pok H wo Az n cz := HQZ.out.pok H (Nat.le_refl _) (fun i hi => by rw [RM.out.wid i hi]; omega) (fun i u b hi hu hb => by
        have h1 := HQZ.out.block hu hb
        exact ⟨by omega, by omega, by omega, by omega, fun e => by have := (hyb2 _ e); omega, fun e => HQZ.out.cool i u b hu hb (.inl e)⟩) (fun b hb h => h.2.2.2.2.2 hb)
    have hkp : Kp wN H NW (some ⟨ox, 0, none⟩) cx Ay ny cy Az n cz ox (some ⟨g1, 0, none⟩) n cr1 (Gm.row m 0) (wo.alloc (.cells #[.slice (some ⟨ox, 0, none⟩) 1 cx, .slice Ay ny cy, .slice Az n cz] 25)) := by
      have hb1 : Bs wo (some ⟨g1, 0, none⟩) n cr1 (Gm.row m 0) := by have h := (Own.mk (base := N3) (e := 5) hrow1).bs; rwa [hlr] at h
      have ho1 : wo.cell? ⟨ox, 1, none⟩ = some (.slice (some ⟨g1, 0, none⟩) n cr1) := by rw [HQX.out.own.cellAt 1 (by omega), hc1, hlr]
      refine ⟨XN.out.thenAlloc _, px.ext (Ext.alloc _ _), py.ext (Ext.alloc _ _), pz.ext (Ext.alloc _ _), ?_, ?_, ?_, fun h => by have := h.2.1; omega, (Ext.alloc _ _).cell ho1, fun h => h.2.2.1 rfl, hb1.ext (Ext.alloc _ _), fun b hb h => h.2.2.2.1 (by have h : some g1 = some b := hb; injection h with h; exact h.symm), fun b h => by have := h.1; have := SN.out; omega⟩ <;> (rw [← hNW, World.cell?_alloc_new]; rfl)
    have KP := Lib.hid hkp
    clear hkp px py pz hyb hzb hyt hyb2 hco0 hco1 hap hc0 hc1 hrow0 hrow1 hg0 hg1 hg1'
    clear_value H
    subst hNW
    go_wp2_with (fail)
    go_loopw [84] (fun s wr => ∃ t : Nat, t ≤ 3 ∧ s = .int .i64 t ∧ Kp wN H wo.heap.size (some ⟨ox, 0, none⟩) cx Ay ny cy Az n cz ox (some ⟨g1, 0, none⟩) n cr1 (Gm.row m 0) wr) (fun s _ => 3 - (intOf s).toNat)
    case atStart => exact ⟨0, by omega, rfl, KP.out⟩
    case round =>
      clear KP
      obtain ⟨t, ht, rfl, hk⟩ := hrel
      by_cases hlt : t < 3
      · have q1 : (t : Int) < 3 := by omega
        obtain ⟨A, nA, cA, hct, hp⟩ := hk.at_ hlt
        have hpm := hp.max
        have hpl := hp.le
        have HK := Lib.hid hk
        have HP := Lib.hid hp
        clear hk hp
        go_wp2_with (fail)
        go_loopw [90] (fun s wr => ∃ i : Nat, i ≤ nA ∧ s = .int .i64 i ∧ Kp wN H wo.heap.size (some ⟨ox, 0, none⟩) cx Ay ny cy Az n cz ox (some ⟨g1, 0, none⟩) n cr1 (Gm.row m 0) wr ∧ Pok H wr A nA cA) (fun s _ => nA - (intOf s).toNat)
        case atStart => exact ⟨0, by omega, rfl, HK.out, HP.out⟩
        case round =>
          clear HK HP hct
          obtain ⟨i, hi, rfl, hk, hp⟩ := hrel
          by_cases hin : i < nA
          · have q2 : (i : Int) < nA := by omega
            obtain ⟨bA, oA, gr, kr, cr, rfl, hnb, hci, hkc, hcr, hrb⟩ := hp.at_ i hin
            have HK := Lib.hid hk
            have HP := Lib.hid hp
            have HRB := Lib.hid hrb
            have HCI := Lib.hid hci
            clear hk hp hrb
            go_wp2_with (fail)
            go_loopw [98] (fun s wr => ∃ j : Nat, j ≤ kr ∧ s = .int .i64 j ∧ Kp wN H wo.heap.size (some ⟨ox, 0, none⟩) cx Ay ny cy Az n cz ox (some ⟨g1, 0, none⟩) n cr1 (Gm.row m 0) wr ∧ Pok H wr (some ⟨bA, oA, none⟩) nA cA ∧ wr.cell? ⟨bA, oA + i, none⟩ = some (.slice (some ⟨gr, 0, none⟩) kr cr) ∧ RowB H wr gr kr) (fun s _ => kr - (intOf s).toNat)
            case atStart => exact ⟨0, by omega, rfl, HK.out, HP.out, HCI.out, HRB.out⟩
            case round =>
              clear HK HP HCI HRB hci
              obtain ⟨j, hj, rfl, hk, hp, hci, hrb⟩ := hrel
              by_cases hjk : j < kr
              · have q3 : (j : Int) < kr := by omega
                obtain ⟨x, hcx1, hfx⟩ := hrb.2 j hjk
                obtain ⟨y, hy⟩ : ∃ y : UInt8, bits .xor .u8 ((x.toNat : Int)) 255 = (y.toNat : Int) := ⟨x ^^^ 255, xor_u8 x 255⟩
                have hci' := hci
                rw [← World.cell?_setCell_other wr ⟨gr, j, none⟩ ⟨bA, oA + i, none⟩ (.int .u8 (y.toNat : Int)) (fun e => hnb (by injection e with e1 e2 e3; rw [← e1]; exact hrb.1))] at hci'
                have HK := Lib.hid (hk.set hrb.1 j y)
                have HP := Lib.hid (hp.set hrb.1 j y)
                have HRB := Lib.hid (hrb.set gr j y)
                have HCI := Lib.hid hci'
                clear hk hp hrb hci'
                go_wp2_with (fail)
                exact ⟨⟨j + 1, by omega, by go_num, HK.out, HP.out, HCI.out, HRB.out⟩, by simp [intOf]; omega⟩
              · obtain rfl : j = kr := by omega
                have q3 : ¬ (j : Int) < j := by omega
                clear hrb hci
                have HK := Lib.hid hk
                have HP := Lib.hid hp
                clear hk hp
                go_wp2_with (fail)
                exact ⟨⟨i + 1, by omega, by go_num, HK.out, HP.out⟩, by simp [intOf]; omega⟩
          · obtain rfl : i = nA := by omega
            have q2 : ¬ (i : Int) < i := by omega
            clear hp
            have HK := Lib.hid hk
            clear hk
            go_wp2_with (fail)
            exact ⟨⟨t + 1, by omega, by go_num, HK.out⟩, by simp [intOf]; omega⟩
      · obtain rfl : t = 3 := by omega
        have x0 := X0N.out.trans hk.ext
        have hm := HMN.out.ext hk.ext
        have hw := HWN'.out.ext hk.ext
        obtain ⟨bw, ow, Aw0, nw0, cw0, rfl, hcw, hbw⟩ := hw.at_ (show 0 < n by omega)
        have hbs := hk.bs
        have ho1 := hk.o1
        clear hk
        have hS : ∀ u : Ex wr, u.w.cell? ⟨ox, 1, none⟩ = some (.slice (some ⟨g1, 0, none⟩) n cr1) ∧ u.w.cell? ⟨bw, ow, none⟩ = some (.slice Aw0 nw0 cw0) := fun u => ⟨u.ext.cell ho1, by have := u.ext.cell hcw; rwa [Nat.add_zero] at this⟩
        have c1 := fun u : Ex wr => same_r u.w _ _ _ _ _ _ _ _ (hm.ext u.ext) (hw.ext u.ext) rfl
        have c2 := fun u : Ex wr => sameBytes_any u.w _ _ _ _ _ _ _ _ (hbs.ext u.ext) (hbw.ext u.ext)
        have c3 := fun u : Ex wr => awake_any3 u.w
        rw [show (Gm.row m 0 == Gm.row m 0) = true from beq_self_eq_true _] at c2
        have C1 := Lib.hid c1
        have C2 := Lib.hid c2
        have C3 := Lib.hid c3
        have X9 := Lib.hid x0
        clear c1 c2 c3 x0 hm hw hcw hbw hbs ho1
        go_wp2_with (fail)
        refine wp_region_grow (by kernel_rfl) (by kernel_rfl) ?_
        repeat (go_big_quiet_step (first | (with_reducible exact Ex.call _ (C1.out _)) | (with_reducible exact Ex.callSame _ (C2.out _)) | (with_reducible exact Ex.call _ (C3.out _))))
        refine wpQuiet_nil ?_
        rintro _ ⟨u, rfl⟩
        have xu := X9.out.trans u.ext
        clear hS
        generalize u.w = W9 at *
        go_wp2_with (fail)
        go_ret
        exact ⟨rfl, xu⟩
end matrixSpares
end Go.Proofs.Ytiianhlppkocgaa
