/- The contract of matrix.Mul where the shapes are right. -/
import Derived.Test.YtiianhlppkocgaaMatUnit
import Derived.StillTailTactics
namespace Go.Proofs.Ytiianhlppkocgaa
open Go.RowKit

/-- The first k products of a row, added. -/
def accRow (a b : Gm.L) (i k : Nat) : List UInt8 := (List.range (Gm.cols b)).map fun j => Gm.sum (fun t => Gf.mul (Gm.at_ a i t) (Gm.at_ b t j)) k
theorem accRow_length (a b : Gm.L) (i k : Nat) : (accRow a b i k).length = Gm.cols b := by simp [accRow]
theorem accRow_zero (a b : Gm.L) (i : Nat) : accRow a b i 0 = zeros (Gm.cols b) := by
  refine Gf.ext_get (by simp [accRow, zeros]) fun j hj => ?_
  rw [accRow_length] at hj
  unfold accRow zeros
  rw [Gf.get_map_range _ hj, Gf.get_zeros]
  rfl
theorem accRow_succ (a b : Gm.L) (i k : Nat) : Gf.lay (accRow a b i k) (Gf.get (Gm.row a i) k) (Gm.row b k) = accRow a b i (k + 1) := by
  refine Gf.ext_get (by rw [Gf.lay_length, accRow_length, accRow_length]) fun j hj => ?_
  rw [Gf.lay_length] at hj
  rw [Gf.lay_get _ _ _ hj, Gf.layAt_all]
  rw [accRow_length] at hj
  unfold accRow
  rw [Gf.get_map_range _ hj, Gf.get_map_range _ hj]
  rfl
theorem accRow_full {a b : Gm.L} {i k : Nat} (hi : i < a.length) (hk : k = b.length) : accRow a b i k = Gm.row (Gm.mulL a b) i := by
  subst hk
  unfold Gm.mulL
  rw [Gm.row_range _ hi]
  rfl

set_option maxRecDepth 100000 in
set_option maxHeartbeats 4000000 in
theorem mul_ok (fb : Nat) (w : World) (A B : Option Addr) (n ca k cb : Nat) (a b : Gm.L) (hf : FieldAt w fb) (ha : Mx w A n ca a) (hb : Mx w B k cb b) (ra : Gm.right a) (rb : Gm.right b) (hab : Gm.cols a = b.length) :
    Calls Try.prog 14 #[.pointer (some ⟨fb, 0, none⟩), .slice A n ca, .slice B k cb] w (GivesQE (Gm.mulL a b) 0 w) := by
  have hna := ha.len
  have hkb := hb.len
  have hn1 : 1 ≤ n ∧ n ≤ 255 := by have := ra.1; have := ra.2.1; omega
  have hk1 : 1 ≤ k ∧ k ≤ 255 := by have := rb.1; have := rb.2.1; omega
  have hcb : 1 ≤ Gm.cols b ∧ Gm.cols b ≤ 255 := ⟨rb.2.2.1, rb.2.2.2.1⟩
  have hRa := matRight_any w A n ca a ha
  rw [decide_eq_true ra] at hRa
  have hRb := fun (W : World) (h : Ext w W) => matRight_any W B k cb b (hb.ext h)
  rw [decide_eq_true rb] at hRb
  have hwa : ∀ i, i < n → (Gm.row a i).length = k := fun i hi => by rw [ra.2.2.2.2 i (by omega), hab, hkb]
  have hwb : ∀ i, i < k → (Gm.row b i).length = Gm.cols b := fun i hi => rb.2.2.2.2 i (by omega)
  have hl1 := ha.max
  have hl2 := ha.le
  have hl3 := hb.max
  have hl4 := hb.le
  have LA := Lib.hid hna
  have LB := Lib.hid hkb
  have WA := Lib.hid hwa
  have WB := Lib.hid hwb
  have HRA := Lib.hid hRa
  have HRB := Lib.hid hRb
  have HN := Lib.hid (none_any fb w hf)
  obtain ⟨q, hq⟩ : ∃ q, Gm.cols b = q := ⟨_, rfl⟩
  rw [hq] at hcb WB
  have HQ := Lib.hid hq
  clear ra rb hab hna hkb hRa hRb hwa hwb hq
  go_enter Try.func14, Try.ntmps14
  try dsimp only [List.append]
  go_wp2_with (fail)
  refine HN.out.mono ?_
  rintro e w' ⟨rfl, rfl⟩
  go_wp2_with (fail)
  refine HRA.out.mono ?_
  rintro e w1 ⟨rfl, x1⟩
  go_wp2_with (fail)
  refine (HRB.out w1 x1).mono ?_
  rintro e w2 ⟨rfl, x2⟩
  have x12 := x1.trans x2
  obtain ⟨ba, oa, A0, n0, c0, rfl, h0, hb0⟩ := (ha.ext x12).at_ (show 0 < n by omega)
  obtain ⟨bb, ob, B0, m0, d0, rfl, h0', hb0'⟩ := (hb.ext x12).at_ (show 0 < k by omega)
  rw [Nat.add_zero] at h0 h0'
  have e0 : n0 = k := by rw [← hb0.len]; exact WA.out 0 (by omega)
  have e0' : m0 = q := by rw [← hb0'.len]; exact WB.out 0 (by omega)
  subst e0 e0'
  have i1 : (0 : Int) < n := by omega
  have i2 : (0 : Int) < n0 := by omega
  have mm1 := hb0.max
  have mm2 := hb0'.max
  have mm3 := hb0.le
  have mm4 := hb0'.le
  clear hb0 hb0'
  go_wp2_with (fail)
  refine (blank_any w2 n m0 (by omega) (by omega)).mono ?_
  rintro e w3 ⟨v, cs, rfl, hQ, x3⟩
  rw [List.length_replicate] at hQ
  obtain ⟨G, cg, rfl, hc1, hc2⟩ := ownsRow_slice hQ.own
  obtain ⟨g, rfl, hg1, hg2⟩ := own_addr hQ.own (by omega)
  clear h0 h0'
  have x13 := x12.trans x3
  have hml : (Gm.mulL a b).length = n := by rw [(Gm.mulL_rect a b).len, LA.out]
  have hst : List.replicate n (zeros m0) = upTo (Gm.mulL a b) (List.replicate n (zeros m0)) 0 := (upTo_zero _ _).symm
  rw [hst] at hQ
  have HU := Lib.hid hml
  have hs2 := x12.size
  obtain ⟨N2, hN2⟩ : ∃ N2, w2.heap.size = N2 := ⟨_, rfl⟩
  rw [hN2] at hQ hg1 hs2
  have HN2 := Lib.hid hN2
  clear hst hml hN2
  go_wp2_with (fail)
  go_loopw [9, 42] (fun _ s wr => ∃ (i : Nat) (cs : List Value), i ≤ n ∧ s = .int .i64 i ∧ Mq wr N2 (Hot N2 (.slice (some ⟨g, 0, none⟩) n cg)) (.slice (some ⟨g, 0, none⟩) n cg) n cs (upTo (Gm.mulL a b) (List.replicate n (zeros m0)) i) ∧ Ext w wr ∧ g < wr.heap.size) (fun _ s _ => n - (intOf s).toNat)
  case atStart => exact ⟨0, cs, by omega, rfl, hQ, x13, hg2⟩
  case round =>
    obtain ⟨i, cs, hi, rfl, hQ', hx', hgs⟩ := hrel
    clear hQ
    by_cases hlt : i < n
    · have q1 : (i : Int) < n := by omega
      obtain ⟨_, _, Ai, ni, ci, hA, hca0, hbi⟩ := ha.at_ hlt
      have hca := hx'.cell hca0
      injection hA with hA
      injection hA with hA1 hA2
      subst hA1 hA2
      have eni : ni = n0 := by rw [← hbi.len]; exact WA.out i hlt
      subst eni
      obtain ⟨wo, rfl⟩ : ∃ wo : World, wo = wr := ⟨_, rfl⟩
      have hQ0 : Mq wo N2 (Hot N2 (.slice (some ⟨g, 0, none⟩) n cg)) (.slice (some ⟨g, 0, none⟩) n cg) n cs ((upTo (Gm.mulL a b) (List.replicate n (zeros m0)) i).set i (accRow a b i 0)) := by
        have e1 : (upTo (Gm.mulL a b) (List.replicate n (zeros m0)) i).set i (accRow a b i 0) = upTo (Gm.mulL a b) (List.replicate n (zeros m0)) i := by
          rw [accRow_zero, HQ.out]
          have e2 : Gm.row (upTo (Gm.mulL a b) (List.replicate n (zeros m0)) i) i = zeros m0 := by rw [row_upTo (by rw [HU.out]; omega) (Nat.le_refl _), row_replicate _ hlt]
          refine Gm.rows_ext (by simp) fun j hj => ?_
          rw [List.length_set] at hj
          by_cases e3 : i = j
          · subst e3; rw [Gm.row_set _ hj, if_pos rfl, e2]
          · rw [row_set_ne _ e3]
        rw [e1]; exact hQ'
      have HX := Lib.hid hx'
      have HBI := Lib.hid hbi
      clear hQ' hbi hca0
      go_wp2_with (fail)
      clear hca
      go_loopw [10, 11, 50] (fun _ _ s wr => ∃ (t : Nat) (cs : List Value), t ≤ ni ∧ s = .int .i64 t ∧ Mq wr N2 (Hot N2 (.slice (some ⟨g, 0, none⟩) n cg)) (.slice (some ⟨g, 0, none⟩) n cg) n cs ((upTo (Gm.mulL a b) (List.replicate n (zeros m0)) i).set i (accRow a b i t)) ∧ Ext w wr ∧ g < wr.heap.size) (fun _ _ s _ => ni - (intOf s).toNat)
      case atStart => exact ⟨0, cs, by omega, rfl, hQ0, HX.out, hgs⟩
      case round =>
        obtain ⟨t, cs, ht, rfl, hQ1, hx1, hgs1⟩ := hrel
        clear hQ0 hgs
        by_cases hlt2 : t < ni
        · have q2 : (t : Int) < ni := by omega
          obtain ⟨bi, oi, rfl, hcell⟩ := (HBI.out.ext hx1).rd.byte hlt2
          obtain ⟨_, _, Bt, nt, ct, hB, hcb', hbt⟩ := (hb.ext hx1).at_ hlt2
          injection hB with hB
          injection hB with hB1 hB2
          subst hB1 hB2
          have ent : nt = m0 := by rw [← hbt.len]; exact WB.out t hlt2
          subst ent
          obtain ⟨Ao, co, hcs, hco, hfo, hoo⟩ := hQ1.cellAt hlt
          have hrow : Gm.row ((upTo (Gm.mulL a b) (List.replicate n (zeros nt)) i).set i (accRow a b i t)) i = accRow a b i t := by rw [Gm.row_set _ (by rw [upTo_length (by rw [HU.out]; simp) (by rw [HU.out]; omega), HU.out]; exact hlt), if_pos rfl]
          rw [hrow] at hcs hco hoo
          have hlc := lay_any fb wr.drew Ao Bt _ co nt ct (accRow a b i t) (Gm.row b t) (Gf.get (Gm.row a i) t) ((hf.ext hx1).ext (Ext.drew _)) ((Own.mk (base := N2) (e := 5) hoo).bs.ext (Ext.drew _)) (hbt.ext (Ext.drew _)) (by rw [accRow_length, HQ.out]; omega)
          rw [accRow_succ] at hlc
          have hal : (accRow a b i t).length = nt := by rw [accRow_length, HQ.out]
          have hal2 : (accRow a b i (t + 1)).length = nt := by rw [accRow_length, HQ.out]
          rw [hal] at hco hlc
          generalize Gf.get (Gm.row a i) t = x at *
          have HL := Lib.hid hlc
          have HQ1 := Lib.hid hQ1
          have HX1 := Lib.hid hx1
          have HAL := Lib.hid hal2
          have q3 : (0 : Int) ≤ (t : Int) := by omega
          have q4 : (0 : Int) ≤ (i : Int) := by omega
          clear hlc hQ1 hx1 hal hal2 hrow hcs hoo hbt
          obtain ⟨wi, rfl⟩ : ∃ wi : World, wi = wr := ⟨_, rfl⟩
          go_wp2_with (fail)
          go_region_with ((with_reducible refine HL.out.mono ?_); (rintro e w4 ⟨v4, rfl, hv⟩; obtain ⟨A4, c4, rfl, _⟩ := hv.bs; have hco4 := ((Ext.drew wi).trans hv.ext).cell hco; have hfo4 : w4.frozen? ⟨g, i, none⟩ = false := (((Ext.drew wi).trans hv.ext).frozen hco).trans hfo; rw [HAL.out]))
          all_goals
            have x4 : Ext wi w4 := (Ext.drew wi).trans hv.ext
            have hsd : wi.heap.size ≤ wi.drew.heap.size := (Ext.drew wi).size
            have hs4 := x4.size
            have hput := (HQ1.out.ext x4).put hlt hv.own (by omega) (fun b hb => by
              have hf := HQ1.out.fresh hv.own hsd (hot_lt hgs1 (by have := HN2.out; have := HX1.out.size; omega)) b hb
              exact ⟨hf.1, fun j u _ hu => hf.2 j u hu⟩)
            rw [set_set, HAL.out] at hput
            have hxs := (HX1.out.trans x4).set_ (p := ⟨g, i, none⟩) (by show w.heap.size ≤ g; omega) (.slice A4 nt c4)
            have HP := Lib.hid hput
            have HXS := Lib.hid hxs
            clear hput hxs hv hfo
            go_wp2_with (fail)
            exact ⟨⟨t + 1, _, by omega, by go_num, HP.out, HXS.out, by simp; omega⟩, by simp [intOf]; omega⟩
        · have q2 : ¬ (t : Int) < ni := by omega
          obtain rfl : t = ni := by omega
          rw [accRow_full (by rw [LA.out]; exact hlt) LB.out.symm, upTo_set (by rw [HU.out]; simp) (by rw [HU.out]; exact hlt)] at hQ1
          go_wp2_with (fail)
          exact ⟨⟨i + 1, cs, by omega, by go_num, hQ1, hx1, hgs1⟩, by simp [intOf]; omega⟩
    · have q1 : ¬ (i : Int) < n := by omega
      obtain rfl : i = n := by omega
      rw [upTo_full HU.out.symm (by rw [HU.out]; simp)] at hQ'
      go_wp2_with (fail)
      go_ret2
      refine ⟨_, cs, rfl, ?_, hx'⟩
      rw [HU.out]
      exact hQ'.lower (by omega)
end Go.Proofs.Ytiianhlppkocgaa
