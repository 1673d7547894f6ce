/- The contract of the document's Mul. -/
import Derived.Test.YtiianhlppkocgaaRef3Cauchy
import Derived.Test.YtiianhlppkocgaaRef2Mul
import Derived.Test.YtiianhlppkocgaaMatMul
namespace Go.Proofs.Ytiianhlppkocgaa
open Go.RowKit
attribute [local go_sem ↓] Go.wp_at_zero Go.wp_at_succ

set_option maxRecDepth 100000 in
set_option maxHeartbeats 2000000 in
theorem ref3Mul_no (w : World) (A B : Option Addr) (n ca k cb : Nat) (a b : Gm.L) (ha : Mx w A n ca a) (hb : Mx w B k cb b) (h : ¬ fit a b) :
    Calls Try.prog 21 #[.slice A n ca, .slice B k cb] w (GivesQE [] 30 w) := by
  have hRa := ref3Right_any w A n ca a ha
  have hRb := fun W (hW : Ext w W) => ref3Right_any W B k cb b (hb.ext hW)
  have q1 := ha.max
  have q2 := ha.le
  have q3 := hb.max
  have q4 := hb.le
  have LA := Lib.hid ha.len
  have LB := Lib.hid hb.len
  by_cases h1 : Gm.right a
  · rw [decide_eq_true h1] at hRa
    by_cases h2 : Gm.right b
    · have h3 : Gm.cols a ≠ b.length := fun e => h ⟨h1, h2, e⟩
      obtain ⟨ba, oa, A0, n0, c0, rfl, hc0, hb0⟩ := ha.at_ (show 0 < n by have := h1.1; have := ha.len; omega)
      rw [Nat.add_zero] at hc0
      have e0 : (n0 : Int) ≠ (k : Int) := fun e => h3 (by
        have : Gm.cols a = n0 := hb0.len
        have := hb.len
        omega)
      have e1 : ((n0 : Int) != (k : Int)) = true := by simpa using e0
      have g0 : (0 : Int) < n := by have := h1.1; have := ha.len; omega
      have hm0 := hb0.max
      have hl0 := hb0.le
      rw [decide_eq_true h2] at hRb
      have HRa := Lib.hid hRa
      have HRb := Lib.hid hRb
      have HC := Lib.hid hc0
      clear hRa hRb ha hb h h1 h2 h3 hb0 e0 hc0
      go_enter Try.func21, Try.ntmps21
      try dsimp only [List.append]
      go_wp2_with (fail)
      refine HRa.out.mono ?_
      rintro e w1 ⟨rfl, x1⟩
      go_wp2_with (fail)
      refine (HRb.out w1 x1).mono ?_
      rintro e w2 ⟨rfl, x2⟩
      have hc2 := (x1.trans x2).cell HC.out
      go_wp2_with (fail)
      go_ret2
      exact GivesQE.none 30 (x1.trans x2)
    · rw [decide_eq_false h2] at hRb
      have HRa := Lib.hid hRa
      have HRb := Lib.hid hRb
      clear hRa hRb ha hb h h1 h2
      go_enter Try.func21, Try.ntmps21
      try dsimp only [List.append]
      go_wp2_with (fail)
      refine HRa.out.mono ?_
      rintro e w1 ⟨rfl, x1⟩
      go_wp2_with (fail)
      refine (HRb.out w1 x1).mono ?_
      rintro e w2 ⟨rfl, x2⟩
      go_wp2_with (fail)
      go_ret2
      exact GivesQE.none 30 (x1.trans x2)
  · rw [decide_eq_false h1] at hRa
    have HRa := Lib.hid hRa
    clear hRa hRb ha hb h h1
    go_enter Try.func21, Try.ntmps21
    try dsimp only [List.append]
    go_wp2_with (fail)
    refine HRa.out.mono ?_
    rintro e w1 ⟨rfl, x1⟩
    go_wp2_with (fail)
    go_ret2
    exact GivesQE.none 30 x1
set_option maxRecDepth 100000 in
set_option maxHeartbeats 4000000 in
theorem ref3Mul_ok (w : World) (A B : Option Addr) (n ca k cb : Nat) (a b : Gm.L) (ha : Mx w A n ca a) (hb : Mx w B k cb b) (h : fit a b) :
    Calls Try.prog 21 #[.slice A n ca, .slice B k cb] w (GivesQE (Gm.mulL a b) 0 w) := by
  obtain ⟨i0, hi0, hz0, hz1, hz2⟩ := info_parts bytes_info
  obtain ⟨j1, hj1, hy0, hy1, hy2⟩ := info_parts u8_info
  have hRa := ref3Right_any w A n ca a ha
  have hRb := fun W (hW : Ext w W) => ref3Right_any W B k cb b (hb.ext hW)
  rw [decide_eq_true h.1] at hRa
  rw [decide_eq_true h.2.1] at hRb
  have q1 := ha.max
  have q2 := ha.le
  have q3 := hb.max
  have q4 := hb.le
  have hnn : 0 < n ∧ n ≤ 255 := by have := h.1.1; have := h.1.2.1; have := ha.len; omega
  have hkk : 0 < k ∧ k ≤ 255 := by have := h.2.1.1; have := h.2.1.2.1; have := hb.len; omega
  obtain ⟨hn1, hn2⟩ := hnn
  obtain ⟨hk1, hk2⟩ := hkk
  obtain ⟨ba, oa, A0, n0, c0, rfl, hc0, hb0⟩ := ha.at_ hn1
  rw [Nat.add_zero] at hc0
  obtain ⟨bb, ob, B0, p, d0, rfl, hd0, hp0⟩ := hb.at_ hk1
  rw [Nat.add_zero] at hd0
  have e0 : n0 = k := by
    have h1 : Gm.cols a = n0 := hb0.len
    have h2 := hb.len
    have h3 := h.2.2
    omega
  subst e0
  have hcp : Gm.cols b = p := hp0.len
  have hwa : ∀ i, i < n → (Gm.row a i).length = n0 := fun i hi => (h.1.2.2.2.2 i (by rw [ha.len]; exact hi)).trans hb0.len
  have hwb : ∀ i, i < n0 → (Gm.row b i).length = p := fun i hi => (h.2.1.2.2.2.2 i (by rw [hb.len]; exact hi)).trans hp0.len
  have hp2 : p ≤ 255 := by have := h.2.1.2.2.2.1; omega
  have hml : (Gm.mulL a b).length = n := by rw [(Gm.mulL_rect a b).len, ha.len]
  have hmw : ∀ i, i < n → (Gm.row (Gm.mulL a b) i).length = p := fun i hi => ((Gm.mulL_rect a b).wid i (by rw [ha.len]; exact hi)).trans hcp
  have hma : ∀ i, i < n → ∀ j, j < p → Gf.get (Gm.row (Gm.mulL a b) i) j = Gm.sum (fun t => Gf.mul (Gf.get (Gm.row a i) t) (Gf.get (Gm.row b t) j)) n0 := fun i hi j hj => by
    have := Gm.at_mulL (a := a) (b := b) (i := i) (j := j) (by rw [ha.len]; exact hi) (by rw [hcp]; exact hj)
    rw [hb.len] at this
    exact this
  have hm0 := hb0.max
  have hl0 := hb0.le
  have hm9 := hp0.max
  have hl9 := hp0.le
  have HRa := Lib.hid hRa
  have HRb := Lib.hid hRb
  have HU := Lib.hid hml
  have HMW := Lib.hid hmw
  have HMA := Lib.hid hma
  have HWA := Lib.hid hwa
  have HWB := Lib.hid hwb
  have HA := Lib.hid ha
  have HB := Lib.hid hb
  have HC := Lib.hid hc0
  have HD := Lib.hid hd0
  have e1 : ((n0 : Int) != (n0 : Int)) = false := by simp
  have g0 : (0 : Int) < n := by omega
  have g1 : (0 : Int) < n0 := by omega
  obtain ⟨N2, hN2⟩ : ∃ N2, w.heap.size = N2 := ⟨_, rfl⟩
  have HN2 := Lib.hid hN2
  clear hRa hRb ha hb h hb0 hc0 hd0 hp0 hcp hwa hwb hml hmw hma hN2
  generalize Gm.mulL a b = M at *
  go_enter Try.func21, Try.ntmps21
  try dsimp only [List.append]
  go_wp2_with (fail)
  refine HRa.out.mono ?_
  rintro e w1 ⟨rfl, x1⟩
  go_wp2_with (fail)
  refine (HRb.out w1 x1).mono ?_
  rintro e w2 ⟨rfl, x2⟩
  have x02 := x1.trans x2
  have hc2 := x02.cell HC.out
  have hsz0 : N2 ≤ w2.heap.size := by have := x02.size; have := HN2.out; omega
  clear x1 x2 HRa HRb
  go_wp2_with (fail)
  go_loopw [6, 7, 8, 9, 10, 11] (fun v s _ _ _ _ wr => ∃ (t : Nat) (cs : List Value), t ≤ n ∧ s = .int .i64 t ∧ Mq wr N2 (Hot N2 v) v t cs (M.take t) ∧ Ext w wr ∧ N2 ≤ wr.heap.size) (fun _ s _ _ _ _ _ => n - (intOf s).toNat)
  case atStart => exact ⟨0, [], by omega, rfl, by rw [List.take_zero]; exact Mq.nil _ _ _, x02, hsz0⟩
  case round =>
    obtain ⟨i, cs, hi, rfl, hQ, hx, hsz⟩ := hrel
    clear hsz0 x02 hc2
    by_cases hlt : i < n
    · have r1 : (i : Int) < n := by omega
      obtain ⟨wo, rfl⟩ : ∃ wo : World, wo = wr := ⟨_, rfl⟩
      have hF := HMA.out i hlt
      have hl := HMW.out i hlt
      have hsn := take_row (m := M) (j := i) (by rw [HU.out]; exact hlt)
      generalize Gm.row M i = F at *
      have HSN := Lib.hid hsn
      have HF := Lib.hid hF
      have HL := Lib.hid hl
      have HQ := Lib.hid hQ
      clear hF hl hsn hQ
      go_wp2_with (fail)
      go_loopw [8, 9, 10, 11] (fun v s _ _ wr => ∃ j : Nat, j ≤ p ∧ s = .int .i64 j ∧ wr.ownsRow wo.heap.size 5 1 v j (bcells (F.take j)) ∧ Ext wo wr) (fun _ s _ _ _ => p - (intOf s).toNat)
      case atStart => exact ⟨0, by omega, rfl, World.ownsRow_nil _ _ _ _, Ext.refl wo⟩
      case round =>
        obtain ⟨j, hj, rfl, hown, hxj⟩ := hrel
        have hdj := (hx.trans hxj).cell HD.out
        by_cases hjc : j < p
        · have r2 : (j : Int) < p := by omega
          have hFj := HF.out j hjc
          have hsn := take_get (l := F) (j := j) (by rw [HL.out]; exact hjc)
          generalize Gf.get F j = y at *
          have HFJ := Lib.hid hFj
          have HS := Lib.hid hsn
          have HO := Lib.hid hown
          have HB2 := Lib.hid (own_row hown)
          have hsj := hxj.size
          obtain ⟨wj, rfl⟩ : ∃ wj : World, wj = wr := ⟨_, rfl⟩
          clear hFj hsn hown
          go_wp2_with (fail)
          clear hdj
          go_loopw [10, 11] (fun v s wr => ∃ t : Nat, t ≤ n0 ∧ s = .int .i64 t ∧ v = .int .u8 ((Gm.sum (fun t => Gf.mul (Gf.get (Gm.row a i) t) (Gf.get (Gm.row b t) j)) t).toNat : Int) ∧ Ext wj wr) (fun _ s _ => n0 - (intOf s).toNat)
          case atStart => exact ⟨0, by omega, rfl, rfl, Ext.refl wj⟩
          case round =>
            obtain ⟨t, ht, rfl, rfl, hxt⟩ := hrel
            by_cases htn : t < n0
            · have r3 : (t : Int) < n0 := by omega
              have hxx := (hx.trans hxj).trans hxt
              obtain ⟨a1, a2, A3, a4, a5, e1, ha1, ha2⟩ := (HA.out.ext hxx).at_ hlt
              injection e1 with e1
              injection e1 with e1 e2
              subst e1 e2
              obtain ⟨b1, b2, B3, b4, b5, e1, hb1, hb2⟩ := (HB.out.ext hxx).at_ htn
              injection e1 with e1
              injection e1 with e1 e2
              subst e1 e2
              obtain rfl : n0 = a4 := by rw [← ha2.len]; exact (HWA.out i hlt).symm
              obtain rfl : p = b4 := by rw [← hb2.len]; exact (HWB.out t htn).symm
              obtain ⟨a6, a7, rfl, ha3⟩ := ha2.rd.byte htn
              obtain ⟨b6, b7, rfl, hb3⟩ := hb2.rd.byte hjc
              have ha8 := ha2.max
              have ha9 := ha2.le
              have hb8 := hb2.max
              have hb9 := hb2.le
              have hmu := fun W => refMul_any W (Gf.get (Gm.row a i) t) (Gf.get (Gm.row b t) j)
              have hsum : bits .xor .u8 ((Gm.sum (fun t => Gf.mul (Gf.get (Gm.row a i) t) (Gf.get (Gm.row b t) j)) t).toNat : Int) ((Gf.mul (Gf.get (Gm.row a i) t) (Gf.get (Gm.row b t) j)).toNat : Int) = ((Gm.sum (fun t => Gf.mul (Gf.get (Gm.row a i) t) (Gf.get (Gm.row b t) j)) (t + 1)).toNat : Int) := by rw [xor_u8]; rfl
              generalize Gm.sum (fun t => Gf.mul (Gf.get (Gm.row a i) t) (Gf.get (Gm.row b t) j)) t = s0 at *
              generalize Gf.mul (Gf.get (Gm.row a i) t) (Gf.get (Gm.row b t) j) = s2 at *
              generalize Gf.get (Gm.row a i) t = s3 at *
              generalize Gf.get (Gm.row b t) j = s4 at *
              have HMU := Lib.hid hmu
              have HSUM := Lib.hid hsum
              clear ha2 hb2 hmu hsum hxx
              go_wp2_with (fail)
              go_quiet ((go_at_call 45; exact Calls.quiet_of_same ((HMU.out _).mono fun _ _ h => ⟨h.1, h.2.symm⟩)))
              go_wp2_with (fail)
              exact ⟨⟨t + 1, by omega, by go_num, congrArg (Value.int .u8) HSUM.out, hxt.trans (Ext.drewN _ _)⟩, by simp [intOf]; omega⟩
            · have r3 : ¬ (t : Int) < n0 := by omega
              obtain rfl : n0 = t := by omega
              rw [← HFJ.out]
              have HO2 := Lib.hid ((ownsRow_ext HO.out hxt).alloc (.cells #[.int .u8 (y.toNat : Int)] 5))
              have hst := hxt.size
              go_wp2_with (at_builtin; refine wpList_append_rd _ rfl (.tmp 66) (.tmp 68) 26 rfl wo.heap.size 5 j1 _ 1 1 Try.underlying26 hj1 hy0 hy1 hy2 rfl (by omega) u8 j (bcells (F.take j)) rfl HO2.out (some ⟨wr.heap.size, 0, none⟩) 1 1 [.int .u8 (y.toNat : Int)] rfl (Rd.lit wr #[_] _) (by simp [Value.oneCell']) (by omega) (by unfold maxLen; omega) (by simp; omega) ?_; intro v5 w5 hown hgr hat)
              refine ⟨⟨j + 1, by omega, by go_num, ?_, ((hxj.trans hxt).thenAlloc _).ofGrown hgr HB2.out⟩, by simp [intOf]; omega⟩
              rw [HS.out, bcells_append]
              exact hown
        · have r2 : ¬ (j : Int) < p := by omega
          obtain rfl : p = j := by omega
          rw [List.take_of_length_le (by rw [HL.out]; exact Nat.le_refl _)] at hown
          obtain ⟨A4, c4, rfl, hz4, hz5⟩ := ownsRow_slice hown
          have ow4 := Lib.hid (ownsRow_ext (ownsRow_ext HQ.out.own hxj) (Ext.alloc wr (.cells #[.slice A4 p c4] 26)))
          have OW := Lib.hid hown
          have X4 := Lib.hid hxj
          have hs4 := hxj.size
          clear hown hxj
          go_wp2_with (at_builtin; refine wpList_append_rd _ rfl (.tmp 70) (.tmp 72) 25 rfl N2 26 i0 _ 1 24 Try.underlying25 hi0 hz0 hz1 hz2 rfl (by omega) u6 i cs rfl ow4.out (some ⟨wr.heap.size, 0, none⟩) 1 1 [.slice A4 p c4] rfl (Rd.lit _ #[.slice A4 p c4] _) (by simp [Value.oneCell']) (by omega) (by unfold maxLen; omega) (by simp; omega) ?_; intro v5 w5 hown hgr hat)
          have hsn2 := HQ.out.snoc X4.out (r := F) (A := A4) (c := c4) (by rw [HL.out]; exact OW.out) (Nat.le_refl _) hsz (Ext.alloc wr (.cells #[.slice A4 p c4] 26)) (by rw [HL.out]; exact hown) hgr hat
          rw [HL.out] at hsn2
          have hne : ∀ q, u6.ownBlock = some q → N2 ≤ q := own_row HQ.out.own
          refine ⟨⟨i + 1, cs ++ [.slice A4 p c4], by omega, by go_num, ?_, ?_, ?_⟩, by simp [intOf]; omega⟩
          · rw [HSN.out]; exact hsn2
          · exact ((hx.trans X4.out).thenAlloc _).ofGrown hgr (fun q hq => by have := hne q hq; have := HN2.out; omega)
          · have := hgr.size; simp at this; omega
    · have r1 : ¬ (i : Int) < n := by omega
      obtain rfl : n = i := by omega
      rw [List.take_of_length_le (by rw [HU.out]; exact Nat.le_refl _)] at hQ
      go_wp2_with (fail)
      go_ret2
      refine ⟨_, cs, rfl, ?_, hx⟩
      rw [HU.out, HN2.out]
      exact hQ
theorem ref3Mul_any (w : World) (A B : Option Addr) (n ca k cb : Nat) (a b : Gm.L) (ha : Mx w A n ca a) (hb : Mx w B k cb b) :
    Calls Try.prog 21 #[.slice A n ca, .slice B k cb] w (GivesQE (if fit a b then Gm.mulL a b else []) (if fit a b then 0 else 30) w) := by
  by_cases h : fit a b
  · rw [if_pos h, if_pos h]
    exact ref3Mul_ok w A B n ca k cb a b ha hb h
  · rw [if_neg h, if_neg h]
    exact ref3Mul_no w A B n ca k cb a b ha hb h
end Go.Proofs.Ytiianhlppkocgaa
