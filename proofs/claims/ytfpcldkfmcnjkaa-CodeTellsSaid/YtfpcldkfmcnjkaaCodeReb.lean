/- The contracts of code's Rebuild, Fits; of slices.Equal and slices.EqualFunc at lists of shards. -/
import Derived.Test.YtfpcldkfmcnjkaaCodeEnc
namespace Go.Proofs.Ytfpcldkfmcnjkaa
open Go.RowKit
attribute [local go_sem ↓] Go.wp_at_zero Go.wp_at_succ

/-- Bytes of the call's own are handed back, with an error. -/
def GivesBE (l : List UInt8) (er : Int) (w : World) (e : Ending) (w' : World) : Prop := ∃ v, e = .returned (.tuple #[v, .int .i64 er]) ∧ NewBytes w w' v l
theorem GivesBE.none (er : Int) {w w' : World} (hx : Ext w w') : GivesBE [] er w (.returned (.tuple #[.slice none 0 0, .int .i64 er])) w' := ⟨_, rfl, World.ownsRow_nil _ _ _ _, hx⟩
def rebE (k n : Nat) (l : List Int) (s : Gm.L) (i : Int) : Int := if decOk k n l s then (if 0 ≤ i ∧ i < n then 0 else 2) else 40
def rebL (k n : Nat) (l : List Int) (s : Gm.L) (i : Int) : List UInt8 := if decOk k n l s ∧ 0 ≤ i ∧ i < n then Gm.rowL (Gm.row (Gm.gen k n) i.toNat) (decM k n l s) else []
theorem decM_shape {k n : Nat} {l : List Int} {s : Gm.L} (hk : 1 ≤ k) (hn : n ≤ 255) (hkn : k ≤ n) (h : decOk k n l s) : (decM k n l s).length = k ∧ (∀ i, i < k → (Gm.row (decM k n l s) i).length = Gm.cols s) ∧ Gm.cols (decM k n l s) = Gm.cols s ∧ Gm.cols s ≤ 65536 := by
  have hl := part_length hk hn hkn h.1
  have hr := invM_rect h.2 hl
  have e : decM k n l s = Gm.mulL (invM (partOf k n l)) (s.take k) := by unfold decM; rw [if_pos h]
  have hw : ∀ i, i < k → (Gm.row (decM k n l s) i).length = Gm.cols s := fun i hi => by rw [e, Gm.row_mulL (by rw [hr.len]; exact hi), Gm.rowL_length, cols_take hk]
  exact ⟨by rw [e, Gm.mulL_length, hr.len], hw, hw 0 hk, h.1.1.2.2.2.2.1⟩
set_option maxRecDepth 100000 in
set_option maxHeartbeats 4000000 in
theorem rebuild_any (w : World) (b fb k n : Nat) (hC : Cd w b fb k n) (B : Option Addr) (q d : Nat) (l : List Int) (hl : Is w B q d l) (As : Option Addr) (m cs : Nat) (s : Gm.L) (hs : Mx w As m cs s) (i : Int) :
    Calls Try.prog 26 #[cptr b, .slice B q d, .slice As m cs, .int .i64 i] w (GivesBE (rebL k n l s i) (rebE k n l s i) w) := by
  have hD := decode_any w b fb k n hC B q d l hl As m cs s hs
  have HD := Lib.hid hD
  clear hD hl hs
  by_cases h : decOk k n l s
  · have hsh := decM_shape hC.k1 hC.n2 hC.kn h
    have e0 : decE k n l s = 0 := by unfold decE; rw [if_pos h]
    rw [e0] at HD
    by_cases hi : 0 ≤ i ∧ i < n
    · have e1 : rebL k n l s i = Gm.rowL (Gm.row (Gm.gen k n) i.toNat) (decM k n l s) := by unfold rebL; rw [if_pos ⟨h, hi⟩]
      have e2 : rebE k n l s i = 0 := by unfold rebE; rw [if_pos h, if_pos hi]
      rw [e1, e2]
      obtain ⟨t, rfl⟩ := Int.eq_ofNat_of_zero_le hi.1
      rw [Int.toNat_natCast]
      have htn : t < n := by omega
      have g1 : ¬ (t : Int) < 0 := by omega
      have g2 : ¬ (n : Int) ≤ t := by omega
      have g3 : (t : Int) < n := by omega
      have HSH := Lib.hid hsh
      have HC := Lib.hid hC
      clear h hi e0 e1 e2 hsh hC
      generalize decM k n l s = DM at *
      go_enter Try.func26, Try.ntmps26
      go_wp2_with (fail)
      refine HD.out.mono ?_
      intro e w1 hg
      obtain ⟨A1, c1', rfl, m1, x1⟩ := gives_mx hg
      clear hg
      rw [HSH.out.1] at m1
      rw [HSH.out.1]
      have hC1 := HC.out.ext x1
      obtain ⟨A, c, c2, hm⟩ := hC1.mx
      obtain ⟨bm, om, Ai, ni, ci, rfl, hce, hbi⟩ := hm.at_ htn
      have hni : ni = k := by rw [← hbi.len]; exact (Gm.gen_rect hC1.kn).wid t htn
      subst hni
      have hq1 := hm.max
      have hq2 := hm.le
      have HR := Lib.hid (row_any w1 b fb ni n hC1 Ai ni ci _ hbi A1 c1' DM m1 hC1.k1 (fun i hi => by rw [HSH.out.2.1 i hi, HSH.out.2.2.1]) (by rw [HSH.out.2.2.1]; exact HSH.out.2.2.2))
      clear hm hbi hC1
      go_wp2_with (fail)
      refine HR.out.mono ?_
      rintro e w2 ⟨v2, rfl, hv⟩
      go_wp2_with (fail)
      go_ret2
      exact ⟨v2, rfl, ownsRow_base hv.own x1.size, x1.trans hv.ext⟩
    · have e1 : rebL k n l s i = [] := by unfold rebL; rw [if_neg (fun q => hi q.2)]
      have e2 : rebE k n l s i = 2 := by unfold rebE; rw [if_pos h, if_neg hi]
      rw [e1, e2]
      have HC := Lib.hid hC
      have HSH := Lib.hid hsh
      clear e0 e1 e2 h hC hsh
      generalize decM k n l s = DM at *
      by_cases h1 : i < 0
      · go_enter Try.func26, Try.ntmps26
        go_wp2_with (fail)
        refine HD.out.mono ?_
        intro e w1 hg
        obtain ⟨A1, c1', rfl, m1, x1⟩ := gives_mx hg
        clear hg m1
        go_wp2_with (fail)
        go_ret2
        exact GivesBE.none 2 x1
      · have h2 : (n : Int) ≤ i := by omega
        go_enter Try.func26, Try.ntmps26
        go_wp2_with (fail)
        refine HD.out.mono ?_
        intro e w1 hg
        obtain ⟨A1, c1', rfl, m1, x1⟩ := gives_mx hg
        obtain ⟨A, c, c2, hm⟩ := (HC.out.ext x1).mx
        have hq1 := hm.max
        have hq2 := hm.le
        clear hg m1 hm
        go_wp2_with (fail)
        go_ret2
        exact GivesBE.none 2 x1
  · have e0 : decE k n l s = 40 := by unfold decE; rw [if_neg h]
    have e3 : decM k n l s = [] := by unfold decM; rw [if_neg h]
    have e1 : rebL k n l s i = [] := by unfold rebL; rw [if_neg (fun q => h q.1)]
    have e2 : rebE k n l s i = 40 := by unfold rebE; rw [if_neg h]
    rw [e1, e2]
    rw [e0, e3] at HD
    clear e0 e1 e2 e3 h hC
    go_enter Try.func26, Try.ntmps26
    go_wp2_with (fail)
    refine HD.out.mono ?_
    intro e w1 hg
    obtain ⟨A1, c1', rfl, m1, x1⟩ := gives_mx hg
    clear hg m1
    go_wp2_with (fail)
    go_ret2
    exact GivesBE.none 40 x1

/-! Comparing. -/
set_option maxRecDepth 100000 in
set_option maxHeartbeats 1000000 in
theorem equal_any (w : World) (A A' : Option Addr) (n c m c' : Nat) (a b : List UInt8) (ha : Bs w A n c a) (hb : Bs w A' m c' b) :
    Calls Try.prog 52 #[.slice A n c, .slice A' m c'] w fun e w' => e = .returned (.bool (decide (a = b))) ∧ Ext w w' := by
  have q1 := ha.max
  have q2 := ha.le
  have q3 := hb.max
  have q4 := hb.le
  have LA := Lib.hid ha.len
  have LB := Lib.hid hb.len
  by_cases h : n = m
  · subst h
    have e1 : ((n : Int) != (n : Int)) = false := by simp
    obtain ⟨tb, htb⟩ : ∃ tb, decide (a = b) = tb := ⟨_, rfl⟩
    rw [htb]
    have HTB := Lib.hid htb
    clear htb
    go_enter Try.func52, Try.ntmps52
    go_wp2_with (fail)
    go_loopw [5, 13] (fun _ t wr => ∃ i : Nat, i ≤ n ∧ t = .int .i64 i ∧ Ext w wr ∧ RowKit.Hid (∀ j, j < i → Gf.get a j = Gf.get b j)) (fun _ t _ => n - (intOf t).toNat)
    case atStart => exact ⟨0, by omega, rfl, Ext.refl w, Lib.hid fun i hi => absurd hi (Nat.not_lt_zero _)⟩
    case round =>
      obtain ⟨i, hi, rfl, hx, H⟩ := hrel
      by_cases hlt : i < n
      · have i1 : (i : Int) < n := by omega
        obtain ⟨b1, o1, rfl, hc1⟩ := (ha.ext hx).rd.byte hlt
        obtain ⟨b2, o2, rfl, hc2⟩ := (hb.ext hx).rd.byte hlt
        have hne : Gf.get a i ≠ Gf.get b i → tb = false := fun h => by
          rw [← HTB.out]
          exact decide_eq_false (fun e => h (by rw [e]))
        have HNE := Lib.hid hne
        obtain ⟨x, hx1⟩ : ∃ x, Gf.get a i = x := ⟨_, rfl⟩
        obtain ⟨y, hy1⟩ : ∃ y, Gf.get b i = y := ⟨_, rfl⟩
        rw [hx1] at hc1 HNE
        rw [hy1] at hc2 HNE
        have HX := Lib.hid hx1
        have HY := Lib.hid hy1
        clear hne hx1 hy1
        by_cases hxy : x = y
        · have e3 : ((x.toNat : Int) != (y.toNat : Int)) = false := by simp [hxy]
          have HXY := Lib.hid hxy
          clear hxy
          go_wp2_with (fail)
          go_quiet (fail)
          go_wp2_with (fail)
          refine ⟨⟨i + 1, by omega, by go_num, hx.trans (Ext.drewN _ _), Lib.hid fun j hj => ?_⟩, by simp [intOf]; omega⟩
          by_cases e : j = i
          · rw [e, HX.out, HY.out]; exact HXY.out
          · exact H.out j (by omega)
        · obtain rfl := HNE.out hxy
          have e3 : ((x.toNat : Int) != (y.toNat : Int)) = true := by
            rw [bne_iff_ne]
            exact fun e => hxy (UInt8.toNat_inj.1 (by omega))
          go_wp2_with (fail)
          go_quiet (fail)
          go_wp2_with (fail)
          go_ret
          exact ⟨rfl, hx.trans (Ext.drewN _ _)⟩
      · have i1 : ¬ (i : Int) < n := by omega
        obtain rfl : n = i := by omega
        have he : a = b := Gf.ext_get (by rw [LA.out, LB.out]) fun j hj => H.out j (by rw [LA.out] at hj; exact hj)
        obtain rfl : tb = true := by rw [← HTB.out]; exact decide_eq_true he
        clear he
        go_wp2_with (fail)
        go_ret
        exact ⟨rfl, hx⟩
  · have e1 : ((n : Int) != (m : Int)) = true := by rw [bne_iff_ne]; omega
    have hne : a ≠ b := fun e => h (by rw [← LA.out, ← LB.out, e])
    rw [decide_eq_false hne]
    clear ha hb hne
    go_enter Try.func52, Try.ntmps52
    go_wp2_with (fail)
    go_ret
    exact ⟨rfl, Ext.refl w⟩
set_option maxRecDepth 100000 in
set_option maxHeartbeats 1000000 in
theorem equalFunc_any (w : World) (A A' : Option Addr) (n c m c' : Nat) (a b : Gm.L) (ha : Mx w A n c a) (hb : Mx w A' m c' b) :
    Calls Try.prog 51 #[.slice A n c, .slice A' m c', .func (.func 52) #[] #[]] w fun e w' => e = .returned (.bool (decide (a = b))) ∧ Ext w w' := by
  have q1 := ha.max
  have q2 := ha.le
  have q3 := hb.max
  have q4 := hb.le
  have LA := Lib.hid ha.len
  have LB := Lib.hid hb.len
  by_cases h : n = m
  · subst h
    have e1 : ((n : Int) != (n : Int)) = false := by simp
    obtain ⟨tb, htb⟩ : ∃ tb, decide (a = b) = tb := ⟨_, rfl⟩
    rw [htb]
    have HTB := Lib.hid htb
    have HA := Lib.hid ha
    have HB := Lib.hid hb
    clear htb ha hb
    go_enter Try.func51, Try.ntmps51
    go_wp2_with (fail)
    go_loopw [7, 8, 9, 17] (fun _ _ _ t wr => ∃ i : Nat, i ≤ n ∧ t = .int .i64 i ∧ Ext w wr ∧ RowKit.Hid (∀ j, j < i → Gm.row a j = Gm.row b j)) (fun _ _ _ t _ => n - (intOf t).toNat)
    case atStart => exact ⟨0, by omega, rfl, Ext.refl w, Lib.hid fun i hi => absurd hi (Nat.not_lt_zero _)⟩
    case round =>
      obtain ⟨i, hi, rfl, hx, H⟩ := hrel
      by_cases hlt : i < n
      · have i1 : (i : Int) < n := by omega
        obtain ⟨b1, o1, A1, n1, c1, rfl, hc1, hb1⟩ := (HA.out.ext hx).at_ hlt
        obtain ⟨b2, o2, A2, n2, c2, rfl, hc2, hb2⟩ := (HB.out.ext hx).at_ hlt
        have hcall := equal_any wr A1 A2 n1 c1 n2 c2 _ _ hb1 hb2
        have hne : Gm.row a i ≠ Gm.row b i → tb = false := fun h => by
          rw [← HTB.out]
          exact decide_eq_false (fun e => h (by rw [e]))
        have HNE := Lib.hid hne
        obtain ⟨x, hx1⟩ : ∃ x, Gm.row a i = x := ⟨_, rfl⟩
        obtain ⟨y, hy1⟩ : ∃ y, Gm.row b i = y := ⟨_, rfl⟩
        rw [hx1] at hcall HNE
        rw [hy1] at hcall HNE
        have HX := Lib.hid hx1
        have HY := Lib.hid hy1
        by_cases hxy : x = y
        · rw [decide_eq_true hxy] at hcall
          have HXY := Lib.hid hxy
          have HCL := Lib.hid hcall
          clear hxy hcall hne hx1 hy1 hb1 hb2
          go_wp2_with (fail)
          refine HCL.out.mono ?_
          rintro e w4 ⟨rfl, x4⟩
          go_wp2_with (fail)
          refine ⟨⟨i + 1, by omega, by go_num, hx.trans x4, Lib.hid fun j hj => ?_⟩, by simp [intOf]; omega⟩
          by_cases e : j = i
          · rw [e, HX.out, HY.out]; exact HXY.out
          · exact H.out j (by omega)
        · obtain rfl := HNE.out hxy
          rw [decide_eq_false hxy] at hcall
          have HCL := Lib.hid hcall
          clear hxy hcall hne hx1 hy1 hb1 hb2
          go_wp2_with (fail)
          refine HCL.out.mono ?_
          rintro e w4 ⟨rfl, x4⟩
          go_wp2_with (fail)
          go_ret
          exact ⟨rfl, hx.trans x4⟩
      · have i1 : ¬ (i : Int) < n := by omega
        obtain rfl : n = i := by omega
        have he : a = b := Gm.rows_ext (by rw [LA.out, LB.out]) fun j hj => H.out j (by rw [LA.out] at hj; exact hj)
        obtain rfl : tb = true := by rw [← HTB.out]; exact decide_eq_true he
        clear he
        go_wp2_with (fail)
        go_ret
        exact ⟨rfl, hx⟩
  · have e1 : ((n : Int) != (m : Int)) = true := by rw [bne_iff_ne]; omega
    have hne : a ≠ b := fun e => h (by rw [← LA.out, ← LB.out, e])
    rw [decide_eq_false hne]
    clear ha hb hne
    go_enter Try.func51, Try.ntmps51
    go_wp2_with (fail)
    go_ret
    exact ⟨rfl, Ext.refl w⟩
end Go.Proofs.Ytfpcldkfmcnjkaa
