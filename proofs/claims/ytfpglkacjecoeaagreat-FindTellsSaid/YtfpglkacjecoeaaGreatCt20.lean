/- Several texts in one: Two fresh matrices with one kind. The contract of matrix.Invert. The contracts of code's told, Encode, Decode, Rebuild. -/
import Derived.Test.YtfpglkacjecoeaaGreatCt19
import Derived.Test.YtfpglkacjecoeaaGreatCt15
import Derived.Test.YtfpglkacjecoeaaGreatCt17
import Derived.Test.YtfpglkacjecoeaaGreatCt9
import Derived.Deep.DeepCutAuto
namespace Go.Proofs.YtfpglkacjecoeaaGreat
open Go.RowKit

theorem both_fresh {w1 w2 : World} {N g1 g2 c1 c2 n k : Nat} {cs1 cs2 : List Value} {a b : Gm.L} {P : Nat → Prop}
    (h1 : Mq w1 N (Hot N (.slice (some ⟨g1, 0, none⟩) n c1)) (.slice (some ⟨g1, 0, none⟩) n c1) n cs1 a) (hx : Ext w1 w2) (hN : N ≤ w1.heap.size)
    (h2 : Mq w2 w1.heap.size (Hot w1.heap.size (.slice (some ⟨g2, 0, none⟩) k c2)) (.slice (some ⟨g2, 0, none⟩) k c2) k cs2 b) (hP : ∀ b, P b ↔ b = g1 ∨ b = g2) :
    g1 < g2 ∧ N ≤ g1 ∧ Mq w2 N P (.slice (some ⟨g1, 0, none⟩) n c1) n cs1 a ∧ Mq w2 N P (.slice (some ⟨g2, 0, none⟩) k c2) k cs2 b := by
  have q1 := h1.own.lt g1 rfl
  have q2 := h2.own.lt g2 rfl
  refine ⟨by omega, q1.1, (h1.kind (P' := P) ?_ ?_).ext hx, (h2.kind (P' := P) ?_ ?_).base_le hN⟩
  · intro b hb hb' hp
    rcases (hP b).1 hp with rfl | rfl
    · exact .inl rfl
    · omega
  · intro b hb
    have hb' : some g1 = some b := hb
    injection hb' with hb'
    exact (hP b).2 (.inl hb'.symm)
  · intro b hb hb' hp
    rcases (hP b).1 hp with rfl | rfl
    · omega
    · exact .inl rfl
  · intro b hb
    have hb' : some g2 = some b := hb
    injection hb' with hb'
    exact (hP b).2 (.inr hb'.symm)
theorem right_rect {a : Gm.L} {n : Nat} (h : Gm.right a) (hl : a.length = n) : Gm.Rect n (Gm.cols a) a := ⟨hl, fun i hi => h.2.2.2.2 i (by omega)⟩
theorem zeros_rect (n k : Nat) : Gm.Rect n k (List.replicate n (zeros k)) := ⟨by simp, fun i hi => by rw [row_replicate _ hi]; simp [zeros]⟩
end Go.Proofs.YtfpglkacjecoeaaGreat
namespace Go.Proofs.YtfpglkacjecoeaaGreat
open Go.RowKit

/-- As many columns as rows. -/
def square (a : Gm.L) : Prop := Gm.right a ∧ Gm.cols a = a.length
instance (a : Gm.L) : Decidable (square a) := by unfold square; infer_instance
/-- What Invert says. -/
def invE (a : Gm.L) : Int := if square a then (if Gm.rank a < a.length then 31 else 0) else 30
def invM (a : Gm.L) : Gm.L := if square a then (if Gm.rank a < a.length then [] else Gm.invert a) else []
set_option maxRecDepth 100000 in
set_option maxHeartbeats 2000000 in
theorem invert_any3 (fb : Nat) (w : World) (A : Option Addr) (n ca : Nat) (a : Gm.L) (hf : FieldAt w fb) (ha : Mx w A n ca a) :
    Calls Tryz.prog 63 #[.pointer (some ⟨fb, 0, none⟩), .slice A n ca] w (GivesQE (invM a) (invE a) w) := by
  have hRa := matRight_any w A n ca a ha
  have HN := Lib.hid (none_any fb w hf)
  have hl1 := ha.max
  have hl2 := ha.le
  by_cases ra : Gm.right a
  · rw [decide_eq_true ra] at hRa
    have HRA := Lib.hid hRa
    have hna := ha.len
    have hn1 : 1 ≤ n ∧ n ≤ 255 := by have := ra.1; have := ra.2.1; omega
    obtain ⟨ba, oa, A0, n0, c0, rfl, h0, hb0⟩ := ha.at_ (show 0 < n by omega)
    rw [Nat.add_zero] at h0
    have e0 : n0 = Gm.cols a := by rw [← hb0.len]; rfl
    have mm1 := hb0.max
    have mm3 := hb0.le
    have i1 : (0 : Int) < n := by omega
    have i0 : (0 : Nat) < n := by omega
    by_cases sq : Gm.cols a = a.length
    · have hc : n0 = n := by omega
      subst hc
      have RC := Lib.hid (show Gm.Rect n0 n0 a from by have := right_rect ra hna; rwa [← e0] at this)
      have hfb : fb < w.heap.size := World.block_lt_of_cell? _ _ hf.made
      have hrk : (Gm.elimTo a (Gm.unit n0) n0).2.2 = Gm.rank a := by have := Gm.rank_of (m := a) (Gm.unit n0); rwa [← e0] at this
      have hiv : (Gm.elimTo a (Gm.unit n0) n0).2.1 = Gm.invert a := by unfold Gm.invert; rw [hna, ← e0]
      have hrl : Gm.rank a ≤ n0 := by
        rw [← hrk]; exact (Gm.inv_elimTo RC.out (Gm.unit_rect n0) n0 (Nat.le_refl _)).ln
      have hE : invE a = if Gm.rank a < n0 then 31 else 0 := by unfold invE; rw [if_pos ⟨ra, sq⟩, hna]
      have hM : invM a = if Gm.rank a < n0 then [] else Gm.invert a := by unfold invM; rw [if_pos ⟨ra, sq⟩, hna]
      have HE := Lib.hid hE
      have HM := Lib.hid hM
      have hil : (Gm.invert a).length = n0 := by rw [← hiv]; exact (Gm.inv_elimTo RC.out (Gm.unit_rect n0) n0 (Nat.le_refl _)).rb.len
      have HRK := Lib.hid hrk
      have HIV := Lib.hid hiv
      have HIL := Lib.hid hil
      have HNA := Lib.hid hna
      have HA := Lib.hid ha
      clear ra hRa hrk hna hiv hil hE hM e0 sq hb0 ha
      generalize Gm.rank a = rk at *
      go_enter Tryz.func63, Tryz.ntmps63
      try dsimp only [List.append]
      go_wp2_with (fail)
      refine HN.out.mono ?_
      rintro e w' ⟨rfl, rfl⟩
      go_wp2_with (fail)
      refine HRA.out.mono ?_
      rintro e w1 ⟨rfl, x1⟩
      have h1 := x1.cell h0
      go_wp2_with (fail)
      refine (unit_ok w1 n0 (by omega) (by omega)).mono ?_
      rintro e w2 ⟨v, cs, rfl, hQ, x2⟩
      rw [(Gm.unit_rect n0).len] at hQ
      obtain ⟨G, cg, rfl, hc1, hc2⟩ := ownsRow_slice hQ.own
      obtain ⟨g, rfl, hg1, hg2⟩ := own_addr hQ.own (by omega)
      have HQ := Lib.hid hQ
      clear hQ h0 h1
      go_wp2_with (fail)
      refine (own_any w2 _ n0 ca a (HA.out.ext (x1.trans x2)) (by omega) (fun i hi => by rw [RC.out.wid i hi]; omega)).mono ?_
      rintro e w3 ⟨v3, cs3, rfl, hQ3, x3⟩
      rw [HNA.out] at hQ3
      obtain ⟨G3, cg3, rfl, hd1, hd2⟩ := ownsRow_slice hQ3.own
      obtain ⟨g3, rfl, hh1, hh2⟩ := own_addr hQ3.own (by omega)
      obtain ⟨o1, o2, o3, o4⟩ := both_fresh (P := Two12 g3 g) HQ.out x3 x2.size hQ3 (fun b => Or.comm)
      have hcl := cleared_any fb w3 w1.heap.size g3 g cg3 cg n0 n0 n0 cs3 cs a _ o4 o3 (by omega) (hf.ext ((x1.trans x2).trans x3)) (by have := x1.size; omega) (by have := x2.size; have := x3.size; omega) (by omega) (by omega) RC.out (Gm.unit_rect n0) (by omega) (by omega)
      rw [HRK.out, HIV.out] at hcl
      have HCL := Lib.hid hcl
      clear hcl o3 o4 hQ3 HQ
      go_wp2_with (fail)
      by_cases hlt : rk < n0
      · have q1 : (rk : Int) < n0 := by omega
        refine HCL.out.mono ?_
        rintro e w4 ⟨rfl, _, hb4⟩
        have h5 : Ext w1 w4 := Below.trans (x2.trans x3) hb4
        go_wp2_with (fail)
        go_ret2
        rw [HE.out, HM.out, if_pos hlt, if_pos hlt]
        exact GivesQE.none 31 (x1.trans h5)
      · have q1 : ¬ (rk : Int) < n0 := by omega
        refine HCL.out.mono ?_
        rintro e w4 ⟨rfl, ⟨_, ds, _, m4⟩, hb4⟩
        have h5 : Ext w1 w4 := Below.trans (x2.trans x3) hb4
        have HM4 := Lib.hid m4
        clear m4
        go_wp2_with (fail)
        go_ret2
        rw [HE.out, HM.out, if_neg hlt, if_neg hlt]
        refine ⟨_, ds, rfl, ?_, x1.trans h5⟩
        rw [HIL.out]
        refine (HM4.out.base_le x1.size).kind (fun b hb hb' hp => ?_) (fun b hb => .inl hb)
        rcases hp with hp | hp
        · have hp' : some g = some b := hp
          injection hp' with hp'
          exact .inr hp'.symm
        · omega
    · have hE : invE a = 30 := by unfold invE; rw [if_neg (fun h => sq h.2)]
      have hM : invM a = [] := by unfold invM; rw [if_neg (fun h => sq h.2)]
      rw [hE, hM]
      have e1 : ((n0 : Int) != (n : Int)) = true := by rw [bne_iff_ne]; omega
      clear hb0 e0 sq ra hE hM hRa hna ha
      go_enter Tryz.func63, Tryz.ntmps63
      try dsimp only [List.append]
      go_wp2_with (fail)
      refine HN.out.mono ?_
      rintro e w' ⟨rfl, rfl⟩
      go_wp2_with (fail)
      refine HRA.out.mono ?_
      rintro e w1 ⟨rfl, x1⟩
      have h1 := x1.cell h0
      go_wp2_with (fail)
      go_ret2
      exact GivesQE.none 30 x1
  · have hE : invE a = 30 := by unfold invE; rw [if_neg (fun h => ra h.1)]
    have hM : invM a = [] := by unfold invM; rw [if_neg (fun h => ra h.1)]
    rw [hE, hM]
    rw [decide_eq_false ra] at hRa
    have HRA := Lib.hid hRa
    clear ra hRa hE hM
    go_enter Tryz.func63, Tryz.ntmps63
    try dsimp only [List.append]
    go_wp2_with (fail)
    refine HN.out.mono ?_
    rintro e w' ⟨rfl, rfl⟩
    go_wp2_with (fail)
    refine HRA.out.mono ?_
    rintro e w1 ⟨rfl, x1⟩
    go_wp2_with (fail)
    go_ret2
    exact GivesQE.none 30 x1
end Go.Proofs.YtfpglkacjecoeaaGreat
namespace Go.Proofs.YtfpglkacjecoeaaGreat
open Go.RowKit

/-- May shards be told so? -/
def toldOk (k n : Nat) (l : List Int) (s : Gm.L) : Prop := (l.length = s.length ∧ k ≤ l.length ∧ Gm.even s l.length) ∧ (∀ i, i < l.length → 0 ≤ Il.get l i ∧ Il.get l i < n ∧ ∀ j, j < i → Il.get l j ≠ Il.get l i)
instance (k n : Nat) (l : List Int) (s : Gm.L) : Decidable (toldOk k n l s) := by unfold toldOk; infer_instance
set_option maxRecDepth 100000 in
set_option maxHeartbeats 4000000 in
theorem told_any (w : World) (b fb k n : Nat) (hC : Cd w b fb k n) (B : Option Addr) (q d : Nat) (l : List Int) (hl : Is w B q d l) (As : Option Addr) (m cs : Nat) (s : Gm.L) (hs : Mx w As m cs s) :
    Calls Tryz.prog 61 #[cptr b, .slice B q d, .slice As m cs] w fun e w' => e = .returned (.bool (decide (toldOk k n l s))) ∧ Ext w w' := by
  have q1 := hl.max
  have q2 := hl.le
  have q3 := hs.max
  have q4 := hs.le
  have hE := fun W (hW : Ext w W) => even_any W As m cs s q (hs.ext hW)
  have LL := Lib.hid hl.len
  have LS := Lib.hid hs.len
  have HE := Lib.hid hE
  have HL := Lib.hid hl
  have HC := Lib.hid hC
  have c1 := hC.c1
  obtain ⟨tb, htb⟩ : ∃ tb, decide (toldOk k n l s) = tb := ⟨_, rfl⟩
  rw [htb]
  have hb : tb = (decide (q = m ∧ k ≤ q ∧ Gm.even s q) && decide (∀ i, i < q → 0 ≤ Il.get l i ∧ Il.get l i < n ∧ ∀ j, j < i → Il.get l j ≠ Il.get l i)) := by
    rw [← htb, Bool.eq_iff_iff, decide_eq_true_eq, Bool.and_eq_true, decide_eq_true_eq, decide_eq_true_eq]
    unfold toldOk
    rw [LL.out, LS.out]
  have HTB := Lib.hid hb
  clear hE hl hs hC htb hb
  go_enter Tryz.func61, Tryz.ntmps61
  go_upto_region 1 with (fail)
  go_step3
  go_upto_region 1 with (fail)
  go_cut [7] (fun s7 wx => ∃ wv : World, wv = wx ∧ s7 = .bool (decide (q = m ∧ k ≤ q ∧ Gm.even s q)) ∧ Ext w wx)
  case first =>
    by_cases h1 : q = m
    · have e1 : ((q : Int) == (m : Int)) = true := by simp [h1]
      have H1 := Lib.hid h1
      clear h1
      by_cases h2 : k ≤ q
      · have e2 : (k : Int) ≤ q := by omega
        obtain ⟨eb, heb⟩ : ∃ eb, decide (Gm.even s q) = eb := ⟨_, rfl⟩
        rw [heb] at HE
        have HEB := Lib.hid heb
        clear heb
        go_wp2_with (fail)
        refine (HE.out w (Ext.refl w)).mono ?_
        rintro e w1 ⟨rfl, x1⟩
        go_wp2_with (fail)
        go_meet
        refine ⟨_, rfl, congrArg Value.bool ?_, x1⟩
        rw [← HEB.out, Bool.eq_iff_iff, decide_eq_true_eq, decide_eq_true_eq]
        exact ⟨fun h => ⟨H1.out, h2, h⟩, fun h => h.2.2⟩
      · have e2 : ¬ (k : Int) ≤ q := by omega
        go_wp2_with (fail)
        go_meet
        exact ⟨_, rfl, congrArg Value.bool (decide_eq_false (fun h => h2 h.2.1)).symm, Ext.refl w⟩
    · have e1 : ((q : Int) == (m : Int)) = false := by rw [beq_eq_false_iff_ne]; omega
      go_wp2_with (fail)
      go_meet
      exact ⟨_, rfl, congrArg Value.bool (decide_eq_false (fun h => h1 h.1)).symm, Ext.refl w⟩
  case rest =>
    obtain ⟨w1, rfl, rfl, x1⟩ := hcut
    have hC1 := HC.out.ext x1
    obtain ⟨A, c, c2, hm⟩ := hC1.mx
    have hmx := hm.max
    have hml := hm.le
    have HT := HTB
    generalize decide (q = m ∧ k ≤ q ∧ Gm.even s q) = ok at *
    clear hm hC1 c1 HTB
    go_wp2_with (fail)
    go_step3
    go_wp2_with (fail)
    go_loopw [7, 8, 9, 11, 34, 54] (fun v _ _ _ t _ wr => ∃ i : Nat, i ≤ q ∧ t = .int .i64 i ∧ v = .bool ok ∧ Ext w1 wr ∧ RowKit.Hid (∀ i', i' < i → 0 ≤ Il.get l i' ∧ Il.get l i' < n ∧ ∀ j, j < i' → Il.get l j ≠ Il.get l i')) (fun _ _ _ _ t _ _ => q - (intOf t).toNat)
    case atStart => exact ⟨0, by omega, rfl, rfl, Ext.refl _, Lib.hid fun i hi => absurd hi (Nat.not_lt_zero _)⟩
    case round =>
      obtain ⟨i, hi, rfl, rfl, hx, HN⟩ := hrel
      by_cases hlt : i < q
      · have r1 : (i : Int) < q := by omega
        obtain ⟨bl, ol, rfl, hcl⟩ := ((HL.out.ext x1).ext hx).rd.intAt hlt
        obtain ⟨x, hxl⟩ : ∃ x, Il.get l i = x := ⟨_, rfl⟩
        have HXL := Lib.hid hxl
        rw [hxl] at hcl
        have c2' := hx.cell c2
        have hbad : ¬ (0 ≤ x ∧ x < n ∧ ∀ j, j < i → Il.get l j ≠ x) → tb = false := fun h => by
          rw [HT.out, decide_eq_false (fun h2 => h (by have := h2 i hlt; rwa [hxl] at this)), Bool.and_false]
        have HBAD := Lib.hid hbad
        clear hxl hbad
        by_cases hx1 : x < 0
        · obtain rfl := HBAD.out (fun h => by omega)
          go_wp2_with (fail)
          go_ret
          exact ⟨rfl, x1.trans hx⟩
        · by_cases hx2 : (n : Int) ≤ x
          · obtain rfl := HBAD.out (fun h => by omega)
            go_wp2_with (fail)
            go_ret
            exact ⟨rfl, x1.trans hx⟩
          · go_wp2_with (fail)
            go_loopw [7, 11, 54] (fun v _ t wr' => ∃ j : Nat, j ≤ i ∧ t = .int .i64 j ∧ v = .bool ok ∧ Ext wr wr' ∧ RowKit.Hid (∀ j', j' < j → Il.get l j' ≠ x)) (fun _ _ t _ => i - (intOf t).toNat)
            case atStart => exact ⟨0, by omega, rfl, rfl, Ext.refl _, Lib.hid fun i hi => absurd hi (Nat.not_lt_zero _)⟩
            case round =>
              obtain ⟨j, hj, rfl, rfl, hxj, HJ⟩ := hrel
              by_cases hji : j < i
              · have r2 : (j : Int) < i := by omega
                have hjq : j < q := by omega
                obtain ⟨bl', ol', e1, hcj⟩ := (((HL.out.ext x1).ext hx).ext hxj).rd.intAt hjq
                injection e1 with e1
                injection e1 with e1 e2
                subst e1 e2
                obtain ⟨y, hyl⟩ : ∃ y, Il.get l j = y := ⟨_, rfl⟩
                rw [hyl] at hcj
                have HYL := Lib.hid hyl
                clear hyl
                by_cases hxy : y = x
                · obtain rfl := HBAD.out (fun h => h.2.2 j hji (by rw [HYL.out, hxy]))
                  have e3 : (x == y) = true := by simp [hxy]
                  clear hxy
                  go_wp2_with (fail)
                  go_ret
                  exact ⟨rfl, (x1.trans hx).trans hxj⟩
                · have e3 : (x == y) = false := by rw [beq_eq_false_iff_ne]; exact fun e => hxy e.symm
                  go_wp2_with (fail)
                  refine ⟨⟨j + 1, by omega, by go_num, rfl, hxj, Lib.hid fun j' hj' => ?_⟩, by simp [intOf]; omega⟩
                  by_cases e : j' = j
                  · rw [e, HYL.out]; exact hxy
                  · exact HJ.out j' (by omega)
              · have r2 : ¬ (j : Int) < i := by omega
                obtain rfl : i = j := by omega
                go_wp2_with (fail)
                refine ⟨⟨i + 1, by omega, by go_num, rfl, hx.trans hxj, Lib.hid fun i' hi' => ?_⟩, by simp [intOf]; omega⟩
                by_cases e : i' = i
                · rw [e, HXL.out]; exact ⟨by omega, by omega, HJ.out⟩
                · exact HN.out i' (by omega)
      · have r1 : ¬ (i : Int) < q := by omega
        obtain rfl : q = i := by omega
        obtain rfl : tb = ok := by rw [HT.out, decide_eq_true HN.out, Bool.and_true]
        go_wp2_with (fail)
        go_ret
        exact ⟨rfl, x1.trans hx⟩
end Go.Proofs.YtfpglkacjecoeaaGreat
