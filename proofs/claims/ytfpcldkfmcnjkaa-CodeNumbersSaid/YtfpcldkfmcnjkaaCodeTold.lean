/- The contracts of code's told, Encode, Decode, Rebuild. -/
import Derived.Test.YtfpcldkfmcnjkaaCodeTimes
import Derived.Test.YtfpcldkfmcnjkaaCodeFunc
import Derived.Test.YtfpcldkfmcnjkaaMatPick
import Derived.Test.YtfpcldkfmcnjkaaMatInvert
import Derived.Deep.DeepCutAuto
namespace Go.Proofs.Ytfpcldkfmcnjkaa
open Go.RowKit

/-- May shards be told so? -/
def toldOk (k n : Nat) (l : List Int) (s : Gm.L) : Prop := (l.length = s.length ∧ k ≤ l.length ∧ Gm.even s l.length) ∧ (∀ i, i < l.length → 0 ≤ Il.get l i ∧ Il.get l i < n ∧ ∀ j, j < i → Il.get l j ≠ Il.get l i)
instance (k n : Nat) (l : List Int) (s : Gm.L) : Decidable (toldOk k n l s) := by unfold toldOk; infer_instance
set_option maxRecDepth 100000 in
set_option maxHeartbeats 4000000 in
theorem told_any (w : World) (b fb k n : Nat) (hC : Cd w b fb k n) (B : Option Addr) (q d : Nat) (l : List Int) (hl : Is w B q d l) (As : Option Addr) (m cs : Nat) (s : Gm.L) (hs : Mx w As m cs s) :
    Calls Try.prog 48 #[cptr b, .slice B q d, .slice As m cs] w fun e w' => e = .returned (.bool (decide (toldOk k n l s))) ∧ Ext w w' := by
  have q1 := hl.max
  have q2 := hl.le
  have q3 := hs.max
  have q4 := hs.le
  have hE := fun W (hW : Ext w W) => even_any W As m cs s q (hs.ext hW)
  have LL := Lib.hid hl.len
  have LS := Lib.hid hs.len
  have HE := Lib.hid hE
  have HL := Lib.hid hl
  have HC := Lib.hid hC
  have c1 := hC.c1
  obtain ⟨tb, htb⟩ : ∃ tb, decide (toldOk k n l s) = tb := ⟨_, rfl⟩
  rw [htb]
  have hb : tb = (decide (q = m ∧ k ≤ q ∧ Gm.even s q) && decide (∀ i, i < q → 0 ≤ Il.get l i ∧ Il.get l i < n ∧ ∀ j, j < i → Il.get l j ≠ Il.get l i)) := by
    rw [← htb, Bool.eq_iff_iff, decide_eq_true_eq, Bool.and_eq_true, decide_eq_true_eq, decide_eq_true_eq]
    unfold toldOk
    rw [LL.out, LS.out]
  have HTB := Lib.hid hb
  clear hE hl hs hC htb hb
  go_enter Try.func48, Try.ntmps48
  go_upto_region 1 with (fail)
  go_step3
  go_upto_region 1 with (fail)
  go_cut [7] (fun s7 wx => ∃ wv : World, wv = wx ∧ s7 = .bool (decide (q = m ∧ k ≤ q ∧ Gm.even s q)) ∧ Ext w wx)
  case first =>
    by_cases h1 : q = m
    · have e1 : ((q : Int) == (m : Int)) = true := by simp [h1]
      have H1 := Lib.hid h1
      clear h1
      by_cases h2 : k ≤ q
      · have e2 : (k : Int) ≤ q := by omega
        obtain ⟨eb, heb⟩ : ∃ eb, decide (Gm.even s q) = eb := ⟨_, rfl⟩
        rw [heb] at HE
        have HEB := Lib.hid heb
        clear heb
        go_wp2_with (fail)
        refine (HE.out w (Ext.refl w)).mono ?_
        rintro e w1 ⟨rfl, x1⟩
        go_wp2_with (fail)
        go_meet
        refine ⟨_, rfl, congrArg Value.bool ?_, x1⟩
        rw [← HEB.out, Bool.eq_iff_iff, decide_eq_true_eq, decide_eq_true_eq]
        exact ⟨fun h => ⟨H1.out, h2, h⟩, fun h => h.2.2⟩
      · have e2 : ¬ (k : Int) ≤ q := by omega
        go_wp2_with (fail)
        go_meet
        exact ⟨_, rfl, congrArg Value.bool (decide_eq_false (fun h => h2 h.2.1)).symm, Ext.refl w⟩
    · have e1 : ((q : Int) == (m : Int)) = false := by rw [beq_eq_false_iff_ne]; omega
      go_wp2_with (fail)
      go_meet
      exact ⟨_, rfl, congrArg Value.bool (decide_eq_false (fun h => h1 h.1)).symm, Ext.refl w⟩
  case rest =>
    obtain ⟨w1, rfl, rfl, x1⟩ := hcut
    have hC1 := HC.out.ext x1
    obtain ⟨A, c, c2, hm⟩ := hC1.mx
    have hmx := hm.max
    have hml := hm.le
    have HT := HTB
    generalize decide (q = m ∧ k ≤ q ∧ Gm.even s q) = ok at *
    clear hm hC1 c1 HTB
    go_wp2_with (fail)
    go_step3
    go_wp2_with (fail)
    go_loopw [7, 8, 9, 11, 34, 54] (fun v _ _ _ t _ wr => ∃ i : Nat, i ≤ q ∧ t = .int .i64 i ∧ v = .bool ok ∧ Ext w1 wr ∧ RowKit.Hid (∀ i', i' < i → 0 ≤ Il.get l i' ∧ Il.get l i' < n ∧ ∀ j, j < i' → Il.get l j ≠ Il.get l i')) (fun _ _ _ _ t _ _ => q - (intOf t).toNat)
    case atStart => exact ⟨0, by omega, rfl, rfl, Ext.refl _, Lib.hid fun i hi => absurd hi (Nat.not_lt_zero _)⟩
    case round =>
      obtain ⟨i, hi, rfl, rfl, hx, HN⟩ := hrel
      by_cases hlt : i < q
      · have r1 : (i : Int) < q := by omega
        obtain ⟨bl, ol, rfl, hcl⟩ := ((HL.out.ext x1).ext hx).rd.intAt hlt
        obtain ⟨x, hxl⟩ : ∃ x, Il.get l i = x := ⟨_, rfl⟩
        have HXL := Lib.hid hxl
        rw [hxl] at hcl
        have c2' := hx.cell c2
        have hbad : ¬ (0 ≤ x ∧ x < n ∧ ∀ j, j < i → Il.get l j ≠ x) → tb = false := fun h => by
          rw [HT.out, decide_eq_false (fun h2 => h (by have := h2 i hlt; rwa [hxl] at this)), Bool.and_false]
        have HBAD := Lib.hid hbad
        clear hxl hbad
        by_cases hx1 : x < 0
        · obtain rfl := HBAD.out (fun h => by omega)
          go_wp2_with (fail)
          go_ret
          exact ⟨rfl, x1.trans hx⟩
        · by_cases hx2 : (n : Int) ≤ x
          · obtain rfl := HBAD.out (fun h => by omega)
            go_wp2_with (fail)
            go_ret
            exact ⟨rfl, x1.trans hx⟩
          · go_wp2_with (fail)
            go_loopw [7, 11, 54] (fun v _ t wr' => ∃ j : Nat, j ≤ i ∧ t = .int .i64 j ∧ v = .bool ok ∧ Ext wr wr' ∧ RowKit.Hid (∀ j', j' < j → Il.get l j' ≠ x)) (fun _ _ t _ => i - (intOf t).toNat)
            case atStart => exact ⟨0, by omega, rfl, rfl, Ext.refl _, Lib.hid fun i hi => absurd hi (Nat.not_lt_zero _)⟩
            case round =>
              obtain ⟨j, hj, rfl, rfl, hxj, HJ⟩ := hrel
              by_cases hji : j < i
              · have r2 : (j : Int) < i := by omega
                have hjq : j < q := by omega
                obtain ⟨bl', ol', e1, hcj⟩ := (((HL.out.ext x1).ext hx).ext hxj).rd.intAt hjq
                injection e1 with e1
                injection e1 with e1 e2
                subst e1 e2
                obtain ⟨y, hyl⟩ : ∃ y, Il.get l j = y := ⟨_, rfl⟩
                rw [hyl] at hcj
                have HYL := Lib.hid hyl
                clear hyl
                by_cases hxy : y = x
                · obtain rfl := HBAD.out (fun h => h.2.2 j hji (by rw [HYL.out, hxy]))
                  have e3 : (x == y) = true := by simp [hxy]
                  clear hxy
                  go_wp2_with (fail)
                  go_ret
                  exact ⟨rfl, (x1.trans hx).trans hxj⟩
                · have e3 : (x == y) = false := by rw [beq_eq_false_iff_ne]; exact fun e => hxy e.symm
                  go_wp2_with (fail)
                  refine ⟨⟨j + 1, by omega, by go_num, rfl, hxj, Lib.hid fun j' hj' => ?_⟩, by simp [intOf]; omega⟩
                  by_cases e : j' = j
                  · rw [e, HYL.out]; exact hxy
                  · exact HJ.out j' (by omega)
              · have r2 : ¬ (j : Int) < i := by omega
                obtain rfl : i = j := by omega
                go_wp2_with (fail)
                refine ⟨⟨i + 1, by omega, by go_num, rfl, hx.trans hxj, Lib.hid fun i' hi' => ?_⟩, by simp [intOf]; omega⟩
                by_cases e : i' = i
                · rw [e, HXL.out]; exact ⟨by omega, by omega, HJ.out⟩
                · exact HN.out i' (by omega)
      · have r1 : ¬ (i : Int) < q := by omega
        obtain rfl : q = i := by omega
        obtain rfl : tb = ok := by rw [HT.out, decide_eq_true HN.out, Bool.and_true]
        go_wp2_with (fail)
        go_ret
        exact ⟨rfl, x1.trans hx⟩
end Go.Proofs.Ytfpcldkfmcnjkaa
