/- Several texts in one: The contracts of code's told, Encode, Decode, Rebuild. The contracts of code's Encode, Decode, Rebuild. -/
import Derived.Test.YtfpglkacjecoeaaCt25
import Derived.Test.YtfpglkacjecoeaaCt13
import Derived.Test.YtfpglkacjecoeaaCt29
import Derived.Deep.DeepCutAuto
import Derived.Deep.DrawnRows
namespace Go.Proofs.Ytfpglkacjecoeaa
open Go.RowKit

/-- May shards be told so? -/
def toldOk (k n : Nat) (l : List Int) (s : Gm.L) : Prop := (l.length = s.length ∧ k ≤ l.length ∧ Gm.even s l.length) ∧ (∀ i, i < l.length → 0 ≤ Il.get l i ∧ Il.get l i < n ∧ ∀ j, j < i → Il.get l j ≠ Il.get l i)
instance (k n : Nat) (l : List Int) (s : Gm.L) : Decidable (toldOk k n l s) := by unfold toldOk; infer_instance
set_option maxRecDepth 100000 in
set_option maxHeartbeats 4000000 in
theorem told_any (w : World) (b fb k n : Nat) (hC : Cd w b fb k n) (B : Option Addr) (q d : Nat) (l : List Int) (hl : Is w B q d l) (As : Option Addr) (m cs : Nat) (s : Gm.L) (hs : Mx w As m cs s) :
    Calls Try.prog 54 #[cptr b, .slice B q d, .slice As m cs] w fun e w' => e = .returned (.bool (decide (toldOk k n l s))) ∧ Ext w w' := by
  have q1 := hl.max
  have q2 := hl.le
  have q3 := hs.max
  have q4 := hs.le
  have hE := fun W (hW : Ext w W) => even_any W As m cs s q (hs.ext hW)
  have LL := Lib.hid hl.len
  have LS := Lib.hid hs.len
  have HE := Lib.hid hE
  have HL := Lib.hid hl
  have HC := Lib.hid hC
  have c1 := hC.c1
  obtain ⟨tb, htb⟩ : ∃ tb, decide (toldOk k n l s) = tb := ⟨_, rfl⟩
  rw [htb]
  have hb : tb = (decide (q = m ∧ k ≤ q ∧ Gm.even s q) && decide (∀ i, i < q → 0 ≤ Il.get l i ∧ Il.get l i < n ∧ ∀ j, j < i → Il.get l j ≠ Il.get l i)) := by
    rw [← htb, Bool.eq_iff_iff, decide_eq_true_eq, Bool.and_eq_true, decide_eq_true_eq, decide_eq_true_eq]
    unfold toldOk
    rw [LL.out, LS.out]
  have HTB := Lib.hid hb
  clear hE hl hs hC htb hb
  go_enter Try.func54, Try.ntmps54
  go_upto_region 1 with (fail)
  go_step3
  go_upto_region 1 with (fail)
  go_cut [7] (fun s7 wx => ∃ wv : World, wv = wx ∧ s7 = .bool (decide (q = m ∧ k ≤ q ∧ Gm.even s q)) ∧ Ext w wx)
  case first =>
    by_cases h1 : q = m
    · have e1 : ((q : Int) == (m : Int)) = true := by simp [h1]
      have H1 := Lib.hid h1
      clear h1
      by_cases h2 : k ≤ q
      · have e2 : (k : Int) ≤ q := by omega
        obtain ⟨eb, heb⟩ : ∃ eb, decide (Gm.even s q) = eb := ⟨_, rfl⟩
        rw [heb] at HE
        have HEB := Lib.hid heb
        clear heb
        go_wp2_with (fail)
        refine (HE.out w (Ext.refl w)).mono ?_
        rintro e w1 ⟨rfl, x1⟩
        go_wp2_with (fail)
        go_meet
        refine ⟨_, rfl, congrArg Value.bool ?_, x1⟩
        rw [← HEB.out, Bool.eq_iff_iff, decide_eq_true_eq, decide_eq_true_eq]
        exact ⟨fun h => ⟨H1.out, h2, h⟩, fun h => h.2.2⟩
      · have e2 : ¬ (k : Int) ≤ q := by omega
        go_wp2_with (fail)
        go_meet
        exact ⟨_, rfl, congrArg Value.bool (decide_eq_false (fun h => h2 h.2.1)).symm, Ext.refl w⟩
    · have e1 : ((q : Int) == (m : Int)) = false := by rw [beq_eq_false_iff_ne]; omega
      go_wp2_with (fail)
      go_meet
      exact ⟨_, rfl, congrArg Value.bool (decide_eq_false (fun h => h1 h.1)).symm, Ext.refl w⟩
  case rest =>
    obtain ⟨w1, rfl, rfl, x1⟩ := hcut
    have hC1 := HC.out.ext x1
    obtain ⟨A, c, c2, hm⟩ := hC1.mx
    have hmx := hm.max
    have hml := hm.le
    have HT := HTB
    generalize decide (q = m ∧ k ≤ q ∧ Gm.even s q) = ok at *
    clear hm hC1 c1 HTB
    go_wp2_with (fail)
    go_step3
    go_wp2_with (fail)
    go_loopw [7, 8, 9, 11, 34, 54] (fun v _ _ _ t _ wr => ∃ i : Nat, i ≤ q ∧ t = .int .i64 i ∧ v = .bool ok ∧ Ext w1 wr ∧ RowKit.Hid (∀ i', i' < i → 0 ≤ Il.get l i' ∧ Il.get l i' < n ∧ ∀ j, j < i' → Il.get l j ≠ Il.get l i')) (fun _ _ _ _ t _ _ => q - (intOf t).toNat)
    case atStart => exact ⟨0, by omega, rfl, rfl, Ext.refl _, Lib.hid fun i hi => absurd hi (Nat.not_lt_zero _)⟩
    case round =>
      obtain ⟨i, hi, rfl, rfl, hx, HN⟩ := hrel
      by_cases hlt : i < q
      · have r1 : (i : Int) < q := by omega
        obtain ⟨bl, ol, rfl, hcl⟩ := ((HL.out.ext x1).ext hx).rd.intAt hlt
        obtain ⟨x, hxl⟩ : ∃ x, Il.get l i = x := ⟨_, rfl⟩
        have HXL := Lib.hid hxl
        rw [hxl] at hcl
        have c2' := hx.cell c2
        have hbad : ¬ (0 ≤ x ∧ x < n ∧ ∀ j, j < i → Il.get l j ≠ x) → tb = false := fun h => by
          rw [HT.out, decide_eq_false (fun h2 => h (by have := h2 i hlt; rwa [hxl] at this)), Bool.and_false]
        have HBAD := Lib.hid hbad
        clear hxl hbad
        by_cases hx1 : x < 0
        · obtain rfl := HBAD.out (fun h => by omega)
          go_wp2_with (fail)
          go_ret
          exact ⟨rfl, x1.trans hx⟩
        · by_cases hx2 : (n : Int) ≤ x
          · obtain rfl := HBAD.out (fun h => by omega)
            go_wp2_with (fail)
            go_ret
            exact ⟨rfl, x1.trans hx⟩
          · go_wp2_with (fail)
            go_loopw [7, 11, 54] (fun v _ t wr' => ∃ j : Nat, j ≤ i ∧ t = .int .i64 j ∧ v = .bool ok ∧ Ext wr wr' ∧ RowKit.Hid (∀ j', j' < j → Il.get l j' ≠ x)) (fun _ _ t _ => i - (intOf t).toNat)
            case atStart => exact ⟨0, by omega, rfl, rfl, Ext.refl _, Lib.hid fun i hi => absurd hi (Nat.not_lt_zero _)⟩
            case round =>
              obtain ⟨j, hj, rfl, rfl, hxj, HJ⟩ := hrel
              by_cases hji : j < i
              · have r2 : (j : Int) < i := by omega
                have hjq : j < q := by omega
                obtain ⟨bl', ol', e1, hcj⟩ := (((HL.out.ext x1).ext hx).ext hxj).rd.intAt hjq
                injection e1 with e1
                injection e1 with e1 e2
                subst e1 e2
                obtain ⟨y, hyl⟩ : ∃ y, Il.get l j = y := ⟨_, rfl⟩
                rw [hyl] at hcj
                have HYL := Lib.hid hyl
                clear hyl
                by_cases hxy : y = x
                · obtain rfl := HBAD.out (fun h => h.2.2 j hji (by rw [HYL.out, hxy]))
                  have e3 : (x == y) = true := by simp [hxy]
                  clear hxy
                  go_wp2_with (fail)
                  go_ret
                  exact ⟨rfl, (x1.trans hx).trans hxj⟩
                · have e3 : (x == y) = false := by rw [beq_eq_false_iff_ne]; exact fun e => hxy e.symm
                  go_wp2_with (fail)
                  refine ⟨⟨j + 1, by omega, by go_num, rfl, hxj, Lib.hid fun j' hj' => ?_⟩, by simp [intOf]; omega⟩
                  by_cases e : j' = j
                  · rw [e, HYL.out]; exact hxy
                  · exact HJ.out j' (by omega)
              · have r2 : ¬ (j : Int) < i := by omega
                obtain rfl : i = j := by omega
                go_wp2_with (fail)
                refine ⟨⟨i + 1, by omega, by go_num, rfl, hx.trans hxj, Lib.hid fun i' hi' => ?_⟩, by simp [intOf]; omega⟩
                by_cases e : i' = i
                · rw [e, HXL.out]; exact ⟨by omega, by omega, HJ.out⟩
                · exact HN.out i' (by omega)
      · have r1 : ¬ (i : Int) < q := by omega
        obtain rfl : q = i := by omega
        obtain rfl : tb = ok := by rw [HT.out, decide_eq_true HN.out, Bool.and_true]
        go_wp2_with (fail)
        go_ret
        exact ⟨rfl, x1.trans hx⟩
end Go.Proofs.Ytfpglkacjecoeaa
namespace Go.Proofs.Ytfpglkacjecoeaa
open Go.RowKit
attribute [local go_sem ↓] Go.wp_at_zero Go.wp_at_succ

theorem row_take {m : Gm.L} {k i : Nat} (h : i < k) : Gm.row (m.take k) i = Gm.row m i := by
  unfold Gm.row
  rw [List.getD_eq_getElem?_getD, List.getD_eq_getElem?_getD, List.getElem?_take, if_pos h]
theorem Mx.take {w : World} {A : Option Addr} {n c k : Nat} {m : Gm.L} (h : Mx w A n c m) (hk : k ≤ n) : Mx w A k c (m.take k) := by
  obtain ⟨cs, h1, h2⟩ := h.rd
  have hl : cs.length = n := by rw [h2.len, h.len]
  refine ⟨by rw [List.length_take, h.len]; omega, by have := h.le; omega, h.max, cs.take k, ⟨by rw [List.length_take, hl]; omega, fun h0 => ?_⟩, ⟨by rw [List.length_take, List.length_take, hl, h.len], fun i hi => ?_⟩⟩
  · obtain ⟨b, off, e, hc⟩ := h1.2 (by omega)
    refine ⟨b, off, e, fun j u hu => hc j u ?_⟩
    rw [List.getElem?_take] at hu
    split at hu
    · exact hu
    · cases hu
  · rw [List.length_take, h.len] at hi
    obtain ⟨A', n', c', e, hb⟩ := h2.at_ i (by rw [h.len]; omega)
    exact ⟨A', n', c', by rw [List.getElem?_take, if_pos (by omega)]; exact e, by rw [row_take (by omega)]; exact hb⟩
theorem cols_take {m : Gm.L} {k : Nat} (h : 0 < k) : Gm.cols (m.take k) = Gm.cols m := by unfold Gm.cols; rw [row_take h]
def encE (k : Nat) (s : Gm.L) : Int := if Gm.even s k then 0 else 40
def encM (k n : Nat) (s : Gm.L) : Gm.L := if Gm.even s k then Gm.mulL (Gm.gen k n) s else []
set_option maxRecDepth 100000 in
set_option maxHeartbeats 2000000 in
theorem encode_any (w : World) (b fb k n : Nat) (hC : Cd w b fb k n) (As : Option Addr) (m cs : Nat) (s : Gm.L) (hs : Mx w As m cs s) :
    Calls Try.prog 44 #[cptr b, .slice As m cs] w (GivesQE (encM k n s) (encE k s) w) := by
  have HM := Lib.hid (made_any w b fb k n hC)
  have hE := even_any w As m cs s k hs
  have q3 := hs.max
  have q4 := hs.le
  have c1 := hC.c1
  unfold encM encE
  by_cases h : Gm.even s k
  · rw [if_pos h, if_pos h]
    rw [decide_eq_true h] at hE
    obtain rfl : m = k := by rw [← hs.len]; exact h.1
    have HE := Lib.hid hE
    have HR := Lib.hid (fun (W : World) (hW : Ext w W) (A : Option Addr) (c : Nat) (hm : Mx W A n c (Gm.gen m n)) => rows_any W b fb m n (hC.ext hW) A n c (Gm.gen m n) hm (by have := hC.n2; omega) As m cs s (hs.ext hW) hC.k1 (fun i hi => (Gm.gen_rect hC.kn).wid i hi) h.2.2.2 h.2.2.1)
    have HC := Lib.hid hC
    clear hE h hs hC
    go_enter Try.func44, Try.ntmps44
    go_wp2_with (fail)
    refine HM.out.mono ?_
    rintro e w' ⟨rfl, rfl⟩
    go_wp2_with (fail)
    refine HE.out.mono ?_
    rintro e w1 ⟨rfl, x1⟩
    obtain ⟨A, c, c2, hm⟩ := (HC.out.ext x1).mx
    have HR1 := Lib.hid (HR.out w1 x1 A c hm)
    clear hm
    go_wp2_with (fail)
    refine HR1.out.mono ?_
    rintro e w2 ⟨v2, cs2, rfl, hq, x2⟩
    go_wp2_with (fail)
    go_ret2
    exact ⟨v2, cs2, rfl, hq.lower x1.size, x1.trans x2⟩
  · rw [if_neg h, if_neg h]
    rw [decide_eq_false h] at hE
    have HE := Lib.hid hE
    clear hE h hs hC
    go_enter Try.func44, Try.ntmps44
    go_wp2_with (fail)
    refine HM.out.mono ?_
    rintro e w' ⟨rfl, rfl⟩
    go_wp2_with (fail)
    refine HE.out.mono ?_
    rintro e w1 ⟨rfl, x1⟩
    go_wp2_with (fail)
    go_ret2
    exact GivesQE.none 40 x1
/-- The rows that are asked, and whether they have an inverse. -/
def partOf (k n : Nat) (l : List Int) : Gm.L := pickM (Gm.gen k n) (l.take k)
def decOk (k n : Nat) (l : List Int) (s : Gm.L) : Prop := toldOk k n l s ∧ invE (partOf k n l) = 0
instance (k n : Nat) (l : List Int) (s : Gm.L) : Decidable (decOk k n l s) := by unfold decOk; infer_instance
def decE (k n : Nat) (l : List Int) (s : Gm.L) : Int := if decOk k n l s then 0 else 40
def decM (k n : Nat) (l : List Int) (s : Gm.L) : Gm.L := if decOk k n l s then Gm.mulL (invM (partOf k n l)) (s.take k) else []
theorem invE_zero {a : Gm.L} (h : invE a = 0) : square a ∧ ¬ Gm.rank a < a.length ∧ invM a = Gm.invert a := by
  unfold invE at h
  by_cases h1 : square a
  · rw [if_pos h1] at h
    by_cases h2 : Gm.rank a < a.length
    · rw [if_pos h2] at h; cases h
    · refine ⟨h1, h2, ?_⟩
      unfold invM
      rw [if_pos h1, if_neg h2]
  · rw [if_neg h1] at h; cases h
theorem invM_rect {a : Gm.L} {k : Nat} (h : invE a = 0) (hk : a.length = k) : Gm.Rect k k (invM a) := by
  obtain ⟨h1, h2, h3⟩ := invE_zero h
  rw [h3]
  have hr : Gm.Rect k k a := ⟨hk, fun i hi => by rw [h1.1.2.2.2.2 i (by omega), h1.2, hk]⟩
  have h0 : 0 < k := by have := h1.1.1; omega
  exact Gm.inv_rect hr h0 (by have := Gm.rank_le hr h0; omega)
theorem take_get_int {l : List Int} {k i : Nat} (h : i < k) : Il.get (l.take k) i = Il.get l i := by
  unfold Il.get
  rw [List.getD_eq_getElem?_getD, List.getD_eq_getElem?_getD, List.getElem?_take, if_pos h]
theorem told_rows {k n : Nat} {l : List Int} {s : Gm.L} (hk : 1 ≤ k) (hn : n ≤ 255) (hkn : k ≤ n) (h : toldOk k n l s) : rowsOf n (l.take k) := by
  have hl : (l.take k).length = k := by rw [List.length_take]; have := h.1.2.1; omega
  refine ⟨by omega, by omega, List.any_eq_false.2 fun x hx => ?_⟩
  obtain ⟨t, ht, rfl⟩ := List.getElem_of_mem hx
  have h2 := h.2 t (by have := h.1.2.1; omega)
  have e : (l.take k)[t] = Il.get l t := by rw [← Il.get_of_lt ht, take_get_int (by omega)]
  rw [e]
  unfold noRow
  simp
  omega
theorem part_length {k n : Nat} {l : List Int} {s : Gm.L} (hk : 1 ≤ k) (hn : n ≤ 255) (hkn : k ≤ n) (h : toldOk k n l s) : (partOf k n l).length = k := by
  unfold partOf pickM
  rw [if_pos ⟨Gm.gen_right hk hkn hn, by rw [Gm.gen_length hkn]; exact told_rows hk hn hkn h⟩, picked_length, List.length_take]
  have := h.1.2.1
  omega
set_option maxRecDepth 100000 in
set_option maxHeartbeats 4000000 in
theorem decode_any (w : World) (b fb k n : Nat) (hC : Cd w b fb k n) (B : Option Addr) (q d : Nat) (l : List Int) (hl : Is w B q d l) (As : Option Addr) (m cs : Nat) (s : Gm.L) (hs : Mx w As m cs s) :
    Calls Try.prog 42 #[cptr b, .slice B q d, .slice As m cs] w (GivesQE (decM k n l s) (decE k n l s) w) := by
  have HM := Lib.hid (made_any w b fb k n hC)
  have hT := told_any w b fb k n hC B q d l hl As m cs s hs
  have q1 := hl.max
  have q2 := hl.le
  have q3 := hs.max
  have q4 := hs.le
  have hok : toldOk k n l s → invE (partOf k n l) = 0 → decM k n l s = Gm.mulL (invM (partOf k n l)) (s.take k) ∧ decE k n l s = 0 := fun h1 h2 => by
    unfold decM decE
    rw [if_pos (show decOk k n l s from ⟨h1, h2⟩), if_pos (show decOk k n l s from ⟨h1, h2⟩)]
    exact ⟨rfl, rfl⟩
  have hno : ¬ (toldOk k n l s ∧ invE (partOf k n l) = 0) → decM k n l s = [] ∧ decE k n l s = 40 := fun h => by
    unfold decM decE
    rw [if_neg (show ¬ decOk k n l s from h), if_neg (show ¬ decOk k n l s from h)]
    exact ⟨rfl, rfl⟩
  have HOK := Lib.hid hok
  have HNO := Lib.hid hno
  clear hok hno
  by_cases h : toldOk k n l s
  · rw [decide_eq_true h] at hT
    have hkq : k ≤ q := by have := h.1.2.1; have := hl.len; omega
    have hqm : q = m := by rw [← hl.len, h.1.1, hs.len]
    have hPl := part_length hC.k1 hC.n2 hC.kn h
    have g1 : (k : Int) ≤ q := by omega
    have g2 : (k : Int) ≤ m := by omega
    have g3 : (0 : Int) ≤ k := by omega
    have g5 : (k : Int) ≤ d := by omega
    have HT := Lib.hid hT
    have HP := Lib.hid (fun (W : World) (hW : Ext w W) (A : Option Addr) (c : Nat) (hm : Mx W A n c (Gm.gen k n)) => pick_any3 W A n c (Gm.gen k n) hm B k d (l.take k) ((hl.ext hW).take hkq))
    have HPL := Lib.hid hPl
    have hev := h.1.2.2
    have HTO := Lib.hid h
    have hsk := hs.take (k := k) (by omega)
    have hk1 := hC.k1
    have hsw : ∀ i, i < k → (Gm.row (s.take k) i).length = Gm.cols (s.take k) := fun i hi => by rw [row_take hi, cols_take hk1]; exact hev.2.2.2 i (by have := hl.len; omega)
    have hsc : Gm.cols (s.take k) ≤ 65536 := by rw [cols_take hk1]; exact hev.2.2.1
    have HR := Lib.hid (fun (W : World) (hW : Ext w W) (A : Option Addr) (c : Nat) (G : Gm.L) (hG : Mx W A k c G) (hr : Gm.Rect k k G) => rows_any W b fb k n (hC.ext hW) A k c G hG (by have := hC.n2; have := hC.kn; omega) As k cs (s.take k) (hsk.ext hW) hk1 (fun i hi => hr.wid i hi) hsw hsc)
    have HC := Lib.hid hC
    have hk2 : k ≤ 255 := by have := hC.kn; have := hC.n2; omega
    clear hT h hl hs hC hPl hev hsk hsw hsc hqm
    have HPP := Lib.hid (show partOf k n l = pickM (Gm.gen k n) (l.take k) from rfl)
    generalize decM k n l s = DM at *
    generalize decE k n l s = DE at *
    generalize partOf k n l = PT at *
    go_enter Try.func42, Try.ntmps42
    go_wp2_with (fail)
    refine HM.out.mono ?_
    rintro e w' ⟨rfl, rfl⟩
    go_wp2_with (fail)
    refine HT.out.mono ?_
    rintro e w1 ⟨rfl, x1⟩
    have hC1 := HC.out.ext x1
    obtain ⟨A, c, c2, hm⟩ := hC1.mx
    have c1 := hC1.c1
    have HP1 := Lib.hid (HP.out w1.drew (x1.thenDrew) A c (hm.ext (Ext.drew _)))
    have hS : ∀ W : World, Ext w1 W → (W.cell? ⟨b, 1, none⟩ = some (.int .i64 (k : Int)) ∧ W.cell? ⟨b, 2, none⟩ = some (.slice A n c)) := fun W hW => ⟨hW.cell c1, hW.cell c2⟩
    have HS := Lib.hid hS
    clear hS hm hC1
    go_wp2_with (fail)
    go_region_held3 (fun W => W.cell? ⟨b, 1, none⟩ = some (.int .i64 (k : Int)) ∧ W.cell? ⟨b, 2, none⟩ = some (.slice A n c))
      (first | exact HS.out _ (Ext.drew _) | exact HS.out _ x12)
      (first | (((with_reducible refine HP1.out.mono ?_); (intro e w2 hg; obtain ⟨A2, c2', rfl, m2, x2⟩ := gives_mx hg; have x12 : Ext w1 w2 := (Ext.drew w1).trans x2))))
    all_goals
      rw [← HPP.out, HPL.out] at m2
      rw [← HPP.out, HPL.out]
      generalize pickE (Gm.gen k n) (List.take k l) = PE at *
      have hC2 := HC.out.ext (x1.trans x12)
      have hI := invert_any3 fb w2 A2 k c2' PT hC2.f m2
      have c0 := hC2.c0
      have c1 := hC2.c1
      have HI := Lib.hid hI
      clear hI hC2
      go_wp2_with (fail)
      refine HI.out.mono ?_
      intro e w3 hg
      obtain ⟨A3, c3, rfl, m3, x3⟩ := gives_mx hg
      clear hg
      have x03 : Ext w w3 := (x1.trans x12).trans x3
      by_cases hz : invE PT = 0
      · obtain ⟨rfl, rfl⟩ := HOK.out HTO.out hz
        rw [hz]
        have hrr := invM_rect hz HPL.out
        have hml : (invM PT).length = k := hrr.len
        rw [hml] at m3
        rw [hml]
        have HR3 := Lib.hid (HR.out w3 x03 A3 c3 (invM PT) m3 hrr)
        have c1 := (HC.out.ext x03).c1
        clear hrr hml m3 hz HOK HNO
        go_wp2_with (fail)
        refine HR3.out.mono ?_
        rintro e w4 ⟨v4, cs4, rfl, hq, x4⟩
        go_wp2_with (fail)
        go_ret2
        exact ⟨v4, cs4, rfl, hq.lower x03.size, x03.trans x4⟩
      · obtain ⟨rfl, rfl⟩ := HNO.out (fun q => hz q.2)
        have e3 : (invE PT != 0) = true := by rw [bne_iff_ne]; exact hz
        generalize invE PT = IE at *
        generalize (invM PT).length = IL at *
        clear hz m3
        go_wp2_with (fail)
        go_ret2
        exact GivesQE.none 40 x03
  · rw [decide_eq_false h] at hT
    obtain ⟨e1, e2⟩ := HNO.out (fun q => h q.1)
    rw [e1, e2]
    clear e1 e2 HNO HOK
    have HT := Lib.hid hT
    clear hT h hl hs hC
    go_enter Try.func42, Try.ntmps42
    go_wp2_with (fail)
    refine HM.out.mono ?_
    rintro e w' ⟨rfl, rfl⟩
    go_wp2_with (fail)
    refine HT.out.mono ?_
    rintro e w1 ⟨rfl, x1⟩
    go_wp2_with (fail)
    go_ret2
    exact GivesQE.none 40 x1
end Go.Proofs.Ytfpglkacjecoeaa
