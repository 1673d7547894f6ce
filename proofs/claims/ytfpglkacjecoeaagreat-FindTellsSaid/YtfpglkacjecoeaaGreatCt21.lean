/- Several texts in one: The contracts of code's Encode, Decode, Rebuild. A code that New did not make: what it is. The contract of find.Data. -/
import Derived.Test.YtfpglkacjecoeaaGreatCt20
import Derived.Deep.DrawnRows
import Derived.Test.YtfpglkacjecoeaaGreatCt16
import Derived.Test.YtfpglkacjecoeaaGreatCt10
import Derived.Test.YtfpglkacjecoeaaGreatCt14
import Derived.Deep.QuietTactic
namespace Go.Proofs.YtfpglkacjecoeaaGreat
open Go.RowKit
attribute [local go_sem ↓] Go.wp_at_zero Go.wp_at_succ

theorem row_take {m : Gm.L} {k i : Nat} (h : i < k) : Gm.row (m.take k) i = Gm.row m i := by
  unfold Gm.row
  rw [List.getD_eq_getElem?_getD, List.getD_eq_getElem?_getD, List.getElem?_take, if_pos h]
theorem Mx.take {w : World} {A : Option Addr} {n c k : Nat} {m : Gm.L} (h : Mx w A n c m) (hk : k ≤ n) : Mx w A k c (m.take k) := by
  obtain ⟨cs, h1, h2⟩ := h.rd
  have hl : cs.length = n := by rw [h2.len, h.len]
  refine ⟨by rw [List.length_take, h.len]; omega, by have := h.le; omega, h.max, cs.take k, ⟨by rw [List.length_take, hl]; omega, fun h0 => ?_⟩, ⟨by rw [List.length_take, List.length_take, hl, h.len], fun i hi => ?_⟩⟩
  · obtain ⟨b, off, e, hc⟩ := h1.2 (by omega)
    refine ⟨b, off, e, fun j u hu => hc j u ?_⟩
    rw [List.getElem?_take] at hu
    split at hu
    · exact hu
    · cases hu
  · rw [List.length_take, h.len] at hi
    obtain ⟨A', n', c', e, hb⟩ := h2.at_ i (by rw [h.len]; omega)
    exact ⟨A', n', c', by rw [List.getElem?_take, if_pos (by omega)]; exact e, by rw [row_take (by omega)]; exact hb⟩
theorem cols_take {m : Gm.L} {k : Nat} (h : 0 < k) : Gm.cols (m.take k) = Gm.cols m := by unfold Gm.cols; rw [row_take h]
def encE (k : Nat) (s : Gm.L) : Int := if Gm.even s k then 0 else 40
def encM (k n : Nat) (s : Gm.L) : Gm.L := if Gm.even s k then Gm.mulL (Gm.gen k n) s else []
/-- The rows that are asked, and whether they have an inverse. -/
def partOf (k n : Nat) (l : List Int) : Gm.L := pickM (Gm.gen k n) (l.take k)
def decOk (k n : Nat) (l : List Int) (s : Gm.L) : Prop := toldOk k n l s ∧ invE (partOf k n l) = 0
instance (k n : Nat) (l : List Int) (s : Gm.L) : Decidable (decOk k n l s) := by unfold decOk; infer_instance
def decE (k n : Nat) (l : List Int) (s : Gm.L) : Int := if decOk k n l s then 0 else 40
def decM (k n : Nat) (l : List Int) (s : Gm.L) : Gm.L := if decOk k n l s then Gm.mulL (invM (partOf k n l)) (s.take k) else []
theorem invE_zero {a : Gm.L} (h : invE a = 0) : square a ∧ ¬ Gm.rank a < a.length ∧ invM a = Gm.invert a := by
  unfold invE at h
  by_cases h1 : square a
  · rw [if_pos h1] at h
    by_cases h2 : Gm.rank a < a.length
    · rw [if_pos h2] at h; cases h
    · refine ⟨h1, h2, ?_⟩
      unfold invM
      rw [if_pos h1, if_neg h2]
  · rw [if_neg h1] at h; cases h
theorem invM_rect {a : Gm.L} {k : Nat} (h : invE a = 0) (hk : a.length = k) : Gm.Rect k k (invM a) := by
  obtain ⟨h1, h2, h3⟩ := invE_zero h
  rw [h3]
  have hr : Gm.Rect k k a := ⟨hk, fun i hi => by rw [h1.1.2.2.2.2 i (by omega), h1.2, hk]⟩
  have h0 : 0 < k := by have := h1.1.1; omega
  exact Gm.inv_rect hr h0 (by have := Gm.rank_le hr h0; omega)
theorem take_get_int {l : List Int} {k i : Nat} (h : i < k) : Il.get (l.take k) i = Il.get l i := by
  unfold Il.get
  rw [List.getD_eq_getElem?_getD, List.getD_eq_getElem?_getD, List.getElem?_take, if_pos h]
theorem told_rows {k n : Nat} {l : List Int} {s : Gm.L} (hk : 1 ≤ k) (hn : n ≤ 255) (hkn : k ≤ n) (h : toldOk k n l s) : rowsOf n (l.take k) := by
  have hl : (l.take k).length = k := by rw [List.length_take]; have := h.1.2.1; omega
  refine ⟨by omega, by omega, List.any_eq_false.2 fun x hx => ?_⟩
  obtain ⟨t, ht, rfl⟩ := List.getElem_of_mem hx
  have h2 := h.2 t (by have := h.1.2.1; omega)
  have e : (l.take k)[t] = Il.get l t := by rw [← Il.get_of_lt ht, take_get_int (by omega)]
  rw [e]
  unfold noRow
  simp
  omega
theorem part_length {k n : Nat} {l : List Int} {s : Gm.L} (hk : 1 ≤ k) (hn : n ≤ 255) (hkn : k ≤ n) (h : toldOk k n l s) : (partOf k n l).length = k := by
  unfold partOf pickM
  rw [if_pos ⟨Gm.gen_right hk hkn hn, by rw [Gm.gen_length hkn]; exact told_rows hk hn hkn h⟩, picked_length, List.length_take]
  have := h.1.2.1
  omega
set_option maxRecDepth 100000 in
set_option maxHeartbeats 4000000 in
theorem decode_any (w : World) (b fb k n : Nat) (hC : Cd w b fb k n) (B : Option Addr) (q d : Nat) (l : List Int) (hl : Is w B q d l) (As : Option Addr) (m cs : Nat) (s : Gm.L) (hs : Mx w As m cs s) :
    Calls Tryz.prog 48 #[cptr b, .slice B q d, .slice As m cs] w (GivesQE (decM k n l s) (decE k n l s) w) := by
  have HM := Lib.hid (made_any w b fb k n hC)
  have hT := told_any w b fb k n hC B q d l hl As m cs s hs
  have q1 := hl.max
  have q2 := hl.le
  have q3 := hs.max
  have q4 := hs.le
  have hok : toldOk k n l s → invE (partOf k n l) = 0 → decM k n l s = Gm.mulL (invM (partOf k n l)) (s.take k) ∧ decE k n l s = 0 := fun h1 h2 => by
    unfold decM decE
    rw [if_pos (show decOk k n l s from ⟨h1, h2⟩), if_pos (show decOk k n l s from ⟨h1, h2⟩)]
    exact ⟨rfl, rfl⟩
  have hno : ¬ (toldOk k n l s ∧ invE (partOf k n l) = 0) → decM k n l s = [] ∧ decE k n l s = 40 := fun h => by
    unfold decM decE
    rw [if_neg (show ¬ decOk k n l s from h), if_neg (show ¬ decOk k n l s from h)]
    exact ⟨rfl, rfl⟩
  have HOK := Lib.hid hok
  have HNO := Lib.hid hno
  clear hok hno
  by_cases h : toldOk k n l s
  · rw [decide_eq_true h] at hT
    have hkq : k ≤ q := by have := h.1.2.1; have := hl.len; omega
    have hqm : q = m := by rw [← hl.len, h.1.1, hs.len]
    have hPl := part_length hC.k1 hC.n2 hC.kn h
    have g1 : (k : Int) ≤ q := by omega
    have g2 : (k : Int) ≤ m := by omega
    have g3 : (0 : Int) ≤ k := by omega
    have g5 : (k : Int) ≤ d := by omega
    have HT := Lib.hid hT
    have HP := Lib.hid (fun (W : World) (hW : Ext w W) (A : Option Addr) (c : Nat) (hm : Mx W A n c (Gm.gen k n)) => pick_any3 W A n c (Gm.gen k n) hm B k d (l.take k) ((hl.ext hW).take hkq))
    have HPL := Lib.hid hPl
    have hev := h.1.2.2
    have HTO := Lib.hid h
    have hsk := hs.take (k := k) (by omega)
    have hk1 := hC.k1
    have hsw : ∀ i, i < k → (Gm.row (s.take k) i).length = Gm.cols (s.take k) := fun i hi => by rw [row_take hi, cols_take hk1]; exact hev.2.2.2 i (by have := hl.len; omega)
    have hsc : Gm.cols (s.take k) ≤ 65536 := by rw [cols_take hk1]; exact hev.2.2.1
    have HR := Lib.hid (fun (W : World) (hW : Ext w W) (A : Option Addr) (c : Nat) (G : Gm.L) (hG : Mx W A k c G) (hr : Gm.Rect k k G) => rows_any W b fb k n (hC.ext hW) A k c G hG (by have := hC.n2; have := hC.kn; omega) As k cs (s.take k) (hsk.ext hW) hk1 (fun i hi => hr.wid i hi) hsw hsc)
    have HC := Lib.hid hC
    have hk2 : k ≤ 255 := by have := hC.kn; have := hC.n2; omega
    clear hT h hl hs hC hPl hev hsk hsw hsc hqm
    have HPP := Lib.hid (show partOf k n l = pickM (Gm.gen k n) (l.take k) from rfl)
    generalize decM k n l s = DM at *
    generalize decE k n l s = DE at *
    generalize partOf k n l = PT at *
    go_enter Tryz.func48, Tryz.ntmps48
    go_wp2_with (fail)
    refine HM.out.mono ?_
    rintro e w' ⟨rfl, rfl⟩
    go_wp2_with (fail)
    refine HT.out.mono ?_
    rintro e w1 ⟨rfl, x1⟩
    have hC1 := HC.out.ext x1
    obtain ⟨A, c, c2, hm⟩ := hC1.mx
    have c1 := hC1.c1
    have HP1 := Lib.hid (HP.out w1.drew (x1.thenDrew) A c (hm.ext (Ext.drew _)))
    have hS : ∀ W : World, Ext w1 W → (W.cell? ⟨b, 1, none⟩ = some (.int .i64 (k : Int)) ∧ W.cell? ⟨b, 2, none⟩ = some (.slice A n c)) := fun W hW => ⟨hW.cell c1, hW.cell c2⟩
    have HS := Lib.hid hS
    clear hS hm hC1
    go_wp2_with (fail)
    go_region_held3 (fun W => W.cell? ⟨b, 1, none⟩ = some (.int .i64 (k : Int)) ∧ W.cell? ⟨b, 2, none⟩ = some (.slice A n c))
      (first | exact HS.out _ (Ext.drew _) | exact HS.out _ x12)
      (first | (((with_reducible refine HP1.out.mono ?_); (intro e w2 hg; obtain ⟨A2, c2', rfl, m2, x2⟩ := gives_mx hg; have x12 : Ext w1 w2 := (Ext.drew w1).trans x2))))
    all_goals
      rw [← HPP.out, HPL.out] at m2
      rw [← HPP.out, HPL.out]
      generalize pickE (Gm.gen k n) (List.take k l) = PE at *
      have hC2 := HC.out.ext (x1.trans x12)
      have hI := invert_any3 fb w2 A2 k c2' PT hC2.f m2
      have c0 := hC2.c0
      have c1 := hC2.c1
      have HI := Lib.hid hI
      clear hI hC2
      go_wp2_with (fail)
      refine HI.out.mono ?_
      intro e w3 hg
      obtain ⟨A3, c3, rfl, m3, x3⟩ := gives_mx hg
      clear hg
      have x03 : Ext w w3 := (x1.trans x12).trans x3
      by_cases hz : invE PT = 0
      · obtain ⟨rfl, rfl⟩ := HOK.out HTO.out hz
        rw [hz]
        have hrr := invM_rect hz HPL.out
        have hml : (invM PT).length = k := hrr.len
        rw [hml] at m3
        rw [hml]
        have HR3 := Lib.hid (HR.out w3 x03 A3 c3 (invM PT) m3 hrr)
        have c1 := (HC.out.ext x03).c1
        clear hrr hml m3 hz HOK HNO
        go_wp2_with (fail)
        refine HR3.out.mono ?_
        rintro e w4 ⟨v4, cs4, rfl, hq, x4⟩
        go_wp2_with (fail)
        go_ret2
        exact ⟨v4, cs4, rfl, hq.lower x03.size, x03.trans x4⟩
      · obtain ⟨rfl, rfl⟩ := HNO.out (fun q => hz q.2)
        have e3 : (invE PT != 0) = true := by rw [bne_iff_ne]; exact hz
        generalize invE PT = IE at *
        generalize (invM PT).length = IL at *
        clear hz m3
        go_wp2_with (fail)
        go_ret2
        exact GivesQE.none 40 x03
  · rw [decide_eq_false h] at hT
    obtain ⟨e1, e2⟩ := HNO.out (fun q => h q.1)
    rw [e1, e2]
    clear e1 e2 HNO HOK
    have HT := Lib.hid hT
    clear hT h hl hs hC
    go_enter Tryz.func48, Tryz.ntmps48
    go_wp2_with (fail)
    refine HM.out.mono ?_
    rintro e w' ⟨rfl, rfl⟩
    go_wp2_with (fail)
    refine HT.out.mono ?_
    rintro e w1 ⟨rfl, x1⟩
    go_wp2_with (fail)
    go_ret2
    exact GivesQE.none 40 x1
end Go.Proofs.YtfpglkacjecoeaaGreat
namespace Go.Proofs.YtfpglkacjecoeaaGreat
open Go.RowKit

/-- What is no code that New made: none, or one without a field. -/
def NoCode (w : World) (p : Value) : Prop := p = .pointer none ∨ ∃ b, p = .pointer (some ⟨b, 0, none⟩) ∧ w.cell? ⟨b, 0, none⟩ = some (.pointer none)
theorem NoCode.ext {w w' : World} {p : Value} (h : NoCode w p) (hx : Ext w w') : NoCode w' p := by
  rcases h with h | ⟨b, h, hc⟩
  · exact .inl h
  · exact .inr ⟨b, h, hx.cell hc⟩
theorem noc_made_nil (w : World) : Calls Tryz.prog 60 #[.pointer none] w fun e w' => e = .returned (.bool false) ∧ w = w' := by
  go_enter Tryz.func60, Tryz.ntmps60
  go_wp2
  go_ret
  exact ⟨rfl, rfl⟩
theorem noc_made (w : World) (p : Value) (h : NoCode w p) : Calls Tryz.prog 60 #[p] w fun e w' => e = .returned (.bool false) ∧ w = w' := by
  rcases h with rfl | ⟨b, rfl, hc⟩
  · exact noc_made_nil w
  · go_enter Tryz.func60, Tryz.ntmps60
    go_wp2
    go_ret
    exact ⟨rfl, rfl⟩
theorem noc_need (w : World) (p : Value) (h : NoCode w p) : Calls Tryz.prog 46 #[p] w fun e w' => e = .returned (.int .i64 0) ∧ w = w' := by
  go_enter Tryz.func46, Tryz.ntmps46
  go_wp2_with (fail)
  refine (noc_made _ _ h).mono ?_
  rintro e w' ⟨rfl, rfl⟩
  go_wp2_with (fail)
  go_ret
  exact ⟨rfl, rfl⟩
theorem noc_all (w : World) (p : Value) (h : NoCode w p) : Calls Tryz.prog 47 #[p] w fun e w' => e = .returned (.int .i64 0) ∧ w = w' := by
  go_enter Tryz.func47, Tryz.ntmps47
  go_wp2_with (fail)
  refine (noc_made _ _ h).mono ?_
  rintro e w' ⟨rfl, rfl⟩
  go_wp2_with (fail)
  go_ret
  exact ⟨rfl, rfl⟩
end Go.Proofs.YtfpglkacjecoeaaGreat
namespace Go.Proofs.YtfpglkacjecoeaaGreat
open Go.RowKit

/-- May the data be told by a code of K and N? -/
def mayData (f : Finds.F) (K N : Int) : Prop := Finds.right f ∧ f.phase = 2 ∧ K = f.need ∧ N = f.marks.length
instance (f : Finds.F) (K N : Int) : Decidable (mayData f K N) := by unfold mayData; infer_instance
def dataE (f : Finds.F) (K N E : Int) : Int := if ¬ Finds.right f then 140 else if f.phase ≠ 2 then 80 else if K ≠ f.need ∨ N ≠ f.marks.length then 40 else E
def dataM (f : Finds.F) (K N : Int) (M : Gm.L) : Gm.L := if mayData f K N then M else []
theorem data_none (w w' : World) (E : Int) (hx : Ext w w') : GivesME [] E w (.returned (.tuple #[.slice none 0 0, .int .i64 E])) w' := ⟨_, _, rfl, Mx.none w', hx⟩
set_option maxRecDepth 100000 in
set_option maxHeartbeats 4000000 in
theorem fData_core (w : World) (p : Value) (K N E : Int) (M : Gm.L) (f : Finds.F) (A : Option Addr) (n c : Nat) (B : Option Addr) (m d : Nat) (C : Option Addr) (k e : Nat) (h : Fd w f A n c B m d C k e) (hn : n ≤ 1000) (hm : m ≤ 1000)
    (hN : ∀ W, Ext w W → Calls Tryz.prog 46 #[p] W fun e w' => e = .returned (.int .i64 K) ∧ W = w') (hA : ∀ W, Ext w W → Calls Tryz.prog 47 #[p] W fun e w' => e = .returned (.int .i64 N) ∧ W = w')
    (hD : mayData f K N → ∀ W, Ext w W → Calls Tryz.prog 48 #[p, .slice B m d, .slice C k e] W (GivesME M E W)) :
    Calls Tryz.prog 26 #[p, fval f.stripe f.version f.need f.phase (.slice A n c) (.slice B m d) (.slice C k e)] w (GivesME (dataM f K N M) (dataE f K N E) w) := by
  have q1 := h.u.max
  have q2 := h.u.le
  have q3 := h.v.max
  have q4 := h.v.le
  have q5 := h.s.max
  have q6 := h.s.le
  have LN := Lib.hid h.u.len
  have xA := Ext.alloc w (.cells #[.int .i64 f.stripe, .int .i64 f.version, .int .i64 f.need, .int .i64 f.phase, .slice A n c, .slice B m d, .slice C k e] 25)
  have hR := fRight_any _ f A n c B m d C k e (h.ext xA) hn hm
  have s1 := Fb.new w f.stripe f.version f.need f.phase (.slice A n c) (.slice B m d) (.slice C k e) rfl
  have XA := Lib.hid xA
  have HR := Lib.hid hR
  have SB := Lib.hid s1
  have HNd := Lib.hid hN
  have HAl := Lib.hid hA
  have HDe := Lib.hid hD
  clear h hR xA s1 hN hA hD
  go_enter Tryz.func26, Tryz.ntmps26
  go_wp2_with (fail)
  refine HR.out.mono ?_
  rintro r w1 ⟨rfl, x1⟩
  have X1 := Lib.hid (XA.out.trans x1)
  have s1 := SB.out.ext x1
  have k0 := s1.c0
  have k1 := s1.c1
  have k2 := s1.c2
  have k3 := s1.c3
  have k4 := s1.c4
  have k5 := s1.c5
  have k6 := s1.c6
  have S1 := Lib.hid s1
  clear x1 s1
  by_cases hr : Finds.right f
  · rw [decide_eq_true hr]
    by_cases hp : f.phase = 2
    · have e1 : (f.phase != 2) = false := by rw [bne_eq_false_iff_eq]; exact hp
      have HRR := Lib.hid hr
      have HPP := Lib.hid hp
      by_cases hk : K = f.need
      · have e2 : (K != f.need) = false := by rw [bne_eq_false_iff_eq]; exact hk
        by_cases hnn : N = n
        · have e3 : (N != (n : Int)) = false := by rw [bne_eq_false_iff_eq]; exact hnn
          have hmd : mayData f K N := ⟨hr, hp, hk, by rw [LN.out]; exact hnn⟩
          have HM := Lib.hid (show dataM f K N M = M from if_pos hmd)
          have HE := Lib.hid (show dataE f K N E = E by unfold dataE; rw [if_neg (fun q => q hr), if_neg (fun q => q hp), if_neg (fun q => by rw [LN.out] at q; omega)])
          have HD1 := Lib.hid (HDe.out hmd)
          clear hr hp hk hnn hmd
          go_wp2_with (fail)
          go_quiet ((first | (go_at_call 46; exact Calls.quiet_of_same ((HNd.out _ (X1.out.trans (Ext.drewN _ _))).mono fun _ _ h => ⟨h.1, h.2.symm⟩)) | (go_at_call 47; exact Calls.quiet_of_same ((HAl.out _ (X1.out.trans (Ext.drewN _ _))).mono fun _ _ h => ⟨h.1, h.2.symm⟩))))
          go_wp2_with (fail)
          refine (HD1.out _ (X1.out.trans (Ext.drewN _ _))).mono ?_
          rintro r w2 ⟨A2, c2, rfl, hm2, x2⟩
          have HM2 := Lib.hid hm2
          have p1 := hm2.max
          have p2 := hm2.le
          have X2 := Lib.hid x2
          clear hm2 x2
          go_wp2_with (fail)
          go_ret2
          rw [HM.out, HE.out]
          exact ⟨_, _, rfl, HM2.out, (X1.out.trans (Ext.drewN _ _)).trans X2.out⟩
        · have e3 : (N != (n : Int)) = true := by rw [bne_iff_ne]; exact hnn
          have HM := Lib.hid (show dataM f K N M = [] from if_neg (fun q => hnn (by rw [q.2.2.2, LN.out])))
          have HE := Lib.hid (show dataE f K N E = 40 by unfold dataE; rw [if_neg (fun q => q hr), if_neg (fun q => q hp), if_pos (by rw [LN.out]; exact .inr hnn)])
          clear hr hp hk hnn
          go_wp2_with (fail)
          go_quiet ((first | (go_at_call 46; exact Calls.quiet_of_same ((HNd.out _ (X1.out.trans (Ext.drewN _ _))).mono fun _ _ h => ⟨h.1, h.2.symm⟩)) | (go_at_call 47; exact Calls.quiet_of_same ((HAl.out _ (X1.out.trans (Ext.drewN _ _))).mono fun _ _ h => ⟨h.1, h.2.symm⟩))))
          go_wp2_with (fail)
          go_ret2
          rw [HM.out, HE.out]
          exact data_none _ _ _ (X1.out.trans (Ext.drewN _ _))
      · have e2 : (K != f.need) = true := by rw [bne_iff_ne]; exact hk
        have HM := Lib.hid (show dataM f K N M = [] from if_neg (fun q => hk q.2.2.1))
        have HE := Lib.hid (show dataE f K N E = 40 by unfold dataE; rw [if_neg (fun q => q hr), if_neg (fun q => q hp), if_pos (.inl hk)])
        clear hr hp hk
        go_wp2_with (fail)
        go_quiet ((first | (go_at_call 46; exact Calls.quiet_of_same ((HNd.out _ (X1.out.trans (Ext.drewN _ _))).mono fun _ _ h => ⟨h.1, h.2.symm⟩)) | (go_at_call 47; exact Calls.quiet_of_same ((HAl.out _ (X1.out.trans (Ext.drewN _ _))).mono fun _ _ h => ⟨h.1, h.2.symm⟩))))
        go_wp2_with (fail)
        go_ret2
        rw [HM.out, HE.out]
        exact data_none _ _ _ (X1.out.trans (Ext.drewN _ _))
    · have e1 : (f.phase != 2) = true := by rw [bne_iff_ne]; exact hp
      have HM := Lib.hid (show dataM f K N M = [] from if_neg (fun q => hp q.2.1))
      have HE := Lib.hid (show dataE f K N E = 80 by unfold dataE; rw [if_neg (fun q => q hr), if_pos hp])
      clear hr hp
      go_wp2_with (fail)
      go_ret2
      rw [HM.out, HE.out]
      exact data_none _ _ _ X1.out
  · rw [decide_eq_false hr]
    have HM := Lib.hid (show dataM f K N M = [] from if_neg (fun q => hr q.1))
    have HE := Lib.hid (show dataE f K N E = 140 by unfold dataE; rw [if_pos hr])
    clear hr
    go_wp2_with (fail)
    go_ret2
    rw [HM.out, HE.out]
    exact data_none _ _ _ X1.out
/-- Data by a code that New made. -/
theorem fData_any (w : World) (b fb K N : Nat) (hC : Cd w b fb K N) (f : Finds.F) (A : Option Addr) (n c : Nat) (B : Option Addr) (m d : Nat) (C : Option Addr) (k e : Nat) (h : Fd w f A n c B m d C k e) (hn : n ≤ 1000) (hm : m ≤ 1000) :
    Calls Tryz.prog 26 #[cptr b, fval f.stripe f.version f.need f.phase (.slice A n c) (.slice B m d) (.slice C k e)] w (GivesME (dataM f K N (decM K N f.which f.shards)) (dataE f K N (decE K N f.which f.shards)) w) :=
  fData_core w (cptr b) K N _ _ f A n c B m d C k e h hn hm (fun W hW => need_any W b fb K N (hC.ext hW)) (fun W hW => all_any W b fb K N (hC.ext hW))
    (fun _ W hW => (decode_any W b fb K N (hC.ext hW) B m d f.which (h.v.ext hW) C k e f.shards (h.s.ext hW)).mono fun e w' hg => gives_mx hg)
/-- Data by none. -/
theorem fData_none (w : World) (f : Finds.F) (A : Option Addr) (n c : Nat) (B : Option Addr) (m d : Nat) (C : Option Addr) (k e : Nat) (h : Fd w f A n c B m d C k e) (hn : n ≤ 1000) (hm : m ≤ 1000) :
    Calls Tryz.prog 26 #[.pointer none, fval f.stripe f.version f.need f.phase (.slice A n c) (.slice B m d) (.slice C k e)] w (GivesME [] (dataE f 0 0 40) w) := by
  have hno : ∀ E, ¬ mayData f 0 0 ∧ dataE f 0 0 E = dataE f 0 0 40 := fun E => by
    have hz : Finds.right f → (0 : Int) ≠ f.need := fun hr => by have := (Finds.right_need hr).1; omega
    refine ⟨fun q => hz q.1 q.2.2.1, ?_⟩
    unfold dataE
    split
    · rfl
    · rename_i hr
      have := hz (Classical.not_not.1 hr)
      have h2 : (0 : Int) ≠ f.need ∨ (0 : Int) ≠ f.marks.length := Or.inl this
      rw [if_pos h2, if_pos h2]
  have h0 := fData_core w (.pointer none) 0 0 40 [] f A n c B m d C k e h hn hm (fun W _ => noc_need W _ (.inl rfl)) (fun W _ => noc_all W _ (.inl rfl)) (fun q => absurd q (hno 0).1)
  rwa [show dataM f 0 0 [] = [] from if_neg (hno 0).1] at h0
end Go.Proofs.YtfpglkacjecoeaaGreat
