/- Several texts in one: The contract of find.Right. Slices of wants. No statement of the seat is proved here. The contracts of find.Lacks and Wants. -/
import Derived.Test.YtfpglkacjecoeaaGreatCt5
import Derived.Test.YtfpglkacjecoeaaGreatCt6
import Derived.Test.YtfpglkacjecoeaaGreatCt9
import Derived.Deep.CutBlock
import Derived.Deep.DeepCutAuto
import Derived.Test.YtfpglkacjecoeaaGreatCt3
namespace Go.Proofs.YtfpglkacjecoeaaGreat
open Go.RowKit
set_option linter.unusedSimpArgs false

theorem odd_asks (w : World) (g : Nat) (f : Finds.F) (U V : Value) (C : Option Addr) (k e : Nat) (hb : Fb w g f.stripe f.version f.need f.phase U V (.slice C k e)) (hs : Mx w C k e f.shards) :
    AsksRow w 43 #[.pointer (some ⟨g, 0, none⟩)] (fun r => !Finds.fitsL f.shards r) := by
  intro W A n' c' r hx hr
  have q1 := hs.max
  have q2 := hs.le
  have s := hb.ext hx
  have k0 := s.c0
  have k1 := s.c1
  have k2 := s.c2
  have k3 := s.c3
  have k4 := s.c4
  have k5 := s.c5
  have k6 := s.c6
  have HF := Lib.hid (fits_any13 W f U V C k e A n' c' r (hs.ext hx) hr)
  show Calls Tryz.prog 43 #[.slice A n' c', .pointer (some ⟨g, 0, none⟩)] W _
  clear s hr hb hs
  go_enter Tryz.func43, Tryz.ntmps43
  go_wp2_with (fail)
  refine HF.out.mono ?_
  rintro e w1 ⟨rfl, x1⟩
  go_wp2_with (fail)
  go_ret
  exact ⟨rfl, x1⟩
/-- The five things that Right asks ahead of the phase. -/
def sound (f : Finds.F) (n k : Nat) : Prop := Finds.named f.stripe f.version n f.need ∧ Finds.cnt f.marks 0 + Finds.cnt f.marks 1 + Finds.cnt f.marks 2 = n ∧ Il.srt f.which = Finds.ofL f.marks 1 ∧ k = Finds.cnt f.marks 1 ∧ anyRow k f.shards (fun r => !Finds.fitsL f.shards r) = false
theorem anyRow_fits {f : Finds.F} {k : Nat} (hk : f.shards.length = k) : anyRow k f.shards (fun r => !Finds.fitsL f.shards r) = false ↔ ∀ b ∈ f.shards, Finds.fitsL f.shards b = true := by
  unfold anyRow
  rw [decide_eq_false_iff_not]
  constructor
  · intro h b hb
    obtain ⟨i, hi, rfl⟩ := List.mem_iff_getElem.1 hb
    by_cases hq : Finds.fitsL f.shards f.shards[i] = true
    · exact hq
    · refine absurd ⟨i, by omega, ?_⟩ h
      have : Gm.row f.shards i = f.shards[i] := by simp [Gm.row, hi]
      rw [this]
      simp [hq]
  · rintro h ⟨i, hi, hq⟩
    have hi' : i < f.shards.length := by omega
    have : Gm.row f.shards i = f.shards[i] := by simp [Gm.row, hi']
    simp only [this, h _ (List.getElem_mem hi')] at hq
    cases hq
theorem right_sound {f : Finds.F} {n k : Nat} (hn : f.marks.length = n) (hk : f.shards.length = k) : Finds.right f ↔ sound f n k ∧ Finds.phaseOk f.phase (Finds.cnt f.marks 1) (Finds.cnt f.marks 2) n f.need := by
  unfold Finds.right sound
  rw [anyRow_fits hk, hn, hk]
  constructor
  · rintro ⟨a, b, c, d, e, g⟩; exact ⟨⟨a, b, c, d, e⟩, g⟩
  · rintro ⟨⟨a, b, c, d, e⟩, g⟩; exact ⟨a, b, c, d, e, g⟩
set_option maxRecDepth 100000 in
set_option maxHeartbeats 4000000 in
theorem fRight_any (w : World) (f : Finds.F) (A : Option Addr) (n c : Nat) (B : Option Addr) (m d : Nat) (C : Option Addr) (k e : Nat) (h : Fd w f A n c B m d C k e) (hn : n ≤ 1000) (hm : m ≤ 1000) :
    Calls Tryz.prog 18 #[fval f.stripe f.version f.need f.phase (.slice A n c) (.slice B m d) (.slice C k e)] w fun r w' => r = .returned (.bool (decide (Finds.right f))) ∧ Ext w w' := by
  have q1 := h.u.max
  have q2 := h.u.le
  have q3 := h.v.max
  have q4 := h.v.le
  have q5 := h.s.max
  have q6 := h.s.le
  have hRS := right_sound h.u.len h.s.len
  obtain ⟨st, ve, ne, ph, mk, wh, sh⟩ := f
  have h0 : Finds.cnt mk 0 ≤ 1000 := by have := Finds.cnt_le mk 0; have := h.u.len; simp only at this; omega
  have h1 : Finds.cnt mk 1 ≤ 1000 := by have := Finds.cnt_le mk 1; have := h.u.len; simp only at this; omega
  have h2 : Finds.cnt mk 2 ≤ 1000 := by have := Finds.cnt_le mk 2; have := h.u.len; simp only at this; omega
  obtain ⟨R, hR⟩ : ∃ R, decide (Finds.right ⟨st, ve, ne, ph, mk, wh, sh⟩) = R := ⟨_, rfl⟩
  rw [hR]
  have hRi : R = true ↔ (sound ⟨st, ve, ne, ph, mk, wh, sh⟩ n k ∧ Finds.phaseOk ph (Finds.cnt mk 1) (Finds.cnt mk 2) n ne) := by
    rw [← hR, decide_eq_true_eq]; exact hRS
  have HRI := Lib.hid hRi
  have LS := Lib.hid h.s.len
  have H := Lib.hid h
  have s1 := Fb.new w st ve ne ph (.slice A n c) (.slice B m d) (.slice C k e) rfl
  have xA := Ext.alloc w (.cells #[.int .i64 st, .int .i64 ve, .int .i64 ne, .int .i64 ph, .slice A n c, .slice B m d, .slice C k e] 25)
  clear h hR hRS hRi
  go_enter Tryz.func18, Tryz.ntmps18
  try dsimp only [List.append]
  have k4 := s1.c4
  go_upto_region 2 with (fail)
  obtain ⟨g, hg⟩ : ∃ g, w.heap.size = g := ⟨_, rfl⟩
  obtain ⟨W, hW⟩ : ∃ W, w.alloc (.cells #[.int .i64 st, .int .i64 ve, .int .i64 ne, .int .i64 ph, .slice A n c, .slice B m d, .slice C k e] 25) = W := ⟨_, rfl⟩
  rw [hg] at s1 k4 ⊢
  rw [hW] at s1 xA k4 ⊢
  have SB := Lib.hid s1
  have XA := Lib.hid xA
  clear hg hW xA k4
  have k0 := s1.c0
  have k1 := s1.c1
  have k2 := s1.c2
  have k3 := s1.c3
  have k4 := s1.c4
  have k5 := s1.c5
  have k6 := s1.c6
  have HOF := Lib.hid (fun (V : World) (hV : Ext W V) (x : Int) => of_any13 V st ve ne ph A n c (.slice B m d) (.slice C k e) x mk (H.out.u.ext (XA.out.trans hV)) hn)
  clear s1
  go_cut [4, 5] (fun s4 s5 wx => ∃ wv : World, wv = wx ∧ ∃ (A1 : Option Addr) (c1 : Nat) (A2 : Option Addr) (c2 : Nat), s4 = .slice A1 (Finds.cnt mk 1) c1 ∧ s5 = .slice A2 (Finds.cnt mk 2) c2 ∧ RowKit.Hid (Is wx A1 (Finds.cnt mk 1) c1 (Finds.ofL mk 1)) ∧ RowKit.Hid (Is wx A2 (Finds.cnt mk 2) c2 (Finds.ofL mk 2)) ∧ RowKit.Hid (Ext W wx))
  case first =>
    have HSS := Lib.hid (fun (V : World) (hV : Ext W V) => (⟨hV.cell k0, hV.cell k1, hV.cell k2, hV.cell k3, hV.cell k4, hV.cell k5, hV.cell k6⟩ : (fun W : World => W.cell? ⟨g, 0, none⟩ = some (.int .i64 st) ∧ W.cell? ⟨g, 1, none⟩ = some (.int .i64 ve) ∧ W.cell? ⟨g, 2, none⟩ = some (.int .i64 ne) ∧ W.cell? ⟨g, 3, none⟩ = some (.int .i64 ph) ∧ W.cell? ⟨g, 4, none⟩ = some (.slice A n c) ∧ W.cell? ⟨g, 5, none⟩ = some (.slice B m d) ∧ W.cell? ⟨g, 6, none⟩ = some (.slice C k e)) V))
    refine wp_region_T (S := (fun W : World => W.cell? ⟨g, 0, none⟩ = some (.int .i64 st) ∧ W.cell? ⟨g, 1, none⟩ = some (.int .i64 ve) ∧ W.cell? ⟨g, 2, none⟩ = some (.int .i64 ne) ∧ W.cell? ⟨g, 3, none⟩ = some (.int .i64 ph) ∧ W.cell? ⟨g, 4, none⟩ = some (.slice A n c) ∧ W.cell? ⟨g, 5, none⟩ = some (.slice B m d) ∧ W.cell? ⟨g, 6, none⟩ = some (.slice C k e))) 5 (n := 6) rfl rfl ?_
    have hHeld : ((fun W : World => W.cell? ⟨g, 0, none⟩ = some (.int .i64 st) ∧ W.cell? ⟨g, 1, none⟩ = some (.int .i64 ve) ∧ W.cell? ⟨g, 2, none⟩ = some (.int .i64 ne) ∧ W.cell? ⟨g, 3, none⟩ = some (.int .i64 ph) ∧ W.cell? ⟨g, 4, none⟩ = some (.slice A n c) ∧ W.cell? ⟨g, 5, none⟩ = some (.slice B m d) ∧ W.cell? ⟨g, 6, none⟩ = some (.slice C k e))) W.drew := HSS.out _ (Ext.drew _)
    refine takeT (i := 0) (v := ?_) rfl (by kernel_rfl) (by kernel_rfl) (by kernel_rfl) (by kernel_rfl) (by decide) (fun _ _ _ h => h) (by kernel_rfl) (Or.inl ⟨by rfl, ?_⟩) (by assumption) ?_
    rotate_left
    · (intro W9 hSw; (try dsimp only at hSw); go_simp; (try with_reducible rfl))
    try simp only [Act.put, List.setIfInBounds_toArray, List.set_cons_zero, List.set_cons_succ]
    refine takeT (i := 2) (v := ?_) rfl (by kernel_rfl) (by kernel_rfl) (by kernel_rfl) (by kernel_rfl) (by decide) (fun _ _ _ h => h) (by kernel_rfl) (Or.inl ⟨by rfl, ?_⟩) (by assumption) ?_
    rotate_left
    · (intro W9 hSw; (try dsimp only at hSw); go_simp; (try with_reducible rfl))
    try simp only [Act.put, List.setIfInBounds_toArray, List.set_cons_zero, List.set_cons_succ]
    refine oneT (i := 1) rfl (by kernel_rfl) (fun K hK => ?_)
    rw [if_pos (by kernel_rfl)]
    go_wp2_with (((with_reducible refine (HOF.out _ (Ext.drew _) 1).mono ?_); (rintro e w1 ⟨v1, rfl, hv1⟩; obtain ⟨A1, c1, rfl, hi1⟩ := hv1.is; have z1 : Ext W w1 := (Ext.drew _).trans hv1.ext; have I1 := Lib.hid hi1; clear hv1 hi1)))
    refine hK.out _ _ (fun _ => HSS.out _ z1) ?_
    clear hK K hHeld
    have hHeld : ((fun W : World => W.cell? ⟨g, 0, none⟩ = some (.int .i64 st) ∧ W.cell? ⟨g, 1, none⟩ = some (.int .i64 ve) ∧ W.cell? ⟨g, 2, none⟩ = some (.int .i64 ne) ∧ W.cell? ⟨g, 3, none⟩ = some (.int .i64 ph) ∧ W.cell? ⟨g, 4, none⟩ = some (.slice A n c) ∧ W.cell? ⟨g, 5, none⟩ = some (.slice B m d) ∧ W.cell? ⟨g, 6, none⟩ = some (.slice C k e))) w1 := HSS.out _ z1
    try simp only [Act.put, List.setIfInBounds_toArray, List.set_cons_zero, List.set_cons_succ]
    refine oneT (i := 3) rfl (by kernel_rfl) (fun K hK => ?_)
    rw [if_pos (by kernel_rfl)]
    go_wp2_with (((with_reducible refine (HOF.out _ z1 2).mono ?_); (rintro e w2 ⟨v2, rfl, hv2⟩; obtain ⟨A2, c2, rfl, hi2⟩ := hv2.is; have z2 : Ext W w2 := z1.trans hv2.ext; have I2 := Lib.hid hi2; have I1' := Lib.hid (I1.out.ext hv2.ext); clear hv2 hi2)))
    refine hK.out _ _ (fun _ => HSS.out _ z2) ?_
    clear hK K hHeld
    have hHeld : ((fun W : World => W.cell? ⟨g, 0, none⟩ = some (.int .i64 st) ∧ W.cell? ⟨g, 1, none⟩ = some (.int .i64 ve) ∧ W.cell? ⟨g, 2, none⟩ = some (.int .i64 ne) ∧ W.cell? ⟨g, 3, none⟩ = some (.int .i64 ph) ∧ W.cell? ⟨g, 4, none⟩ = some (.slice A n c) ∧ W.cell? ⟨g, 5, none⟩ = some (.slice B m d) ∧ W.cell? ⟨g, 6, none⟩ = some (.slice C k e))) w2 := HSS.out _ z2
    try simp only [Act.put, List.setIfInBounds_toArray, List.set_cons_zero, List.set_cons_succ]
    refine pureT (i := 4) (v := ?_) rfl (by kernel_rfl) (by kernel_rfl) (by kernel_rfl) (by decide) (fun _ _ _ h => h) (Or.inl ⟨by rfl, ?_⟩) (fun _ => by assumption) ?_
    rotate_left
    · (intro W9 _; go_simp; (try with_reducible rfl))
    try simp only [Act.put, List.setIfInBounds_toArray, List.set_cons_zero, List.set_cons_succ]
    refine oneT (i := 5) rfl (by kernel_rfl) (fun K hK => ?_)
    rw [if_pos (by kernel_rfl)]
    go_wp2_with (fail)
    refine hK.out _ _ (fun h => absurd (show true = false from h) (by decide)) ?_
    clear hK K hHeld
    try simp only [Act.put, List.setIfInBounds_toArray, List.set_cons_zero, List.set_cons_succ]
    refine doneT (by kernel_rfl) ?_ _
    go_wp2_with (fail)
    go_meet
    exact ⟨_, rfl, A1, c1, A2, c2, rfl, rfl, I1', I2, Lib.hid z2⟩
  case rest =>
  obtain ⟨w2, rfl, A1, c1, A2, c2, rfl, rfl, I1, I2, X2⟩ := hcut
  have q7 := I1.out.max
  have q8 := I1.out.le
  have q9 := I2.out.max
  have q10 := I2.out.le
  clear k0 k1 k2 k3 k4 k5 k6
  have HCL := Lib.hid (cloneInts_any w2 B m d wh (H.out.v.ext (XA.out.trans X2.out)) (by omega))
  have s2 := SB.out.ext X2.out
  have k5 := s2.c5
  clear s2
  go_upto_region 3 with (fail)
  go_cut [6] (fun s6 wx => ∃ wv : World, wv = wx ∧ ∃ (A3 : Option Addr) (c3 : Nat), s6 = .slice A3 m c3 ∧ RowKit.Hid (wx.ownsRow w2.heap.size 3 1 (.slice A3 m c3) m (icells wh)) ∧ RowKit.Hid (Ext w2 wx))
  case first =>
    go_wp2_with (fail)
    refine HCL.out.mono ?_
    rintro e w3 ⟨v3, rfl, hv3⟩
    obtain ⟨A3, c3, rfl, _⟩ := hv3.is
    have hl := H.out.v.len
    simp only at hl
    have ho := hv3.own
    have hx := hv3.ext
    rw [hl] at ho ⊢
    have HO := Lib.hid ho
    have HX := Lib.hid hx
    clear hv3 ho hx hl
    go_wp2_with (fail)
    go_meet
    exact ⟨_, rfl, A3, c3, rfl, HO, HX⟩
  case rest =>
  obtain ⟨w3, rfl, A3, c3, rfl, HO3, HX3⟩ := hcut
  clear k5 HCL
  go_upto_region 4 with (fail)
  go_cut [] (fun wx => ∃ wv : World, wv = wx ∧ RowKit.Hid (Is wx A3 m c3 (Il.srt wh)) ∧ RowKit.Hid (Ext w2 wx))
  case first =>
    have hso := sort_own w3 w2.heap.size m c3 A3 wh (by have := H.out.v.len; exact this) (by omega) HO3.out
    have HSO := Lib.hid hso
    clear hso
    go_wp2_with (fail)
    refine HSO.out.mono ?_
    rintro e w4 ⟨rfl, ho4, hg4⟩
    have H4 := Lib.hid ho4
    have HX4 := Lib.hid (HX3.out.ofGrown hg4 (fun k hk => (HO3.out.lt k hk).1))
    clear ho4 hg4
    go_wp2_with (fail)
    go_meet
    refine ⟨_, rfl, Lib.hid ?_, HX4⟩
    have hl : (Il.srt wh).length = m := by rw [Il.srt_length]; exact H.out.v.len
    have ho := H4.out
    rw [← hl] at ho
    have hi := (Own.mk (base := w2.heap.size) (e := 3) ho).ints
    rwa [hl] at hi
  case rest =>
  obtain ⟨w4, rfl, IS, HX4⟩ := hcut
  have q11 := IS.out.max
  have q12 := IS.out.le
  have X4 := Lib.hid (X2.out.trans HX4.out)
  have J1 := Lib.hid (I1.out.ext HX4.out)
  clear HO3 HX3 I1
  obtain ⟨N1, hN1⟩ : ∃ N1, Finds.cnt mk 1 = N1 := ⟨_, rfl⟩
  obtain ⟨N2, hN2⟩ : ∃ N2, Finds.cnt mk 2 = N2 := ⟨_, rfl⟩
  obtain ⟨N0, hN0⟩ : ∃ N0, Finds.cnt mk 0 = N0 := ⟨_, rfl⟩
  have hso : sound ⟨st, ve, ne, ph, mk, wh, sh⟩ n k ↔ (Finds.named st ve n ne ∧ N0 + N1 + N2 = n ∧ Il.srt wh = Finds.ofL mk 1 ∧ k = N1 ∧ anyRow k sh (fun r => !Finds.fitsL sh r) = false) := by
    rw [← hN0, ← hN1, ← hN2]; exact Iff.rfl
  have HSO := Lib.hid hso
  have HN0 := Lib.hid hN0
  rw [hN1] at h1 J1 HRI ⊢
  rw [hN2] at h2 HRI ⊢
  rw [hN0] at h0
  obtain ⟨SO, hSO⟩ : ∃ SO : Bool, decide (Finds.named st ve n ne ∧ N0 + N1 + N2 = n ∧ Il.srt wh = Finds.ofL mk 1 ∧ k = N1 ∧ anyRow k sh (fun r => !Finds.fitsL sh r) = false) = SO := ⟨_, rfl⟩
  have HB := Lib.hid hSO
  clear hso hN0 hN1 hN2 hSO I2 q9
  have s4 := SB.out.ext X4.out
  have k0 := s4.c0
  have k1 := s4.c1
  have k2 := s4.c2
  have k3 := s4.c3
  have k4 := s4.c4
  have k5 := s4.c5
  have k6 := s4.c6
  have S4 := Lib.hid s4
  have HOD := Lib.hid (fun (V : World) (hV : Ext w4 V) => containsRows_any V C k e sh (H.out.s.ext (XA.out.trans (X4.out.trans hV))) _ _ (fun r => !Finds.fitsL sh r) (fun _ _ => rfl) (odd_asks V g ⟨st, ve, ne, ph, mk, wh, sh⟩ (.slice A n c) (.slice B m d) C k e (s4.ext hV) (H.out.s.ext (XA.out.trans (X4.out.trans hV)))))
  clear s4
  go_upto_region 6 with (fail)
  go_cut [62] (fun s62 wx => ∃ wv : World, wv = wx ∧ s62 = .bool (!SO) ∧ RowKit.Hid (Ext w4 wx))
  case first =>
    go_wp2_with (fail)
    refine (named_any13 _ st ve n ne).mono ?_
    rintro e w5 ⟨rfl, rfl⟩
    by_cases hnm : Finds.named st ve n ne
    · rw [decide_eq_true hnm]
      have HNM := Lib.hid hnm
      clear hnm
      go_wp2_with (fail)
      refine (HOF.out _ X4.out 0).mono ?_
      rintro e w6 ⟨v0, rfl, hv0⟩
      obtain ⟨A0, c0, rfl, hi0⟩ := hv0.is
      have hn0 : (Finds.ofL mk 0).length = N0 := HN0.out
      rw [hn0] at hi0 ⊢
      have q13 := hi0.max
      have q14 := hi0.le
      have X6 := Lib.hid hv0.ext
      clear hv0 hi0 hn0
      by_cases hsum : N0 + N1 + N2 = n
      · have e1 : (((N0 : Int) + N1 + N2) != (n : Int)) = false := by rw [bne_eq_false_iff_eq]; omega
        have HSU := Lib.hid hsum
        clear hsum
        have HEQ := Lib.hid (equalInts_any w6 A3 A1 m c3 N1 c1 (Il.srt wh) (Finds.ofL mk 1) (IS.out.ext X6.out) (J1.out.ext X6.out))
        go_wp2_with (fail)
        refine HEQ.out.mono ?_
        rintro e w7 ⟨rfl, hd⟩
        have X7 := Lib.hid (X6.out.trans hd.ext)
        clear hd HEQ
        by_cases heq : Il.srt wh = Finds.ofL mk 1
        · rw [decide_eq_true heq]
          have HE := Lib.hid heq
          clear heq
          have j6 := X7.out.cell k6
          by_cases hk : k = N1
          · have e2 : ((k : Int) != (N1 : Int)) = false := by rw [bne_eq_false_iff_eq]; omega
            have HK := Lib.hid hk
            clear hk
            go_wp2_with (fail)
            refine (HOD.out w7 X7.out).mono ?_
            rintro e w8 ⟨rfl, x8⟩
            have X8 := Lib.hid (X7.out.trans x8)
            clear x8
            obtain ⟨Q, hQ⟩ : ∃ Q, anyRow k sh (fun r => !Finds.fitsL sh r) = Q := ⟨_, rfl⟩
            have HQ := Lib.hid hQ
            rw [hQ]
            clear hQ
            go_wp2_with (fail)
            go_meet
            refine ⟨_, rfl, ?_, X8⟩
            rw [← HB.out]
            cases Q with
            | true => rw [decide_eq_false (fun h => by rw [HQ.out] at h; cases h.2.2.2.2)]; rfl
            | false => rw [decide_eq_true ⟨HNM.out, HSU.out, HE.out, HK.out, HQ.out⟩]; rfl
          · have e2 : ((k : Int) != (N1 : Int)) = true := by rw [bne_iff_ne]; omega
            have HF := Lib.hid (show SO = false by rw [← HB.out]; exact decide_eq_false (fun h => hk h.2.2.2.1))
            clear hk
            go_wp2_with (fail)
            go_meet
            exact ⟨_, rfl, by rw [HF.out]; rfl, X7⟩
        · rw [decide_eq_false heq]
          have HF := Lib.hid (show SO = false by rw [← HB.out]; exact decide_eq_false (fun h => heq h.2.2.1))
          clear heq
          go_wp2_with (fail)
          go_meet
          exact ⟨_, rfl, by rw [HF.out]; rfl, X7⟩
      · have e1 : (((N0 : Int) + N1 + N2) != (n : Int)) = true := by rw [bne_iff_ne]; omega
        have HF := Lib.hid (show SO = false by rw [← HB.out]; exact decide_eq_false (fun h => hsum h.2.1))
        clear hsum
        go_wp2_with (fail)
        go_meet
        exact ⟨_, rfl, by rw [HF.out]; rfl, X6⟩
    · rw [decide_eq_false hnm]
      have HF := Lib.hid (show SO = false by rw [← HB.out]; exact decide_eq_false (fun h => hnm h.1))
      clear hnm
      go_wp2_with (fail)
      go_meet
      exact ⟨_, rfl, by rw [HF.out]; rfl, Lib.hid (Ext.refl _)⟩
  case rest =>
  obtain ⟨w5, rfl, rfl, HX5⟩ := hcut
  have X5 := Lib.hid (XA.out.trans (X4.out.trans HX5.out))
  have s5 := S4.out.ext HX5.out
  clear k0 k1 k2 k3 k4 k5 k6
  have k2 := s5.c2
  have k3 := s5.c3
  clear s5
  have HR2 := Lib.hid (show R = true ↔ (SO = true ∧ Finds.phaseOk ph N1 N2 n ne) by
    rw [HRI.out, HSO.out, ← HB.out, decide_eq_true_eq])
  have HNM := Lib.hid (show SO = true → Finds.named st ve n ne from fun h => by rw [← HB.out, decide_eq_true_eq] at h; exact h.1)
  clear HRI HSO HB HOD HOF
  cases SO with
  | false =>
    have HF := Lib.hid (show R = false by cases R with
      | false => rfl
      | true => cases (HR2.out.1 rfl).1)
    go_wp2_with (fail)
    go_ret
    exact ⟨ret_bool HF.out.symm, X5.out⟩
  | true =>
    have hnm := HNM.out rfl
    have hne1 : 1 ≤ ne ∧ ne ≤ n := hnm.2.2.2
    have HR3 := Lib.hid (show R = true ↔ Finds.phaseOk ph N1 N2 n ne by rw [HR2.out]; exact ⟨fun h => h.2, fun h => ⟨rfl, h⟩⟩)
    clear hnm HR2 HNM
    have fin : ∀ b : Bool, (b = true ↔ Finds.phaseOk ph N1 N2 n ne) → b = R := fun b hb => by
      rw [Bool.eq_iff_iff, hb, HR3.out]
    have FIN := Lib.hid fin
    clear fin HR3
    by_cases p1 : ph = 1
    · have e1 : (ph == 1) = true := by rw [beq_iff_eq]; exact p1
      have P1 := Lib.hid p1
      clear p1
      by_cases a1 : (N1 : Int) < ne
      · by_cases a2 : (N2 : Int) ≤ n - ne
        · go_wp2_with (fail)
          go_ret
          exact ⟨ret_bool (FIN.out _ (by rw [P1.out]; unfold Finds.phaseOk; simp; omega)), X5.out⟩
        · go_wp2_with (fail)
          go_ret
          exact ⟨ret_bool (FIN.out _ (by rw [P1.out]; unfold Finds.phaseOk; simp; omega)), X5.out⟩
      · go_wp2_with (fail)
        go_ret
        exact ⟨ret_bool (FIN.out _ (by rw [P1.out]; unfold Finds.phaseOk; simp; omega)), X5.out⟩
    · have e1 : (ph == 1) = false := by rw [beq_eq_false_iff_ne]; exact p1
      by_cases p2 : ph = 2
      · have e2 : (ph == 2) = true := by rw [beq_iff_eq]; exact p2
        have P2 := Lib.hid p2
        clear p1 p2
        obtain ⟨q, hq⟩ : ∃ q, ((N1 : Int) == ne) = q := ⟨_, rfl⟩
        have HQ := Lib.hid hq
        go_wp2_with (fail)
        go_ret
        refine ⟨ret_bool (FIN.out _ ?_), X5.out⟩
        rw [← HQ.out, beq_iff_eq, P2.out]
        unfold Finds.phaseOk
        omega
      · have e2 : (ph == 2) = false := by rw [beq_eq_false_iff_ne]; exact p2
        by_cases p3 : ph = 3
        · have e3 : (ph == 3) = true := by rw [beq_iff_eq]; exact p3
          have P3 := Lib.hid p3
          clear p1 p2 p3
          by_cases a1 : (N1 : Int) < ne
          · by_cases a2 : (n : Int) - ne < N2
            · go_wp2_with (fail)
              go_ret
              exact ⟨ret_bool (FIN.out _ (by rw [P3.out]; unfold Finds.phaseOk; simp; omega)), X5.out⟩
            · go_wp2_with (fail)
              go_ret
              exact ⟨ret_bool (FIN.out _ (by rw [P3.out]; unfold Finds.phaseOk; simp; omega)), X5.out⟩
          · go_wp2_with (fail)
            go_ret
            exact ⟨ret_bool (FIN.out _ (by rw [P3.out]; unfold Finds.phaseOk; simp; omega)), X5.out⟩
        · have e3 : (ph == 3) = false := by rw [beq_eq_false_iff_ne]; exact p3
          have P0 := Lib.hid (show ¬ (ph = 1 ∨ ph = 2 ∨ ph = 3) by rintro (h | h | h) <;> contradiction)
          clear p1 p2 p3
          go_wp2_with (fail)
          go_ret
          exact ⟨ret_bool (FIN.out _ (by have := P0.out; unfold Finds.phaseOk; simp; omega)), X5.out⟩
end Go.Proofs.YtfpglkacjecoeaaGreat
namespace Go.Proofs.YtfpglkacjecoeaaGreat
open Go.RowKit

/-- Wants as cells. -/
def wcells (l : List (Int × Int)) : List Value := l.flatMap fun x => [.int .i64 x.1, .int .u8 x.2]
theorem wcells_length (l : List (Int × Int)) : (wcells l).length = l.length * 2 := by
  induction l with
  | nil => rfl
  | cons x l ih => unfold wcells at *; rw [List.flatMap_cons, List.length_append, ih]; simp; omega
theorem wcells_append (l m : List (Int × Int)) : wcells (l ++ m) = wcells l ++ wcells m := by simp [wcells]
theorem wcells_one (l : List (Int × Int)) : ∀ u ∈ wcells l, u.oneCell' = true := by
  intro u hu
  simp only [wcells, List.mem_flatMap] at hu
  obtain ⟨x, _, hx⟩ := hu
  simp at hx
  rcases hx with rfl | rfl <;> rfl
theorem Rd.lit2w (w : World) (c0 c1 : Value) (t : TypeId) : Rd (w.alloc (.cells #[c0, c1] t)) 2 (some ⟨w.heap.size, 0, none⟩) 1 [c0, c1] := by
  refine ⟨rfl, fun _ => ⟨w.heap.size, 0, rfl, fun j u hu => ?_⟩⟩
  rw [Nat.zero_add, World.cell?_alloc_new]
  simpa using hu
def wget (l : List (Int × Int)) (k : Nat) : Int × Int := l.getD k (0, 0)
theorem wcells_get {l : List (Int × Int)} {k : Nat} (h : k < l.length) : (wcells l)[k * 2]? = some (.int .i64 (wget l k).1) ∧ (wcells l)[k * 2 + 1]? = some (.int .u8 (wget l k).2) := by
  induction l generalizing k with
  | nil => exact absurd h (Nat.not_lt_zero _)
  | cons x l ih =>
    cases k with
    | zero => exact ⟨rfl, rfl⟩
    | succ k =>
      have := ih (k := k) (by simpa using h)
      have e : (k + 1) * 2 = k * 2 + 2 := by omega
      rw [e]
      exact this
theorem want_info : (Tryz.prog.info? 63).map (fun i => (i.zero, i.size, i.bytes)) = some (some (.agg #[.int .i64 0, .int .u8 0]), 2, 16) := by kernel_rfl
/-- A slice of wants. -/
structure Ws (w : World) (A : Option Addr) (n c : Nat) (l : List (Int × Int)) : Prop where
  len : l.length = n
  le : n ≤ c
  max : c ≤ 9223372036854775807
  rd : Rd w 2 A n (wcells l)
theorem Ws.ext {w w' : World} {A : Option Addr} {n c : Nat} {l : List (Int × Int)} (h : Ws w A n c l) (hx : Ext w w') : Ws w' A n c l := ⟨h.len, h.le, h.max, h.rd.ext hx⟩
theorem Ws.none (w : World) : Ws w none 0 0 [] := ⟨rfl, Nat.le_refl _, by omega, Rd.nil _ _ _⟩
theorem Ws.at_ {w : World} {A : Option Addr} {n c : Nat} {l : List (Int × Int)} (h : Ws w A n c l) {k : Nat} (hk : k < n) :
    ∃ b off, A = some ⟨b, off, .none⟩ ∧ w.cell? ⟨b, off + k * 2, .none⟩ = some (.int .i64 (wget l k).1) ∧ w.cell? ⟨b, off + k * 2 + 1, .none⟩ = some (.int .u8 (wget l k).2) := by
  obtain ⟨b, off, e, hc⟩ := h.rd.2 (by omega)
  obtain ⟨h1, h2⟩ := wcells_get (l := l) (k := k) (by rw [h.len]; exact hk)
  exact ⟨b, off, e, hc _ _ h1, by rw [Nat.add_assoc]; exact hc _ _ h2⟩
theorem Ws.own {w : World} {base : Nat} {e : TypeId} {v : Value} {l : List (Int × Int)} (h : w.ownsRow base e 2 v l.length (wcells l)) : ∃ A c, v = .slice A l.length c ∧ Ws w A l.length c l := by
  obtain ⟨A, c, rfl, h1, h2⟩ := ownsRow_slice h
  exact ⟨A, c, rfl, rfl, h1, h2, Rd.of_own h⟩
/-- What Wants hands back. -/
def GivesW (l : List (Int × Int)) (w : World) (e : Ending) (w' : World) : Prop := ∃ A n c, e = .returned (.slice A n c) ∧ Ws w' A n c l ∧ Ext w w'
end Go.Proofs.YtfpglkacjecoeaaGreat
namespace Go.Proofs.YtfpglkacjecoeaaGreat
open Go.RowKit

set_option maxRecDepth 100000 in
set_option maxHeartbeats 2000000 in
theorem fLacks_any (w : World) (f : Finds.F) (A : Option Addr) (n c : Nat) (B : Option Addr) (m d : Nat) (C : Option Addr) (k e : Nat) (h : Fd w f A n c B m d C k e) (hn : n ≤ 1000) (hm : m ≤ 1000) :
    Calls Tryz.prog 24 #[fval f.stripe f.version f.need f.phase (.slice A n c) (.slice B m d) (.slice C k e)] w fun r w' => ∃ v, r = .returned v ∧ NewInts w w' v (Finds.lacksL f) := by
  have q1 := h.u.max
  have q2 := h.u.le
  have q3 := h.v.max
  have q4 := h.v.le
  have q5 := h.s.max
  have q6 := h.s.le
  have xA := Ext.alloc w (.cells #[.int .i64 f.stripe, .int .i64 f.version, .int .i64 f.need, .int .i64 f.phase, .slice A n c, .slice B m d, .slice C k e] 25)
  have hR := fRight_any _ f A n c B m d C k e (h.ext xA) hn hm
  have s1 := Fb.new w f.stripe f.version f.need f.phase (.slice A n c) (.slice B m d) (.slice C k e) rfl
  have XA := Lib.hid xA
  have HR := Lib.hid hR
  have SB := Lib.hid s1
  have HU := Lib.hid h.u
  clear h hR xA s1
  go_enter Tryz.func24, Tryz.ntmps24
  go_wp2_with (fail)
  refine HR.out.mono ?_
  rintro r w1 ⟨rfl, x1⟩
  have X1 := Lib.hid (XA.out.trans x1)
  have s1 := SB.out.ext x1
  have k0 := s1.c0
  have k1 := s1.c1
  have k2 := s1.c2
  have k3 := s1.c3
  have k4 := s1.c4
  have k5 := s1.c5
  have k6 := s1.c6
  clear x1 s1
  by_cases hr : Finds.right f
  · rw [decide_eq_true hr]
    have HL := Lib.hid (show Finds.lacksL f = Finds.ofL f.marks 2 from if_pos hr)
    clear hr
    go_wp2_with (fail)
    refine (of_any13 w1 f.stripe f.version f.need f.phase A n c (.slice B m d) (.slice C k e) 2 f.marks (HU.out.ext X1.out) hn).mono ?_
    rintro r w2 ⟨v, rfl, hv⟩
    have HV := Lib.hid hv
    clear hv
    go_wp2_with (fail)
    go_ret
    rw [HL.out]
    exact ⟨v, rfl, ownsRow_base HV.out.own X1.out.size, X1.out.trans HV.out.ext⟩
  · rw [decide_eq_false hr]
    have HL := Lib.hid (show Finds.lacksL f = [] from if_neg hr)
    clear hr
    go_wp2_with (fail)
    go_ret
    rw [HL.out]
    exact ⟨_, rfl, World.ownsRow_nil _ _ _ _, X1.out⟩
theorem ret_val {a b : Value} (h : a = b) : Ending.returned a = .returned b := by rw [h]
/-- What is wanted, as the program lists it. -/
def wants4 (l : List Int) : List (Int × Int) := l.map (fun x => (x, 4))
theorem wants4_snoc (l : List Int) {k : Nat} (hk : k < l.length) : wants4 (l.take (k + 1)) = wants4 (l.take k) ++ [(Il.get l k, 4)] := by
  unfold wants4
  rw [List.take_succ_eq_append_getElem hk, List.map_append, Il.get_of_lt hk]
  rfl
theorem wants4_length (l : List Int) : (wants4 l).length = l.length := by simp [wants4]
set_option maxRecDepth 100000 in
set_option maxHeartbeats 2000000 in
theorem fWants_any (w : World) (f : Finds.F) (A : Option Addr) (n c : Nat) (B : Option Addr) (m d : Nat) (C : Option Addr) (k e : Nat) (h : Fd w f A n c B m d C k e) (hn : n ≤ 1000) (hm : m ≤ 1000) :
    Calls Tryz.prog 21 #[fval f.stripe f.version f.need f.phase (.slice A n c) (.slice B m d) (.slice C k e)] w (GivesW (wants4 (Finds.wantsL f)) w) := by
  obtain ⟨i0, hi0, hz0, hz1, hz2⟩ := info_parts want_info
  have q1 := h.u.max
  have q2 := h.u.le
  have q3 := h.v.max
  have q4 := h.v.le
  have q5 := h.s.max
  have q6 := h.s.le
  have xA := Ext.alloc w (.cells #[.int .i64 f.stripe, .int .i64 f.version, .int .i64 f.need, .int .i64 f.phase, .slice A n c, .slice B m d, .slice C k e] 25)
  have hR := fRight_any _ f A n c B m d C k e (h.ext xA) hn hm
  have s1 := Fb.new w f.stripe f.version f.need f.phase (.slice A n c) (.slice B m d) (.slice C k e) rfl
  have XA := Lib.hid xA
  have HR := Lib.hid hR
  have SB := Lib.hid s1
  have HU := Lib.hid h.u
  clear h hR xA s1
  go_enter Tryz.func21, Tryz.ntmps21
  go_wp2_with (fail)
  refine HR.out.mono ?_
  rintro r w1 ⟨rfl, x1⟩
  have X1 := Lib.hid (XA.out.trans x1)
  have s1 := SB.out.ext x1
  have k0 := s1.c0
  have k1 := s1.c1
  have k2 := s1.c2
  have k3 := s1.c3
  have k4 := s1.c4
  have k5 := s1.c5
  have k6 := s1.c6
  clear x1 s1
  by_cases hr : Finds.right f
  · by_cases hp : f.phase = 1
    · have e1 : (f.phase != 1) = false := by rw [bne_eq_false_iff_eq]; exact hp
      rw [decide_eq_true hr]
      have HL := Lib.hid (show Finds.wantsL f = Finds.ofL f.marks 0 from if_pos ⟨hr, hp⟩)
      have HLM := Lib.hid (show (Finds.ofL f.marks 0).length ≤ 1000 by have := Finds.cnt_le f.marks 0; have := HU.out.len; unfold Finds.cnt at *; omega)
      clear hr hp
      go_wp2_with (fail)
      refine (of_any13 w1 f.stripe f.version f.need f.phase A n c (.slice B m d) (.slice C k e) 0 f.marks (HU.out.ext X1.out) hn).mono ?_
      rintro r w2 ⟨v, rfl, hv⟩
      obtain ⟨A2, c2, rfl, hi⟩ := hv.is
      have X2 := Lib.hid (X1.out.trans hv.ext)
      obtain ⟨l, hl⟩ : ∃ l, Finds.ofL f.marks 0 = l := ⟨_, rfl⟩
      rw [hl] at hi HLM HL ⊢
      obtain ⟨N, hN⟩ : ∃ N, l.length = N := ⟨_, rfl⟩
      rw [hN] at hi HLM ⊢
      have q7 := hi.max
      have q8 := hi.le
      have HI := Lib.hid hi
      have hN2 : N ≤ 1000 := HLM.out
      have HN := Lib.hid hN
      clear hv hi hl hN k0 k1 k2 k3 k4 k5 k6 e1
      go_wp2_with (fail)
      go_loopw [3, 5, 17] (fun u _ s wr => ∃ j : Nat, j ≤ N ∧ s = .int .i64 (j : Int) ∧ RowKit.Hid (wr.ownsRow w2.heap.size 63 2 u (wants4 (l.take j)).length (wcells (wants4 (l.take j)))) ∧ RowKit.Hid (Ext w2 wr)) (fun _ _ s _ => N - (intOf s).toNat)
      case atStart => exact ⟨0, by omega, rfl, Lib.hid (World.ownsRow_nil _ _ _ _), Lib.hid (Ext.refl _)⟩
      case round =>
        obtain ⟨j, hj, rfl, OWN, HX⟩ := hrel
        by_cases hlt : j < N
        · have r1 : (j : Int) < N := by omega
          obtain ⟨b, o, rfl, hc⟩ := (HI.out.ext HX.out).rd.intAt hlt
          have hsn := wants4_snoc l (k := j) (by rw [HN.out]; exact hlt)
          have hln : (wants4 (l.take j)).length ≤ 1000 := by rw [wants4_length, List.length_take]; omega
          obtain ⟨y, hy⟩ : ∃ y, Il.get l j = y := ⟨_, rfl⟩
          rw [hy] at hc hsn
          have HSN := Lib.hid hsn
          have hsz := HX.out.size
          clear hy hsn
          go_wp2_with (at_builtin; refine wpList_append_rd _ rfl (.tmp 21) (.tmp 24) 52 rfl w2.heap.size 63 i0 _ 2 16 Tryz.underlying52 hi0 hz0 hz1 hz2 rfl (by omega) u3 (wants4 (l.take j)).length (wcells (wants4 (l.take j))) rfl (ownsRow_ext OWN.out (Ext.alloc _ _)) (some ⟨wr.heap.size, 0, none⟩) 1 1 [.int .i64 y, .int .u8 4] rfl (Rd.lit2w wr _ _ _) (by simp [Value.oneCell']) (by omega) (by unfold maxLen; omega) (by simp; omega) ?_; intro v1 w3 hown hgr hat)
          refine ⟨⟨j + 1, by omega, by go_num, Lib.hid ?_, Lib.hid ((HX.out.trans (Ext.alloc _ _)).ofGrown hgr (fun k hk => (OWN.out.lt k hk).1))⟩, by simp [intOf]; omega⟩
          rw [HSN.out, wcells_append, List.length_append]
          exact hown
        · have r1 : ¬ (j : Int) < N := by omega
          obtain rfl : j = N := by omega
          have ht : l.take j = l := List.take_of_length_le (by rw [HN.out]; exact Nat.le_refl _)
          rw [ht] at OWN
          clear ht
          go_wp2_with (fail)
          go_ret
          obtain ⟨A3, c3, e3, hw⟩ := Ws.own OWN.out
          rw [HL.out]
          exact ⟨A3, _, c3, ret_val e3, hw, X2.out.trans HX.out⟩
    · have e1 : (f.phase != 1) = true := by rw [bne_iff_ne]; exact hp
      rw [decide_eq_true hr]
      have HL := Lib.hid (show Finds.wantsL f = [] from if_neg (fun h => hp h.2))
      clear hr hp
      go_wp2_with (fail)
      go_ret
      rw [HL.out]; exact ⟨_, _, _, rfl, Ws.none _, X1.out⟩
  · rw [decide_eq_false hr]
    have HL := Lib.hid (show Finds.wantsL f = [] from if_neg (fun h => hr h.1))
    clear hr
    go_wp2_with (fail)
    go_ret
    rw [HL.out]; exact ⟨_, _, _, rfl, Ws.none _, X1.out⟩
end Go.Proofs.YtfpglkacjecoeaaGreat
