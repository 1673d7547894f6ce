/- Several texts in one: The contract of find.Told. Variables that hold finds, written over and over. No statement of the seat is proved here. Arguments that came in, opened: arrays of integers, slices of whatever. -/
import Derived.Test.YtfpglkacjecoeaaGreatCt12
import Derived.Deep.RegionHeld3
import Derived.Test.YtfpglkacjecoeaaGreatCt1
import Derived.Deep.Slices
namespace Go.Proofs.YtfpglkacjecoeaaGreat
open Go.RowKit
set_option linter.unusedSimpArgs false

theorem toldE_no {f : Finds.F} {i : Int} (h : ¬ Finds.mayTell f i) (er : Int) (b : List UInt8) : Finds.toldF f i er b = f ∧ Finds.toldE f i = 140 := ⟨if_neg (fun q => h q.1), if_neg h⟩
set_option maxRecDepth 100000 in
set_option maxHeartbeats 8000000 in
theorem fTold_any (w : World) (f : Finds.F) (A : Option Addr) (n c : Nat) (B : Option Addr) (m d : Nat) (C : Option Addr) (k e : Nat) (h : Fd w f A n c B m d C k e) (hn : n ≤ 1000) (hm : m ≤ 1000) (i er : Int) (D : Option Addr) (q c9 : Nat) (b : List UInt8) (hb : Bs w D q c9 b) :
    Calls Tryz.prog 14 #[fval f.stripe f.version f.need f.phase (.slice A n c) (.slice B m d) (.slice C k e), .int .i64 i, .int .i64 er, .slice D q c9] w (GivesF (Finds.toldF f i er b) (Finds.toldE f i) w) := by
  have q1 := h.u.max
  have q2 := h.u.le
  have q3 := h.v.max
  have q4 := h.v.le
  have q5 := h.s.max
  have q6 := h.s.le
  have q7 := hb.max
  have q8 := hb.le
  obtain ⟨g, hg⟩ : ∃ g, w.heap.size = g := ⟨_, rfl⟩
  have s1 := Fb.new w f.stripe f.version f.need f.phase (.slice A n c) (.slice B m d) (.slice C k e) hg
  have xA := Ext.alloc w (.cells #[.int .i64 f.stripe, .int .i64 f.version, .int .i64 f.need, .int .i64 f.phase, .slice A n c, .slice B m d, .slice C k e] 25)
  obtain ⟨W1, hW1⟩ : ∃ W1, w.alloc (.cells #[.int .i64 f.stripe, .int .i64 f.version, .int .i64 f.need, .int .i64 f.phase, .slice A n c, .slice B m d, .slice C k e] 25) = W1 := ⟨_, rfl⟩
  have z1 : W1.heap.size = g + 1 := by rw [← hW1, ← hg]; simp
  rw [hW1] at s1 xA
  have s2 := Fb.new W1 0 0 0 0 (.slice none 0 0) (.slice none 0 0) (.slice none 0 0) z1
  have xB := Ext.alloc W1 (.cells #[.int .i64 0, .int .i64 0, .int .i64 0, .int .i64 0, .slice none 0 0, .slice none 0 0, .slice none 0 0] 25)
  obtain ⟨W0, hW0⟩ : ∃ W0, W1.alloc (.cells #[.int .i64 0, .int .i64 0, .int .i64 0, .int .i64 0, .slice none 0 0, .slice none 0 0, .slice none 0 0] 25) = W0 := ⟨_, rfl⟩
  rw [hW0] at s2 xB
  have z0 : W0.heap.size = g + 1 + 1 := by rw [← hW0]; simp [z1]
  have sA := s1.ext xB
  have XA := Lib.hid (xA.trans xB)
  have HR := Lib.hid (fRight_any W0 f A n c B m d C k e (h.ext XA.out) hn hm)
  have SA := Lib.hid sA
  have SZ := Lib.hid s2
  have H := Lib.hid h
  have HB := Lib.hid hb
  have HG := Lib.hid hg
  have Z0 := Lib.hid z0
  have HW1 := Lib.hid hW1
  have HW0 := Lib.hid hW0
  have no : ¬ Finds.mayTell f i → Finds.toldF f i er b = f ∧ Finds.toldE f i = 140 := fun h => toldE_no h er b
  have NO := Lib.hid no
  clear h hb xA xB s1 s2 z0 z1 no hW1 hW0 sA
  have LN := Lib.hid H.out.u.len
  go_enter Tryz.func14, Tryz.ntmps14
  try dsimp only [List.append]
  go_upto_region 1 with (fail)
  rw [HW1.out, HW0.out]
  clear hg
  have k0 := SA.out.c0
  have k1 := SA.out.c1
  have k2 := SA.out.c2
  have k3 := SA.out.c3
  have k4 := SA.out.c4
  have k5 := SA.out.c5
  have k6 := SA.out.c6
  obtain ⟨MT, hMT⟩ : ∃ MT, decide (Finds.mayTell f i) = MT := ⟨_, rfl⟩
  have HMT := Lib.hid hMT
  clear hMT
  go_cut [26] (fun s wx => ∃ wv : World, wv = wx ∧ s = .bool (!MT) ∧ RowKit.Hid (Ext W0 wx))
  case first =>
    go_wp2_with (fail)
    refine HR.out.mono ?_
    rintro e w1 ⟨rfl, x1⟩
    have k4' := x1.cell k4
    have X1 := Lib.hid x1
    clear x1
    by_cases hr : Finds.right f
    · rw [decide_eq_true hr]
      have HRR := Lib.hid hr
      clear hr
      by_cases h0 : i < 0
      · have HF := Lib.hid (show MT = false by rw [← HMT.out]; exact decide_eq_false (fun q => by have := q.2.1; omega))
        go_wp2_with (fail)
        go_meet
        exact ⟨_, rfl, by rw [HF.out]; rfl, X1⟩
      · by_cases h1 : (n : Int) ≤ i
        · have HF := Lib.hid (show MT = false by rw [← HMT.out]; exact decide_eq_false (fun q => by have := q.2.2; have := LN.out; omega))
          go_wp2_with (fail)
          go_meet
          exact ⟨_, rfl, by rw [HF.out]; rfl, X1⟩
        · have HF := Lib.hid (show MT = true by rw [← HMT.out]; exact decide_eq_true ⟨HRR.out, by omega, by have := LN.out; omega⟩)
          go_wp2_with (fail)
          go_meet
          exact ⟨_, rfl, by rw [HF.out, decide_eq_false (show ¬ i < 0 by omega), decide_eq_false (show ¬ (n : Int) ≤ i by omega)]; rfl, X1⟩
    · rw [decide_eq_false hr]
      have HF := Lib.hid (show MT = false by rw [← HMT.out]; exact decide_eq_false (fun q => hr q.1))
      clear hr
      go_wp2_with (fail)
      go_meet
      exact ⟨_, rfl, by rw [HF.out]; rfl, X1⟩
  case rest =>
  obtain ⟨w1, rfl, rfl, X1⟩ := hcut
  clear k0 k1 k2 k3 k4 k5 k6
  have sA := SA.out.ext X1.out
  have sZ := SZ.out.ext X1.out
  have k0 := sA.c0
  have k1 := sA.c1
  have k2 := sA.c2
  have k3 := sA.c3
  have k4 := sA.c4
  have k5 := sA.c5
  have k6 := sA.c6
  have SA1 := Lib.hid sA
  have SZ1 := Lib.hid sZ
  cases MT with
  | false =>
    have HNO := Lib.hid (NO.out (of_decide_eq_false HMT.out))
    have HRES := Lib.hid (sZ.row f.stripe f.version f.need f.phase (.slice A n c) (.slice B m d) (.slice C k e)).res
    have zb := sZ.blk
    have ab := sA.blk
    clear sA sZ k0 k1 k2 k3 k4 k5 k6
    go_upto_region 2 with (fail)
    refine wp_region_lit ?_
    refine wpList_load_row rfl 25 (.tmp 4) rfl g rfl 25 _ (0, 0) _ ab Tryz.underlying25 rfl (by kernel_rfl) ?_
    refine wpList_store_row rfl 25 (.tmp 8) (.tmp 27) rfl (g + 1) (frow f.stripe f.version f.need f.phase (.slice A n c) (.slice B m d) (.slice C k e)) rfl rfl 25 _ zb (by kernel_rfl) rfl (by simp [Value.oneCell']) ?_
    go_wp2_with (fail)
    have hx : Ext w (w1.setRow (g + 1) (frow f.stripe f.version f.need f.phase (.slice A n c) (.slice B m d) (.slice C k e))) := (XA.out.trans X1.out).row (by rw [HG.out]; omega) _
    refine bodyPost_ret (v := .tuple #[fval f.stripe f.version f.need f.phase (.slice A n c) (.slice B m d) (.slice C k e), .int .i64 140]) ?_ rfl (by rw [HNO.out.1, HNO.out.2]; exact ⟨_, _, _, rfl, ⟨_, _, _, _, _, _, _, _, _, rfl, rfl, rfl, H.out.ext hx⟩, hx, fun h => by cases h⟩)
    rw [results_cell_tmp rfl]
    simp [asAddr, Result.andThen, HRES.out]
  | true =>
    clear sA sZ
    have hmt : Finds.mayTell f i := of_decide_eq_true HMT.out
    have hright := hmt.1
    have hi0 := hmt.2.1
    have hin : i < n := by have := hmt.2.2; have := LN.out; omega
    have htE : Finds.toldE f i = 0 := if_pos hmt
    have htF : Finds.toldF f i er b = if Finds.opens f i then Finds.phased (Finds.told0 f i.toNat er b) else f := by
      unfold Finds.toldF
      by_cases ho : Finds.opens f i
      · rw [if_pos ⟨hmt, ho⟩, if_pos ho]
      · rw [if_neg (fun q => ho q.2), if_neg ho]
    have HTF := Lib.hid htF
    have HTE := Lib.hid htE
    have HRT := Lib.hid hright
    clear hmt hright htE htF NO HMT HR
    go_upto_region 3 with (fail)
    go_cut [10] (fun s wx => ∃ wv : World, wv = wx ∧ ∃ g3, s = .pointer (some ⟨g3, 0, none⟩) ∧ RowKit.Hid (Fb wx g3 f.stripe f.version f.need f.phase (.slice A n c) (.slice B m d) (.slice C k e)) ∧ RowKit.Hid (g + 1 < g3) ∧ RowKit.Hid (Ext w1 wx))
    case first =>
      go_wp2_with (fail)
      go_meet
      exact ⟨_, rfl, _, rfl, Lib.hid (Fb.new _ _ _ _ _ _ _ _ rfl), Lib.hid (by have := X1.out.size; have := Z0.out; omega), Lib.hid (Ext.alloc _ _)⟩
    case rest =>
    obtain ⟨w2, rfl, g3, rfl, SO, HG3, X2⟩ := hcut
    clear k0 k1 k2 k3 k4 k5 k6
    have k0 := SO.out.c0
    have k1 := SO.out.c1
    have k2 := SO.out.c2
    have k3 := SO.out.c3
    have k4 := SO.out.c4
    have k5 := SO.out.c5
    have k6 := SO.out.c6
    have XW2 := Lib.hid (XA.out.trans (X1.out.trans X2.out))
    have SA2 := Lib.hid (SA1.out.ext X2.out)
    have SZ2 := Lib.hid (SZ1.out.ext X2.out)
    have HC1 := Lib.hid (fun (V : World) (hV : Ext w2 V) => cloneInts_any V A n c f.marks (H.out.u.ext (XW2.out.trans hV)) (by omega))
    have HC2 := Lib.hid (fun (V : World) (hV : Ext w2 V) => cloneInts_any V B m d f.which (H.out.v.ext (XW2.out.trans hV)) (by omega))
    have HL3 := Lib.hid SO.out.lt
    clear SA1 SZ1 XA X1 X2
    go_upto_region 4 with (fail)
    go_cut [] (fun wx => ∃ wv : World, wv = wx ∧ ∃ U V : Value, RowKit.Hid (Td w wx g (g3 + 1) { f with shards := [] } U V (.slice none 0 0)) ∧ RowKit.Hid (Fb wx g3 f.stripe f.version f.need f.phase (.slice A n c) (.slice B m d) (.slice C k e)))
    case first =>
      have HSS := Lib.hid (fun (V : World) (hV : Ext w2 V) => (⟨hV.cell k4, hV.cell k5⟩ : (fun W : World => W.cell? ⟨g3, 4, none⟩ = some (.slice A n c) ∧ W.cell? ⟨g3, 5, none⟩ = some (.slice B m d)) V))
      refine wp_region_T (S := (fun W : World => W.cell? ⟨g3, 4, none⟩ = some (.slice A n c) ∧ W.cell? ⟨g3, 5, none⟩ = some (.slice B m d))) 11 (n := 12) rfl rfl ?_
      have hHeld : ((fun W : World => W.cell? ⟨g3, 4, none⟩ = some (.slice A n c) ∧ W.cell? ⟨g3, 5, none⟩ = some (.slice B m d))) w2.drew := HSS.out _ (Ext.drew _)
      refine takeT (i := 0) (v := ?_) rfl (by kernel_rfl) (by kernel_rfl) (by kernel_rfl) (by kernel_rfl) (by decide) (fun _ _ _ h => h) (by kernel_rfl) (Or.inl ⟨by rfl, ?_⟩) (by assumption) ?_
      rotate_left
      · (intro W9 hSw; (try dsimp only at hSw); go_simp; (try with_reducible rfl))
      try simp only [Act.put, List.setIfInBounds_toArray, List.set_cons_zero, List.set_cons_succ]
      refine takeT (i := 1) (v := ?_) rfl (by kernel_rfl) (by kernel_rfl) (by kernel_rfl) (by kernel_rfl) (by decide) (fun _ _ _ h => h) (by kernel_rfl) (Or.inl ⟨by rfl, ?_⟩) (by assumption) ?_
      rotate_left
      · (intro W9 hSw; (try dsimp only at hSw); go_simp; (try with_reducible rfl))
      try simp only [Act.put, List.setIfInBounds_toArray, List.set_cons_zero, List.set_cons_succ]
      refine takeT (i := 3) (v := ?_) rfl (by kernel_rfl) (by kernel_rfl) (by kernel_rfl) (by kernel_rfl) (by decide) (fun _ _ _ h => h) (by kernel_rfl) (Or.inl ⟨by rfl, ?_⟩) (by assumption) ?_
      rotate_left
      · (intro W9 hSw; (try dsimp only at hSw); go_simp; (try with_reducible rfl))
      try simp only [Act.put, List.setIfInBounds_toArray, List.set_cons_zero, List.set_cons_succ]
      refine takeT (i := 4) (v := ?_) rfl (by kernel_rfl) (by kernel_rfl) (by kernel_rfl) (by kernel_rfl) (by decide) (fun _ _ _ h => h) (by kernel_rfl) (Or.inl ⟨by rfl, ?_⟩) (by assumption) ?_
      rotate_left
      · (intro W9 hSw; (try dsimp only at hSw); go_simp; (try with_reducible rfl))
      try simp only [Act.put, List.setIfInBounds_toArray, List.set_cons_zero, List.set_cons_succ]
      refine oneT (i := 2) rfl (by kernel_rfl) (fun K hK => ?_)
      rw [if_pos (by kernel_rfl)]
      go_wp2_with (((with_reducible refine (HC1.out _ (Ext.drew _)).mono ?_); (rintro e w3 ⟨v3, rfl, hv3⟩; obtain ⟨A3, c3, rfl, _⟩ := hv3.is; have z3 : Ext w2 w3 := (Ext.drew _).trans hv3.ext; have O1 := Lib.hid hv3.own; have T1 := Lib.hid hv3.ext.size; clear hv3)))
      refine hK.out _ _ (fun _ => HSS.out _ z3) ?_
      clear hK K hHeld
      have hHeld : ((fun W : World => W.cell? ⟨g3, 4, none⟩ = some (.slice A n c) ∧ W.cell? ⟨g3, 5, none⟩ = some (.slice B m d))) w3 := HSS.out _ z3
      try simp only [Act.put, List.setIfInBounds_toArray, List.set_cons_zero, List.set_cons_succ]
      refine takeT (i := 6) (v := ?_) rfl (by kernel_rfl) (by kernel_rfl) (by kernel_rfl) (by kernel_rfl) (by decide) (fun _ _ _ h => h) (by kernel_rfl) (Or.inl ⟨by rfl, ?_⟩) (by assumption) ?_
      rotate_left
      · (intro W9 hSw; (try dsimp only at hSw); go_simp; (try with_reducible rfl))
      try simp only [Act.put, List.setIfInBounds_toArray, List.set_cons_zero, List.set_cons_succ]
      refine oneT (i := 5) rfl (by kernel_rfl) (fun K hK => ?_)
      rw [if_pos (by kernel_rfl)]
      go_wp2_with (((with_reducible refine (HC2.out _ z3).mono ?_); (rintro e w4 ⟨v4, rfl, hv4⟩; obtain ⟨A4, c4, rfl, _⟩ := hv4.is; have z4 : Ext w2 w4 := z3.trans hv4.ext; have O2 := Lib.hid hv4.own; have T2 := Lib.hid hv4.ext; clear hv4)))
      refine hK.out _ _ (fun _ => HSS.out _ z4) ?_
      clear hK K hHeld
      have hHeld : ((fun W : World => W.cell? ⟨g3, 4, none⟩ = some (.slice A n c) ∧ W.cell? ⟨g3, 5, none⟩ = some (.slice B m d))) w4 := HSS.out _ z4
      try simp only [Act.put, List.setIfInBounds_toArray, List.set_cons_zero, List.set_cons_succ]
      have sA4 := SA2.out.ext z4
      have sZ4 := SZ2.out.ext z4
      have sO4 := SO.out.ext z4
      have a4 := sA4.c4
      have a5 := sA4.c5
      have a6 := sA4.c6
      have f4 := sA4.fz 4
      have f5 := sA4.fz 5
      have f6 := sA4.fz 6
      have S4A := Lib.hid sA4
      have S4Z := Lib.hid sZ4
      have hgg : g ≠ g3 := by have := HG3.out; omega
      have o7 := sO4.far (p := ⟨g, 4, none⟩) hgg (.slice A3 f.marks.length c3)
      have o9 := o7.far (p := ⟨g, 5, none⟩) hgg (.slice A4 f.which.length c4)
      have O7 := Lib.hid o7
      have O9 := Lib.hid o9
      clear sA4 sZ4 sO4 o7 o9 hgg k0 k1 k2 k3 k4 k5 k6
      refine oneT (i := 7) rfl (by kernel_rfl) (fun K hK => ?_)
      rw [if_pos (by kernel_rfl)]
      go_wp2_with (fail)
      refine hK.out _ _ (fun _ => ⟨O7.out.c4, O7.out.c5⟩) ?_
      clear hK K hHeld
      have hHeld : ((fun W : World => W.cell? ⟨g3, 4, none⟩ = some (.slice A n c) ∧ W.cell? ⟨g3, 5, none⟩ = some (.slice B m d))) (w4.setCell ⟨g, 4, none⟩ (.slice A3 f.marks.length c3)) := ⟨O7.out.c4, O7.out.c5⟩
      try simp only [Act.put, List.setIfInBounds_toArray, List.set_cons_zero, List.set_cons_succ]
      refine takeT (i := 8) (v := ?_) rfl (by kernel_rfl) (by kernel_rfl) (by kernel_rfl) (by kernel_rfl) (by decide) (fun _ _ _ h => h) (by kernel_rfl) (Or.inl ⟨by rfl, ?_⟩) (by assumption) ?_
      rotate_left
      · (intro W9 hSw; (try dsimp only at hSw); go_simp; (try with_reducible rfl))
      try simp only [Act.put, List.setIfInBounds_toArray, List.set_cons_zero, List.set_cons_succ]
      refine oneT (i := 9) rfl (by kernel_rfl) (fun K hK => ?_)
      rw [if_pos (by kernel_rfl)]
      go_wp2_with (fail)
      refine hK.out _ _ (fun _ => ⟨O9.out.c4, O9.out.c5⟩) ?_
      clear hK K hHeld
      have hHeld : ((fun W : World => W.cell? ⟨g3, 4, none⟩ = some (.slice A n c) ∧ W.cell? ⟨g3, 5, none⟩ = some (.slice B m d))) ((w4.setCell ⟨g, 4, none⟩ (.slice A3 f.marks.length c3)).setCell ⟨g, 5, none⟩ (.slice A4 f.which.length c4)) := ⟨O9.out.c4, O9.out.c5⟩
      try simp only [Act.put, List.setIfInBounds_toArray, List.set_cons_zero, List.set_cons_succ]
      refine takeT (i := 10) (v := ?_) rfl (by kernel_rfl) (by kernel_rfl) (by kernel_rfl) (by kernel_rfl) (by decide) (fun _ _ _ h => h) (by kernel_rfl) (Or.inl ⟨by rfl, ?_⟩) (by assumption) ?_
      rotate_left
      · (intro W9 hSw; (try dsimp only at hSw); go_simp; (try with_reducible rfl))
      try simp only [Act.put, List.setIfInBounds_toArray, List.set_cons_zero, List.set_cons_succ]
      refine oneT (i := 11) rfl (by kernel_rfl) (fun K hK => ?_)
      rw [if_pos (by kernel_rfl)]
      go_wp2_with (fail)
      clear hHeld
      refine hK.out _ _ (fun h => absurd (Eq.trans (Eq.symm (by kernel_rfl)) h : true = false) (by decide)) ?_
      clear hK K
      try simp only [Act.put, List.setIfInBounds_toArray, List.set_cons_zero, List.set_cons_succ]
      refine doneT (by kernel_rfl) ?_ _
      go_wp2_with (fail)
      go_meet
      have hz2 : w2.drew.heap.size = w2.heap.size := rfl
      have l3 := HL3.out
      refine ⟨_, rfl, _, _, Lib.hid (Td.start S4A.out S4Z.out (ownsRow_base (ownsRow_ext O1.out T2.out) (by omega)) (ownsRow_base O2.out (by have := z3.size; omega)) ?_ (XW2.out.trans z4) HG.out (by have := HG3.out; omega) (by have := z4.size; omega)), Lib.hid ((SO.out.ext z4).three (by have := HG3.out; omega))⟩
      intro bl hu hv
      have h1 := (O1.out.lt bl hu).2
      have h2 := (O2.out.lt bl hv).1
      omega
    case rest =>
    obtain ⟨w3, rfl, U, V, HT3, SO3⟩ := hcut
    clear SA2 SZ2 HC1 HC2 SO XW2
    have k6 := SO3.out.c6
    have XW3 := Lib.hid HT3.out.x
    go_upto_block 0 with (fail)
    go_cut [] (fun wx => ∃ wv : World, wv = wx ∧ ∃ S : Value, RowKit.Hid (Td w wx g (g3 + 1) f U V S))
    case first =>
      obtain ⟨i0, hi0, hz0, hz1, hz2⟩ := info_parts bytes_info
      have LK := Lib.hid H.out.s.len
      have hk1 : k ≤ 1000 := by have := HRT.out.2.2.2.1; have := Finds.cnt_le f.marks 1; have := LK.out; have := LN.out; omega
      go_wp2_with (fail)
      go_loopw [12, 41] (fun _ s wr => ∃ (j : Nat) (S : Value), j ≤ k ∧ s = .int .i64 (j : Int) ∧ RowKit.Hid (Td w wr g (g3 + 1) { f with shards := f.shards.take j } U V S) ∧ RowKit.Hid (Ext w wr)) (fun _ s _ => k - (intOf s).toNat)
      case atStart => exact ⟨0, _, by omega, rfl, HT3, XW3⟩
      case round =>
        obtain ⟨j, S, hj, rfl, HT, HX⟩ := hrel
        by_cases hlt : j < k
        · have r1 : (j : Int) < k := by omega
          obtain ⟨wo, rfl⟩ : ∃ wo : World, wo = wr := ⟨_, rfl⟩
          obtain ⟨bm, om, Ai, ni, ci, rfl, hce, hbi⟩ := (H.out.s.ext HX.out).at_ hlt
          have hni := hbi.len
          have hnb := right_short HRT.out (j := j) (by rw [LK.out]; exact hlt)
          have hsn : f.shards.take (j + 1) = f.shards.take j ++ [Gm.row f.shards j] := by
            rw [List.take_add_one, List.getElem?_eq_getElem (by rw [LK.out]; exact hlt), Gm.row_of_lt (by rw [LK.out]; exact hlt)]; rfl
          subst hni
          have HCP := Lib.hid (fun (V : World) (hV : Ext wo V) => clone_any V Ai _ ci (Gm.row f.shards j) (hbi.ext hV) (by omega))
          obtain ⟨r, hr⟩ : ∃ r, Gm.row f.shards j = r := ⟨_, rfl⟩
          rw [hr] at hce hnb hsn HCP
          have HSN := Lib.hid hsn
          have a6 := HT.out.a.c6
          have q9 := hbi.max
          have q10 := hbi.le
          rw [hr] at q10
          clear hbi hsn hr
          go_upto_region 8 with (fail)
          have HSS := Lib.hid (fun (V : World) (hV : Ext wo V) => (hV.cell a6 : (fun W : World => W.cell? ⟨g, 6, none⟩ = some S) V))
          refine wp_region_T (S := (fun W : World => W.cell? ⟨g, 6, none⟩ = some S)) 7 (n := 8) rfl rfl ?_
          have hHeld : ((fun W : World => W.cell? ⟨g, 6, none⟩ = some S)) wo.drew := HSS.out _ (Ext.drew _)
          refine takeT (i := 0) (v := ?_) rfl (by kernel_rfl) (by kernel_rfl) (by kernel_rfl) (by kernel_rfl) (by decide) (fun _ _ _ h => h) (by kernel_rfl) (Or.inl ⟨by rfl, ?_⟩) (by assumption) ?_
          rotate_left
          · (intro W9 hSw; (try dsimp only at hSw); go_simp; (try with_reducible rfl))
          try simp only [Act.put, List.setIfInBounds_toArray, List.set_cons_zero, List.set_cons_succ]
          refine takeT (i := 1) (v := ?_) rfl (by kernel_rfl) (by kernel_rfl) (by kernel_rfl) (by kernel_rfl) (by decide) (fun _ _ _ h => h) (by kernel_rfl) (Or.inl ⟨by rfl, ?_⟩) (by assumption) ?_
          rotate_left
          · (intro W9 hSw; (try dsimp only at hSw); go_simp; (try with_reducible rfl))
          try simp only [Act.put, List.setIfInBounds_toArray, List.set_cons_zero, List.set_cons_succ]
          refine takeT (i := 2) (v := ?_) rfl (by kernel_rfl) (by kernel_rfl) (by kernel_rfl) (by kernel_rfl) (by decide) (fun _ _ _ h => h) (by kernel_rfl) (Or.inl ⟨by rfl, ?_⟩) (by assumption) ?_
          rotate_left
          · (intro W9 hSw; (try dsimp only at hSw); go_simp; (try with_reducible rfl))
          try simp only [Act.put, List.setIfInBounds_toArray, List.set_cons_zero, List.set_cons_succ]
          refine oneT (i := 3) rfl (by kernel_rfl) (fun K hK => ?_)
          rw [if_pos (by kernel_rfl)]
          go_wp2_with (((with_reducible refine (HCP.out _ (Ext.drew _)).mono ?_); (rintro e w4 ⟨v4, rfl, hv4⟩; obtain ⟨A4, c4, rfl, _⟩ := hv4.bs; have z4 : Ext wo w4 := (Ext.drew _).trans hv4.ext; have O4 := Lib.hid hv4.own; clear hv4)))
          refine hK.out _ _ (fun _ => HSS.out _ z4) ?_
          clear hK K hHeld
          have hHeld : ((fun W : World => W.cell? ⟨g, 6, none⟩ = some S)) w4 := HSS.out _ z4
          try simp only [Act.put, List.setIfInBounds_toArray, List.set_cons_zero, List.set_cons_succ]
          refine oneT (i := 4) rfl (by kernel_rfl) (fun K hK => ?_)
          rw [if_pos (by kernel_rfl)]
          go_wp2_with (fail)
          refine hK.out _ _ (fun _ => HSS.out _ (z4.thenAlloc _)) ?_
          clear hK K hHeld
          have hHeld : ((fun W : World => W.cell? ⟨g, 6, none⟩ = some S)) (w4.alloc (.cells #[.slice A4 r.length c4] 46)) := HSS.out _ (z4.thenAlloc _)
          try simp only [Act.put, List.setIfInBounds_toArray, List.set_cons_zero, List.set_cons_succ]
          obtain ⟨cs, hq⟩ := HT.out.o.s
          have hcl := hq.clen
          have hql := hq.len
          have htk : (f.shards.take j).length = j := by rw [List.length_take, LK.out]; omega
          have HQ := Lib.hid hq
          have x5 := z4.thenAlloc (.cells #[.slice A4 r.length c4] 46)
          have HO5 := Lib.hid (ownsRow_ext hq.own x5)
          have hb5 : g3 + 1 ≤ (w4.alloc (.cells #[.slice A4 r.length c4] 46)).heap.size := by have := HT.out.le; have := x5.size; omega
          clear hq
          refine oneT (i := 5) rfl (by kernel_rfl) (fun K hK => ?_)
          rw [if_pos (by kernel_rfl)]
          refine wp_append_rd (w4.alloc (.cells #[.slice A4 r.length c4] 46)) (.tmp 46) (.tmp 49) 23 rfl (g3 + 1) 46 i0 _ 1 24 Tryz.underlying23 hi0 hz0 hz1 hz2 rfl (by omega) S _ cs rfl HO5.out (some ⟨w4.heap.size, 0, none⟩) 1 1 [.slice A4 r.length c4] rfl (Rd.lit _ #[.slice A4 r.length c4] _) (by simp [Value.oneCell']) (by show ((f.shards.take j).length + 1) * 24 ≤ _; omega) (by show (f.shards.take j).length + 1 ≤ maxLen; unfold maxLen; omega) hb5 ?_
          intro v5 w5 hown hgr hat
          have hsn2 := HQ.out.snoc z4 O4.out (Nat.le_refl _) HT.out.le (Ext.alloc w4 (.cells #[.slice A4 r.length c4] 46)) hown hgr hat
          have hgw := HT.out.grew x5 hgr
          have b6 := hgw.1.c6
          have f6 := hgw.1.fz 6
          obtain ⟨A5, c5, rfl, _, _⟩ := ownsRow_slice hown
          have hpu := HT.out.push x5 hgr (r := r) (cs := cs ++ [.slice A4 r.length c4]) (by rw [List.length_append]; exact hsn2)
          rewrite [htk] at hpu
          have HPU := Lib.hid hpu
          clear hpu
          refine hK.out _ _ (fun _ => b6) ?_
          clear hK K hHeld hgw
          have hHeld : (fun W : World => W.cell? ⟨g, 6, none⟩ = some S) w5 := b6
          try simp only [Act.put, List.setIfInBounds_toArray, List.set_cons_zero, List.set_cons_succ]
          refine takeT (i := 6) (v := ?_) rfl (by kernel_rfl) (by kernel_rfl) (by kernel_rfl) (by kernel_rfl) (by decide) (fun _ _ _ h => h) (by kernel_rfl) (Or.inl ⟨by rfl, ?_⟩) (by assumption) ?_
          rotate_left
          · (intro W9 hSw; (try dsimp only at hSw); go_simp; (try with_reducible rfl))
          try simp only [Act.put, List.setIfInBounds_toArray, List.set_cons_zero, List.set_cons_succ]
          refine oneT (i := 7) rfl (by kernel_rfl) (fun K hK => ?_)
          rw [if_pos (by kernel_rfl)]
          go_wp2_with (fail)
          clear hHeld
          refine hK.out _ _ (fun h => absurd (Eq.trans (Eq.symm (by kernel_rfl)) h : true = false) (by decide)) ?_
          clear hK K
          try simp only [Act.put, List.setIfInBounds_toArray, List.set_cons_zero, List.set_cons_succ]
          refine doneT (by kernel_rfl) ?_ _
          go_wp2_with (fail)
          exact ⟨⟨j + 1, _, by omega, by go_num, Lib.hid (by rw [HSN.out]; exact HPU.out), Lib.hid HPU.out.x⟩, by simp [intOf]; omega⟩
        · have r1 : ¬ (j : Int) < k := by omega
          obtain rfl : j = k := by omega
          have ht : f.shards.take j = f.shards := List.take_of_length_le (by rw [LK.out]; exact Nat.le_refl _)
          rw [ht] at HT
          clear ht
          go_wp2_with (fail)
          go_meet
          exact ⟨_, rfl, S, HT⟩
    case rest =>
    obtain ⟨w4, rfl, S, HT⟩ := hcut
    clear HT3 SO3 XW3 k6
    have a2 := HT.out.a.c2
    have a3 := HT.out.a.c3
    have a4 := HT.out.a.c4
    obtain ⟨A5, c5, B5, d5, C5, e5, rfl, rfl, rfl, hfd⟩ := HT.out.o.fd
    have ln := LN.out
    have hmx := hfd.u.max
    have hml := hfd.u.le
    rw [ln] at hfd hml HT a4
    obtain ⟨gu, ou, rfl, hcm⟩ := hfd.u.rd.intAt (k := i.toNat) (by omega)
    have hgu : ou = 0 := by
      have := HT.out.o.u
      rw [ln] at this
      obtain ⟨g', e', _, _⟩ := own_addr this (by omega)
      injection e' with e'
      injection e' with _ e' _
    subst hgu
    rw [Nat.zero_add] at hcm
    obtain ⟨iN, hiN⟩ : ∃ iN : Nat, i = (iN : Int) := ⟨i.toNat, by omega⟩
    subst hiN
    simp only [Int.toNat_natCast] at hcm HTF
    have hin2 : iN < n := by omega
    obtain ⟨mk, hmk⟩ : ∃ mk, Il.get f.marks iN = mk := ⟨_, rfl⟩
    rw [hmk] at hcm
    have HMK := Lib.hid hmk
    have HOP := Lib.hid (show Finds.opens f (iN : Int) ↔ (f.phase = 1 ∧ mk = 0) by unfold Finds.opens; rw [Int.toNat_natCast, hmk])
    have HFD := Lib.hid hfd
    have HLN := Lib.hid ln
    clear hmk hfd ln
    by_cases ho : f.phase = 1 ∧ mk = 0
    · have e1 : (f.phase != 1) = false := by rw [bne_eq_false_iff_eq]; exact ho.1
      have e2 : (mk != 0) = false := by rw [bne_eq_false_iff_eq]; exact ho.2
      have HF := Lib.hid (show Finds.toldF f (iN : Int) er b = Finds.phased (Finds.told0 f iN er b) by rw [HTF.out]; exact if_pos (HOP.out.2 ho))
      clear ho HTF HOP
      go_upto_region 12 with (fail)
      go_cut [] (fun wx => ∃ wv : World, wv = wx ∧ RowKit.Hid (Td w wx g (g3 + 1) { f with marks := f.marks.set iN 2 } (.slice (some ⟨gu, 0, none⟩) n c5) (.slice B5 f.which.length d5) (.slice C5 f.shards.length e5)))
      case first =>
        have hou := HT.out.o.u
        rw [HLN.out] at hou
        have fz := hou.frozenAt iN
        clear hou
        go_wp2_with (fail)
        go_meet
        exact ⟨_, rfl, Lib.hid (HT.out.mark HLN.out iN 2)⟩
      case rest =>
      obtain ⟨w5, rfl, HT5⟩ := hcut
      have XT := Lib.hid (show Ext w w5 from HT5.out.x)
      clear HT a2 a3 a4 hcm e1 e2 HMK
      go_upto_region 13 with (fail)
      go_cut [75] (fun s wx => ∃ wv : World, wv = wx ∧ s = .bool (Finds.gets f er b) ∧ RowKit.Hid (Td w wx g (g3 + 1) { f with marks := f.marks.set iN 2 } (.slice (some ⟨gu, 0, none⟩) n c5) (.slice B5 f.which.length d5) (.slice C5 f.shards.length e5)))
      case first =>
        by_cases he : er = 0
        · have e3 : (er == 0) = true := by rw [beq_iff_eq]; exact he
          have k0 := HT5.out.a.c0
          have k1 := HT5.out.a.c1
          have k2 := HT5.out.a.c2
          have k3 := HT5.out.a.c3
          have k4 := HT5.out.a.c4
          have k5 := HT5.out.a.c5
          have k6 := HT5.out.a.c6
          have hfd5 : Mx w5 C5 f.shards.length e5 f.shards := by
            obtain ⟨_, _, _, _, C', e', _, _, e3', h3⟩ := HT5.out.o.fd
            injection e3' with a1 a2 a3
            rw [← a1, ← a3] at h3
            exact h3.s
          have q9 := hfd5.max
          have q10 := hfd5.le
          have HFI := Lib.hid (fits_any13 w5 { f with marks := f.marks.set iN 2 } (.slice (some ⟨gu, 0, none⟩) n c5) (.slice B5 f.which.length d5) C5 f.shards.length e5 D q c9 b hfd5 (HB.out.ext XT.out))
          have HGE := Lib.hid (show Finds.gets f er b = Finds.fitsL f.shards b by unfold Finds.gets; rw [decide_eq_true he, Bool.true_and])
          clear hfd5 he
          go_wp2_with (fail)
          refine HFI.out.mono ?_
          rintro e w6 ⟨rfl, x6⟩
          go_wp2_with (fail)
          go_meet
          exact ⟨_, rfl, by rw [HGE.out], Lib.hid (HT5.out.ext x6)⟩
        · have e3 : (er == 0) = false := by rw [beq_eq_false_iff_ne]; exact he
          have HGE := Lib.hid (show Finds.gets f er b = false by unfold Finds.gets; rw [decide_eq_false he, Bool.false_and])
          clear he
          go_wp2_with (fail)
          go_meet
          exact ⟨_, rfl, by rw [HGE.out], HT5⟩
      case rest =>
      obtain ⟨w6, rfl, rfl, HT6⟩ := hcut
      clear HT5 XT
      obtain ⟨G, hG⟩ : ∃ G, Finds.gets f er b = G := ⟨_, rfl⟩
      rw [hG]
      have HGG := Lib.hid hG
      clear hG
      go_upto_if 75 with (fail)
      go_cut [] (fun wx => ∃ wv : World, wv = wx ∧ ∃ U V S : Value, RowKit.Hid (Td w wx g (g3 + 1) (Finds.told0 f iN er b) U V S))
      case first =>
        cases G with
        | false =>
          go_wp2_with (fail)
          go_meet
          exact ⟨_, rfl, _, _, _, by unfold Finds.told0; rw [HGG.out]; exact HT6⟩
        | true =>
          obtain ⟨i0, hi0, hz0, hz1, hz2⟩ := info_parts bytes_info
          obtain ⟨j0, hj0, hy0, hy1, hy2⟩ := info_parts int_info
          have k4 := HT6.out.a.c4
          have k5 := HT6.out.a.c5
          have k6 := HT6.out.a.c6
          have r1 : (iN : Int) < n := by omega
          have hwl : f.which.length ≤ 1000 := by have := Finds.which_len HRT.out; have := Finds.cnt_le f.marks 1; have := HLN.out; omega
          have hsl : f.shards.length ≤ 1000 := by have := HRT.out.2.2.2.1; have := Finds.cnt_le f.marks 1; have := HLN.out; omega
          have hbl : b.length ≤ 65536 := by
            have h := HGG.out
            unfold Finds.gets Finds.fitsL at h
            rw [Bool.and_eq_true, Bool.and_eq_true, decide_eq_true_eq, decide_eq_true_eq] at h
            exact h.2.1
          have HCB := Lib.hid (fun (V : World) (hV : Ext w V) => clone_any V D q c9 b (HB.out.ext hV) (by have := HB.out.len; omega))
          have hle6 := HT6.out.le
          go_upto_region 14 with (fail)
          have HSS := Lib.hid (fun (V : World) (hV : Ext w6 V) => (⟨hV.cell k4, hV.cell k5, hV.cell k6⟩ : (fun W : World => W.cell? ⟨g, 4, none⟩ = some (.slice (some ⟨gu, 0, none⟩) n c5) ∧ W.cell? ⟨g, 5, none⟩ = some (.slice B5 f.which.length d5) ∧ W.cell? ⟨g, 6, none⟩ = some (.slice C5 f.shards.length e5)) V))
          refine wp_region_T (S := (fun W : World => W.cell? ⟨g, 4, none⟩ = some (.slice (some ⟨gu, 0, none⟩) n c5) ∧ W.cell? ⟨g, 5, none⟩ = some (.slice B5 f.which.length d5) ∧ W.cell? ⟨g, 6, none⟩ = some (.slice C5 f.shards.length e5))) 17 (n := 20) rfl rfl ?_
          have hHeld : ((fun W : World => W.cell? ⟨g, 4, none⟩ = some (.slice (some ⟨gu, 0, none⟩) n c5) ∧ W.cell? ⟨g, 5, none⟩ = some (.slice B5 f.which.length d5) ∧ W.cell? ⟨g, 6, none⟩ = some (.slice C5 f.shards.length e5))) w6.drew := HSS.out _ (Ext.drew _)
          refine takeT (i := 0) (v := ?_) rfl (by kernel_rfl) (by kernel_rfl) (by kernel_rfl) (by kernel_rfl) (by decide) (fun _ _ _ h => h) (by kernel_rfl) (Or.inl ⟨by rfl, ?_⟩) (by assumption) ?_
          rotate_left
          · (intro W9 hSw; (try dsimp only at hSw); go_simp; (try with_reducible rfl))
          try simp only [Act.put, List.setIfInBounds_toArray, List.set_cons_zero, List.set_cons_succ]
          refine takeT (i := 1) (v := ?_) rfl (by kernel_rfl) (by kernel_rfl) (by kernel_rfl) (by kernel_rfl) (by decide) (fun _ _ _ h => h) (by kernel_rfl) (Or.inl ⟨by rfl, ?_⟩) (by assumption) ?_
          rotate_left
          · (intro W9 hSw; (try dsimp only at hSw); go_simp; (try with_reducible rfl))
          try simp only [Act.put, List.setIfInBounds_toArray, List.set_cons_zero, List.set_cons_succ]
          refine takeT (i := 2) (v := ?_) rfl (by kernel_rfl) (by kernel_rfl) (by kernel_rfl) (by kernel_rfl) (by decide) (fun _ _ _ h => h) (by kernel_rfl) (Or.inl ⟨by rfl, ?_⟩) (by assumption) ?_
          rotate_left
          · (intro W9 hSw; (try dsimp only at hSw); go_simp; (try with_reducible rfl))
          try simp only [Act.put, List.setIfInBounds_toArray, List.set_cons_zero, List.set_cons_succ]
          refine takeT (i := 3) (v := ?_) rfl (by kernel_rfl) (by kernel_rfl) (by kernel_rfl) (by kernel_rfl) (by decide) (fun _ _ _ h => h) (by kernel_rfl) (Or.inl ⟨by rfl, ?_⟩) (by assumption) ?_
          rotate_left
          · (intro W9 hSw; (try dsimp only at hSw); go_simp; (try with_reducible rfl))
          try simp only [Act.put, List.setIfInBounds_toArray, List.set_cons_zero, List.set_cons_succ]
          refine takeT (i := 4) (v := ?_) rfl (by kernel_rfl) (by kernel_rfl) (by kernel_rfl) (by kernel_rfl) (by decide) (fun _ _ _ h => h) (by kernel_rfl) (Or.inl ⟨by rfl, ?_⟩) (by assumption) ?_
          rotate_left
          · (intro W9 hSw; (try dsimp only at hSw); go_simp; (try with_reducible rfl))
          try simp only [Act.put, List.setIfInBounds_toArray, List.set_cons_zero, List.set_cons_succ]
          refine takeT (i := 5) (v := ?_) rfl (by kernel_rfl) (by kernel_rfl) (by kernel_rfl) (by kernel_rfl) (by decide) (fun _ _ _ h => h) (by kernel_rfl) (Or.inl ⟨by rfl, ?_⟩) (by assumption) ?_
          rotate_left
          · (intro W9 hSw; (try dsimp only at hSw); go_simp; (try with_reducible rfl))
          try simp only [Act.put, List.setIfInBounds_toArray, List.set_cons_zero, List.set_cons_succ]
          refine takeT (i := 8) (v := ?_) rfl (by kernel_rfl) (by kernel_rfl) (by kernel_rfl) (by kernel_rfl) (by decide) (fun _ _ _ h => h) (by kernel_rfl) (Or.inl ⟨by rfl, ?_⟩) (by assumption) ?_
          rotate_left
          · (intro W9 hSw; (try dsimp only at hSw); go_simp; (try with_reducible rfl))
          try simp only [Act.put, List.setIfInBounds_toArray, List.set_cons_zero, List.set_cons_succ]
          refine takeT (i := 9) (v := ?_) rfl (by kernel_rfl) (by kernel_rfl) (by kernel_rfl) (by kernel_rfl) (by decide) (fun _ _ _ h => h) (by kernel_rfl) (Or.inl ⟨by rfl, ?_⟩) (by assumption) ?_
          rotate_left
          · (intro W9 hSw; (try dsimp only at hSw); go_simp; (try with_reducible rfl))
          try simp only [Act.put, List.setIfInBounds_toArray, List.set_cons_zero, List.set_cons_succ]
          refine pureT (i := 10) (v := ?_) rfl (by kernel_rfl) (by kernel_rfl) (by kernel_rfl) (by decide) (fun _ _ _ h => h) (Or.inl ⟨by rfl, ?_⟩) (fun _ => by assumption) ?_
          rotate_left
          · (intro W9 _; go_simp; (try with_reducible rfl))
          try simp only [Act.put, List.setIfInBounds_toArray, List.set_cons_zero, List.set_cons_succ]
          refine oneT (i := 6) rfl (by kernel_rfl) (fun K hK => ?_)
          rw [if_pos (by kernel_rfl)]
          go_wp2_with (fail)
          obtain ⟨wa, hwa⟩ : ∃ wa, (w6.alloc (.cells #[.int .i64 (iN : Int)] 3)).drew = wa := ⟨_, rfl⟩
          have xa : Ext w6 wa := by rw [← hwa]; exact (Ext.alloc _ _).thenDrew
          have hrd : Rd wa 1 (some ⟨w6.heap.size, 0, none⟩) 1 [.int .i64 (iN : Int)] := by rw [← hwa]; exact (Rd.lit w6 #[.int .i64 (iN : Int)] 3).ext (Ext.drew _)
          rw [hwa]
          clear hwa
          refine hK.out _ _ (fun _ => HSS.out _ xa) ?_
          clear hK K hHeld
          have hHeld : ((fun W : World => W.cell? ⟨g, 4, none⟩ = some (.slice (some ⟨gu, 0, none⟩) n c5) ∧ W.cell? ⟨g, 5, none⟩ = some (.slice B5 f.which.length d5) ∧ W.cell? ⟨g, 6, none⟩ = some (.slice C5 f.shards.length e5))) wa := HSS.out _ xa
          try simp only [Act.put, List.setIfInBounds_toArray, List.set_cons_zero, List.set_cons_succ]
          have HTa := Lib.hid (HT6.out.ext xa)
          have hov := HTa.out.o.v
          have hlea := HTa.out.le
          refine oneT (i := 7) rfl (by kernel_rfl) (fun K hK => ?_)
          rw [if_pos (by kernel_rfl)]
          refine wp_append_rd wa (.tmp 80) (.tmp 82) 22 rfl (g3 + 1) 3 j0 _ 1 8 Tryz.underlying22 hj0 hy0 hy1 hy2 rfl (by omega) (.slice B5 f.which.length d5) f.which.length (icells f.which) rfl hov (some ⟨w6.heap.size, 0, none⟩) 1 1 [.int .i64 (iN : Int)] rfl hrd (by simp [Value.oneCell']) (by omega) (by unfold maxLen; omega) hlea ?_
          intro v7 w7 hown hgr hat
          obtain ⟨A7, c7, rfl, _, _⟩ := ownsRow_slice hown
          have hpc := HTa.out.which hgr (x := (iN : Int)) (by rw [icells_append, List.length_append]; exact hown) hat
          have FA := Lib.hid hpc.1
          have FZ := Lib.hid hpc.2.1
          have FO := Lib.hid hpc.2.2.1
          have X7 := Lib.hid hpc.2.2.2
          have L7 := Lib.hid (show g3 + 1 ≤ w7.heap.size from Nat.le_trans hlea hgr.size)
          clear hpc hown hgr hat hov hrd
          refine hK.out _ _ (fun _ => ⟨FA.out.c4, FA.out.c5, FA.out.c6⟩) ?_
          clear hK K hHeld
          have hHeld : ((fun W : World => W.cell? ⟨g, 4, none⟩ = some (.slice (some ⟨gu, 0, none⟩) n c5) ∧ W.cell? ⟨g, 5, none⟩ = some (.slice B5 f.which.length d5) ∧ W.cell? ⟨g, 6, none⟩ = some (.slice C5 f.shards.length e5))) w7 := ⟨FA.out.c4, FA.out.c5, FA.out.c6⟩
          try simp only [Act.put, List.setIfInBounds_toArray, List.set_cons_zero, List.set_cons_succ]
          refine oneT (i := 11) rfl (by kernel_rfl) (fun K hK => ?_)
          rw [if_pos (by kernel_rfl)]
          go_wp2_with (((with_reducible refine (HCB.out _ X7.out).mono ?_); (rintro e w8 ⟨v8, rfl, hv8⟩; obtain ⟨A8, c8, rfl, _⟩ := hv8.bs; have O8 := Lib.hid hv8.own; have x8 := hv8.ext; clear hv8)))
          have FA8 := Lib.hid (FA.out.ext x8)
          refine hK.out _ _ (fun _ => ⟨FA8.out.c4, FA8.out.c5, FA8.out.c6⟩) ?_
          clear hK K hHeld
          have hHeld : ((fun W : World => W.cell? ⟨g, 4, none⟩ = some (.slice (some ⟨gu, 0, none⟩) n c5) ∧ W.cell? ⟨g, 5, none⟩ = some (.slice B5 f.which.length d5) ∧ W.cell? ⟨g, 6, none⟩ = some (.slice C5 f.shards.length e5))) w8 := ⟨FA8.out.c4, FA8.out.c5, FA8.out.c6⟩
          try simp only [Act.put, List.setIfInBounds_toArray, List.set_cons_zero, List.set_cons_succ]
          refine oneT (i := 12) rfl (by kernel_rfl) (fun K hK => ?_)
          rw [if_pos (by kernel_rfl)]
          go_wp2_with (fail)
          have FA9 := Lib.hid (FA8.out.ext (Ext.alloc w8 (.cells #[.slice A8 b.length c8] 46)))
          refine hK.out _ _ (fun _ => ⟨FA9.out.c4, FA9.out.c5, FA9.out.c6⟩) ?_
          clear hK K hHeld
          have hHeld : ((fun W : World => W.cell? ⟨g, 4, none⟩ = some (.slice (some ⟨gu, 0, none⟩) n c5) ∧ W.cell? ⟨g, 5, none⟩ = some (.slice B5 f.which.length d5) ∧ W.cell? ⟨g, 6, none⟩ = some (.slice C5 f.shards.length e5))) (w8.alloc (.cells #[.slice A8 b.length c8] 46)) := ⟨FA9.out.c4, FA9.out.c5, FA9.out.c6⟩
          try simp only [Act.put, List.setIfInBounds_toArray, List.set_cons_zero, List.set_cons_succ]
          obtain ⟨cs, hq⟩ := FO.out.s
          have HQ := Lib.hid hq
          have x9 := x8.thenAlloc (.cells #[.slice A8 b.length c8] 46)
          have hos := ownsRow_ext hq.own x9
          have hb9 : g3 + 1 ≤ (w8.alloc (.cells #[.slice A8 b.length c8] 46)).heap.size := by have := L7.out; have := x9.size; omega
          clear hq
          refine oneT (i := 13) rfl (by kernel_rfl) (fun K hK => ?_)
          rw [if_pos (by kernel_rfl)]
          refine wp_append_rd (w8.alloc (.cells #[.slice A8 b.length c8] 46)) (.tmp 85) (.tmp 88) 23 rfl (g3 + 1) 46 i0 _ 1 24 Tryz.underlying23 hi0 hz0 hz1 hz2 rfl (by omega) (.slice C5 f.shards.length e5) f.shards.length cs rfl hos (some ⟨w8.heap.size, 0, none⟩) 1 1 [.slice A8 b.length c8] rfl (Rd.lit _ #[.slice A8 b.length c8] _) (by simp [Value.oneCell']) (by omega) (by unfold maxLen; omega) hb9 ?_
          intro v13 w13 hown hgr hat
          obtain ⟨A13, c13, rfl, _, _⟩ := ownsRow_slice hown
          have hsn := HQ.out.snoc x8 O8.out (Nat.le_refl _) L7.out (Ext.alloc w8 (.cells #[.slice A8 b.length c8] 46)) hown hgr hat
          have hgw := grew2 FA.out FZ.out FO.out.u FO.out.v HQ.out.own (by have := HT6.out.lt; omega) x9 hgr
          have hx13 : Ext w w13 := (X7.out.trans x9).ofGrown hgr (fun k hk => by have := (HQ.out.own.lt k hk).1; have := HT6.out.lt; have := HT6.out.base; omega)
          have hl13 : g3 + 1 ≤ w13.heap.size := Nat.le_trans hb9 hgr.size
          have FO13 : Fo w13 (g3 + 1) { f with marks := f.marks.set iN 2, which := f.which ++ [(iN : Int)], shards := f.shards ++ [b] } (.slice (some ⟨gu, 0, none⟩) n c5) (.slice A7 (f.which.length + 1) c7) (.slice A13 (f.shards.length + 1) c13) := ⟨hgw.2.2.1, hgw.2.2.2, ⟨_, by
            have h : Mq w13 (g3 + 1) (Hot (g3 + 1) (.slice A13 (f.shards.length + 1) c13)) (.slice A13 (f.shards.length + 1) c13) (f.shards.length + 1) (cs ++ [.slice A8 b.length c8]) (f.shards ++ [b]) := hsn
            show Mq w13 (g3 + 1) (Hot (g3 + 1) (.slice A13 (f.shards.length + 1) c13)) (.slice A13 (f.shards.length + 1) c13) (f.shards ++ [b]).length (cs ++ [.slice A8 b.length c8]) (f.shards ++ [b])
            rw [List.length_append]
            exact h⟩, FO.out.ne⟩
          have G13 := Lib.hid hgw.1
          have Z13 := Lib.hid hgw.2.1
          have F13 := Lib.hid FO13
          have X13 := Lib.hid hx13
          have L13 := Lib.hid hl13
          clear hgw hsn hown hgr hat hos FO13 hx13 hl13
          refine hK.out _ _ (fun _ => ⟨G13.out.c4, G13.out.c5, G13.out.c6⟩) ?_
          clear hK K hHeld
          have hHeld : ((fun W : World => W.cell? ⟨g, 4, none⟩ = some (.slice (some ⟨gu, 0, none⟩) n c5) ∧ W.cell? ⟨g, 5, none⟩ = some (.slice B5 f.which.length d5) ∧ W.cell? ⟨g, 6, none⟩ = some (.slice C5 f.shards.length e5))) w13 := ⟨G13.out.c4, G13.out.c5, G13.out.c6⟩
          try simp only [Act.put, List.setIfInBounds_toArray, List.set_cons_zero, List.set_cons_succ]
          refine takeT (i := 14) (v := ?_) rfl (by kernel_rfl) (by kernel_rfl) (by kernel_rfl) (by kernel_rfl) (by decide) (fun _ _ _ h => h) (by kernel_rfl) (Or.inl ⟨by rfl, ?_⟩) (by assumption) ?_
          rotate_left
          · (intro W9 hSw; (try dsimp only at hSw); go_simp; (try with_reducible rfl))
          try simp only [Act.put, List.setIfInBounds_toArray, List.set_cons_zero, List.set_cons_succ]
          have hml13 : (f.marks.set iN 2).length = n := by rw [List.length_set]; exact HLN.out
          have hou := F13.out.u
          have hou2 : w13.ownsRow (g3 + 1) 3 1 (.slice (some ⟨gu, 0, none⟩) n c5) n (icells (f.marks.set iN 2)) := by
            have h : w13.ownsRow (g3 + 1) 3 1 (.slice (some ⟨gu, 0, none⟩) n c5) (f.marks.set iN 2).length (icells (f.marks.set iN 2)) := hou
            rwa [hml13] at h
          have cgu := hou2.cellAt iN (by omega)
          have fgu := hou2.frozenAt iN
          have hgu1 : g3 + 1 ≤ gu := (hou2.lt gu rfl).1
          rw [icells_get (by rw [hml13]; exact hin2)] at cgu
          have fm := F13.out.mark hml13 iN 1
          have hne1 : gu ≠ g := by have := HT6.out.lt; omega
          have hne2 : gu ≠ g + 1 := by have := HT6.out.lt; omega
          have gm := G13.out.far (p := ⟨gu, iN, none⟩) hne1 (.int .i64 1)
          have zm := Z13.out.far (p := ⟨gu, iN, none⟩) hne2 (.int .i64 1)
          have xm := X13.out.set_ (p := ⟨gu, iN, none⟩) (by show w.heap.size ≤ gu; have := HT6.out.lt; have := HT6.out.base; omega) (.int .i64 1)
          obtain ⟨wm, hwm⟩ : ∃ wm, w13.setCell ⟨gu, iN, none⟩ (.int .i64 1) = wm := ⟨_, rfl⟩
          rw [hwm] at fm gm zm xm
          have FM := Lib.hid fm
          have GM := Lib.hid gm
          have ZM := Lib.hid zm
          have XM := Lib.hid xm
          have HWM := Lib.hid hwm
          have LM13 := Lib.hid (show g3 + 1 ≤ wm.heap.size by rw [← hwm]; simpa using L13.out)
          clear hou hou2 fm gm zm xm hwm
          refine oneT (i := 15) rfl (by kernel_rfl) (fun K hK => ?_)
          rw [if_pos (by kernel_rfl)]
          go_wp2_with (fail)
          rw [HWM.out]
          refine hK.out _ _ (fun _ => ⟨GM.out.c4, GM.out.c5, GM.out.c6⟩) ?_
          clear hK K hHeld
          have hHeld : ((fun W : World => W.cell? ⟨g, 4, none⟩ = some (.slice (some ⟨gu, 0, none⟩) n c5) ∧ W.cell? ⟨g, 5, none⟩ = some (.slice B5 f.which.length d5) ∧ W.cell? ⟨g, 6, none⟩ = some (.slice C5 f.shards.length e5))) wm := ⟨GM.out.c4, GM.out.c5, GM.out.c6⟩
          try simp only [Act.put, List.setIfInBounds_toArray, List.set_cons_zero, List.set_cons_succ]
          refine takeT (i := 16) (v := ?_) rfl (by kernel_rfl) (by kernel_rfl) (by kernel_rfl) (by kernel_rfl) (by decide) (fun _ _ _ h => h) (by kernel_rfl) (Or.inl ⟨by rfl, ?_⟩) (by assumption) ?_
          rotate_left
          · (intro W9 hSw; (try dsimp only at hSw); go_simp; (try with_reducible rfl))
          try simp only [Act.put, List.setIfInBounds_toArray, List.set_cons_zero, List.set_cons_succ]
          have m5 := GM.out.c5
          have m6 := GM.out.c6
          have mf5 := GM.out.fz 5
          have mf6 := GM.out.fz 6
          clear cgu fgu k4 k5 k6
          refine oneT (i := 17) rfl (by kernel_rfl) (fun K hK => ?_)
          rw [if_pos (by kernel_rfl)]
          go_wp2_with (fail)
          clear hHeld
          refine hK.out _ _ (fun h => absurd (Eq.trans (Eq.symm (by kernel_rfl)) h : true = false) (by decide)) ?_
          clear hK K
          try simp only [Act.put, List.setIfInBounds_toArray, List.set_cons_zero, List.set_cons_succ]
          refine pureT (i := 18) (v := ?_) rfl (by kernel_rfl) (by kernel_rfl) (by kernel_rfl) (by decide) (fun _ _ _ h => h) (Or.inl ⟨by rfl, ?_⟩) (fun h => absurd (Eq.trans (Eq.symm (by kernel_rfl)) h : true = false) (by decide)) ?_
          rotate_left
          · (intro W9 _; go_simp; (try with_reducible rfl))
          try simp only [Act.put, List.setIfInBounds_toArray, List.set_cons_zero, List.set_cons_succ]
          refine oneT (i := 19) rfl (by kernel_rfl) (fun K hK => ?_)
          rw [if_pos (by kernel_rfl)]
          go_wp2_with (fail)
          refine hK.out _ _ (fun h => absurd (Eq.trans (Eq.symm (by kernel_rfl)) h : true = false) (by decide)) ?_
          clear hK K
          try simp only [Act.put, List.setIfInBounds_toArray, List.set_cons_zero, List.set_cons_succ]
          refine doneT (by kernel_rfl) ?_ _
          go_wp2_with (fail)
          go_meet
          have hto : Finds.told0 f iN er b = { f with marks := f.marks.set iN 1, which := f.which ++ [(iN : Int)], shards := f.shards ++ [b] } := if_pos HGG.out
          have hfm : Td w ((wm.setCell ⟨g, 5, none⟩ (.slice A7 (f.which.length + 1) c7)).setCell ⟨g, 6, none⟩ (.slice A13 (f.shards.length + 1) c13)) g (g3 + 1) { f with marks := (f.marks.set iN 2).set iN 1, which := f.which ++ [(iN : Int)], shards := f.shards ++ [b] } (.slice (some ⟨gu, 0, none⟩) n c5) (.slice A7 (f.which.length + 1) c7) (.slice A13 (f.shards.length + 1) c13) :=
            Td.make GM.out ZM.out FM.out XM.out HT6.out.base HT6.out.lt LM13.out
          rewrite [List.set_set, ← hto] at hfm
          exact ⟨_, rfl, _, _, _, Lib.hid hfm⟩
      case rest =>
      obtain ⟨w7, rfl, U, V, S, HT7⟩ := hcut
      clear HT6 HGG
      have hFl : (Finds.told0 f iN er b).marks.length = n := by
        unfold Finds.told0
        split <;> (show (f.marks.set iN _).length = n; rw [List.length_set]; exact HLN.out)
      have hFn : (Finds.told0 f iN er b).need = f.need := by unfold Finds.told0; split <;> rfl
      have hFw : (Finds.told0 f iN er b).which.length ≤ 1001 := by
        have h1 : f.which.length ≤ 1000 := by have := Finds.which_len HRT.out; have := Finds.cnt_le f.marks 1; have := HLN.out; omega
        unfold Finds.told0
        split
        · show (f.which ++ [(iN : Int)]).length ≤ 1001
          simp; omega
        · show f.which.length ≤ 1001
          omega
      have hne : 1 ≤ f.need ∧ f.need ≤ n := by have := HRT.out.1.2.2.2; have := HLN.out; omega
      obtain ⟨F, hF⟩ : ∃ F, Finds.told0 f iN er b = F := ⟨_, rfl⟩
      rw [hF] at HT7 HF hFl hFn hFw
      rw [← hFn] at hne
      have HFL := Lib.hid hFl
      obtain ⟨AU, cU, AV, cV, AS, cS, rfl, rfl, rfl, hfd⟩ := HT7.out.o.fd
      rewrite [hFl] at HT7 hfd
      have HFD := Lib.hid hfd
      have u1 := hfd.u.max
      have u2 := hfd.u.le
      have v1 := hfd.v.max
      have v2 := hfd.v.le
      have t1 := hfd.s.max
      have t2 := hfd.s.le
      clear hF hFn hfd
      go_upto_block 2 with (fail)
      go_cut [] (fun wx => ∃ wv : World, wv = wx ∧ RowKit.Hid (Td w wx g (g3 + 1) (Finds.phased F) (.slice AU n cU) (.slice AV F.which.length cV) (.slice AS F.shards.length cS)))
      case first =>
        have k0 := HT7.out.a.c0
        have k1 := HT7.out.a.c1
        have k2 := HT7.out.a.c2
        have k3 := HT7.out.a.c3
        have k4 := HT7.out.a.c4
        have k5 := HT7.out.a.c5
        have k6 := HT7.out.a.c6
        have kf := HT7.out.a.fz 3
        by_cases h1 : F.need ≤ (F.which.length : Int)
        · have HP := Lib.hid (show Finds.phased F = { F with phase := 2 } by unfold Finds.phased; rw [if_pos h1])
          go_wp2_with (fail)
          go_meet
          exact ⟨_, rfl, by rw [HP.out]; exact Lib.hid (HT7.out.phase 2)⟩
        · have HOF := Lib.hid (fun (X : World) (hX : Ext w7 X) => of_any13 X F.stripe F.version F.need F.phase AU n cU (.slice AV F.which.length cV) (.slice AS F.shards.length cS) 2 F.marks (HFD.out.u.ext hX) hn)
          have HN1 := Lib.hid h1
          obtain ⟨N2, hN2⟩ : ∃ N2, Finds.cnt F.marks 2 = N2 := ⟨_, rfl⟩
          have HN2 := Lib.hid hN2
          have hb2 : N2 ≤ 1000 := by have := Finds.cnt_le F.marks 2; omega
          clear hN2
          go_upto_region 17 with (fail)
          go_cut [101] (fun s wx => ∃ wv : World, wv = wx ∧ s = .bool (decide ((n : Int) - F.need < (N2 : Int))) ∧ RowKit.Hid (Ext w7 wx))
          case first =>
            have HSS := Lib.hid (fun (X : World) (hX : Ext w7 X) => (⟨hX.cell k0, hX.cell k1, hX.cell k2, hX.cell k3, hX.cell k4, hX.cell k5, hX.cell k6⟩ : (fun W : World => W.cell? ⟨g, 0, none⟩ = some (.int .i64 F.stripe) ∧ W.cell? ⟨g, 1, none⟩ = some (.int .i64 F.version) ∧ W.cell? ⟨g, 2, none⟩ = some (.int .i64 F.need) ∧ W.cell? ⟨g, 3, none⟩ = some (.int .i64 F.phase) ∧ W.cell? ⟨g, 4, none⟩ = some (.slice AU n cU) ∧ W.cell? ⟨g, 5, none⟩ = some (.slice AV F.which.length cV) ∧ W.cell? ⟨g, 6, none⟩ = some (.slice AS F.shards.length cS)) X))
            go_region_held3 (fun W : World => W.cell? ⟨g, 0, none⟩ = some (.int .i64 F.stripe) ∧ W.cell? ⟨g, 1, none⟩ = some (.int .i64 F.version) ∧ W.cell? ⟨g, 2, none⟩ = some (.int .i64 F.need) ∧ W.cell? ⟨g, 3, none⟩ = some (.int .i64 F.phase) ∧ W.cell? ⟨g, 4, none⟩ = some (.slice AU n cU) ∧ W.cell? ⟨g, 5, none⟩ = some (.slice AV F.which.length cV) ∧ W.cell? ⟨g, 6, none⟩ = some (.slice AS F.shards.length cS)) ((refine HSS.out _ ?_; (first | (with_reducible exact Ext.drew _) | (with_reducible exact x9)))) (first | (((with_reducible refine (HOF.out _ (Ext.drew _)).mono ?_); (rintro e w8 ⟨v8, rfl, hv8⟩; obtain ⟨A8, c8, rfl, hi8⟩ := hv8.is; have x9 : Ext w7 w8 := (Ext.drew _).trans hv8.ext; have hl8 : (Finds.ofL F.marks 2).length = N2 := HN2.out; rw [hl8]; have X9 := Lib.hid x9; have p1 := hi8.max; have p2 := hi8.le; clear hv8 hi8))) | fail)
            all_goals
              go_wp2_with (fail)
              go_meet
              exact ⟨_, rfl, by simp [IntWalk.i64_in ((n : Int) - F.need) (by omega)], X9⟩
          case rest =>
          obtain ⟨w8, rfl, rfl, X8⟩ := hcut
          have kf8 := (HT7.out.a.ext X8.out).fz 3
          have k38 := X8.out.cell k3
          by_cases h2 : (n : Int) - F.need < (N2 : Int)
          · have HP := Lib.hid (show Finds.phased F = { F with phase := 3 } by unfold Finds.phased; rw [if_neg HN1.out, if_pos (by rw [HN2.out, HFL.out]; exact h2)])
            rw [decide_eq_true h2]
            go_wp2_with (fail)
            go_meet
            exact ⟨_, rfl, by rw [HP.out]; exact Lib.hid ((HT7.out.ext X8.out).phase 3)⟩
          · have HP := Lib.hid (show Finds.phased F = F by unfold Finds.phased; rw [if_neg HN1.out, if_neg (by rw [HN2.out, HFL.out]; exact h2)])
            rw [decide_eq_false h2]
            go_wp2_with (fail)
            go_meet
            exact ⟨_, rfl, by rw [HP.out]; exact Lib.hid (HT7.out.ext X8.out)⟩
      case rest =>
      obtain ⟨w9, rfl, HT9⟩ := hcut
      clear HT7
      obtain ⟨R9, hR9⟩ : ∃ R9, Finds.phased F = R9 := ⟨_, rfl⟩
      rw [hR9] at HT9 HF
      clear hR9
      go_upto_region 19 with (fail)
      have ab := HT9.out.a.blk
      have zb := HT9.out.z.blk
      refine wp_region_lit ?_
      refine wpList_load_row rfl 25 (.tmp 4) rfl g rfl 25 _ (0, 0) _ ab Tryz.underlying25 rfl (by kernel_rfl) ?_
      refine wpList_store_row rfl 25 (.tmp 8) (.tmp 113) rfl (g + 1) (frow R9.stripe R9.version R9.need R9.phase (.slice AU n cU) (.slice AV F.which.length cV) (.slice AS F.shards.length cS)) rfl rfl 25 _ zb (by kernel_rfl) rfl (by simp [Value.oneCell']) ?_
      clear ab zb
      go_wp2_with (fail)
      refine bodyPost_ret (v := .tuple #[fval R9.stripe R9.version R9.need R9.phase (.slice AU n cU) (.slice AV F.which.length cV) (.slice AS F.shards.length cS), .int .i64 0]) ?_ rfl (by rw [HF.out, HTE.out]; exact HT9.out.gives)
      rw [results_cell_tmp rfl]
      simp [asAddr, Result.andThen, HT9.out.res]
    · have HF := Lib.hid (show Finds.toldF f (iN : Int) er b = f by rw [HTF.out]; exact if_neg (fun q => ho (HOP.out.1 q)))
      have key : f.phase ≠ 1 ∨ (f.phase = 1 ∧ mk ≠ 0) := by
        by_cases hp : f.phase = 1
        · exact .inr ⟨hp, fun h => ho ⟨hp, h⟩⟩
        · exact .inl hp
      clear ho
      rcases key with hp | ⟨hp, hm0⟩
      · have e1 : (f.phase != 1) = true := by rw [bne_iff_ne]; exact hp
        clear hp
        go_upto_region 11 with (fail)
        have ab := HT.out.a.blk
        have zb := HT.out.z.blk
        refine wp_region_lit ?_
        refine wpList_load_row rfl 25 (.tmp 4) rfl g rfl 25 _ (0, 0) _ ab Tryz.underlying25 rfl (by kernel_rfl) ?_
        refine wpList_store_row rfl 25 (.tmp 8) (.tmp 64) rfl (g + 1) (frow f.stripe f.version f.need f.phase (.slice (some ⟨gu, 0, none⟩) n c5) (.slice B5 f.which.length d5) (.slice C5 f.shards.length e5)) rfl rfl 25 _ zb (by kernel_rfl) rfl (by simp [Value.oneCell']) ?_
        clear ab zb
        go_wp2_with (fail)
        refine bodyPost_ret (v := .tuple #[fval f.stripe f.version f.need f.phase (.slice (some ⟨gu, 0, none⟩) n c5) (.slice B5 f.which.length d5) (.slice C5 f.shards.length e5), .int .i64 0]) ?_ rfl (by rw [HF.out, HTE.out]; exact HT.out.gives)
        rw [results_cell_tmp rfl]
        simp [asAddr, Result.andThen, HT.out.res]
      · have e1 : (f.phase != 1) = false := by rw [bne_eq_false_iff_eq]; exact hp
        have e2 : (mk != 0) = true := by rw [bne_iff_ne]; exact hm0
        clear hp hm0
        go_upto_region 11 with (fail)
        have ab := HT.out.a.blk
        have zb := HT.out.z.blk
        refine wp_region_lit ?_
        refine wpList_load_row rfl 25 (.tmp 4) rfl g rfl 25 _ (0, 0) _ ab Tryz.underlying25 rfl (by kernel_rfl) ?_
        refine wpList_store_row rfl 25 (.tmp 8) (.tmp 64) rfl (g + 1) (frow f.stripe f.version f.need f.phase (.slice (some ⟨gu, 0, none⟩) n c5) (.slice B5 f.which.length d5) (.slice C5 f.shards.length e5)) rfl rfl 25 _ zb (by kernel_rfl) rfl (by simp [Value.oneCell']) ?_
        clear ab zb
        go_wp2_with (fail)
        refine bodyPost_ret (v := .tuple #[fval f.stripe f.version f.need f.phase (.slice (some ⟨gu, 0, none⟩) n c5) (.slice B5 f.which.length d5) (.slice C5 f.shards.length e5), .int .i64 0]) ?_ rfl (by rw [HF.out, HTE.out]; exact HT.out.gives)
        rw [results_cell_tmp rfl]
        simp [asAddr, Result.andThen, HT.out.res]
end Go.Proofs.YtfpglkacjecoeaaGreat
namespace Go.Proofs.YtfpglkacjecoeaaGreat
open Go.RowKit

/-- The worlds that have grown, and have turned no block but those from lo to hi. -/
structure Away (lo hi : Nat) (w w' : World) : Prop where
  os : w'.os = w.os
  tape : w'.tape = w.tape
  output : w'.output = w.output
  size : w.heap.size ≤ w'.heap.size
  block : ∀ i, i < w.heap.size → ¬ (lo ≤ i ∧ i < hi) → w'.heap[i]? = w.heap[i]?
section
variable {w w' W : World} {lo hi base g : Nat}
theorem Away.refl (w : World) : Away lo hi w w := ⟨rfl, rfl, rfl, Nat.le_refl _, fun _ _ _ => rfl⟩
theorem Away.trans (h : Away lo hi w w') (k : Away lo hi w' W) : Away lo hi w W :=
  ⟨k.os.trans h.os, k.tape.trans h.tape, k.output.trans h.output, Nat.le_trans h.size k.size, fun i hi hn => (k.block i (Nat.lt_of_lt_of_le hi h.size) hn).trans (h.block i hi hn)⟩
theorem Away.of (h : Ext w w') : Away lo hi w w' := ⟨h.os, h.tape, h.output, h.size, fun i hi _ => h.block i hi⟩
theorem Away.row (w : World) (hl : lo ≤ g) (hh : g < hi) (cs : Array Value) : Away lo hi w (w.setRow g cs) :=
  ⟨rfl, rfl, rfl, by simp, fun i _ hn => setRow_other w g i cs (fun e => hn (by omega))⟩
theorem Away.set (w : World) (p : Addr) (hl : lo ≤ p.block) (hh : p.block < hi) (v : Value) : Away lo hi w (w.setCell p v) :=
  ⟨rfl, rfl, rfl, by simp, fun i _ hn => heap_setCell_other w p i v (fun e => hn (by omega))⟩
theorem Away.ext (h : Away lo hi w w') (hx : Ext W w) (hl : W.heap.size ≤ lo) : Ext W w' :=
  ⟨h.os.trans hx.os, h.tape.trans hx.tape, h.output.trans hx.output, Nat.le_trans hx.size h.size, fun i hi => (h.block i (Nat.lt_of_lt_of_le hi hx.size) (by omega)).trans (hx.block i hi)⟩
theorem ownsRow_away {size n : Nat} {e : TypeId} {v : Value} {xs : List Value} (h : w.ownsRow base e size v n xs) (ha : Away lo hi w w') (hb : hi ≤ base) : w'.ownsRow base e size v n xs := by
  refine ⟨h.1, ?_⟩
  rcases h.2 with h1 | ⟨g, cap, cur, h1, h2, h3, h4⟩
  · exact .inl h1
  · refine .inr ⟨g, cap, cur, h1, h2, ?_, h4⟩
    rw [ha.block g ?_ (by omega)]
    · exact h3
    · rcases Nat.lt_or_ge g w.heap.size with hl | hl
      · exact hl
      · rw [Array.getElem?_eq_none hl] at h3; cases h3
theorem Fo.away {f : Finds.F} {U V S : Value} (h : Fo w base f U V S) (ha : Away lo hi w w') (hb : hi ≤ base) : Fo w' base f U V S := by
  obtain ⟨h1, h2, ⟨cs, h3⟩, h4⟩ := h
  exact ⟨ownsRow_away h1 ha hb, ownsRow_away h2 ha hb, ⟨cs, h3.len, ownsRow_away h3.own ha hb, fun i hi => by
    obtain ⟨A, c, e, ho⟩ := h3.row i hi
    exact ⟨A, c, e, ownsRow_away ho ha hb⟩, h3.cool, h3.hot, h3.apart⟩, h4⟩
theorem Fb.away {st ve ne ph : Int} {U V S : Value} (h : Fb w g st ve ne ph U V S) (ha : Away lo hi w w') (hb : ¬ (lo ≤ g ∧ g < hi)) : Fb w' g st ve ne ph U V S := ⟨(ha.block g h.lt hb).trans h.blk⟩
end
/-- The lists of a find, whatever the blocks from lo to hi hold. -/
def FdX (w : World) (lo hi : Nat) (f : Finds.F) (A : Option Addr) (n c : Nat) (B : Option Addr) (m d : Nat) (C : Option Addr) (k e : Nat) : Prop := ∀ W, Away lo hi w W → Fd W f A n c B m d C k e
section
variable {w w' W : World} {lo hi b1 : Nat} {f : Finds.F} {A : Option Addr} {n c : Nat} {B : Option Addr} {m d : Nat} {C : Option Addr} {k e : Nat}
theorem FdX.away (h : FdX w lo hi f A n c B m d C k e) (ha : Away lo hi w w') : FdX w' lo hi f A n c B m d C k e := fun W hW => h W (ha.trans hW)
theorem FdX.ext (h : FdX w lo hi f A n c B m d C k e) (hx : Ext w w') : FdX w' lo hi f A n c B m d C k e := h.away (.of hx)
theorem FdX.fd (h : FdX w lo hi f A n c B m d C k e) : Fd w f A n c B m d C k e := h w (.refl w)
theorem Fd.x (h : Fd w f A n c B m d C k e) (hx : Ext w W) (hg : w.heap.size ≤ lo) : FdX W lo hi f A n c B m d C k e := fun _ hW => h.ext (hW.ext hx hg)
theorem Fo.fdOf (h : Fo W b1 f (.slice A n c) (.slice B m d) (.slice C k e)) : Fd W f A n c B m d C k e := by
  obtain ⟨A', c', B', d', C', e', e1, e2, e3, hd⟩ := h.fd
  injection e1 with a1 a2 a3
  injection e2 with b1 b2 b3
  injection e3 with c1 c2 c3
  rw [← a1, ← a2, ← a3, ← b1, ← b2, ← b3, ← c1, ← c2, ← c3] at hd
  exact hd
theorem Fo.x (h : Fo W b1 f (.slice A n c) (.slice B m d) (.slice C k e)) (hg : hi ≤ b1) : FdX W lo hi f A n c B m d C k e := fun _ hW => (h.away hW hg).fdOf
end
/-- A variable at block g that holds a find; its lists are not in the blocks from lo to hi. -/
def Fh (w : World) (lo hi g : Nat) (f : Finds.F) : Prop := ∃ A n c B m d C k e, Fb w g f.stripe f.version f.need f.phase (.slice A n c) (.slice B m d) (.slice C k e) ∧ FdX w lo hi f A n c B m d C k e
section
variable {w w' W : World} {lo hi g b1 : Nat} {f F : Finds.F}
theorem Fh.lt (h : Fh w lo hi g f) : g < w.heap.size := by obtain ⟨_, _, _, _, _, _, _, _, _, h, _⟩ := h; exact h.lt
theorem Fh.ext (h : Fh w lo hi g f) (hx : Ext w w') : Fh w' lo hi g f := by
  obtain ⟨A, n, c, B, m, d, C, k, e, h1, h2⟩ := h
  exact ⟨A, n, c, B, m, d, C, k, e, h1.ext hx, h2.ext hx⟩
theorem Fh.row (h : Fh w lo hi g f) {q : Nat} (hl : lo ≤ q) (hh : q < hi) (hq : q ≠ g) (cs : Array Value) : Fh (w.setRow q cs) lo hi g f := by
  obtain ⟨A, n, c, B, m, d, C, k, e, h1, h2⟩ := h
  exact ⟨A, n, c, B, m, d, C, k, e, ⟨(setRow_other w q g cs (fun e => hq e.symm)).trans h1.blk⟩, h2.away (.row w hl hh cs)⟩
theorem Fh.new {A : Option Addr} {n c : Nat} {B : Option Addr} {m d : Nat} {C : Option Addr} {k e : Nat} (h : FdX w lo hi f A n c B m d C k e) (hg : w.heap.size = g) : Fh (w.alloc (.cells #[.int .i64 f.stripe, .int .i64 f.version, .int .i64 f.need, .int .i64 f.phase, .slice A n c, .slice B m d, .slice C k e] 25)) lo hi g f :=
  ⟨A, n, c, B, m, d, C, k, e, Fb.new w _ _ _ _ _ _ _ hg, h.ext (Ext.alloc _ _)⟩
/-- The variable is written. -/
theorem Fh.put (h : Fh W lo hi g f) {A : Option Addr} {n c : Nat} {B : Option Addr} {m d : Nat} {C : Option Addr} {k e : Nat} (ho : FdX W lo hi F A n c B m d C k e) (hl : lo ≤ g) (hh : g < hi) : Fh (W.setRow g (frow F.stripe F.version F.need F.phase (.slice A n c) (.slice B m d) (.slice C k e))) lo hi g F := by
  obtain ⟨_, _, _, _, _, _, _, _, _, h1, _⟩ := h
  exact ⟨A, n, c, B, m, d, C, k, e, h1.row _ _ _ _ _ _ _, ho.away (.row W hl hh _)⟩
end
end Go.Proofs.YtfpglkacjecoeaaGreat
namespace Go.Proofs.YtfpglkacjecoeaaGreat
open Go.ChangeShapes Go.WideShapes Go.ChangeAt Go.RowKit
section
variable {H : Type} {enc : TypeId × Value → H} {P : Program} {w : World} {base : Nat} {spare : Nat → Bool} {held : Bool}

theorem okWide_array {r : Reach} {b0 n : Nat} {t e : TypeId} {v : Value} (ht : P.underlying t = some (.array n e)) (h : Value.okWide P w r b0 t v) : ∃ cs, v = .agg cs ∧ cs.size = P.cellsOf t := by
  simp only [Value.okWide, ht] at h
  obtain ⟨cs, h1, h2, _⟩ := h
  exact ⟨cs, h1, h2⟩
theorem cells_spot {a : Addr} {v : Value} (h : w.cell? (a.add 0) = some v) : a = ⟨a.block, a.off, none⟩ := by
  obtain ⟨b, off, sp⟩ := a
  cases sp with
  | none => rfl
  | some s =>
    exfalso
    have e : (⟨b, off, some s⟩ : Addr).add 0 = ⟨b, off, some s⟩ := by unfold Addr.add; split <;> simp_all
    rw [e] at h
    unfold World.cell? at h
    split at h <;> simp at h
/-- An array of integers. -/
theorem trod_int_array {t e : TypeId} {k : IntKind} {n fuel : Nat} {cs : List Value} {x : DataW H × List MemPlace} (ht : P.underlying t = some (.array n e)) (he : P.underlying e = some (.int k)) (hc : P.cellsOf e = 1) (hct : P.cellsOf t = n)
    (h : DataW.trod enc P w base spare held fuel t cs = some x) : ∃ zs : List Int, zs.length = n ∧ cs = zs.map (Value.int k) ∧ ∀ z ∈ zs, (Lit.int k z).wf = true := by
  obtain ⟨xs, m, _, _, hl, hxl, hel⟩ := DataW.trod_array ht h
  rw [hct] at hl
  have each : ∀ i, i < n → ∃ z : Int, cs[i]? = some (.int k z) ∧ (Lit.int k z).wf = true := by
    intro i hi
    have h1 := hel i hi
    rw [hc, Nat.mul_one] at h1
    have hxi : i < xs.length := by omega
    rw [List.getElem?_eq_getElem hxi] at h1
    obtain ⟨z, hz, _, hw⟩ := DataW.trod_int he h1
    refine ⟨z, ?_, hw⟩
    have hci : i < cs.length := by omega
    have h2 : (cs.drop i).take 1 = [cs[i]] := by rw [List.drop_eq_getElem_cons hci]; rfl
    rw [h2] at hz
    injection hz with hz
    rw [List.getElem?_eq_getElem hci, hz]
  obtain ⟨f, hf⟩ := Go.Deep.choose_lt each
  refine ⟨(List.range n).map f, by simp, ?_, ?_⟩
  · apply List.ext_getElem (by simp [hl])
    intro i h1 h2
    have := (hf i (by omega)).1
    rw [List.getElem?_eq_getElem h1] at this
    injection this with this
    rw [this]
    simp
  · intro z hz
    simp only [List.mem_map, List.mem_range] at hz
    obtain ⟨i, hi, rfl⟩ := hz
    exact (hf i hi).2
end
set_option maxRecDepth 100000 in
theorem open_u8x3 {H : Type} {enc : TypeId × Value → H} {W : World} {r : Reach} {b0 : Nat} {t e : TypeId} {v : Value} {d : DataW H} {p : List MemPlace} (ht : Tryz.prog.underlying t = some (.array 3 e)) (he : Tryz.prog.underlying e = some (.int .u8)) (hc : Tryz.prog.cellsOf e = 1) (hct : Tryz.prog.cellsOf t = 3)
    (hv : Value.okWide Tryz.prog W r b0 t v) (h : DataW.Trod enc Tryz.prog W 0 (fun _ => true) true t v d p) : ∃ x y z : UInt8, v = .agg #[.int .u8 (x.toNat : Int), .int .u8 (y.toNat : Int), .int .u8 (z.toNat : Int)] := by
  obtain ⟨cs, rfl, _⟩ := okWide_array ht hv
  obtain ⟨fuel, hf⟩ := h
  obtain ⟨zs, hl, hcs, hw⟩ := trod_int_array ht he hc hct hf
  match zs, hl with
  | [a, b, c], _ =>
    obtain ⟨x, rfl⟩ := wf_u8 (hw a (by simp))
    obtain ⟨y, rfl⟩ := wf_u8 (hw b (by simp))
    obtain ⟨z, rfl⟩ := wf_u8 (hw c (by simp))
    refine ⟨x, y, z, ?_⟩
    have : cs = ([Value.int .u8 (x.toNat : Int), .int .u8 (y.toNat : Int), .int .u8 (z.toNat : Int)]).toArray := by
      rw [← Array.toList_inj]
      exact hcs
    rw [this]
end Go.Proofs.YtfpglkacjecoeaaGreat
