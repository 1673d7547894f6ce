/- Several texts in one: The contract of the document's Begin (find). The contract of the document's Lose (find). The contract of the document's Told (find). -/
import Derived.Test.YtfpglkacjecoeaaGreatCt29
import Derived.Test.YtfpglkacjecoeaaGreatCt24
import Derived.Test.YtfpglkacjecoeaaGreatCt25
import Derived.Test.YtfpglkacjecoeaaGreatCt28
import Derived.Test.YtfpglkacjecoeaaGreatCt15
namespace Go.Proofs.YtfpglkacjecoeaaGreat
open Go.RowKit

theorem right_begun13 {s v n need : Int} (h1 : 1 ≤ n) : Finds.right ⟨s, v, need, 1, List.replicate n.toNat 0, [], []⟩ ↔ Finds.named s v n need := by
  have hn : (n.toNat : Int) = n := by omega
  constructor
  · intro h
    have h2 : Finds.named s v ((List.replicate n.toNat (0 : Int)).length : Nat) need := h.1
    rw [List.length_replicate, hn] at h2
    exact h2
  · intro h
    have h2 := Finds.begun_right h
    unfold Finds.beginF at h2
    rwa [if_pos h] at h2
theorem begin_named {s v n need : Int} (h : Finds.named s v n need) : Finds.beginF s v n need = ⟨s, v, need, 1, List.replicate n.toNat 0, [], []⟩ ∧ Finds.beginE s v n need = 0 := ⟨if_pos h, if_pos h⟩
theorem begin_unnamed {s v n need : Int} (h : ¬ Finds.named s v n need) : Finds.beginF s v n need = Finds.nought ∧ Finds.beginE s v n need = 140 := ⟨if_neg h, if_neg h⟩
set_option maxRecDepth 100000 in
set_option maxHeartbeats 4000000 in
theorem refBegin13_any (w : World) (s v n need : Int) : Calls Tryz.prog 7 #[.int .i64 s, .int .i64 v, .int .i64 n, .int .i64 need] w (GivesL (Finds.beginF s v n need) (Finds.beginE s v n need) w) := by
  obtain ⟨g, hg⟩ : ∃ g, w.heap.size = g := ⟨_, rfl⟩
  have x1 := Ext.alloc w (.cells #[.int .i64 0, .int .i64 0, .int .i64 0, .int .i64 0, .slice none 0 0, .slice none 0 0, .slice none 0 0] 25)
  have s1 := Fb.new w 0 0 0 0 (.slice none 0 0) (.slice none 0 0) (.slice none 0 0) hg
  obtain ⟨W1, hW1⟩ : ∃ W1, w.alloc (.cells #[.int .i64 0, .int .i64 0, .int .i64 0, .int .i64 0, .slice none 0 0, .slice none 0 0, .slice none 0 0] 25) = W1 := ⟨_, rfl⟩
  have z1 : W1.heap.size = g + 1 := by rw [← hW1, ← hg]; simp
  rw [hW1] at x1 s1
  have X1 := Lib.hid x1
  have FB := Lib.hid s1
  have HW1 := Lib.hid hW1
  have Z1 := Lib.hid z1
  have HG := Lib.hid hg
  clear x1 s1 hW1 z1
  by_cases hin : 1 ≤ n ∧ n ≤ 255
  · obtain ⟨n1, n2⟩ := hin
    have f1 : ¬ n < 1 := by omega
    have f2 : ¬ (255 : Int) < n := by omega
    have hmk := run_make_marks W1 n n1 n2
    have x2 := Ext.alloc W1 (.cells (made n.toNat (.int .i64 0)) 3)
    have hown := own_noughts W1 n.toNat (by omega) (base := W1.heap.size) (Nat.le_refl _)
    obtain ⟨W2, hW2⟩ : ∃ W2, W1.alloc (.cells (made n.toNat (.int .i64 0)) 3) = W2 := ⟨_, rfl⟩
    rw [hW2] at hmk x2 hown
    rw [Z1.out] at hmk hown
    have hfo : Fo W2 (g + 1) ⟨s, v, need, 1, List.replicate n.toNat 0, [], []⟩ (.slice (some ⟨g + 1, 0, none⟩) n.toNat n.toNat) (.slice none 0 0) (.slice none 0 0) := ⟨hown, World.ownsRow_nil _ _ _ _, ⟨[], Mq.nil _ _ _⟩, fun b _ h => by simp [Value.ownBlock] at h⟩
    have hfd := hfo.fdOf
    obtain ⟨x, wa, wb, hxz, ra, sa, fb, xb⟩ := find_var W2 s v need 1 (some ⟨g + 1, 0, none⟩) n.toNat n.toNat none 0 0 none 0 0
    have fd : FdZ (fun q => False ∨ q = g) wb ⟨s, v, need, 1, List.replicate n.toNat 0, [], []⟩ (some ⟨g + 1, 0, none⟩) n.toNat n.toNat none 0 0 none 0 0 := (hfo.z (fun q hq => by rcases hq with h | h; exact h.elim; omega)).ext xb
    have hR := refRight13_any wb ⟨s, v, need, 1, List.replicate n.toNat 0, [], []⟩ _ _ _ _ _ _ _ _ _ fd.fd
    have XB := Lib.hid (x2.trans xb)
    have RA := Lib.hid ra
    have SA := Lib.hid sa
    have HR := Lib.hid hR
    have FV := Lib.hid fb
    have FD := Lib.hid fd
    have LD := Lib.hid fb.run
    clear x2 hown hfo hfd ra sa fb fd hR xb hW2 hxz
    go_enter Tryz.func7, Tryz.ntmps7
    try dsimp only [List.append]
    go_upto_region 1 with (fail)
    rw [HW1.out]
    try rw [hg]
    go_upto_region 3 with (fail)
    go_wp2_with (first
      | ((with_reducible refine opIs ⟨some 10, .alloc 25, _, _, _, _⟩ ?_); refine wpList_allocR rfl 25 rfl _ RA.out ?_)
      | ((with_reducible refine opIs ⟨none, .store 25 (.tmp 10) (.tmp 23), _, _, _, _⟩ ?_); refine wpList_storeR rfl 25 (.tmp 10) (.tmp 23) rfl rfl rfl SA.out ?_)
      | ((with_reducible refine opIs ⟨some 24, .load 25 (.tmp 10), _, _, _, _⟩ ?_); refine wpList_loadR rfl 25 (.tmp 10) rfl rfl LD.out ?_))
    refine HR.out.mono ?_
    rintro r w5 ⟨rfl, x5⟩
    have X5 := Lib.hid (XB.out.trans x5)
    have FV5 := Lib.hid (FV.out.ext x5)
    have FD5 := Lib.hid (FD.out.ext x5)
    have FB5 := Lib.hid (FB.out.ext X5.out)
    clear x5 FV FD LD RA SA HR
    by_cases hnm : Finds.named s v n need
    · rw [decide_eq_true ((right_begun13 n1).2 hnm)]
      have HBN := Lib.hid (begin_named hnm)
      clear hnm hmk
      go_upto_region 6 with (fail)
      have ab := FV5.out.blk
      have zb := FB5.out.blk
      refine wp_region_lit ?_
      refine wpList_load_row rfl 25 (.tmp 10) rfl x rfl 25 _ (0, 0) _ ab Tryz.underlying25 rfl (by kernel_rfl) ?_
      refine wpList_store_row rfl 25 (.tmp 8) (.tmp 28) rfl g (frow s v need 1 (.slice (some ⟨g + 1, 0, none⟩) n.toNat n.toNat) (.slice none 0 0) (.slice none 0 0)) rfl rfl 25 _ zb (by kernel_rfl) rfl (by simp [Value.oneCell']) ?_
      clear ab zb
      go_wp2_with (fail)
      refine bodyPost_ret (v := .tuple #[fval s v need 1 (.slice (some ⟨g + 1, 0, none⟩) n.toNat n.toNat) (.slice none 0 0) (.slice none 0 0), .int .i64 0]) ?_ rfl (by
        rw [HBN.out.1, HBN.out.2]
        exact (gives_z (Z := fun _ => False) 0 FD5.out (X1.out.trans X5.out) (by rw [HG.out]; exact Nat.le_refl _)).fd)
      rw [results_cell_tmp rfl]
      simp [asAddr, Result.andThen, (FB5.out.row s v need 1 (.slice (some ⟨g + 1, 0, none⟩) n.toNat n.toNat) (.slice none 0 0) (.slice none 0 0)).res]
    · rw [decide_eq_false (fun q => hnm ((right_begun13 n1).1 q))]
      have HBN := Lib.hid (begin_unnamed hnm)
      clear hnm hmk
      go_upto_region 5 with (fail)
      have zb := FB5.out.blk
      refine wp_region_lit ?_
      refine wpList_val (w' := w5) rfl (fval 0 0 0 0 (.slice none 0 0) (.slice none 0 0) (.slice none 0 0)) (by kernel_rfl) ?_
      refine wpList_store_row rfl 25 (.tmp 8) (.tmp 27) rfl g (frow 0 0 0 0 (.slice none 0 0) (.slice none 0 0) (.slice none 0 0)) rfl rfl 25 _ zb (by kernel_rfl) rfl (by simp [Value.oneCell']) ?_
      clear zb
      go_wp2_with (fail)
      refine bodyPost_ret (v := .tuple #[fval 0 0 0 0 (.slice none 0 0) (.slice none 0 0) (.slice none 0 0), .int .i64 140]) ?_ rfl (by
        rw [HBN.out.1, HBN.out.2]
        exact ⟨_, _, _, _, _, _, _, _, _, rfl, ⟨Is.none _, Is.none _, Mx.none _⟩, (X1.out.trans X5.out).row (by rw [HG.out]; exact Nat.le_refl _) _⟩)
      rw [results_cell_tmp rfl]
      simp [asAddr, Result.andThen, (FB5.out.row 0 0 0 0 (.slice none 0 0) (.slice none 0 0) (.slice none 0 0)).res]
  · have HBN := Lib.hid (begin_unnamed (s := s) (v := v) (n := n) (need := need) (fun h => hin h.2.2.1))
    by_cases n1 : n < 1
    · clear hin
      go_enter Tryz.func7, Tryz.ntmps7
      try dsimp only [List.append]
      go_upto_region 1 with (fail)
      rw [HW1.out]
      try rw [hg]
      go_upto_region 2 with (fail)
      have zb := FB.out.blk
      refine wp_region_lit ?_
      refine wpList_val (w' := W1) rfl (fval 0 0 0 0 (.slice none 0 0) (.slice none 0 0) (.slice none 0 0)) (by kernel_rfl) ?_
      refine wpList_store_row rfl 25 (.tmp 8) (.tmp 17) rfl g (frow 0 0 0 0 (.slice none 0 0) (.slice none 0 0) (.slice none 0 0)) rfl rfl 25 _ zb (by kernel_rfl) rfl (by simp [Value.oneCell']) ?_
      clear zb
      go_wp2_with (fail)
      refine bodyPost_ret (v := .tuple #[fval 0 0 0 0 (.slice none 0 0) (.slice none 0 0) (.slice none 0 0), .int .i64 140]) ?_ rfl (by
        rw [HBN.out.1, HBN.out.2]
        exact ⟨_, _, _, _, _, _, _, _, _, rfl, ⟨Is.none _, Is.none _, Mx.none _⟩, X1.out.row (by rw [HG.out]; exact Nat.le_refl _) _⟩)
      rw [results_cell_tmp rfl]
      simp [asAddr, Result.andThen, (FB.out.row 0 0 0 0 (.slice none 0 0) (.slice none 0 0) (.slice none 0 0)).res]
    · have n2 : (255 : Int) < n := by omega
      clear hin
      go_enter Tryz.func7, Tryz.ntmps7
      try dsimp only [List.append]
      go_upto_region 1 with (fail)
      rw [HW1.out]
      try rw [hg]
      go_upto_region 2 with (fail)
      have zb := FB.out.blk
      refine wp_region_lit ?_
      refine wpList_val (w' := W1) rfl (fval 0 0 0 0 (.slice none 0 0) (.slice none 0 0) (.slice none 0 0)) (by kernel_rfl) ?_
      refine wpList_store_row rfl 25 (.tmp 8) (.tmp 17) rfl g (frow 0 0 0 0 (.slice none 0 0) (.slice none 0 0) (.slice none 0 0)) rfl rfl 25 _ zb (by kernel_rfl) rfl (by simp [Value.oneCell']) ?_
      clear zb
      go_wp2_with (fail)
      refine bodyPost_ret (v := .tuple #[fval 0 0 0 0 (.slice none 0 0) (.slice none 0 0) (.slice none 0 0), .int .i64 140]) ?_ rfl (by
        rw [HBN.out.1, HBN.out.2]
        exact ⟨_, _, _, _, _, _, _, _, _, rfl, ⟨Is.none _, Is.none _, Mx.none _⟩, X1.out.row (by rw [HG.out]; exact Nat.le_refl _) _⟩)
      rw [results_cell_tmp rfl]
      simp [asAddr, Result.andThen, (FB.out.row 0 0 0 0 (.slice none 0 0) (.slice none 0 0) (.slice none 0 0)).res]
end Go.Proofs.YtfpglkacjecoeaaGreat
namespace Go.Proofs.YtfpglkacjecoeaaGreat
open Go.RowKit

set_option maxRecDepth 100000 in
set_option maxHeartbeats 8000000 in
theorem refLose13_z {Z : Nat → Prop} (w : World) (f : Finds.F) (A : Option Addr) (n c : Nat) (B : Option Addr) (m d : Nat) (C : Option Addr) (k e : Nat) (h : FdZ Z w f A n c B m d C k e) (hz : ∀ q, Z q → q < w.heap.size) (i : Int) :
    Calls Tryz.prog 17 #[fval f.stripe f.version f.need f.phase (.slice A n c) (.slice B m d) (.slice C k e), .int .i64 i] w (GivesZ Z (Finds.loseF f i) (Finds.toldE f i) w) := by
  have HZ := Lib.hid h
  have HZB := Lib.hid hz
  replace h := h.fd
  clear hz
  have q1 := h.u.max
  have q2 := h.u.le
  have q3 := h.v.max
  have q4 := h.v.le
  have q5 := h.s.max
  have q6 := h.s.le
  obtain ⟨g, hg⟩ : ∃ g, w.heap.size = g := ⟨_, rfl⟩
  have s1 := Fb.new w f.stripe f.version f.need f.phase (.slice A n c) (.slice B m d) (.slice C k e) hg
  have xA := Ext.alloc w (.cells #[.int .i64 f.stripe, .int .i64 f.version, .int .i64 f.need, .int .i64 f.phase, .slice A n c, .slice B m d, .slice C k e] 25)
  obtain ⟨W1, hW1⟩ : ∃ W1, w.alloc (.cells #[.int .i64 f.stripe, .int .i64 f.version, .int .i64 f.need, .int .i64 f.phase, .slice A n c, .slice B m d, .slice C k e] 25) = W1 := ⟨_, rfl⟩
  have z1 : W1.heap.size = g + 1 := by rw [← hW1, ← hg]; simp
  rw [hW1] at s1 xA
  have s2 := Fb.new W1 0 0 0 0 (.slice none 0 0) (.slice none 0 0) (.slice none 0 0) z1
  have xB := Ext.alloc W1 (.cells #[.int .i64 0, .int .i64 0, .int .i64 0, .int .i64 0, .slice none 0 0, .slice none 0 0, .slice none 0 0] 25)
  obtain ⟨W0, hW0⟩ : ∃ W0, W1.alloc (.cells #[.int .i64 0, .int .i64 0, .int .i64 0, .int .i64 0, .slice none 0 0, .slice none 0 0, .slice none 0 0] 25) = W0 := ⟨_, rfl⟩
  rw [hW0] at s2 xB
  have z0 : W0.heap.size = g + 1 + 1 := by rw [← hW0]; simp [z1]
  have sA := s1.ext xB
  have XA := Lib.hid (xA.trans xB)
  have HR := Lib.hid (refRight13_any W0 f A n c B m d C k e (h.ext XA.out))
  have SA := Lib.hid sA
  have SZ := Lib.hid s2
  have H := Lib.hid h
  have HG := Lib.hid hg
  have Z0 := Lib.hid z0
  have HW1 := Lib.hid hW1
  have HW0 := Lib.hid hW0
  have no : ¬ Finds.mayTell f i → Finds.loseF f i = f ∧ Finds.toldE f i = 140 := fun h => loseF_no h
  have NO := Lib.hid no
  clear h xA xB s1 s2 z0 z1 no hW1 hW0 sA
  have LN := Lib.hid H.out.u.len
  go_enter Tryz.func17, Tryz.ntmps17
  try dsimp only [List.append]
  go_upto_region 1 with (fail)
  rw [HW1.out, HW0.out]
  clear hg
  have k0 := SA.out.c0
  have k1 := SA.out.c1
  have k2 := SA.out.c2
  have k3 := SA.out.c3
  have k4 := SA.out.c4
  have k5 := SA.out.c5
  have k6 := SA.out.c6
  obtain ⟨MT, hMT⟩ : ∃ MT, decide (Finds.mayTell f i) = MT := ⟨_, rfl⟩
  have HMT := Lib.hid hMT
  clear hMT
  go_cut [20] (fun s wx => ∃ wv : World, wv = wx ∧ s = .bool (!MT) ∧ RowKit.Hid (Ext W0 wx))
  case first =>
    go_wp2_with (fail)
    refine HR.out.mono ?_
    rintro e w1 ⟨rfl, x1⟩
    have k4' := x1.cell k4
    have X1 := Lib.hid x1
    clear x1
    by_cases hr : Finds.right f
    · rw [decide_eq_true hr]
      have HRR := Lib.hid hr
      clear hr
      by_cases h0 : i < 0
      · have HF := Lib.hid (show MT = false by rw [← HMT.out]; exact decide_eq_false (fun q => by have := q.2.1; omega))
        go_wp2_with (fail)
        go_meet
        exact ⟨_, rfl, by rw [HF.out]; rfl, X1⟩
      · by_cases h1 : (n : Int) ≤ i
        · have HF := Lib.hid (show MT = false by rw [← HMT.out]; exact decide_eq_false (fun q => by have := q.2.2; have := LN.out; omega))
          go_wp2_with (fail)
          go_meet
          exact ⟨_, rfl, by rw [HF.out]; rfl, X1⟩
        · have HF := Lib.hid (show MT = true by rw [← HMT.out]; exact decide_eq_true ⟨HRR.out, by omega, by have := LN.out; omega⟩)
          go_wp2_with (fail)
          go_meet
          exact ⟨_, rfl, by rw [HF.out, decide_eq_false (show ¬ i < 0 by omega), decide_eq_false (show ¬ (n : Int) ≤ i by omega)]; rfl, X1⟩
    · rw [decide_eq_false hr]
      have HF := Lib.hid (show MT = false by rw [← HMT.out]; exact decide_eq_false (fun q => hr q.1))
      clear hr
      go_wp2_with (fail)
      go_meet
      exact ⟨_, rfl, by rw [HF.out]; rfl, X1⟩
  case rest =>
  obtain ⟨w1, rfl, rfl, X1⟩ := hcut
  clear k0 k1 k2 k3 k4 k5 k6
  have sA := SA.out.ext X1.out
  have sZ := SZ.out.ext X1.out
  have k0 := sA.c0
  have k1 := sA.c1
  have k2 := sA.c2
  have k3 := sA.c3
  have k4 := sA.c4
  have k5 := sA.c5
  have k6 := sA.c6
  have SA1 := Lib.hid sA
  have SZ1 := Lib.hid sZ
  cases MT with
  | false =>
    have HNO := Lib.hid (NO.out (of_decide_eq_false HMT.out))
    have HRES := Lib.hid (sZ.row f.stripe f.version f.need f.phase (.slice A n c) (.slice B m d) (.slice C k e)).res
    have zb := sZ.blk
    have ab := sA.blk
    clear sA sZ k0 k1 k2 k3 k4 k5 k6
    go_upto_region 2 with (fail)
    refine wp_region_lit ?_
    refine wpList_load_row rfl 25 (.tmp 2) rfl g rfl 25 _ (0, 0) _ ab Tryz.underlying25 rfl (by kernel_rfl) ?_
    refine wpList_store_row rfl 25 (.tmp 4) (.tmp 21) rfl (g + 1) (frow f.stripe f.version f.need f.phase (.slice A n c) (.slice B m d) (.slice C k e)) rfl rfl 25 _ zb (by kernel_rfl) rfl (by simp [Value.oneCell']) ?_
    go_wp2_with (fail)
    have hx : Ext w (w1.setRow (g + 1) (frow f.stripe f.version f.need f.phase (.slice A n c) (.slice B m d) (.slice C k e))) := (XA.out.trans X1.out).row (by rw [HG.out]; omega) _
    refine bodyPost_ret (v := .tuple #[fval f.stripe f.version f.need f.phase (.slice A n c) (.slice B m d) (.slice C k e), .int .i64 140]) ?_ rfl (by rw [HNO.out.1, HNO.out.2]; exact ⟨_, _, _, _, _, _, _, _, _, rfl, HZ.out.ext hx, hx⟩)
    rw [results_cell_tmp rfl]
    simp [asAddr, Result.andThen, HRES.out]
  | true =>
    clear sA sZ
    have hmt : Finds.mayTell f i := of_decide_eq_true HMT.out
    have hi0 := hmt.2.1
    have hin : i < n := by have := hmt.2.2; have := LN.out; omega
    have n255 : n ≤ 255 := by have := (Finds.right_len hmt.1).2; have := LN.out; omega
    have htE : Finds.toldE f i = 0 := if_pos hmt
    have htF : Finds.loseF f i = if f.phase = 1 ∧ Il.get f.marks i.toNat = 2 then { f with marks := f.marks.set i.toNat 0 } else f := by
      unfold Finds.loseF
      by_cases ho : f.phase = 1 ∧ Il.get f.marks i.toNat = 2
      · rw [if_pos ⟨hmt, ho⟩, if_pos ho]
      · rw [if_neg (fun q => ho q.2), if_neg ho]
    have HTF := Lib.hid htF
    have HTE := Lib.hid htE
    have f4 := SA1.out.fz 4
    obtain ⟨iN, rfl⟩ : ∃ iN : Nat, i = (iN : Int) := ⟨i.toNat, by omega⟩
    rw [Int.toNat_natCast] at HTF
    have hiN : iN < n := by omega
    have HL1 := Lib.hid (show g + 1 < w1.heap.size by have := SZ1.out.lt; omega)
    have r1 : (iN : Int) < n := hin
    have r2 : ¬ (iN : Int) < 0 := by omega
    obtain ⟨bm, om, rfl, hcm⟩ := (H.out.u.ext (XA.out.trans X1.out)).rd.intAt hiN
    have HRD := Lib.hid (H.out.u.ext (XA.out.trans X1.out)).rd
    obtain ⟨y, hy⟩ : ∃ y, Il.get f.marks iN = y := ⟨_, rfl⟩
    rw [hy] at hcm HTF
    have HRES := Lib.hid (SZ1.out.row f.stripe f.version f.need f.phase (.slice (some ⟨bm, om, none⟩) n c) (.slice B m d) (.slice C k e)).res
    clear hmt htE htF NO HMT HR hy hin
    by_cases hp : f.phase = 1
    · have e1 : (f.phase != 1) = false := by rw [bne_eq_false_iff_eq]; exact hp
      by_cases hm2 : y = 2
      · have e2 : (y != 2) = false := by rw [bne_eq_false_iff_eq]; exact hm2
        have HF := Lib.hid (show Finds.loseF f (iN : Int) = { f with marks := f.marks.set iN 0 } by rw [HTF.out, if_pos ⟨hp, hm2⟩])
        obtain ⟨i0, hi0', hz0, hz1, hz2⟩ := info_parts int_info
        clear hp hm2
        go_upto_region 7 with (at_builtin; refine wpList_append_rd _ rfl (.tmp 34) (.tmp 36) 22 rfl w1.heap.size 3 i0 _ 1 8 Tryz.underlying22 hi0' hz0 hz1 hz2 rfl (by omega) (.slice none 0 0) 0 [] rfl (World.ownsRow_nil _ _ _ _) (some ⟨bm, om, none⟩) n c (icells f.marks) rfl HRD.out (icells_one f.marks) (by omega) (by unfold maxLen; omega) (Nat.le_refl _) ?_; intro v3 w3 hown hgr hat; rw [Nat.zero_add, List.nil_append] at hown; have OW := Lib.hid hown; have X3 := Lib.hid ((Ext.refl w1).ofGrown hgr (by simp [Value.ownBlock])); obtain ⟨A3, c3, rfl, _, _⟩ := ownsRow_slice hown; clear hown hgr hat)
        obtain ⟨gu, rfl, hgu1, hgu2⟩ := own_addr OW.out (by omega)
        have OWL := OW.out
        rw [← LN.out] at OWL
        have hi4 := (Own.mk (base := w1.heap.size) (e := 3) OWL).ints
        rw [LN.out] at hi4
        have hcap := hi4.le
        have hmax := hi4.max
        obtain ⟨b9, o9, e9, hc9⟩ := hi4.rd.intAt hiN
        injection e9 with e9
        injection e9 with e9 e10
        subst e9 e10
        rw [Nat.zero_add] at hc9
        have f9 := OW.out.frozenAt iN
        have HGU := Lib.hid hgu1
        have hg1 := HL1.out
        have S3 := SA1.out.ext X3.out
        have Z3 := SZ1.out.ext X3.out
        obtain ⟨o5, _⟩ := OWL.stored iN (.int .i64 0)
        have h5 : (icells f.marks).set iN (.int .i64 0) = icells (f.marks.set iN 0) := by unfold icells; rw [List.map_set]
        rw [h5] at o5
        have hgg : gu ≠ g := by omega
        have S5 := S3.far (p := ⟨gu, iN, none⟩) hgg (.int .i64 0)
        have Z5 := Z3.far (p := ⟨gu, iN, none⟩) (by show gu ≠ g + 1; omega) (.int .i64 0)
        have x5 := (XA.out.trans (X1.out.trans X3.out)).set_ (p := ⟨gu, iN, none⟩) (by rw [HG.out]; show g ≤ gu; omega) (.int .i64 0)
        obtain ⟨l, hl⟩ : ∃ l, f.marks.set iN 0 = l := ⟨_, rfl⟩
        have hll : l.length = n := by rw [← hl, List.length_set]; exact LN.out
        rw [hl] at HF o5
        rw [LN.out] at o5
        rw [← hll] at o5
        have HLL := Lib.hid hll
        clear k0 k1 k2 k3 k4 k5 k6 f4 hcm hi4 OWL
        go_upto_region 8 with (fail)
        obtain ⟨w5, hw5⟩ : ∃ w5, w3.setCell ⟨gu, iN, none⟩ (.int .i64 0) = w5 := ⟨_, rfl⟩
        rw [hw5] at S5 Z5 x5 o5 ⊢
        have k4 := S5.c4
        have f4 := S5.fz 4
        have S6 := Lib.hid (S5.set4 (.slice (some ⟨gu, 0, none⟩) n c3))
        have Z6 := Lib.hid (Z5.far (p := ⟨g, 4, none⟩) (by show g ≠ g + 1; omega) (.slice (some ⟨gu, 0, none⟩) n c3))
        have X6 := Lib.hid (x5.set_ (p := ⟨g, 4, none⟩) (by rw [HG.out]; exact Nat.le_refl _) (.slice (some ⟨gu, 0, none⟩) n c3))
        have o6 := ownsRow_far o5 (p := ⟨g, 4, none⟩) (by show g < w1.heap.size; omega) (.slice (some ⟨gu, 0, none⟩) n c3)
        clear hw5 S5 Z5 x5 o5 h5 hc9 f9 hll hl
        go_upto_region 9 with (fail)
        obtain ⟨w6, hw6⟩ : ∃ w6, w5.setCell ⟨g, 4, none⟩ (.slice (some ⟨gu, 0, none⟩) n c3) = w6 := ⟨_, rfl⟩
        rw [hw6] at S6 Z6 X6 o6 ⊢
        have OW6 := Lib.hid (show w6.ownsRow w1.heap.size 3 1 (.slice (some ⟨gu, 0, none⟩) n c3) l.length (icells l) by have := o6; rw [HLL.out] at this ⊢; exact this)
        clear hw6 k4 f4 o6
        have ab := S6.out.blk
        have zb := Z6.out.blk
        refine wp_region_lit ?_
        refine wpList_load_row rfl 25 (.tmp 2) rfl g rfl 25 _ (0, 0) _ ab Tryz.underlying25 rfl (by kernel_rfl) ?_
        refine wpList_store_row rfl 25 (.tmp 4) (.tmp 43) rfl (g + 1) (frow f.stripe f.version f.need f.phase (.slice (some ⟨gu, 0, none⟩) n c3) (.slice B m d) (.slice C k e)) rfl rfl 25 _ zb (by kernel_rfl) rfl (by simp [Value.oneCell']) ?_
        clear ab zb
        go_wp2_with (fail)
        have hend := lose_endZ (f := f) 0 HZ.out HZB.out OW6.out HLL.out HL1.out X6.out (by rw [HG.out]; omega)
        refine bodyPost_ret (v := .tuple #[fval f.stripe f.version f.need f.phase (.slice (some ⟨gu, 0, none⟩) n c3) (.slice B m d) (.slice C k e), .int .i64 0]) ?_ rfl (by rw [HF.out, HTE.out]; exact hend)
        rw [results_cell_tmp rfl]
        simp [asAddr, Result.andThen, (Z6.out.row f.stripe f.version f.need f.phase (.slice (some ⟨gu, 0, none⟩) n c3) (.slice B m d) (.slice C k e)).res]
      · have e2 : (y != 2) = true := by rw [bne_iff_ne]; exact hm2
        have HF := Lib.hid (show Finds.loseF f (iN : Int) = f by rw [HTF.out, if_neg (fun q => hm2 q.2)])
        have ab := SA1.out.blk
        have zb := SZ1.out.blk
        clear hp hm2
        go_upto_region 4 with (fail)
        refine wp_region_lit ?_
        refine wpList_load_row rfl 25 (.tmp 2) rfl g rfl 25 _ (0, 0) _ ab Tryz.underlying25 rfl (by kernel_rfl) ?_
        refine wpList_store_row rfl 25 (.tmp 4) (.tmp 33) rfl (g + 1) (frow f.stripe f.version f.need f.phase (.slice (some ⟨bm, om, none⟩) n c) (.slice B m d) (.slice C k e)) rfl rfl 25 _ zb (by kernel_rfl) rfl (by simp [Value.oneCell']) ?_
        clear ab zb
        go_wp2_with (fail)
        have hx : Ext w (w1.setRow (g + 1) (frow f.stripe f.version f.need f.phase (.slice (some ⟨bm, om, none⟩) n c) (.slice B m d) (.slice C k e))) := (XA.out.trans X1.out).row (by rw [HG.out]; omega) _
        refine bodyPost_ret (v := .tuple #[fval f.stripe f.version f.need f.phase (.slice (some ⟨bm, om, none⟩) n c) (.slice B m d) (.slice C k e), .int .i64 0]) ?_ rfl (by rw [HF.out, HTE.out]; exact ⟨_, _, _, _, _, _, _, _, _, rfl, HZ.out.ext hx, hx⟩)
        rw [results_cell_tmp rfl]
        simp [asAddr, Result.andThen, HRES.out]
    · have e1 : (f.phase != 1) = true := by rw [bne_iff_ne]; exact hp
      have HF := Lib.hid (show Finds.loseF f (iN : Int) = f by rw [HTF.out, if_neg (fun q => hp q.1)])
      have ab := SA1.out.blk
      have zb := SZ1.out.blk
      clear hp
      go_upto_region 4 with (fail)
      refine wp_region_lit ?_
      refine wpList_load_row rfl 25 (.tmp 2) rfl g rfl 25 _ (0, 0) _ ab Tryz.underlying25 rfl (by kernel_rfl) ?_
      refine wpList_store_row rfl 25 (.tmp 4) (.tmp 33) rfl (g + 1) (frow f.stripe f.version f.need f.phase (.slice (some ⟨bm, om, none⟩) n c) (.slice B m d) (.slice C k e)) rfl rfl 25 _ zb (by kernel_rfl) rfl (by simp [Value.oneCell']) ?_
      clear ab zb
      go_wp2_with (fail)
      have hx : Ext w (w1.setRow (g + 1) (frow f.stripe f.version f.need f.phase (.slice (some ⟨bm, om, none⟩) n c) (.slice B m d) (.slice C k e))) := (XA.out.trans X1.out).row (by rw [HG.out]; omega) _
      refine bodyPost_ret (v := .tuple #[fval f.stripe f.version f.need f.phase (.slice (some ⟨bm, om, none⟩) n c) (.slice B m d) (.slice C k e), .int .i64 0]) ?_ rfl (by rw [HF.out, HTE.out]; exact ⟨_, _, _, _, _, _, _, _, _, rfl, HZ.out.ext hx, hx⟩)
      rw [results_cell_tmp rfl]
      simp [asAddr, Result.andThen, HRES.out]
end Go.Proofs.YtfpglkacjecoeaaGreat
namespace Go.Proofs.YtfpglkacjecoeaaGreat
open Go.RowKit

theorem Tx.atU {w1 W : World} {h base : Nat} {st ve ne ph : Int} {U V S : Value} {L lv : List Int} {cs : List Value} {j n : Nat} (t : Tx w1 W h base st ve ne ph U V S (L.take j) lv cs) (hl : L.length = n) (hj : j ≤ n) : W.ownsRow base 3 1 U j (icells (L.take j)) := by
  have hu := t.u
  rw [List.length_take, Nat.min_eq_left (by omega)] at hu
  exact hu
set_option maxRecDepth 100000 in
set_option maxHeartbeats 16000000 in
theorem refTold13_z {Z : Nat → Prop} (w : World) (f : Finds.F) (A : Option Addr) (n c : Nat) (B : Option Addr) (m d : Nat) (C : Option Addr) (k e : Nat) (h : FdZ Z w f A n c B m d C k e) (hz : ∀ q, Z q → q < w.heap.size) (i er : Int) (D : Option Addr) (q c9 : Nat) (b : List UInt8) (hb : BsZ Z w D q c9 b) :
    Calls Tryz.prog 15 #[fval f.stripe f.version f.need f.phase (.slice A n c) (.slice B m d) (.slice C k e), .int .i64 i, .int .i64 er, .slice D q c9] w (GivesZ Z (Finds.toldF f i er b) (Finds.toldE f i) w) := by
  have HZ := Lib.hid h
  have HZB := Lib.hid hz
  have HBZ := Lib.hid hb
  replace h := h.fd
  replace hb := hb.bs
  clear hz
  have q1 := h.u.max
  have q2 := h.u.le
  have q3 := h.v.max
  have q4 := h.v.le
  have q5 := h.s.max
  have q6 := h.s.le
  have q7 := hb.max
  have q8 := hb.le
  obtain ⟨g, hg⟩ : ∃ g, w.heap.size = g := ⟨_, rfl⟩
  have s1 := Fb.new w f.stripe f.version f.need f.phase (.slice A n c) (.slice B m d) (.slice C k e) hg
  have xA := Ext.alloc w (.cells #[.int .i64 f.stripe, .int .i64 f.version, .int .i64 f.need, .int .i64 f.phase, .slice A n c, .slice B m d, .slice C k e] 25)
  obtain ⟨W1, hW1⟩ : ∃ W1, w.alloc (.cells #[.int .i64 f.stripe, .int .i64 f.version, .int .i64 f.need, .int .i64 f.phase, .slice A n c, .slice B m d, .slice C k e] 25) = W1 := ⟨_, rfl⟩
  have z1 : W1.heap.size = g + 1 := by rw [← hW1, ← hg]; simp
  rw [hW1] at s1 xA
  have s2 := Fb.new W1 0 0 0 0 (.slice none 0 0) (.slice none 0 0) (.slice none 0 0) z1
  have xB := Ext.alloc W1 (.cells #[.int .i64 0, .int .i64 0, .int .i64 0, .int .i64 0, .slice none 0 0, .slice none 0 0, .slice none 0 0] 25)
  obtain ⟨W0, hW0⟩ : ∃ W0, W1.alloc (.cells #[.int .i64 0, .int .i64 0, .int .i64 0, .int .i64 0, .slice none 0 0, .slice none 0 0, .slice none 0 0] 25) = W0 := ⟨_, rfl⟩
  rw [hW0] at s2 xB
  have z0 : W0.heap.size = g + 1 + 1 := by rw [← hW0]; simp [z1]
  have sA := s1.ext xB
  have XA := Lib.hid (xA.trans xB)
  have HR := Lib.hid (refRight13_any W0 f A n c B m d C k e (h.ext XA.out))
  have SA := Lib.hid sA
  have SZ := Lib.hid s2
  have H := Lib.hid h
  have HB := Lib.hid hb
  have HG := Lib.hid hg
  have Z0 := Lib.hid z0
  have HW1 := Lib.hid hW1
  have HW0 := Lib.hid hW0
  have no : ¬ Finds.mayTell f i → Finds.toldF f i er b = f ∧ Finds.toldE f i = 140 := fun h => toldE_no h er b
  have NO := Lib.hid no
  clear h hb xA xB s1 s2 z0 z1 no hW1 hW0 sA
  have LN := Lib.hid H.out.u.len
  go_enter Tryz.func15, Tryz.ntmps15
  try dsimp only [List.append]
  go_upto_region 1 with (fail)
  rw [HW1.out, HW0.out]
  clear hg
  have k0 := SA.out.c0
  have k1 := SA.out.c1
  have k2 := SA.out.c2
  have k3 := SA.out.c3
  have k4 := SA.out.c4
  have k5 := SA.out.c5
  have k6 := SA.out.c6
  obtain ⟨MT, hMT⟩ : ∃ MT, decide (Finds.mayTell f i) = MT := ⟨_, rfl⟩
  have HMT := Lib.hid hMT
  clear hMT
  go_cut [27] (fun s wx => ∃ wv : World, wv = wx ∧ s = .bool (!MT) ∧ RowKit.Hid (Ext W0 wx))
  case first =>
    go_wp2_with (fail)
    refine HR.out.mono ?_
    rintro e w1 ⟨rfl, x1⟩
    have k4' := x1.cell k4
    have X1 := Lib.hid x1
    clear x1
    by_cases hr : Finds.right f
    · rw [decide_eq_true hr]
      have HRR := Lib.hid hr
      clear hr
      by_cases h0 : i < 0
      · have HF := Lib.hid (show MT = false by rw [← HMT.out]; exact decide_eq_false (fun q => by have := q.2.1; omega))
        go_wp2_with (fail)
        go_meet
        exact ⟨_, rfl, by rw [HF.out]; rfl, X1⟩
      · by_cases h1 : (n : Int) ≤ i
        · have HF := Lib.hid (show MT = false by rw [← HMT.out]; exact decide_eq_false (fun q => by have := q.2.2; have := LN.out; omega))
          go_wp2_with (fail)
          go_meet
          exact ⟨_, rfl, by rw [HF.out]; rfl, X1⟩
        · have HF := Lib.hid (show MT = true by rw [← HMT.out]; exact decide_eq_true ⟨HRR.out, by omega, by have := LN.out; omega⟩)
          go_wp2_with (fail)
          go_meet
          exact ⟨_, rfl, by rw [HF.out, decide_eq_false (show ¬ i < 0 by omega), decide_eq_false (show ¬ (n : Int) ≤ i by omega)]; rfl, X1⟩
    · rw [decide_eq_false hr]
      have HF := Lib.hid (show MT = false by rw [← HMT.out]; exact decide_eq_false (fun q => hr q.1))
      clear hr
      go_wp2_with (fail)
      go_meet
      exact ⟨_, rfl, by rw [HF.out]; rfl, X1⟩
  case rest =>
  obtain ⟨w1, rfl, rfl, X1⟩ := hcut
  clear k0 k1 k2 k3 k4 k5 k6
  have sA := SA.out.ext X1.out
  have sZ := SZ.out.ext X1.out
  have k0 := sA.c0
  have k1 := sA.c1
  have k2 := sA.c2
  have k3 := sA.c3
  have k4 := sA.c4
  have k5 := sA.c5
  have k6 := sA.c6
  have SA1 := Lib.hid sA
  have SZ1 := Lib.hid sZ
  cases MT with
  | false =>
    have HNO := Lib.hid (NO.out (of_decide_eq_false HMT.out))
    have HRES := Lib.hid (sZ.row f.stripe f.version f.need f.phase (.slice A n c) (.slice B m d) (.slice C k e)).res
    have zb := sZ.blk
    have ab := sA.blk
    clear sA sZ k0 k1 k2 k3 k4 k5 k6
    go_upto_region 2 with (fail)
    refine wp_region_lit ?_
    refine wpList_load_row rfl 25 (.tmp 4) rfl g rfl 25 _ (0, 0) _ ab Tryz.underlying25 rfl (by kernel_rfl) ?_
    refine wpList_store_row rfl 25 (.tmp 8) (.tmp 28) rfl (g + 1) (frow f.stripe f.version f.need f.phase (.slice A n c) (.slice B m d) (.slice C k e)) rfl rfl 25 _ zb (by kernel_rfl) rfl (by simp [Value.oneCell']) ?_
    go_wp2_with (fail)
    have hx : Ext w (w1.setRow (g + 1) (frow f.stripe f.version f.need f.phase (.slice A n c) (.slice B m d) (.slice C k e))) := (XA.out.trans X1.out).row (by rw [HG.out]; omega) _
    refine bodyPost_ret (v := .tuple #[fval f.stripe f.version f.need f.phase (.slice A n c) (.slice B m d) (.slice C k e), .int .i64 140]) ?_ rfl (by rw [HNO.out.1, HNO.out.2]; exact ⟨_, _, _, _, _, _, _, _, _, rfl, HZ.out.ext hx, hx⟩)
    rw [results_cell_tmp rfl]
    simp [asAddr, Result.andThen, HRES.out]
  | true =>
    clear sA sZ
    have hmt : Finds.mayTell f i := of_decide_eq_true HMT.out
    have hright := hmt.1
    have hi0 := hmt.2.1
    have hin : i < n := by have := hmt.2.2; have := LN.out; omega
    have n255 : n ≤ 255 := by have := (Finds.right_len hright).2; have := LN.out; omega
    have m255 : m ≤ 255 := by have := Finds.which_len hright; have := Finds.cnt_le f.marks 1; have := H.out.v.len; have := LN.out; omega
    have LS := Lib.hid H.out.s.len
    have LV := Lib.hid H.out.v.len
    have LB := Lib.hid HB.out.len
    have k255 : k ≤ 255 := by have := hright.2.2.2.1; have := Finds.cnt_le f.marks 1; have := LS.out; have := LN.out; omega
    have htE : Finds.toldE f i = 0 := if_pos hmt
    have HTE := Lib.hid htE
    have HNEED := Lib.hid (show 1 ≤ f.need ∧ f.need ≤ n by have := Finds.right_need hright; rw [LN.out] at this; exact this)
    obtain ⟨iN, rfl⟩ : ∃ iN : Nat, i = (iN : Int) := ⟨i.toNat, by omega⟩
    have hiN : iN < n := by omega
    have HL1 := Lib.hid (show g + 1 < w1.heap.size by have := SZ1.out.lt; omega)
    have r1 : (iN : Int) < n := hin
    have r2 : ¬ (iN : Int) < 0 := by omega
    obtain ⟨bm, om, rfl, hcm⟩ := (H.out.u.ext (XA.out.trans X1.out)).rd.intAt hiN
    obtain ⟨y, hy⟩ : ∃ y, Il.get f.marks iN = y := ⟨_, rfl⟩
    rw [hy] at hcm
    have HRES := Lib.hid (SZ1.out.row f.stripe f.version f.need f.phase (.slice (some ⟨bm, om, none⟩) n c) (.slice B m d) (.slice C k e)).res
    have HSHUT := Lib.hid (fun (q : ¬ (f.phase = 1 ∧ y = 0)) => (show Finds.toldF f (iN : Int) er b = f from if_neg (fun r => q ⟨r.2.1, by rw [← hy]; exact r.2.2⟩)))
    have HOPEN := Lib.hid (fun (p : f.phase = 1) (q : y = 0) => (show Finds.toldF f (iN : Int) er b = { Finds.told0 f iN er b with phase := if (Finds.cnt (Finds.told0 f iN er b).marks 1 : Int) = f.need then 2 else if (f.marks.length : Int) - f.need < Finds.cnt (Finds.told0 f iN er b).marks 2 then 3 else 1 } by
      rw [show Finds.toldF f (iN : Int) er b = Finds.phased (Finds.told0 f iN er b) from if_pos ⟨hmt, p, by rw [← q, ← hy]; rfl⟩]
      exact Finds.ref_phased hright (by rw [LN.out]; exact hiN) p (by rw [hy]; exact q) er b))
    clear hmt htE NO HMT HR hy hin hright
    by_cases hp : f.phase = 1
    · have e1 : (f.phase != 1) = false := by rw [bne_eq_false_iff_eq]; exact hp
      by_cases hm2 : y = 0
      · have e2 : (y != 0) = false := by rw [bne_eq_false_iff_eq]; exact hm2
        have HTF := Lib.hid (HOPEN.out hp hm2)
        obtain ⟨i0, hi0', hz0, hz1, hz2⟩ := info_parts int_info
        obtain ⟨ib, hib, hb0, hb1, hb2⟩ := info_parts bytes_info
        obtain ⟨GT, hGT⟩ : ∃ GT, Finds.gets f er b = GT := ⟨_, rfl⟩
        have HGT := Lib.hid hGT
        clear hp hm2 HOPEN HSHUT hGT
        go_upto_region 5 with (fail)
        go_cut [10] (fun s10 wx => ∃ wv : World, wv = wx ∧ s10 = .bool GT ∧ wx = w1)
        case first =>
          as_aux_lemma =>
            by_cases t1 : er = 0
            · have u1 : (er == 0) = true := by rw [beq_iff_eq]; exact t1
              by_cases t2 : q ≤ 65536
              · have u2 : (q : Int) ≤ 65536 := by omega
                have u2n : decide ((q : Int) ≤ 65536) = true := decide_eq_true u2
                by_cases t3 : k = 0
                · have u3 : ((k : Int) == 0) = true := by rw [beq_iff_eq]; omega
                  have u3n : (k == 0) = true := by rw [beq_iff_eq]; exact t3
                  have HV := Lib.hid (show GT = true by rw [← HGT.out]; unfold Finds.gets Finds.fitsL; rw [LB.out, LS.out]; simp [t1, t2, t3])
                  clear t1 t2 t3
                  go_wp2_with (fail)
                  go_meet
                  exact ⟨_, rfl, by rw [HV.out], rfl⟩
                · have u3 : ((k : Int) == 0) = false := by rw [beq_eq_false_iff_ne]; omega
                  have u3n : (k == 0) = false := by rw [beq_eq_false_iff_ne]; exact t3
                  obtain ⟨bs, os, A0, n0, c0', rfl, c00, hb0⟩ := (H.out.s.ext (XA.out.trans X1.out)).at_ (i := 0) (by omega)
                  rw [Nat.add_zero] at c00
                  have r5 : (0 : Int) < k := by omega
                  have HL0 := Lib.hid (show (f.shards.getD 0 []).length = n0 from hb0.len)
                  have p3 := hb0.max
                  have p4 := hb0.le
                  clear hb0
                  by_cases t4 : n0 = q
                  · have HV := Lib.hid (show GT = true by rw [← HGT.out]; unfold Finds.gets Finds.fitsL; rw [LB.out, LS.out, HL0.out]; simp [t1, t2, t4])
                    have u4 : ((n0 : Int) == (q : Int)) = true := by rw [beq_iff_eq]; omega
                    have u4n : (n0 == q) = true := by rw [beq_iff_eq]; exact t4
                    clear t1 t2 t3 t4
                    go_wp2_with (fail)
                    go_meet
                    exact ⟨_, rfl, by rw [HV.out], rfl⟩
                  · have t4' : ¬ q = n0 := fun x => t4 x.symm
                    have HV := Lib.hid (show GT = false by rw [← HGT.out]; unfold Finds.gets Finds.fitsL; rw [LB.out, LS.out, HL0.out]; simp [t1, t2, t3, t4'])
                    have u4 : ((n0 : Int) == (q : Int)) = false := by rw [beq_eq_false_iff_ne]; omega
                    have u4n : (n0 == q) = false := by rw [beq_eq_false_iff_ne]; exact t4
                    clear t1 t2 t3 t4 t4'
                    go_wp2_with (fail)
                    go_meet
                    exact ⟨_, rfl, by rw [HV.out], rfl⟩
              · have u2 : ¬ (q : Int) ≤ 65536 := by omega
                have u2n : decide ((q : Int) ≤ 65536) = false := decide_eq_false u2
                have HV := Lib.hid (show GT = false by rw [← HGT.out]; unfold Finds.gets Finds.fitsL; rw [LB.out]; simp [t2])
                clear t1 t2
                go_wp2_with (fail)
                go_meet
                exact ⟨_, rfl, by rw [HV.out], rfl⟩
            · have u1 : (er == 0) = false := by rw [beq_eq_false_iff_ne]; exact t1
              have HV := Lib.hid (show GT = false by rw [← HGT.out]; unfold Finds.gets; simp [t1])
              clear t1
              go_wp2_with (fail)
              go_meet
              exact ⟨_, rfl, by rw [HV.out], rfl⟩
        case rest =>
        obtain ⟨w1, rfl, rfl, rfl⟩ := hcut
        obtain ⟨h, wa, wb, hhz, ra, sa, fb, xb⟩ := find_var w1 f.stripe f.version f.need 1 none 0 0 none 0 0 none 0 0
        have T0 := Lib.hid (show Tx w1 wb h wb.heap.size f.stripe f.version f.need 1 (.slice none 0 0) (.slice none 0 0) (.slice none 0 0) [] [] [] from ⟨fb, World.ownsRow_nil _ _ _ _, World.ownsRow_nil _ _ _ _, World.ownsRow_nil _ _ _ _, fun b hb => by simp [Value.ownBlock] at hb, xb, fb.lt, by omega, Nat.le_refl _⟩)
        have HHG := Lib.hid (show g + 1 < h by have := HL1.out; omega)
        have RA := Lib.hid ra
        have SA := Lib.hid sa
        obtain ⟨base, hbase⟩ : ∃ base, wb.heap.size = base := ⟨_, rfl⟩
        rw [hbase] at T0
        obtain ⟨L, hL⟩ : ∃ L, f.marks.set iN (if GT then 1 else 2) = L := ⟨_, rfl⟩
        have HLL := Lib.hid (show L.length ≤ 255 by rw [← hL, List.length_set, LN.out]; exact n255)
        have HLN := Lib.hid (show L.length = n by rw [← hL, List.length_set, LN.out])
        have HL := Lib.hid hL
        clear ra sa fb xb hbase hhz hL hcm
        go_upto_region 7 with (first
          | ((with_reducible refine opIs ⟨some 11, .alloc 25, _, _, _, _⟩ ?_); refine wpList_allocR rfl 25 rfl _ RA.out ?_)
          | ((with_reducible refine opIs ⟨none, .store 25 (.tmp 11) (.tmp 70), _, _, _, _⟩ ?_); refine wpList_storeR rfl 25 (.tmp 11) (.tmp 70) rfl rfl rfl SA.out ?_))
        clear k0 k1 k2 k3 k4 k5 k6
        go_wp2_with (fail)
        go_loopw [12, 13] (fun s12 _ wr => ∃ (j : Nat) (V : Value), j ≤ n ∧ s12 = .int .i64 (j : Int) ∧ RowKit.Hid (Tx w1 wr h base f.stripe f.version f.need 1 V (.slice none 0 0) (.slice none 0 0) (L.take j) [] [])) (fun s12 _ _ => n - (intOf s12).toNat)
        case atStart => exact ⟨0, _, by omega, rfl, by rw [List.take_zero]; exact T0⟩
        case round =>
          obtain ⟨j, V, hj, rfl, T⟩ := hrel
          have k4 := T.out.x.cell SA1.out.c4
          have k5 := T.out.x.cell SA1.out.c5
          have k6 := T.out.x.cell SA1.out.c6
          by_cases hlt : j < n
          · have r3 : (j : Int) < n := by omega
            obtain ⟨bm', om', e8, hcj⟩ := (H.out.u.ext ((XA.out.trans X1.out).trans T.out.x)).rd.intAt hlt
            injection e8 with e8
            injection e8 with e8 e9
            subst e8 e9
            have x4 := T.out.fb.c4
            have hln : j ≤ 255 := by have := HLL.out; have := HLN.out; omega
            have hsn : L.take (j + 1) = L.take j ++ [Il.get L j] := by rw [List.take_succ_eq_append_getElem (by rw [HLN.out]; exact hlt), Il.get_of_lt (by rw [HLN.out]; exact hlt)]
            by_cases hji : j = iN
            · subst hji
              rcases Bool.eq_false_or_eq_true GT with rfl | rfl
              · have hg1 : Il.get L j = 1 := by rw [← HL.out]; exact Finds.get_set_eq (by rw [LN.out]; exact hlt) _
                rw [hg1] at hsn
                have HSN := Lib.hid hsn
                have T4 := Lib.hid (T.out.ext (Ext.alloc wr (.cells #[.int .i64 1] 3)))
                have HU4 := Lib.hid (T4.out.atU HLN.out hj)
                clear hsn hg1
                go_wp2_with (at_builtin; refine wpList_append_rd _ rfl (.tmp 93) (.tmp 95) 22 rfl base 3 i0 _ 1 8 Tryz.underlying22 hi0' hz0 hz1 hz2 rfl (by omega) V j (icells (L.take j)) rfl HU4.out (some ⟨wr.heap.size, 0, none⟩) 1 1 [.int .i64 1] rfl (Rd.lit wr #[_] _) (by simp [Value.oneCell']) (by omega) (by unfold maxLen; omega) T4.out.hs ?_; intro v5 w5 hown hgr hat; obtain ⟨A5, c5, rfl, ha5, hb5⟩ := ownsRow_slice hown; have kb := T4.out.keptU hgr; have kc5 := kb.c4; have kf5 := kb.fz 4; clear kb)
                have hl1 : (L.take (j + 1)).length = j + 1 := by rw [List.length_take]; have := HLN.out; omega
                have hown2 : w5.ownsRow base 3 1 (.slice A5 (j + 1) c5) (L.take (j + 1)).length (icells (L.take (j + 1))) := by rw [hl1, HSN.out, icells_append]; exact hown
                exact ⟨⟨j + 1, _, by omega, by go_num, Lib.hid (T4.out.growU hgr hown2 hat)⟩, by simp [intOf]; omega⟩
              · have hg1 : Il.get L j = 2 := by rw [← HL.out]; exact Finds.get_set_eq (by rw [LN.out]; exact hlt) _
                rw [hg1] at hsn
                have HSN := Lib.hid hsn
                have T4 := Lib.hid (T.out.ext (Ext.alloc wr (.cells #[.int .i64 2] 3)))
                have HU4 := Lib.hid (T4.out.atU HLN.out hj)
                clear hsn hg1
                go_wp2_with (at_builtin; refine wpList_append_rd _ rfl (.tmp 93) (.tmp 95) 22 rfl base 3 i0 _ 1 8 Tryz.underlying22 hi0' hz0 hz1 hz2 rfl (by omega) V j (icells (L.take j)) rfl HU4.out (some ⟨wr.heap.size, 0, none⟩) 1 1 [.int .i64 2] rfl (Rd.lit wr #[_] _) (by simp [Value.oneCell']) (by omega) (by unfold maxLen; omega) T4.out.hs ?_; intro v5 w5 hown hgr hat; obtain ⟨A5, c5, rfl, ha5, hb5⟩ := ownsRow_slice hown; have kb := T4.out.keptU hgr; have kc5 := kb.c4; have kf5 := kb.fz 4; clear kb)
                have hl1 : (L.take (j + 1)).length = j + 1 := by rw [List.length_take]; have := HLN.out; omega
                have hown2 : w5.ownsRow base 3 1 (.slice A5 (j + 1) c5) (L.take (j + 1)).length (icells (L.take (j + 1))) := by rw [hl1, HSN.out, icells_append]; exact hown
                exact ⟨⟨j + 1, _, by omega, by go_num, Lib.hid (T4.out.growU hgr hown2 hat)⟩, by simp [intOf]; omega⟩
            · have e3 : ((j : Int) == (iN : Int)) = false := by rw [beq_eq_false_iff_ne]; omega
              have e3n : (j == iN) = false := by rw [beq_eq_false_iff_ne]; exact hji
              obtain ⟨yj, hyj⟩ : ∃ yj, Il.get f.marks j = yj := ⟨_, rfl⟩
              have hg1 : Il.get L j = yj := by rw [← HL.out, ← hyj]; exact Finds.get_set_ne (fun x => hji x.symm) _
              rw [hg1] at hsn
              rw [hyj] at hcj
              have HSN := Lib.hid hsn
              have T4 := Lib.hid (T.out.ext (Ext.alloc wr (.cells #[.int .i64 yj] 3)))
              have HU4 := Lib.hid (T4.out.atU HLN.out hj)
              clear hsn hg1 hyj hji
              go_wp2_with (at_builtin; refine wpList_append_rd _ rfl (.tmp 93) (.tmp 95) 22 rfl base 3 i0 _ 1 8 Tryz.underlying22 hi0' hz0 hz1 hz2 rfl (by omega) V j (icells (L.take j)) rfl HU4.out (some ⟨wr.heap.size, 0, none⟩) 1 1 [.int .i64 yj] rfl (Rd.lit wr #[_] _) (by simp [Value.oneCell']) (by omega) (by unfold maxLen; omega) T4.out.hs ?_; intro v5 w5 hown hgr hat; obtain ⟨A5, c5, rfl, ha5, hb5⟩ := ownsRow_slice hown; have kb := T4.out.keptU hgr; have kc5 := kb.c4; have kf5 := kb.fz 4; clear kb)
              have hl1 : (L.take (j + 1)).length = j + 1 := by rw [List.length_take]; have := HLN.out; omega
              have hown2 : w5.ownsRow base 3 1 (.slice A5 (j + 1) c5) (L.take (j + 1)).length (icells (L.take (j + 1))) := by rw [hl1, HSN.out, icells_append]; exact hown
              exact ⟨⟨j + 1, _, by omega, by go_num, Lib.hid (T4.out.growU hgr hown2 hat)⟩, by simp [intOf]; omega⟩
          · have r3 : ¬ (j : Int) < n := by omega
            have hall : L.take j = L := List.take_of_length_le (by rw [HLN.out]; omega)
            rw [hall] at T
            obtain ⟨cs, hcs⟩ := HZ.out
            have HCS := Lib.hid hcs
            have fc := hcs wr (Aw.of ((XA.out.trans X1.out).trans T.out.x))
            have HVB := Lib.hid (H.out.v.ext ((XA.out.trans X1.out).trans T.out.x)).rd
            have x5 := T.out.fb.c5
            clear hall hcs fc hlt
            go_upto_region 17 with (at_builtin; refine wpList_append_rd _ rfl (.tmp 99) (.tmp 101) 22 rfl base 3 i0 _ 1 8 Tryz.underlying22 hi0' hz0 hz1 hz2 rfl (by omega) (.slice none 0 0) 0 [] rfl (World.ownsRow_nil _ _ _ _) B m d (icells f.which) rfl HVB.out (icells_one f.which) (by omega) (by unfold maxLen; omega) T.out.hs ?_; intro v5 w5 hown hgr hat; rw [Nat.zero_add, List.nil_append] at hown; obtain ⟨A5, c5, rfl, ha5, hb5⟩ := ownsRow_slice hown; have kb := T.out.keptV hgr; have kc5 := kb.c5; have kf5 := kb.fz 5; clear kb)
            have hown2 : w5.ownsRow base 3 1 (.slice A5 m c5) f.which.length (icells f.which) := by rw [LV.out]; exact hown
            have T5 := Lib.hid (T.out.growV hgr hown2 hat)
            clear hown hown2 hgr hat kc5 kf5 x5 k4 k5 k6
            obtain ⟨W5, hW5⟩ : ∃ W5, w5.setCell ⟨h, 5, none⟩ (.slice A5 m c5) = W5 := ⟨_, rfl⟩
            rw [hW5] at T5 ⊢
            clear hW5
            have k6 := T5.out.x.cell SA1.out.c6
            have x6 := T5.out.fb.c6
            have fc5 := HCS.out W5 (Aw.of ((XA.out.trans X1.out).trans T5.out.x))
            have HSR := Lib.hid fc5.rd
            have HSO := Lib.hid fc5.rows.one
            have HSL := Lib.hid (show cs.length = k by rw [fc5.rows.len, LS.out])
            clear fc5
            go_upto_region 18 with (at_builtin; refine wpList_append_rd _ rfl (.tmp 105) (.tmp 107) 23 rfl base 46 ib _ 1 24 Tryz.underlying23 hib hb0 hb1 hb2 rfl (by omega) (.slice none 0 0) 0 [] rfl (World.ownsRow_nil _ _ _ _) C k e cs rfl HSR.out HSO.out (by omega) (by unfold maxLen; omega) T5.out.hs ?_; intro v6 w6 hown hgr hat; rw [Nat.zero_add, List.nil_append] at hown; obtain ⟨A6, c6, rfl, ha6, hb6⟩ := ownsRow_slice hown; have kb := T5.out.keptS hgr; have kc5 := kb.c6; have kf5 := kb.fz 6; clear kb)
            have hown2 : w6.ownsRow base 46 1 (.slice A6 k c6) cs.length cs := by rw [HSL.out]; exact hown
            have T6 := Lib.hid (T5.out.growS hgr hown2)
            clear hown hown2 hgr hat kc5 kf5 x6 k6
            obtain ⟨W6, hW6⟩ : ∃ W6, w6.setCell ⟨h, 6, none⟩ (.slice A6 k c6) = W6 := ⟨_, rfl⟩
            rw [hW6] at T6 ⊢
            clear hW6 HVB HSR HSO
            rcases Bool.eq_false_or_eq_true GT with rfl | rfl
            · have HT0 : Finds.told0 f iN er b = { f with marks := f.marks.set iN 1, which := f.which ++ [(iN : Int)], shards := f.shards ++ [b] } := if_pos HGT.out
              have hL1 : f.marks.set iN 1 = L := HL.out
              have HPH := Lib.hid (fun (p : Int) (hp : p = if (Finds.cnt L 1 : Int) = f.need then 2 else if (L.length : Int) - f.need < Finds.cnt L 2 then 3 else 1) => (show Finds.toldF f (iN : Int) er b = ⟨f.stripe, f.version, f.need, p, L, f.which ++ [(iN : Int)], f.shards ++ [b]⟩ by
                have := HTF.out
                rw [HT0] at this
                simp only at this
                rw [hL1, LN.out, ← HLN.out, ← hp] at this
                exact this))
              have HROW := Lib.hid (fun X (hX : Aw Z w X) => (HCS.out X hX).rows.snoc (HBZ.out X hX))
              have kx5 := T6.out.fb.c5
              have T6a := Lib.hid (T6.out.ext (Ext.alloc W6 (.cells #[.int .i64 (iN : Int)] 3)))
              have hwl : f.which.length ≤ 255 := by rw [LV.out]; exact m255
              clear HT0 hL1 T T5
              go_upto_region 20 with (at_builtin; refine wpList_append_rd _ rfl (.tmp 112) (.tmp 114) 22 rfl base 3 i0 _ 1 8 Tryz.underlying22 hi0' hz0 hz1 hz2 rfl (by omega) (.slice A5 m c5) f.which.length (icells f.which) rfl T6a.out.v (some ⟨W6.heap.size, 0, none⟩) 1 1 [.int .i64 (iN : Int)] rfl (Rd.lit W6 #[_] _) (by simp [Value.oneCell']) (by omega) (by unfold maxLen; omega) T6a.out.hs ?_; intro v7 w7 hown hgr hat; obtain ⟨A7, c7, rfl, ha7, hb7⟩ := ownsRow_slice hown; have kb := T6a.out.keptV hgr; have kc5 := kb.c5; have kf5 := kb.fz 5; clear kb)
              have hown2 : w7.ownsRow base 3 1 (.slice A7 (f.which.length + 1) c7) (f.which ++ [(iN : Int)]).length (icells (f.which ++ [(iN : Int)])) := by rw [icells_append, List.length_append]; exact hown
              have T7 := Lib.hid (T6a.out.growV hgr hown2 hat)
              clear hown hown2 hgr hat kc5 kf5 kx5 T6a
              obtain ⟨W7, hW7⟩ : ∃ W7, w7.setCell ⟨h, 5, none⟩ (.slice A7 (f.which.length + 1) c7) = W7 := ⟨_, rfl⟩
              rw [hW7] at T7 ⊢
              clear hW7
              have kx6 := T7.out.fb.c6
              have T7a := Lib.hid (T7.out.ext (Ext.alloc W7 (.cells #[.slice D q c9] 46)))
              have hcl : cs.length ≤ 255 := by rw [HSL.out]; exact k255
              go_upto_region 21 with (at_builtin; refine wpList_append_rd _ rfl (.tmp 118) (.tmp 120) 23 rfl base 46 ib _ 1 24 Tryz.underlying23 hib hb0 hb1 hb2 rfl (by omega) (.slice A6 k c6) cs.length cs rfl T7a.out.s (some ⟨W7.heap.size, 0, none⟩) 1 1 [.slice D q c9] rfl (Rd.lit W7 #[_] _) (by simp [Value.oneCell']) (by omega) (by unfold maxLen; omega) T7a.out.hs ?_; intro v8 w8 hown hgr hat; obtain ⟨A8, c8, rfl, ha8, hb8⟩ := ownsRow_slice hown; have kb := T7a.out.keptS hgr; have kc5 := kb.c6; have kf5 := kb.fz 6; clear kb)
              have hown2 : w8.ownsRow base 46 1 (.slice A8 (cs.length + 1) c8) (cs ++ [Value.slice D q c9]).length (cs ++ [Value.slice D q c9]) := by rw [List.length_append]; exact hown
              have T := Lib.hid (T7a.out.growS hgr hown2)
              clear hown hown2 hgr hat kc5 kf5 kx6 T7a T6
              obtain ⟨W9, hW9⟩ : ∃ W9, w8.setCell ⟨h, 6, none⟩ (.slice A8 (cs.length + 1) c8) = W9 := ⟨_, rfl⟩
              rw [hW9] at T ⊢
              clear hW9
              obtain ⟨A1, c1, rfl, hA1, hA2⟩ := ownsRow_slice T.out.u
              obtain ⟨Q1, hQ1⟩ : ∃ Q, Finds.cnt L 1 = Q := ⟨_, rfl⟩
              obtain ⟨Q2, hQ2⟩ : ∃ Q, Finds.cnt L 2 = Q := ⟨_, rfl⟩
              rw [hQ1, hQ2] at HPH
              have HQ1 := Lib.hid hQ1
              have HQ2 := Lib.hid hQ2
              have hq2 : Q2 ≤ L.length := by rw [← hQ2]; exact Finds.cnt_le _ _
              clear hQ1 hQ2
              have hS : ∀ u : Ex W9, u.w.cell? ⟨h, 0, none⟩ = some (.int .i64 f.stripe) ∧ u.w.cell? ⟨h, 1, none⟩ = some (.int .i64 f.version) ∧ u.w.cell? ⟨h, 2, none⟩ = some (.int .i64 f.need) ∧ u.w.cell? ⟨h, 3, none⟩ = some (.int .i64 1) ∧ u.w.cell? ⟨h, 4, none⟩ = some (.slice A1 L.length c1) ∧ u.w.cell? ⟨h, 5, none⟩ = some (.slice A7 (f.which.length + 1) c7) ∧ u.w.cell? ⟨h, 6, none⟩ = some (.slice A8 (cs.length + 1) c8) := fun u => ⟨u.ext.cell T.out.fb.c0, u.ext.cell T.out.fb.c1, u.ext.cell T.out.fb.c2, u.ext.cell T.out.fb.c3, u.ext.cell T.out.fb.c4, u.ext.cell T.out.fb.c5, u.ext.cell T.out.fb.c6⟩
              have HM := Lib.hid (fun u : Ex W9 => (show Calls Tryz.prog 41 #[fval f.stripe f.version f.need 1 (.slice A1 L.length c1) (.slice A7 (f.which.length + 1) c7) (.slice A8 (cs.length + 1) c8), .int .i64 1] u.w (fun r w' => r = .returned (.int .i64 (Q1 : Nat)) ∧ Ext u.w w') by rw [← HQ1.out]; exact refMany13_any u.w _ _ _ _ _ _ L A1 L.length c1 ((Own.mk (base := base) (e := 3) T.out.u).ints.ext u.ext) (by have := HLL.out; omega) 1))
              go_upto_region 21 with (fail)
              by_cases c1' : (Q1 : Int) = f.need
              · have z1 : ((Q1 : Int) == f.need) = true := by rw [beq_iff_eq]; exact c1'
                have HFIN := Lib.hid (HPH.out 2 (if_pos c1').symm)
                clear c1'
                go_wp2_with (fail)
                refine wp_region_grow (by kernel_rfl) (by kernel_rfl) ?_
                repeat (go_big_quiet_step (first | (with_reducible exact Ex.call _ (HM.out _))))
                refine wpQuiet_nil ?_
                rintro _ ⟨u, rfl⟩
                have T7 := Lib.hid (T.out.ext u.ext)
                clear hS HM
                obtain ⟨W7, hW7⟩ : ∃ W7, u.w = W7 := ⟨_, rfl⟩
                rw [hW7] at T7 ⊢
                clear hW7
                have k3 := T7.out.fb.c3
                have f3 := T7.out.fb.fz 3
                have T8 := Lib.hid (T7.out.phase 2)
                go_upto_region 25 with (fail)
                have ab := T8.out.fb.blk
                have zb := (SZ1.out.ext T8.out.x).blk
                refine wp_region_lit ?_
                refine wpList_load_row rfl 25 (.tmp 11) rfl h rfl 25 _ (0, 0) _ ab Tryz.underlying25 rfl (by kernel_rfl) ?_
                refine wpList_store_row rfl 25 (.tmp 8) (.tmp 139) rfl (g + 1) (frow f.stripe f.version f.need 2 (.slice A1 L.length c1) (.slice A7 (f.which.length + 1) c7) (.slice A8 (cs.length + 1) c8)) rfl rfl 25 _ zb (by kernel_rfl) rfl (by simp [Value.oneCell']) ?_
                clear ab zb
                go_wp2_with (fail)
                have hend := T8.out.fin (g := g + 1) (ls := f.shards ++ [b]) (XA.out.trans X1.out) HZB.out HROW.out (by rw [HG.out]; omega) (by have := T8.out.hb; have := HHG.out; omega) (Finds.toldF f (iN : Int) er b) HFIN.out 0
                refine bodyPost_ret (v := .tuple #[fval f.stripe f.version f.need 2 (.slice A1 L.length c1) (.slice A7 (f.which.length + 1) c7) (.slice A8 (cs.length + 1) c8), .int .i64 0]) ?_ rfl (by rw [HTE.out]; exact hend)
                rw [results_cell_tmp rfl]
                simp [asAddr, Result.andThen, ((SZ1.out.ext T8.out.x).row f.stripe f.version f.need 2 (.slice A1 L.length c1) (.slice A7 (f.which.length + 1) c7) (.slice A8 (cs.length + 1) c8)).res]
              · have z1 : ((Q1 : Int) == f.need) = false := by rw [beq_eq_false_iff_ne]; exact c1'
                go_wp2_with (fail)
                refine wp_region_grow (by kernel_rfl) (by kernel_rfl) ?_
                repeat (go_big_quiet_step (first | (with_reducible exact Ex.call _ (HM.out _))))
                refine wpQuiet_nil ?_
                rintro _ ⟨u, rfl⟩
                have T7 := Lib.hid (T.out.ext u.ext)
                clear hS HM
                obtain ⟨W7, hW7⟩ : ∃ W7, u.w = W7 := ⟨_, rfl⟩
                rw [hW7] at T7 ⊢
                clear hW7
                have hS : ∀ u : Ex W7, u.w.cell? ⟨h, 0, none⟩ = some (.int .i64 f.stripe) ∧ u.w.cell? ⟨h, 1, none⟩ = some (.int .i64 f.version) ∧ u.w.cell? ⟨h, 2, none⟩ = some (.int .i64 f.need) ∧ u.w.cell? ⟨h, 3, none⟩ = some (.int .i64 1) ∧ u.w.cell? ⟨h, 4, none⟩ = some (.slice A1 L.length c1) ∧ u.w.cell? ⟨h, 5, none⟩ = some (.slice A7 (f.which.length + 1) c7) ∧ u.w.cell? ⟨h, 6, none⟩ = some (.slice A8 (cs.length + 1) c8) := fun u => ⟨u.ext.cell T7.out.fb.c0, u.ext.cell T7.out.fb.c1, u.ext.cell T7.out.fb.c2, u.ext.cell T7.out.fb.c3, u.ext.cell T7.out.fb.c4, u.ext.cell T7.out.fb.c5, u.ext.cell T7.out.fb.c6⟩
                have HM := Lib.hid (fun u : Ex W7 => (show Calls Tryz.prog 41 #[fval f.stripe f.version f.need 1 (.slice A1 L.length c1) (.slice A7 (f.which.length + 1) c7) (.slice A8 (cs.length + 1) c8), .int .i64 2] u.w (fun r w' => r = .returned (.int .i64 (Q2 : Nat)) ∧ Ext u.w w') by rw [← HQ2.out]; exact refMany13_any u.w _ _ _ _ _ _ L A1 L.length c1 ((Own.mk (base := base) (e := 3) T7.out.u).ints.ext u.ext) (by have := HLL.out; omega) 2))
                have EW : IntKind.i64.wrap ((L.length : Int) - f.need) = (L.length : Int) - f.need := IntWalk.i64_in _ (by have := HLL.out; have := HNEED.out; omega)
                by_cases c2' : (L.length : Int) - f.need < (Q2 : Int)
                · have z2 : decide ((L.length : Int) - f.need < (Q2 : Int)) = true := decide_eq_true c2'
                  have HFIN := Lib.hid (HPH.out 3 (by rw [if_neg c1', if_pos c2']))
                  clear c1' c2'
                  go_wp2_with (fail)
                  refine wp_region_grow (by kernel_rfl) (by kernel_rfl) ?_
                  repeat (go_big_quiet_step (first | (with_reducible exact Ex.call _ (HM.out _))))
                  refine wpQuiet_nil ?_
                  rintro _ ⟨u, rfl⟩
                  have T8 := Lib.hid (T7.out.ext u.ext)
                  clear hS HM
                  obtain ⟨W8, hW8⟩ : ∃ W8, u.w = W8 := ⟨_, rfl⟩
                  rw [hW8] at T8 ⊢
                  clear hW8
                  have k3 := T8.out.fb.c3
                  have f3 := T8.out.fb.fz 3
                  have T9 := Lib.hid (T8.out.phase 3)
                  go_upto_region 25 with (fail)
                  have ab := T9.out.fb.blk
                  have zb := (SZ1.out.ext T9.out.x).blk
                  refine wp_region_lit ?_
                  refine wpList_load_row rfl 25 (.tmp 11) rfl h rfl 25 _ (0, 0) _ ab Tryz.underlying25 rfl (by kernel_rfl) ?_
                  refine wpList_store_row rfl 25 (.tmp 8) (.tmp 139) rfl (g + 1) (frow f.stripe f.version f.need 3 (.slice A1 L.length c1) (.slice A7 (f.which.length + 1) c7) (.slice A8 (cs.length + 1) c8)) rfl rfl 25 _ zb (by kernel_rfl) rfl (by simp [Value.oneCell']) ?_
                  clear ab zb
                  go_wp2_with (fail)
                  have hend := T9.out.fin (g := g + 1) (ls := f.shards ++ [b]) (XA.out.trans X1.out) HZB.out HROW.out (by rw [HG.out]; omega) (by have := T9.out.hb; have := HHG.out; omega) (Finds.toldF f (iN : Int) er b) HFIN.out 0
                  refine bodyPost_ret (v := .tuple #[fval f.stripe f.version f.need 3 (.slice A1 L.length c1) (.slice A7 (f.which.length + 1) c7) (.slice A8 (cs.length + 1) c8), .int .i64 0]) ?_ rfl (by rw [HTE.out]; exact hend)
                  rw [results_cell_tmp rfl]
                  simp [asAddr, Result.andThen, ((SZ1.out.ext T9.out.x).row f.stripe f.version f.need 3 (.slice A1 L.length c1) (.slice A7 (f.which.length + 1) c7) (.slice A8 (cs.length + 1) c8)).res]
                · have z2 : decide ((L.length : Int) - f.need < (Q2 : Int)) = false := decide_eq_false c2'
                  have HFIN := Lib.hid (HPH.out 1 (by rw [if_neg c1', if_neg c2']))
                  clear c1' c2'
                  go_wp2_with (fail)
                  refine wp_region_grow (by kernel_rfl) (by kernel_rfl) ?_
                  repeat (go_big_quiet_step (first | (with_reducible exact Ex.call _ (HM.out _))))
                  refine wpQuiet_nil ?_
                  rintro _ ⟨u, rfl⟩
                  have T8 := Lib.hid (T7.out.ext u.ext)
                  clear hS HM
                  obtain ⟨W8, hW8⟩ : ∃ W8, u.w = W8 := ⟨_, rfl⟩
                  rw [hW8] at T8 ⊢
                  clear hW8
                  go_upto_region 25 with (fail)
                  have ab := T8.out.fb.blk
                  have zb := (SZ1.out.ext T8.out.x).blk
                  refine wp_region_lit ?_
                  refine wpList_load_row rfl 25 (.tmp 11) rfl h rfl 25 _ (0, 0) _ ab Tryz.underlying25 rfl (by kernel_rfl) ?_
                  refine wpList_store_row rfl 25 (.tmp 8) (.tmp 139) rfl (g + 1) (frow f.stripe f.version f.need 1 (.slice A1 L.length c1) (.slice A7 (f.which.length + 1) c7) (.slice A8 (cs.length + 1) c8)) rfl rfl 25 _ zb (by kernel_rfl) rfl (by simp [Value.oneCell']) ?_
                  clear ab zb
                  go_wp2_with (fail)
                  have hend := T8.out.fin (g := g + 1) (ls := f.shards ++ [b]) (XA.out.trans X1.out) HZB.out HROW.out (by rw [HG.out]; omega) (by have := T8.out.hb; have := HHG.out; omega) (Finds.toldF f (iN : Int) er b) HFIN.out 0
                  refine bodyPost_ret (v := .tuple #[fval f.stripe f.version f.need 1 (.slice A1 L.length c1) (.slice A7 (f.which.length + 1) c7) (.slice A8 (cs.length + 1) c8), .int .i64 0]) ?_ rfl (by rw [HTE.out]; exact hend)
                  rw [results_cell_tmp rfl]
                  simp [asAddr, Result.andThen, ((SZ1.out.ext T8.out.x).row f.stripe f.version f.need 1 (.slice A1 L.length c1) (.slice A7 (f.which.length + 1) c7) (.slice A8 (cs.length + 1) c8)).res]
            · have HT0 : Finds.told0 f iN er b = { f with marks := f.marks.set iN 2 } := if_neg (by rw [HGT.out]; decide)
              have hL1 : f.marks.set iN 2 = L := HL.out
              have HPH := Lib.hid (fun (p : Int) (hp : p = if (Finds.cnt L 1 : Int) = f.need then 2 else if (L.length : Int) - f.need < Finds.cnt L 2 then 3 else 1) => (show Finds.toldF f (iN : Int) er b = ⟨f.stripe, f.version, f.need, p, L, f.which, f.shards⟩ by
                have := HTF.out
                rw [HT0] at this
                simp only at this
                rw [hL1, LN.out, ← HLN.out, ← hp] at this
                exact this))
              have HROW := Lib.hid (fun X (hX : Aw Z w X) => (HCS.out X hX).rows)
              clear HT0 hL1 T
              have T := T6
              clear T5 T6
              obtain ⟨A1, c1, rfl, hA1, hA2⟩ := ownsRow_slice T.out.u
              obtain ⟨Q1, hQ1⟩ : ∃ Q, Finds.cnt L 1 = Q := ⟨_, rfl⟩
              obtain ⟨Q2, hQ2⟩ : ∃ Q, Finds.cnt L 2 = Q := ⟨_, rfl⟩
              rw [hQ1, hQ2] at HPH
              have HQ1 := Lib.hid hQ1
              have HQ2 := Lib.hid hQ2
              have hq2 : Q2 ≤ L.length := by rw [← hQ2]; exact Finds.cnt_le _ _
              clear hQ1 hQ2
              have hS : ∀ u : Ex W6, u.w.cell? ⟨h, 0, none⟩ = some (.int .i64 f.stripe) ∧ u.w.cell? ⟨h, 1, none⟩ = some (.int .i64 f.version) ∧ u.w.cell? ⟨h, 2, none⟩ = some (.int .i64 f.need) ∧ u.w.cell? ⟨h, 3, none⟩ = some (.int .i64 1) ∧ u.w.cell? ⟨h, 4, none⟩ = some (.slice A1 L.length c1) ∧ u.w.cell? ⟨h, 5, none⟩ = some (.slice A5 m c5) ∧ u.w.cell? ⟨h, 6, none⟩ = some (.slice A6 k c6) := fun u => ⟨u.ext.cell T.out.fb.c0, u.ext.cell T.out.fb.c1, u.ext.cell T.out.fb.c2, u.ext.cell T.out.fb.c3, u.ext.cell T.out.fb.c4, u.ext.cell T.out.fb.c5, u.ext.cell T.out.fb.c6⟩
              have HM := Lib.hid (fun u : Ex W6 => (show Calls Tryz.prog 41 #[fval f.stripe f.version f.need 1 (.slice A1 L.length c1) (.slice A5 m c5) (.slice A6 k c6), .int .i64 1] u.w (fun r w' => r = .returned (.int .i64 (Q1 : Nat)) ∧ Ext u.w w') by rw [← HQ1.out]; exact refMany13_any u.w _ _ _ _ _ _ L A1 L.length c1 ((Own.mk (base := base) (e := 3) T.out.u).ints.ext u.ext) (by have := HLL.out; omega) 1))
              go_upto_region 21 with (fail)
              by_cases c1' : (Q1 : Int) = f.need
              · have z1 : ((Q1 : Int) == f.need) = true := by rw [beq_iff_eq]; exact c1'
                have HFIN := Lib.hid (HPH.out 2 (if_pos c1').symm)
                clear c1'
                go_wp2_with (fail)
                refine wp_region_grow (by kernel_rfl) (by kernel_rfl) ?_
                repeat (go_big_quiet_step (first | (with_reducible exact Ex.call _ (HM.out _))))
                refine wpQuiet_nil ?_
                rintro _ ⟨u, rfl⟩
                have T7 := Lib.hid (T.out.ext u.ext)
                clear hS HM
                obtain ⟨W7, hW7⟩ : ∃ W7, u.w = W7 := ⟨_, rfl⟩
                rw [hW7] at T7 ⊢
                clear hW7
                have k3 := T7.out.fb.c3
                have f3 := T7.out.fb.fz 3
                have T8 := Lib.hid (T7.out.phase 2)
                go_upto_region 25 with (fail)
                have ab := T8.out.fb.blk
                have zb := (SZ1.out.ext T8.out.x).blk
                refine wp_region_lit ?_
                refine wpList_load_row rfl 25 (.tmp 11) rfl h rfl 25 _ (0, 0) _ ab Tryz.underlying25 rfl (by kernel_rfl) ?_
                refine wpList_store_row rfl 25 (.tmp 8) (.tmp 139) rfl (g + 1) (frow f.stripe f.version f.need 2 (.slice A1 L.length c1) (.slice A5 m c5) (.slice A6 k c6)) rfl rfl 25 _ zb (by kernel_rfl) rfl (by simp [Value.oneCell']) ?_
                clear ab zb
                go_wp2_with (fail)
                have hend := T8.out.fin (g := g + 1) (ls := f.shards) (XA.out.trans X1.out) HZB.out HROW.out (by rw [HG.out]; omega) (by have := T8.out.hb; have := HHG.out; omega) (Finds.toldF f (iN : Int) er b) HFIN.out 0
                refine bodyPost_ret (v := .tuple #[fval f.stripe f.version f.need 2 (.slice A1 L.length c1) (.slice A5 m c5) (.slice A6 k c6), .int .i64 0]) ?_ rfl (by rw [HTE.out]; exact hend)
                rw [results_cell_tmp rfl]
                simp [asAddr, Result.andThen, ((SZ1.out.ext T8.out.x).row f.stripe f.version f.need 2 (.slice A1 L.length c1) (.slice A5 m c5) (.slice A6 k c6)).res]
              · have z1 : ((Q1 : Int) == f.need) = false := by rw [beq_eq_false_iff_ne]; exact c1'
                go_wp2_with (fail)
                refine wp_region_grow (by kernel_rfl) (by kernel_rfl) ?_
                repeat (go_big_quiet_step (first | (with_reducible exact Ex.call _ (HM.out _))))
                refine wpQuiet_nil ?_
                rintro _ ⟨u, rfl⟩
                have T7 := Lib.hid (T.out.ext u.ext)
                clear hS HM
                obtain ⟨W7, hW7⟩ : ∃ W7, u.w = W7 := ⟨_, rfl⟩
                rw [hW7] at T7 ⊢
                clear hW7
                have hS : ∀ u : Ex W7, u.w.cell? ⟨h, 0, none⟩ = some (.int .i64 f.stripe) ∧ u.w.cell? ⟨h, 1, none⟩ = some (.int .i64 f.version) ∧ u.w.cell? ⟨h, 2, none⟩ = some (.int .i64 f.need) ∧ u.w.cell? ⟨h, 3, none⟩ = some (.int .i64 1) ∧ u.w.cell? ⟨h, 4, none⟩ = some (.slice A1 L.length c1) ∧ u.w.cell? ⟨h, 5, none⟩ = some (.slice A5 m c5) ∧ u.w.cell? ⟨h, 6, none⟩ = some (.slice A6 k c6) := fun u => ⟨u.ext.cell T7.out.fb.c0, u.ext.cell T7.out.fb.c1, u.ext.cell T7.out.fb.c2, u.ext.cell T7.out.fb.c3, u.ext.cell T7.out.fb.c4, u.ext.cell T7.out.fb.c5, u.ext.cell T7.out.fb.c6⟩
                have HM := Lib.hid (fun u : Ex W7 => (show Calls Tryz.prog 41 #[fval f.stripe f.version f.need 1 (.slice A1 L.length c1) (.slice A5 m c5) (.slice A6 k c6), .int .i64 2] u.w (fun r w' => r = .returned (.int .i64 (Q2 : Nat)) ∧ Ext u.w w') by rw [← HQ2.out]; exact refMany13_any u.w _ _ _ _ _ _ L A1 L.length c1 ((Own.mk (base := base) (e := 3) T7.out.u).ints.ext u.ext) (by have := HLL.out; omega) 2))
                have EW : IntKind.i64.wrap ((L.length : Int) - f.need) = (L.length : Int) - f.need := IntWalk.i64_in _ (by have := HLL.out; have := HNEED.out; omega)
                by_cases c2' : (L.length : Int) - f.need < (Q2 : Int)
                · have z2 : decide ((L.length : Int) - f.need < (Q2 : Int)) = true := decide_eq_true c2'
                  have HFIN := Lib.hid (HPH.out 3 (by rw [if_neg c1', if_pos c2']))
                  clear c1' c2'
                  go_wp2_with (fail)
                  refine wp_region_grow (by kernel_rfl) (by kernel_rfl) ?_
                  repeat (go_big_quiet_step (first | (with_reducible exact Ex.call _ (HM.out _))))
                  refine wpQuiet_nil ?_
                  rintro _ ⟨u, rfl⟩
                  have T8 := Lib.hid (T7.out.ext u.ext)
                  clear hS HM
                  obtain ⟨W8, hW8⟩ : ∃ W8, u.w = W8 := ⟨_, rfl⟩
                  rw [hW8] at T8 ⊢
                  clear hW8
                  have k3 := T8.out.fb.c3
                  have f3 := T8.out.fb.fz 3
                  have T9 := Lib.hid (T8.out.phase 3)
                  go_upto_region 25 with (fail)
                  have ab := T9.out.fb.blk
                  have zb := (SZ1.out.ext T9.out.x).blk
                  refine wp_region_lit ?_
                  refine wpList_load_row rfl 25 (.tmp 11) rfl h rfl 25 _ (0, 0) _ ab Tryz.underlying25 rfl (by kernel_rfl) ?_
                  refine wpList_store_row rfl 25 (.tmp 8) (.tmp 139) rfl (g + 1) (frow f.stripe f.version f.need 3 (.slice A1 L.length c1) (.slice A5 m c5) (.slice A6 k c6)) rfl rfl 25 _ zb (by kernel_rfl) rfl (by simp [Value.oneCell']) ?_
                  clear ab zb
                  go_wp2_with (fail)
                  have hend := T9.out.fin (g := g + 1) (ls := f.shards) (XA.out.trans X1.out) HZB.out HROW.out (by rw [HG.out]; omega) (by have := T9.out.hb; have := HHG.out; omega) (Finds.toldF f (iN : Int) er b) HFIN.out 0
                  refine bodyPost_ret (v := .tuple #[fval f.stripe f.version f.need 3 (.slice A1 L.length c1) (.slice A5 m c5) (.slice A6 k c6), .int .i64 0]) ?_ rfl (by rw [HTE.out]; exact hend)
                  rw [results_cell_tmp rfl]
                  simp [asAddr, Result.andThen, ((SZ1.out.ext T9.out.x).row f.stripe f.version f.need 3 (.slice A1 L.length c1) (.slice A5 m c5) (.slice A6 k c6)).res]
                · have z2 : decide ((L.length : Int) - f.need < (Q2 : Int)) = false := decide_eq_false c2'
                  have HFIN := Lib.hid (HPH.out 1 (by rw [if_neg c1', if_neg c2']))
                  clear c1' c2'
                  go_wp2_with (fail)
                  refine wp_region_grow (by kernel_rfl) (by kernel_rfl) ?_
                  repeat (go_big_quiet_step (first | (with_reducible exact Ex.call _ (HM.out _))))
                  refine wpQuiet_nil ?_
                  rintro _ ⟨u, rfl⟩
                  have T8 := Lib.hid (T7.out.ext u.ext)
                  clear hS HM
                  obtain ⟨W8, hW8⟩ : ∃ W8, u.w = W8 := ⟨_, rfl⟩
                  rw [hW8] at T8 ⊢
                  clear hW8
                  go_upto_region 25 with (fail)
                  have ab := T8.out.fb.blk
                  have zb := (SZ1.out.ext T8.out.x).blk
                  refine wp_region_lit ?_
                  refine wpList_load_row rfl 25 (.tmp 11) rfl h rfl 25 _ (0, 0) _ ab Tryz.underlying25 rfl (by kernel_rfl) ?_
                  refine wpList_store_row rfl 25 (.tmp 8) (.tmp 139) rfl (g + 1) (frow f.stripe f.version f.need 1 (.slice A1 L.length c1) (.slice A5 m c5) (.slice A6 k c6)) rfl rfl 25 _ zb (by kernel_rfl) rfl (by simp [Value.oneCell']) ?_
                  clear ab zb
                  go_wp2_with (fail)
                  have hend := T8.out.fin (g := g + 1) (ls := f.shards) (XA.out.trans X1.out) HZB.out HROW.out (by rw [HG.out]; omega) (by have := T8.out.hb; have := HHG.out; omega) (Finds.toldF f (iN : Int) er b) HFIN.out 0
                  refine bodyPost_ret (v := .tuple #[fval f.stripe f.version f.need 1 (.slice A1 L.length c1) (.slice A5 m c5) (.slice A6 k c6), .int .i64 0]) ?_ rfl (by rw [HTE.out]; exact hend)
                  rw [results_cell_tmp rfl]
                  simp [asAddr, Result.andThen, ((SZ1.out.ext T8.out.x).row f.stripe f.version f.need 1 (.slice A1 L.length c1) (.slice A5 m c5) (.slice A6 k c6)).res]
      · have e2 : (y != 0) = true := by rw [bne_iff_ne]; exact hm2
        have HF := Lib.hid (HSHUT.out (fun q => hm2 q.2))
        have ab := SA1.out.blk
        have zb := SZ1.out.blk
        clear hp hm2
        go_upto_region 4 with (fail)
        refine wp_region_lit ?_
        refine wpList_load_row rfl 25 (.tmp 4) rfl g rfl 25 _ (0, 0) _ ab Tryz.underlying25 rfl (by kernel_rfl) ?_
        refine wpList_store_row rfl 25 (.tmp 8) (.tmp 40) rfl (g + 1) (frow f.stripe f.version f.need f.phase (.slice (some ⟨bm, om, none⟩) n c) (.slice B m d) (.slice C k e)) rfl rfl 25 _ zb (by kernel_rfl) rfl (by simp [Value.oneCell']) ?_
        clear ab zb
        go_wp2_with (fail)
        have hx : Ext w (w1.setRow (g + 1) (frow f.stripe f.version f.need f.phase (.slice (some ⟨bm, om, none⟩) n c) (.slice B m d) (.slice C k e))) := (XA.out.trans X1.out).row (by rw [HG.out]; omega) _
        refine bodyPost_ret (v := .tuple #[fval f.stripe f.version f.need f.phase (.slice (some ⟨bm, om, none⟩) n c) (.slice B m d) (.slice C k e), .int .i64 0]) ?_ rfl (by rw [HF.out, HTE.out]; exact ⟨_, _, _, _, _, _, _, _, _, rfl, HZ.out.ext hx, hx⟩)
        rw [results_cell_tmp rfl]
        simp [asAddr, Result.andThen, HRES.out]
    · have e1 : (f.phase != 1) = true := by rw [bne_iff_ne]; exact hp
      have HF := Lib.hid (HSHUT.out (fun q => hp q.1))
      have ab := SA1.out.blk
      have zb := SZ1.out.blk
      clear hp
      go_upto_region 4 with (fail)
      refine wp_region_lit ?_
      refine wpList_load_row rfl 25 (.tmp 4) rfl g rfl 25 _ (0, 0) _ ab Tryz.underlying25 rfl (by kernel_rfl) ?_
      refine wpList_store_row rfl 25 (.tmp 8) (.tmp 40) rfl (g + 1) (frow f.stripe f.version f.need f.phase (.slice (some ⟨bm, om, none⟩) n c) (.slice B m d) (.slice C k e)) rfl rfl 25 _ zb (by kernel_rfl) rfl (by simp [Value.oneCell']) ?_
      clear ab zb
      go_wp2_with (fail)
      have hx : Ext w (w1.setRow (g + 1) (frow f.stripe f.version f.need f.phase (.slice (some ⟨bm, om, none⟩) n c) (.slice B m d) (.slice C k e))) := (XA.out.trans X1.out).row (by rw [HG.out]; omega) _
      refine bodyPost_ret (v := .tuple #[fval f.stripe f.version f.need f.phase (.slice (some ⟨bm, om, none⟩) n c) (.slice B m d) (.slice C k e), .int .i64 0]) ?_ rfl (by rw [HF.out, HTE.out]; exact ⟨_, _, _, _, _, _, _, _, _, rfl, HZ.out.ext hx, hx⟩)
      rw [results_cell_tmp rfl]
      simp [asAddr, Result.andThen, HRES.out]
end Go.Proofs.YtfpglkacjecoeaaGreat
