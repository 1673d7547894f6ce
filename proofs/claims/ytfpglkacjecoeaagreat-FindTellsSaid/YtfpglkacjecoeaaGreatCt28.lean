/- Several texts in one: find.Told, what it hands back in none of some blocks. find.Lose, what it hands back in none of some blocks. A drawn region whose calls make memory, walked once: the class of the worlds that have grown. No statement of the seat is proved here. -/
import Derived.Test.YtfpglkacjecoeaaGreatCt25
import Derived.Test.YtfpglkacjecoeaaGreatCt15
import Derived.Test.YtfpglkacjecoeaaGreatCt3
namespace Go.Proofs.YtfpglkacjecoeaaGreat
open Go.RowKit

set_option maxRecDepth 100000 in
set_option maxHeartbeats 4000000 in
theorem fTold_no (w : World) (f : Finds.F) (A : Option Addr) (n c : Nat) (B : Option Addr) (m d : Nat) (C : Option Addr) (k e : Nat) (h : Fd w f A n c B m d C k e) (hn : n ≤ 1000) (hm : m ≤ 1000) (i er : Int) (D : Option Addr) (q c9 : Nat) (b : List UInt8) (hb : Bs w D q c9 b) (hno : ¬ Finds.mayTell f i) :
    Calls Tryz.prog 14 #[fval f.stripe f.version f.need f.phase (.slice A n c) (.slice B m d) (.slice C k e), .int .i64 i, .int .i64 er, .slice D q c9] w (fun r w' => r = .returned (.tuple #[fval f.stripe f.version f.need f.phase (.slice A n c) (.slice B m d) (.slice C k e), .int .i64 140]) ∧ Ext w w') := by
  have q1 := h.u.max
  have q2 := h.u.le
  have q3 := h.v.max
  have q4 := h.v.le
  have q5 := h.s.max
  have q6 := h.s.le
  have q7 := hb.max
  have q8 := hb.le
  obtain ⟨g, hg⟩ : ∃ g, w.heap.size = g := ⟨_, rfl⟩
  have s1 := Fb.new w f.stripe f.version f.need f.phase (.slice A n c) (.slice B m d) (.slice C k e) hg
  have xA := Ext.alloc w (.cells #[.int .i64 f.stripe, .int .i64 f.version, .int .i64 f.need, .int .i64 f.phase, .slice A n c, .slice B m d, .slice C k e] 25)
  obtain ⟨W1, hW1⟩ : ∃ W1, w.alloc (.cells #[.int .i64 f.stripe, .int .i64 f.version, .int .i64 f.need, .int .i64 f.phase, .slice A n c, .slice B m d, .slice C k e] 25) = W1 := ⟨_, rfl⟩
  have z1 : W1.heap.size = g + 1 := by rw [← hW1, ← hg]; simp
  rw [hW1] at s1 xA
  have s2 := Fb.new W1 0 0 0 0 (.slice none 0 0) (.slice none 0 0) (.slice none 0 0) z1
  have xB := Ext.alloc W1 (.cells #[.int .i64 0, .int .i64 0, .int .i64 0, .int .i64 0, .slice none 0 0, .slice none 0 0, .slice none 0 0] 25)
  obtain ⟨W0, hW0⟩ : ∃ W0, W1.alloc (.cells #[.int .i64 0, .int .i64 0, .int .i64 0, .int .i64 0, .slice none 0 0, .slice none 0 0, .slice none 0 0] 25) = W0 := ⟨_, rfl⟩
  rw [hW0] at s2 xB
  have z0 : W0.heap.size = g + 1 + 1 := by rw [← hW0]; simp [z1]
  have sA := s1.ext xB
  have XA := Lib.hid (xA.trans xB)
  have HR := Lib.hid (fRight_any W0 f A n c B m d C k e (h.ext XA.out) hn hm)
  have SA := Lib.hid sA
  have SZ := Lib.hid s2
  have H := Lib.hid h
  have HB := Lib.hid hb
  have HG := Lib.hid hg
  have Z0 := Lib.hid z0
  have HW1 := Lib.hid hW1
  have HW0 := Lib.hid hW0
  have no : ¬ Finds.mayTell f i → Finds.toldF f i er b = f ∧ Finds.toldE f i = 140 := fun h => toldE_no h er b
  have NO := Lib.hid no
  clear h hb xA xB s1 s2 z0 z1 no hW1 hW0 sA
  have LN := Lib.hid H.out.u.len
  go_enter Tryz.func14, Tryz.ntmps14
  try dsimp only [List.append]
  go_upto_region 1 with (fail)
  rw [HW1.out, HW0.out]
  clear hg
  have k0 := SA.out.c0
  have k1 := SA.out.c1
  have k2 := SA.out.c2
  have k3 := SA.out.c3
  have k4 := SA.out.c4
  have k5 := SA.out.c5
  have k6 := SA.out.c6
  obtain ⟨MT, hMT⟩ : ∃ MT, decide (Finds.mayTell f i) = MT := ⟨_, rfl⟩
  have HMT := Lib.hid hMT
  clear hMT
  go_cut [26] (fun s wx => ∃ wv : World, wv = wx ∧ s = .bool (!MT) ∧ RowKit.Hid (Ext W0 wx))
  case first =>
    go_wp2_with (fail)
    refine HR.out.mono ?_
    rintro e w1 ⟨rfl, x1⟩
    have k4' := x1.cell k4
    have X1 := Lib.hid x1
    clear x1
    by_cases hr : Finds.right f
    · rw [decide_eq_true hr]
      have HRR := Lib.hid hr
      clear hr
      by_cases h0 : i < 0
      · have HF := Lib.hid (show MT = false by rw [← HMT.out]; exact decide_eq_false (fun q => by have := q.2.1; omega))
        go_wp2_with (fail)
        go_meet
        exact ⟨_, rfl, by rw [HF.out]; rfl, X1⟩
      · by_cases h1 : (n : Int) ≤ i
        · have HF := Lib.hid (show MT = false by rw [← HMT.out]; exact decide_eq_false (fun q => by have := q.2.2; have := LN.out; omega))
          go_wp2_with (fail)
          go_meet
          exact ⟨_, rfl, by rw [HF.out]; rfl, X1⟩
        · have HF := Lib.hid (show MT = true by rw [← HMT.out]; exact decide_eq_true ⟨HRR.out, by omega, by have := LN.out; omega⟩)
          go_wp2_with (fail)
          go_meet
          exact ⟨_, rfl, by rw [HF.out, decide_eq_false (show ¬ i < 0 by omega), decide_eq_false (show ¬ (n : Int) ≤ i by omega)]; rfl, X1⟩
    · rw [decide_eq_false hr]
      have HF := Lib.hid (show MT = false by rw [← HMT.out]; exact decide_eq_false (fun q => hr q.1))
      clear hr
      go_wp2_with (fail)
      go_meet
      exact ⟨_, rfl, by rw [HF.out]; rfl, X1⟩
  case rest =>
  obtain ⟨w1, rfl, rfl, X1⟩ := hcut
  clear k0 k1 k2 k3 k4 k5 k6
  have sA := SA.out.ext X1.out
  have sZ := SZ.out.ext X1.out
  have k0 := sA.c0
  have k1 := sA.c1
  have k2 := sA.c2
  have k3 := sA.c3
  have k4 := sA.c4
  have k5 := sA.c5
  have k6 := sA.c6
  have SA1 := Lib.hid sA
  have SZ1 := Lib.hid sZ
  cases MT with
  | false =>
    have HNO := Lib.hid (NO.out (of_decide_eq_false HMT.out))
    have HRES := Lib.hid (sZ.row f.stripe f.version f.need f.phase (.slice A n c) (.slice B m d) (.slice C k e)).res
    have zb := sZ.blk
    have ab := sA.blk
    clear sA sZ k0 k1 k2 k3 k4 k5 k6
    go_upto_region 2 with (fail)
    refine wp_region_lit ?_
    refine wpList_load_row rfl 25 (.tmp 4) rfl g rfl 25 _ (0, 0) _ ab Tryz.underlying25 rfl (by kernel_rfl) ?_
    refine wpList_store_row rfl 25 (.tmp 8) (.tmp 27) rfl (g + 1) (frow f.stripe f.version f.need f.phase (.slice A n c) (.slice B m d) (.slice C k e)) rfl rfl 25 _ zb (by kernel_rfl) rfl (by simp [Value.oneCell']) ?_
    go_wp2_with (fail)
    have hx : Ext w (w1.setRow (g + 1) (frow f.stripe f.version f.need f.phase (.slice A n c) (.slice B m d) (.slice C k e))) := (XA.out.trans X1.out).row (by rw [HG.out]; omega) _
    refine bodyPost_ret (v := .tuple #[fval f.stripe f.version f.need f.phase (.slice A n c) (.slice B m d) (.slice C k e), .int .i64 140]) ?_ rfl (by exact ⟨rfl, hx⟩)
    rw [results_cell_tmp rfl]
    simp [asAddr, Result.andThen, HRES.out]
  | true => exact absurd (of_decide_eq_true HMT.out) hno
theorem fTold_z {Z : Nat → Prop} (w : World) (f : Finds.F) (A : Option Addr) (n c : Nat) (B : Option Addr) (m d : Nat) (C : Option Addr) (k e : Nat) (h : FdZ Z w f A n c B m d C k e) (hz : ∀ q, Z q → q < w.heap.size) (hn : n ≤ 1000) (hm : m ≤ 1000) (i er : Int) (D : Option Addr) (q c9 : Nat) (b : List UInt8) (hb : Bs w D q c9 b) :
    Calls Tryz.prog 14 #[fval f.stripe f.version f.need f.phase (.slice A n c) (.slice B m d) (.slice C k e), .int .i64 i, .int .i64 er, .slice D q c9] w (GivesZ Z (Finds.toldF f i er b) (Finds.toldE f i) w) := by
  by_cases hmt : Finds.mayTell f i
  · refine (fTold_any w f A n c B m d C k e h.fd hn hm i er D q c9 b hb).mono ?_
    rintro r w' ⟨U, V, S, rfl, ⟨A, n, c, B, m, d, C, k, e, rfl, rfl, rfl, _⟩, hx, ho⟩
    exact ⟨A, n, c, B, m, d, C, k, e, rfl, (ho (if_pos hmt)).z hz, hx⟩
  · refine (fTold_no w f A n c B m d C k e h.fd hn hm i er D q c9 b hb hmt).mono ?_
    rintro r w' ⟨rfl, hx⟩
    rw [show Finds.toldF f i er b = f from if_neg (fun q => hmt q.1), show Finds.toldE f i = 140 from if_neg hmt]
    exact ⟨A, n, c, B, m, d, C, k, e, rfl, h.ext hx, hx⟩
end Go.Proofs.YtfpglkacjecoeaaGreat
namespace Go.Proofs.YtfpglkacjecoeaaGreat
open Go.RowKit

theorem lose_endZ {Z : Nat → Prop} {w W : World} {g gu b1 n c : Nat} {f : Finds.F} {A0 : Option Addr} {n0 c0 : Nat} {B : Option Addr} {m d : Nat} {C : Option Addr} {k e9 : Nat} {l : List Int} (er : Int) (h : FdZ Z w f A0 n0 c0 B m d C k e9) (hz : ∀ q, Z q → q < w.heap.size) (ho : W.ownsRow b1 3 1 (.slice (some ⟨gu, 0, none⟩) n c) l.length (icells l)) (hl : l.length = n) (hb : g < b1) (hx : Ext w W) (hg : w.heap.size ≤ g) :
    GivesZ Z { f with marks := l } er w (.returned (.tuple #[fval f.stripe f.version f.need f.phase (.slice (some ⟨gu, 0, none⟩) n c) (.slice B m d) (.slice C k e9), .int .i64 er])) (W.setRow g (frow f.stripe f.version f.need f.phase (.slice (some ⟨gu, 0, none⟩) n c) (.slice B m d) (.slice C k e9))) := by
  subst hl
  have hx2 : Ext w (W.setRow g (frow f.stripe f.version f.need f.phase (.slice (some ⟨gu, 0, none⟩) l.length c) (.slice B m d) (.slice C k e9))) := hx.row hg _
  have ho2 := ownsRow_grown ho (grown_row W g (frow f.stripe f.version f.need f.phase (.slice (some ⟨gu, 0, none⟩) l.length c) (.slice B m d) (.slice C k e9))) (.inr (fun e => by have := (ho.lt gu rfl).1; injection e with e; have e' : gu = g := e; omega))
  exact ⟨_, _, _, _, _, _, _, _, _, rfl, h.mark hx2 ho2 (fun q hq => by have := hz q hq; omega), hx2⟩
set_option maxRecDepth 100000 in
set_option maxHeartbeats 8000000 in
theorem fLose_z {Z : Nat → Prop} (w : World) (f : Finds.F) (A : Option Addr) (n c : Nat) (B : Option Addr) (m d : Nat) (C : Option Addr) (k e : Nat) (h : FdZ Z w f A n c B m d C k e) (hz : ∀ q, Z q → q < w.heap.size) (hn : n ≤ 1000) (hm : m ≤ 1000) (i : Int) :
    Calls Tryz.prog 16 #[fval f.stripe f.version f.need f.phase (.slice A n c) (.slice B m d) (.slice C k e), .int .i64 i] w (GivesZ Z (Finds.loseF f i) (Finds.toldE f i) w) := by
  have HZ := Lib.hid h
  have HZB := Lib.hid hz
  replace h := h.fd
  clear hz
  have q1 := h.u.max
  have q2 := h.u.le
  have q3 := h.v.max
  have q4 := h.v.le
  have q5 := h.s.max
  have q6 := h.s.le
  obtain ⟨g, hg⟩ : ∃ g, w.heap.size = g := ⟨_, rfl⟩
  have s1 := Fb.new w f.stripe f.version f.need f.phase (.slice A n c) (.slice B m d) (.slice C k e) hg
  have xA := Ext.alloc w (.cells #[.int .i64 f.stripe, .int .i64 f.version, .int .i64 f.need, .int .i64 f.phase, .slice A n c, .slice B m d, .slice C k e] 25)
  obtain ⟨W1, hW1⟩ : ∃ W1, w.alloc (.cells #[.int .i64 f.stripe, .int .i64 f.version, .int .i64 f.need, .int .i64 f.phase, .slice A n c, .slice B m d, .slice C k e] 25) = W1 := ⟨_, rfl⟩
  have z1 : W1.heap.size = g + 1 := by rw [← hW1, ← hg]; simp
  rw [hW1] at s1 xA
  have s2 := Fb.new W1 0 0 0 0 (.slice none 0 0) (.slice none 0 0) (.slice none 0 0) z1
  have xB := Ext.alloc W1 (.cells #[.int .i64 0, .int .i64 0, .int .i64 0, .int .i64 0, .slice none 0 0, .slice none 0 0, .slice none 0 0] 25)
  obtain ⟨W0, hW0⟩ : ∃ W0, W1.alloc (.cells #[.int .i64 0, .int .i64 0, .int .i64 0, .int .i64 0, .slice none 0 0, .slice none 0 0, .slice none 0 0] 25) = W0 := ⟨_, rfl⟩
  rw [hW0] at s2 xB
  have z0 : W0.heap.size = g + 1 + 1 := by rw [← hW0]; simp [z1]
  have sA := s1.ext xB
  have XA := Lib.hid (xA.trans xB)
  have HR := Lib.hid (fRight_any W0 f A n c B m d C k e (h.ext XA.out) hn hm)
  have SA := Lib.hid sA
  have SZ := Lib.hid s2
  have H := Lib.hid h
  have HG := Lib.hid hg
  have Z0 := Lib.hid z0
  have HW1 := Lib.hid hW1
  have HW0 := Lib.hid hW0
  have no : ¬ Finds.mayTell f i → Finds.loseF f i = f ∧ Finds.toldE f i = 140 := fun h => loseF_no h
  have NO := Lib.hid no
  clear h xA xB s1 s2 z0 z1 no hW1 hW0 sA
  have LN := Lib.hid H.out.u.len
  go_enter Tryz.func16, Tryz.ntmps16
  try dsimp only [List.append]
  go_upto_region 1 with (fail)
  rw [HW1.out, HW0.out]
  clear hg
  have k0 := SA.out.c0
  have k1 := SA.out.c1
  have k2 := SA.out.c2
  have k3 := SA.out.c3
  have k4 := SA.out.c4
  have k5 := SA.out.c5
  have k6 := SA.out.c6
  obtain ⟨MT, hMT⟩ : ∃ MT, decide (Finds.mayTell f i) = MT := ⟨_, rfl⟩
  have HMT := Lib.hid hMT
  clear hMT
  go_cut [19] (fun s wx => ∃ wv : World, wv = wx ∧ s = .bool (!MT) ∧ RowKit.Hid (Ext W0 wx))
  case first =>
    go_wp2_with (fail)
    refine HR.out.mono ?_
    rintro e w1 ⟨rfl, x1⟩
    have k4' := x1.cell k4
    have X1 := Lib.hid x1
    clear x1
    by_cases hr : Finds.right f
    · rw [decide_eq_true hr]
      have HRR := Lib.hid hr
      clear hr
      by_cases h0 : i < 0
      · have HF := Lib.hid (show MT = false by rw [← HMT.out]; exact decide_eq_false (fun q => by have := q.2.1; omega))
        go_wp2_with (fail)
        go_meet
        exact ⟨_, rfl, by rw [HF.out]; rfl, X1⟩
      · by_cases h1 : (n : Int) ≤ i
        · have HF := Lib.hid (show MT = false by rw [← HMT.out]; exact decide_eq_false (fun q => by have := q.2.2; have := LN.out; omega))
          go_wp2_with (fail)
          go_meet
          exact ⟨_, rfl, by rw [HF.out]; rfl, X1⟩
        · have HF := Lib.hid (show MT = true by rw [← HMT.out]; exact decide_eq_true ⟨HRR.out, by omega, by have := LN.out; omega⟩)
          go_wp2_with (fail)
          go_meet
          exact ⟨_, rfl, by rw [HF.out, decide_eq_false (show ¬ i < 0 by omega), decide_eq_false (show ¬ (n : Int) ≤ i by omega)]; rfl, X1⟩
    · rw [decide_eq_false hr]
      have HF := Lib.hid (show MT = false by rw [← HMT.out]; exact decide_eq_false (fun q => hr q.1))
      clear hr
      go_wp2_with (fail)
      go_meet
      exact ⟨_, rfl, by rw [HF.out]; rfl, X1⟩
  case rest =>
  obtain ⟨w1, rfl, rfl, X1⟩ := hcut
  clear k0 k1 k2 k3 k4 k5 k6
  have sA := SA.out.ext X1.out
  have sZ := SZ.out.ext X1.out
  have k0 := sA.c0
  have k1 := sA.c1
  have k2 := sA.c2
  have k3 := sA.c3
  have k4 := sA.c4
  have k5 := sA.c5
  have k6 := sA.c6
  have SA1 := Lib.hid sA
  have SZ1 := Lib.hid sZ
  cases MT with
  | false =>
    have HNO := Lib.hid (NO.out (of_decide_eq_false HMT.out))
    have HRES := Lib.hid (sZ.row f.stripe f.version f.need f.phase (.slice A n c) (.slice B m d) (.slice C k e)).res
    have zb := sZ.blk
    have ab := sA.blk
    clear sA sZ k0 k1 k2 k3 k4 k5 k6
    go_upto_region 2 with (fail)
    refine wp_region_lit ?_
    refine wpList_load_row rfl 25 (.tmp 2) rfl g rfl 25 _ (0, 0) _ ab Tryz.underlying25 rfl (by kernel_rfl) ?_
    refine wpList_store_row rfl 25 (.tmp 4) (.tmp 20) rfl (g + 1) (frow f.stripe f.version f.need f.phase (.slice A n c) (.slice B m d) (.slice C k e)) rfl rfl 25 _ zb (by kernel_rfl) rfl (by simp [Value.oneCell']) ?_
    go_wp2_with (fail)
    have hx : Ext w (w1.setRow (g + 1) (frow f.stripe f.version f.need f.phase (.slice A n c) (.slice B m d) (.slice C k e))) := (XA.out.trans X1.out).row (by rw [HG.out]; omega) _
    refine bodyPost_ret (v := .tuple #[fval f.stripe f.version f.need f.phase (.slice A n c) (.slice B m d) (.slice C k e), .int .i64 140]) ?_ rfl (by rw [HNO.out.1, HNO.out.2]; exact ⟨_, _, _, _, _, _, _, _, _, rfl, HZ.out.ext hx, hx⟩)
    rw [results_cell_tmp rfl]
    simp [asAddr, Result.andThen, HRES.out]
  | true =>
    clear sA sZ
    have hmt : Finds.mayTell f i := of_decide_eq_true HMT.out
    have hi0 := hmt.2.1
    have hin : i < n := by have := hmt.2.2; have := LN.out; omega
    have htE : Finds.toldE f i = 0 := if_pos hmt
    have htF : Finds.loseF f i = if f.phase = 1 ∧ Il.get f.marks i.toNat = 2 then { f with marks := f.marks.set i.toNat 0 } else f := by
      unfold Finds.loseF
      by_cases ho : f.phase = 1 ∧ Il.get f.marks i.toNat = 2
      · rw [if_pos ⟨hmt, ho⟩, if_pos ho]
      · rw [if_neg (fun q => ho q.2), if_neg ho]
    have HTF := Lib.hid htF
    have HTE := Lib.hid htE
    have HC1 := Lib.hid (cloneInts_any w1 A n c f.marks (H.out.u.ext (XA.out.trans X1.out)) (by omega))
    have f4 := SA1.out.fz 4
    obtain ⟨iN, rfl⟩ : ∃ iN : Nat, i = (iN : Int) := ⟨i.toNat, by omega⟩
    rw [Int.toNat_natCast] at HTF
    have hiN : iN < n := by omega
    have HL1 := Lib.hid (show g + 1 < w1.heap.size by have := SZ1.out.lt; omega)
    have r1 : (iN : Int) < n := hin
    clear hmt htE htF NO HMT HR
    go_upto_region 4 with (refine HC1.out.mono ?_; rintro e w3 ⟨v3, rfl, hv3⟩; obtain ⟨A3, c3, rfl, hi3⟩ := hv3.is; have sA3 := SA1.out.ext hv3.ext; have f43 := sA3.fz 4; have k43 := sA3.c4; have OW := Lib.hid hv3.own; have SA3 := Lib.hid sA3; have X3 := Lib.hid hv3.ext; clear hv3 hi3 sA3)
    obtain ⟨gu, rfl, hgu1, hgu2⟩ := own_addr OW.out (by have := LN.out; omega)
    have sA4 := SA3.out.set4 (.slice (some ⟨gu, 0, none⟩) f.marks.length c3)
    have ow4 := ownsRow_far OW.out (p := ⟨g, 4, none⟩) (by have := HL1.out; show g < w1.heap.size; omega) (.slice (some ⟨gu, 0, none⟩) f.marks.length c3)
    have x4 : Ext w (w3.setCell ⟨g, 4, none⟩ (.slice (some ⟨gu, 0, none⟩) f.marks.length c3)) := (XA.out.trans (X1.out.trans X3.out)).set_ (p := ⟨g, 4, none⟩) (by rw [HG.out]; exact Nat.le_refl _) _
    have sZ4 := (SZ1.out.ext X3.out).far (p := ⟨g, 4, none⟩) (by show g ≠ g + 1; omega) (.slice (some ⟨gu, 0, none⟩) f.marks.length c3)
    obtain ⟨w4, hw4⟩ : ∃ w4, w3.setCell ⟨g, 4, none⟩ (.slice (some ⟨gu, 0, none⟩) f.marks.length c3) = w4 := ⟨_, rfl⟩
    rw [hw4] at sA4 ow4 x4 sZ4 ⊢
    have LNE := LN.out
    rw [LNE] at sA4 ow4 ⊢
    have HGU := Lib.hid hgu1
    clear hw4 LNE f43 k43 k0 k1 k2 k3 k4 k5 k6 f4 hgu1 hgu2
    have hi4 := (Own.mk (base := w1.heap.size) (e := 3) ow4).ints
    obtain ⟨b9, o9, e9, hc9⟩ := hi4.rd.intAt hiN
    injection e9 with e9
    injection e9 with e9 e10
    subst e9 e10
    obtain ⟨y, hy⟩ : ∃ y, Il.get f.marks iN = y := ⟨_, rfl⟩
    rw [hy] at hc9 HTF
    rw [Nat.zero_add] at hc9
    have k3 := sA4.c3
    have k4 := sA4.c4
    have hcap := hi4.le
    have hmax := hi4.max
    have OW4 := Lib.hid ow4
    have X4 := Lib.hid x4
    have S4 := Lib.hid sA4
    have Z4 := Lib.hid sZ4
    clear hi4 ow4 x4 sA4 sZ4 hy
    by_cases hp : f.phase = 1
    · have e1 : (f.phase == 1) = true := by rw [beq_iff_eq]; exact hp
      by_cases hm2 : y = 2
      · have e2 : (y == 2) = true := by rw [beq_iff_eq]; exact hm2
        have HF := Lib.hid (show Finds.loseF f (iN : Int) = { f with marks := f.marks.set iN 0 } by rw [HTF.out, if_pos ⟨hp, hm2⟩])
        have f9 := OW4.out.frozenAt iN
        clear hp hm2
        go_upto_region 6 with (fail)
        have hgu : w1.heap.size ≤ gu := HGU.out
        have hg1 := HL1.out
        obtain ⟨o5, _⟩ := OW4.out.stored iN (.int .i64 0)
        have h5 : (icells f.marks).set iN (.int .i64 0) = icells (f.marks.set iN 0) := by unfold icells; rw [List.map_set]
        rw [h5] at o5
        have X5 := Lib.hid (X4.out.set_ (p := ⟨gu, iN, none⟩) (by rw [HG.out]; show g ≤ gu; omega) (.int .i64 0))
        have S5 := Lib.hid (S4.out.far (p := ⟨gu, iN, none⟩) (by show gu ≠ g; omega) (.int .i64 0))
        have Z5 := Lib.hid (Z4.out.far (p := ⟨gu, iN, none⟩) (by show gu ≠ g + 1; omega) (.int .i64 0))
        obtain ⟨l, hl⟩ : ∃ l, f.marks.set iN 0 = l := ⟨_, rfl⟩
        have hll : l.length = n := by rw [← hl, List.length_set]; exact LN.out
        rw [hl] at HF o5
        have OW5 := Lib.hid (show (w4.setCell ⟨gu, iN, none⟩ (.int .i64 0)).ownsRow w1.heap.size 3 1 (.slice (some ⟨gu, 0, none⟩) n c3) l.length (icells l) by rw [hll]; exact o5)
        obtain ⟨w5, hw5⟩ : ∃ w5, w4.setCell ⟨gu, iN, none⟩ (.int .i64 0) = w5 := ⟨_, rfl⟩
        rw [hw5] at X5 S5 Z5 OW5 ⊢
        have HLL := Lib.hid hll
        clear hw5 hl hll o5 h5 hgu hg1 f9 k3 k4 hc9
        have ab := S5.out.blk
        have zb := Z5.out.blk
        refine wp_region_lit ?_
        refine wpList_load_row rfl 25 (.tmp 2) rfl g rfl 25 _ (0, 0) _ ab Tryz.underlying25 rfl (by kernel_rfl) ?_
        refine wpList_store_row rfl 25 (.tmp 4) (.tmp 40) rfl (g + 1) (frow f.stripe f.version f.need f.phase (.slice (some ⟨gu, 0, none⟩) n c3) (.slice B m d) (.slice C k e)) rfl rfl 25 _ zb (by kernel_rfl) rfl (by simp [Value.oneCell']) ?_
        clear ab zb
        go_wp2_with (fail)
        have hend := lose_endZ (f := f) 0 HZ.out HZB.out OW5.out HLL.out HL1.out X5.out (by rw [HG.out]; omega)
        refine bodyPost_ret (v := .tuple #[fval f.stripe f.version f.need f.phase (.slice (some ⟨gu, 0, none⟩) n c3) (.slice B m d) (.slice C k e), .int .i64 0]) ?_ rfl (by rw [HF.out, HTE.out]; exact hend)
        rw [results_cell_tmp rfl]
        simp [asAddr, Result.andThen, (Z5.out.row f.stripe f.version f.need f.phase (.slice (some ⟨gu, 0, none⟩) n c3) (.slice B m d) (.slice C k e)).res]
      · have e2 : (y == 2) = false := by rw [beq_eq_false_iff_ne]; exact hm2
        have HF := Lib.hid (show Finds.loseF f (iN : Int) = { f with marks := f.marks } by rw [HTF.out, if_neg (fun q => hm2 q.2)])
        have OW5 := Lib.hid (show w4.ownsRow w1.heap.size 3 1 (.slice (some ⟨gu, 0, none⟩) n c3) f.marks.length (icells f.marks) by rw [LN.out]; exact OW4.out)
        clear hp hm2
        go_upto_region 6 with (fail)
        have ab := S4.out.blk
        have zb := Z4.out.blk
        refine wp_region_lit ?_
        refine wpList_load_row rfl 25 (.tmp 2) rfl g rfl 25 _ (0, 0) _ ab Tryz.underlying25 rfl (by kernel_rfl) ?_
        refine wpList_store_row rfl 25 (.tmp 4) (.tmp 40) rfl (g + 1) (frow f.stripe f.version f.need f.phase (.slice (some ⟨gu, 0, none⟩) n c3) (.slice B m d) (.slice C k e)) rfl rfl 25 _ zb (by kernel_rfl) rfl (by simp [Value.oneCell']) ?_
        clear ab zb
        go_wp2_with (fail)
        have hend := lose_endZ (f := f) 0 HZ.out HZB.out OW5.out LN.out HL1.out X4.out (by rw [HG.out]; omega)
        refine bodyPost_ret (v := .tuple #[fval f.stripe f.version f.need f.phase (.slice (some ⟨gu, 0, none⟩) n c3) (.slice B m d) (.slice C k e), .int .i64 0]) ?_ rfl (by rw [HF.out, HTE.out]; exact hend)
        rw [results_cell_tmp rfl]
        simp [asAddr, Result.andThen, (Z4.out.row f.stripe f.version f.need f.phase (.slice (some ⟨gu, 0, none⟩) n c3) (.slice B m d) (.slice C k e)).res]
    · have e1 : (f.phase == 1) = false := by rw [beq_eq_false_iff_ne]; exact hp
      have HF := Lib.hid (show Finds.loseF f (iN : Int) = { f with marks := f.marks } by rw [HTF.out, if_neg (fun q => hp q.1)])
      have OW5 := Lib.hid (show w4.ownsRow w1.heap.size 3 1 (.slice (some ⟨gu, 0, none⟩) n c3) f.marks.length (icells f.marks) by rw [LN.out]; exact OW4.out)
      clear hp
      go_upto_region 6 with (fail)
      have ab := S4.out.blk
      have zb := Z4.out.blk
      refine wp_region_lit ?_
      refine wpList_load_row rfl 25 (.tmp 2) rfl g rfl 25 _ (0, 0) _ ab Tryz.underlying25 rfl (by kernel_rfl) ?_
      refine wpList_store_row rfl 25 (.tmp 4) (.tmp 40) rfl (g + 1) (frow f.stripe f.version f.need f.phase (.slice (some ⟨gu, 0, none⟩) n c3) (.slice B m d) (.slice C k e)) rfl rfl 25 _ zb (by kernel_rfl) rfl (by simp [Value.oneCell']) ?_
      clear ab zb
      go_wp2_with (fail)
      have hend := lose_endZ (f := f) 0 HZ.out HZB.out OW5.out LN.out HL1.out X4.out (by rw [HG.out]; omega)
      refine bodyPost_ret (v := .tuple #[fval f.stripe f.version f.need f.phase (.slice (some ⟨gu, 0, none⟩) n c3) (.slice B m d) (.slice C k e), .int .i64 0]) ?_ rfl (by rw [HF.out, HTE.out]; exact hend)
      rw [results_cell_tmp rfl]
      simp [asAddr, Result.andThen, (Z4.out.row f.stripe f.version f.need f.phase (.slice (some ⟨gu, 0, none⟩) n c3) (.slice B m d) (.slice C k e)).res]
end Go.Proofs.YtfpglkacjecoeaaGreat
namespace Go.Proofs.YtfpglkacjecoeaaGreat
open Go.RowKit

/-- A world that has grown out of another one. -/
structure Ex (w0 : World) where
  w : World
  ext : Ext w0 w
def Ex.one (w0 : World) : Ex w0 := ⟨w0.drew, Ext.drew w0⟩
instance (w0 : World) : Nonempty (Ex w0) := ⟨Ex.one w0⟩
/-- The class. -/
abbrev Gr (w0 w' : World) : Prop := ∃ u : Ex w0, w' = u.w
theorem Ex.call {P : Program} {f : FuncId} {args : Array Value} {w0 : World} {v : Value} (u : Ex w0) (h : Calls P f args u.w fun e w' => e = .returned v ∧ Ext u.w w') :
    Calls P f args u.w fun e w'' => e = .returned v ∧ ∃ u' : Ex w0, w'' = u'.w :=
  h.mono fun _ w' ⟨he, hx⟩ => ⟨he, ⟨⟨w', u.ext.trans hx⟩, rfl⟩⟩
theorem Ex.callSame {P : Program} {f : FuncId} {args : Array Value} {w0 : World} {v : Value} (u : Ex w0) (h : Calls P f args u.w fun e w' => e = .returned v ∧ u.w = w') :
    Calls P f args u.w fun e w'' => e = .returned v ∧ ∃ u' : Ex w0, w'' = u'.w :=
  h.mono fun _ w' ⟨he, hx⟩ => ⟨he, u, hx.symm⟩
theorem Ex.callDr {P : Program} {f : FuncId} {args : Array Value} {w0 : World} {v : Value} (u : Ex w0) (h : Calls P f args u.w fun e w' => e = .returned v ∧ Dr u.w w') :
    Calls P f args u.w fun e w'' => e = .returned v ∧ ∃ u' : Ex w0, w'' = u'.w :=
  h.mono fun _ w' ⟨he, hx⟩ => ⟨he, ⟨⟨w', u.ext.trans hx.ext⟩, rfl⟩⟩
/-- A region whose operations are written out, at the class of the worlds that have grown. -/
theorem wp_region_grow {P : Program} {id : Nat} {Q : Exit → Act → World → Prop} {a : Act} {w : World} {l : List Oper} (hm : P.follows .mixedOrders = true) (hB : Region.lexB .any l.toArray = true)
    (h : wpQuiet P l.toArray (fun w' => ∃ u : Ex w, w' = u.w) (fun a' => ∀ w', (∃ u : Ex w, w' = u.w) → Q .normal a' w') l a) : (Code.region id l.toArray true).wp P Q a w :=
  wp_region_quiet (C := fun w' => ∃ u : Ex w, w' = u.w) hm hB ⟨Ex.one w, rfl⟩ (by simpa using h)
end Go.Proofs.YtfpglkacjecoeaaGreat
