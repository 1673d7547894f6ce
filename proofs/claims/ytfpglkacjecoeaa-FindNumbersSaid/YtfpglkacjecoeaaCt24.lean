/- Several texts in one: The contract of find.Lose. The finds of FindNumbers, written out. Steps by a run equation. No program in sight. -/
import Derived.Test.YtfpglkacjecoeaaCt12
import Derived.Test.YtfpglkacjecoeaaCt14
import Derived.Test.YtfpglkacjecoeaaCt23
import Derived.Test.YtfpglkacjecoeaaCt1
import Derived.Deep.MidRow
namespace Go.Proofs.Ytfpglkacjecoeaa
open Go.RowKit

/-- A find is handed back. -/
def GivesL (f : Finds.F) (er : Int) (w : World) (e : Ending) (w' : World) : Prop := ∃ A n c B m d C k e9, e = .returned (.tuple #[fval f.stripe f.version f.need f.phase (.slice A n c) (.slice B m d) (.slice C k e9), .int .i64 er]) ∧ Fd w' f A n c B m d C k e9 ∧ Ext w w'
theorem loseF_no {f : Finds.F} {i : Int} (h : ¬ Finds.mayTell f i) : Finds.loseF f i = f ∧ Finds.toldE f i = 140 := ⟨if_neg (fun q => h q.1), if_neg h⟩
theorem lose_end {w W : World} {g gu b1 n c : Nat} {f : Finds.F} {B : Option Addr} {m d : Nat} {C : Option Addr} {k e9 : Nat} {l : List Int} (er : Int) (ho : W.ownsRow b1 3 1 (.slice (some ⟨gu, 0, none⟩) n c) l.length (icells l)) (hl : l.length = n) (hb : g < b1) (hx : Ext w W) (hg : w.heap.size ≤ g) (hv : Is w B m d f.which) (hs : Mx w C k e9 f.shards) (st ve ne ph : Int) :
    GivesL ⟨st, ve, ne, ph, l, f.which, f.shards⟩ er w (.returned (.tuple #[fval st ve ne ph (.slice (some ⟨gu, 0, none⟩) n c) (.slice B m d) (.slice C k e9), .int .i64 er])) (W.setRow g (frow st ve ne ph (.slice (some ⟨gu, 0, none⟩) n c) (.slice B m d) (.slice C k e9))) := by
  subst hl
  have hx2 : Ext w (W.setRow g (frow st ve ne ph (.slice (some ⟨gu, 0, none⟩) l.length c) (.slice B m d) (.slice C k e9))) := hx.row hg _
  have ho2 := ownsRow_grown ho (grown_row W g (frow st ve ne ph (.slice (some ⟨gu, 0, none⟩) l.length c) (.slice B m d) (.slice C k e9))) (.inr (fun e => by have := (ho.lt gu rfl).1; injection e with e; have e' : gu = g := e; omega))
  exact ⟨_, _, _, _, _, _, _, _, _, rfl, ⟨(Own.mk (base := b1) (e := 3) ho2).ints, hv.ext hx2, hs.ext hx2⟩, hx2⟩
set_option maxRecDepth 100000 in
set_option maxHeartbeats 8000000 in
theorem fLose_any (w : World) (f : Finds.F) (A : Option Addr) (n c : Nat) (B : Option Addr) (m d : Nat) (C : Option Addr) (k e : Nat) (h : Fd w f A n c B m d C k e) (hn : n ≤ 1000) (hm : m ≤ 1000) (i : Int) :
    Calls Try.prog 15 #[fval f.stripe f.version f.need f.phase (.slice A n c) (.slice B m d) (.slice C k e), .int .i64 i] w (GivesL (Finds.loseF f i) (Finds.toldE f i) w) := by
  have q1 := h.u.max
  have q2 := h.u.le
  have q3 := h.v.max
  have q4 := h.v.le
  have q5 := h.s.max
  have q6 := h.s.le
  obtain ⟨g, hg⟩ : ∃ g, w.heap.size = g := ⟨_, rfl⟩
  have s1 := Fb.new w f.stripe f.version f.need f.phase (.slice A n c) (.slice B m d) (.slice C k e) hg
  have xA := Ext.alloc w (.cells #[.int .i64 f.stripe, .int .i64 f.version, .int .i64 f.need, .int .i64 f.phase, .slice A n c, .slice B m d, .slice C k e] 27)
  obtain ⟨W1, hW1⟩ : ∃ W1, w.alloc (.cells #[.int .i64 f.stripe, .int .i64 f.version, .int .i64 f.need, .int .i64 f.phase, .slice A n c, .slice B m d, .slice C k e] 27) = W1 := ⟨_, rfl⟩
  have z1 : W1.heap.size = g + 1 := by rw [← hW1, ← hg]; simp
  rw [hW1] at s1 xA
  have s2 := Fb.new W1 0 0 0 0 (.slice none 0 0) (.slice none 0 0) (.slice none 0 0) z1
  have xB := Ext.alloc W1 (.cells #[.int .i64 0, .int .i64 0, .int .i64 0, .int .i64 0, .slice none 0 0, .slice none 0 0, .slice none 0 0] 27)
  obtain ⟨W0, hW0⟩ : ∃ W0, W1.alloc (.cells #[.int .i64 0, .int .i64 0, .int .i64 0, .int .i64 0, .slice none 0 0, .slice none 0 0, .slice none 0 0] 27) = W0 := ⟨_, rfl⟩
  rw [hW0] at s2 xB
  have z0 : W0.heap.size = g + 1 + 1 := by rw [← hW0]; simp [z1]
  have sA := s1.ext xB
  have XA := Lib.hid (xA.trans xB)
  have HR := Lib.hid (fRight_any W0 f A n c B m d C k e (h.ext XA.out) hn hm)
  have SA := Lib.hid sA
  have SZ := Lib.hid s2
  have H := Lib.hid h
  have HG := Lib.hid hg
  have Z0 := Lib.hid z0
  have HW1 := Lib.hid hW1
  have HW0 := Lib.hid hW0
  have no : ¬ Finds.mayTell f i → Finds.loseF f i = f ∧ Finds.toldE f i = 140 := fun h => loseF_no h
  have NO := Lib.hid no
  clear h xA xB s1 s2 z0 z1 no hW1 hW0 sA
  have LN := Lib.hid H.out.u.len
  go_enter Try.func15, Try.ntmps15
  try dsimp only [List.append]
  go_upto_region 1 with (fail)
  rw [HW1.out, HW0.out]
  clear hg
  have k0 := SA.out.c0
  have k1 := SA.out.c1
  have k2 := SA.out.c2
  have k3 := SA.out.c3
  have k4 := SA.out.c4
  have k5 := SA.out.c5
  have k6 := SA.out.c6
  obtain ⟨MT, hMT⟩ : ∃ MT, decide (Finds.mayTell f i) = MT := ⟨_, rfl⟩
  have HMT := Lib.hid hMT
  clear hMT
  go_cut [19] (fun s wx => ∃ wv : World, wv = wx ∧ s = .bool (!MT) ∧ RowKit.Hid (Ext W0 wx))
  case first =>
    go_wp2_with (fail)
    refine HR.out.mono ?_
    rintro e w1 ⟨rfl, x1⟩
    have k4' := x1.cell k4
    have X1 := Lib.hid x1
    clear x1
    by_cases hr : Finds.right f
    · rw [decide_eq_true hr]
      have HRR := Lib.hid hr
      clear hr
      by_cases h0 : i < 0
      · have HF := Lib.hid (show MT = false by rw [← HMT.out]; exact decide_eq_false (fun q => by have := q.2.1; omega))
        go_wp2_with (fail)
        go_meet
        exact ⟨_, rfl, by rw [HF.out]; rfl, X1⟩
      · by_cases h1 : (n : Int) ≤ i
        · have HF := Lib.hid (show MT = false by rw [← HMT.out]; exact decide_eq_false (fun q => by have := q.2.2; have := LN.out; omega))
          go_wp2_with (fail)
          go_meet
          exact ⟨_, rfl, by rw [HF.out]; rfl, X1⟩
        · have HF := Lib.hid (show MT = true by rw [← HMT.out]; exact decide_eq_true ⟨HRR.out, by omega, by have := LN.out; omega⟩)
          go_wp2_with (fail)
          go_meet
          exact ⟨_, rfl, by rw [HF.out, decide_eq_false (show ¬ i < 0 by omega), decide_eq_false (show ¬ (n : Int) ≤ i by omega)]; rfl, X1⟩
    · rw [decide_eq_false hr]
      have HF := Lib.hid (show MT = false by rw [← HMT.out]; exact decide_eq_false (fun q => hr q.1))
      clear hr
      go_wp2_with (fail)
      go_meet
      exact ⟨_, rfl, by rw [HF.out]; rfl, X1⟩
  case rest =>
  obtain ⟨w1, rfl, rfl, X1⟩ := hcut
  clear k0 k1 k2 k3 k4 k5 k6
  have sA := SA.out.ext X1.out
  have sZ := SZ.out.ext X1.out
  have k0 := sA.c0
  have k1 := sA.c1
  have k2 := sA.c2
  have k3 := sA.c3
  have k4 := sA.c4
  have k5 := sA.c5
  have k6 := sA.c6
  have SA1 := Lib.hid sA
  have SZ1 := Lib.hid sZ
  cases MT with
  | false =>
    have HNO := Lib.hid (NO.out (of_decide_eq_false HMT.out))
    have HRES := Lib.hid (sZ.row f.stripe f.version f.need f.phase (.slice A n c) (.slice B m d) (.slice C k e)).res
    have zb := sZ.blk
    have ab := sA.blk
    clear sA sZ k0 k1 k2 k3 k4 k5 k6
    go_upto_region 2 with (fail)
    refine wp_region_lit ?_
    refine wpList_load_row rfl 27 (.tmp 2) rfl g rfl 27 _ (0, 0) _ ab Try.underlying27 rfl (by kernel_rfl) ?_
    refine wpList_store_row rfl 27 (.tmp 4) (.tmp 20) rfl (g + 1) (frow f.stripe f.version f.need f.phase (.slice A n c) (.slice B m d) (.slice C k e)) rfl rfl 27 _ zb (by kernel_rfl) rfl (by simp [Value.oneCell']) ?_
    go_wp2_with (fail)
    have hx : Ext w (w1.setRow (g + 1) (frow f.stripe f.version f.need f.phase (.slice A n c) (.slice B m d) (.slice C k e))) := (XA.out.trans X1.out).row (by rw [HG.out]; omega) _
    refine bodyPost_ret (v := .tuple #[fval f.stripe f.version f.need f.phase (.slice A n c) (.slice B m d) (.slice C k e), .int .i64 140]) ?_ rfl (by rw [HNO.out.1, HNO.out.2]; exact ⟨_, _, _, _, _, _, _, _, _, rfl, H.out.ext hx, hx⟩)
    rw [results_cell_tmp rfl]
    simp [asAddr, Result.andThen, HRES.out]
  | true =>
    clear sA sZ
    have hmt : Finds.mayTell f i := of_decide_eq_true HMT.out
    have hi0 := hmt.2.1
    have hin : i < n := by have := hmt.2.2; have := LN.out; omega
    have htE : Finds.toldE f i = 0 := if_pos hmt
    have htF : Finds.loseF f i = if f.phase = 1 ∧ Il.get f.marks i.toNat = 2 then { f with marks := f.marks.set i.toNat 0 } else f := by
      unfold Finds.loseF
      by_cases ho : f.phase = 1 ∧ Il.get f.marks i.toNat = 2
      · rw [if_pos ⟨hmt, ho⟩, if_pos ho]
      · rw [if_neg (fun q => ho q.2), if_neg ho]
    have HTF := Lib.hid htF
    have HTE := Lib.hid htE
    have HC1 := Lib.hid (cloneInts_any w1 A n c f.marks (H.out.u.ext (XA.out.trans X1.out)) (by omega))
    have f4 := SA1.out.fz 4
    obtain ⟨iN, rfl⟩ : ∃ iN : Nat, i = (iN : Int) := ⟨i.toNat, by omega⟩
    rw [Int.toNat_natCast] at HTF
    have hiN : iN < n := by omega
    have HL1 := Lib.hid (show g + 1 < w1.heap.size by have := SZ1.out.lt; omega)
    have r1 : (iN : Int) < n := hin
    clear hmt htE htF NO HMT HR
    go_upto_region 4 with (refine HC1.out.mono ?_; rintro e w3 ⟨v3, rfl, hv3⟩; obtain ⟨A3, c3, rfl, hi3⟩ := hv3.is; have sA3 := SA1.out.ext hv3.ext; have f43 := sA3.fz 4; have k43 := sA3.c4; have OW := Lib.hid hv3.own; have SA3 := Lib.hid sA3; have X3 := Lib.hid hv3.ext; clear hv3 hi3 sA3)
    obtain ⟨gu, rfl, hgu1, hgu2⟩ := own_addr OW.out (by have := LN.out; omega)
    have sA4 := SA3.out.set4 (.slice (some ⟨gu, 0, none⟩) f.marks.length c3)
    have ow4 := ownsRow_far OW.out (p := ⟨g, 4, none⟩) (by have := HL1.out; show g < w1.heap.size; omega) (.slice (some ⟨gu, 0, none⟩) f.marks.length c3)
    have x4 : Ext w (w3.setCell ⟨g, 4, none⟩ (.slice (some ⟨gu, 0, none⟩) f.marks.length c3)) := (XA.out.trans (X1.out.trans X3.out)).set_ (p := ⟨g, 4, none⟩) (by rw [HG.out]; exact Nat.le_refl _) _
    have sZ4 := (SZ1.out.ext X3.out).far (p := ⟨g, 4, none⟩) (by show g ≠ g + 1; omega) (.slice (some ⟨gu, 0, none⟩) f.marks.length c3)
    obtain ⟨w4, hw4⟩ : ∃ w4, w3.setCell ⟨g, 4, none⟩ (.slice (some ⟨gu, 0, none⟩) f.marks.length c3) = w4 := ⟨_, rfl⟩
    rw [hw4] at sA4 ow4 x4 sZ4 ⊢
    have LNE := LN.out
    rw [LNE] at sA4 ow4 ⊢
    have HGU := Lib.hid hgu1
    clear hw4 LNE f43 k43 k0 k1 k2 k3 k4 k5 k6 f4 hgu1 hgu2
    have hi4 := (Own.mk (base := w1.heap.size) (e := 3) ow4).ints
    obtain ⟨b9, o9, e9, hc9⟩ := hi4.rd.intAt hiN
    injection e9 with e9
    injection e9 with e9 e10
    subst e9 e10
    obtain ⟨y, hy⟩ : ∃ y, Il.get f.marks iN = y := ⟨_, rfl⟩
    rw [hy] at hc9 HTF
    rw [Nat.zero_add] at hc9
    have k3 := sA4.c3
    have k4 := sA4.c4
    have hcap := hi4.le
    have hmax := hi4.max
    have OW4 := Lib.hid ow4
    have X4 := Lib.hid x4
    have S4 := Lib.hid sA4
    have Z4 := Lib.hid sZ4
    clear hi4 ow4 x4 sA4 sZ4 hy
    by_cases hp : f.phase = 1
    · have e1 : (f.phase == 1) = true := by rw [beq_iff_eq]; exact hp
      by_cases hm2 : y = 2
      · have e2 : (y == 2) = true := by rw [beq_iff_eq]; exact hm2
        have HF := Lib.hid (show Finds.loseF f (iN : Int) = { f with marks := f.marks.set iN 0 } by rw [HTF.out, if_pos ⟨hp, hm2⟩])
        have f9 := OW4.out.frozenAt iN
        clear hp hm2
        go_upto_region 6 with (fail)
        have hgu : w1.heap.size ≤ gu := HGU.out
        have hg1 := HL1.out
        obtain ⟨o5, _⟩ := OW4.out.stored iN (.int .i64 0)
        have h5 : (icells f.marks).set iN (.int .i64 0) = icells (f.marks.set iN 0) := by unfold icells; rw [List.map_set]
        rw [h5] at o5
        have X5 := Lib.hid (X4.out.set_ (p := ⟨gu, iN, none⟩) (by rw [HG.out]; show g ≤ gu; omega) (.int .i64 0))
        have S5 := Lib.hid (S4.out.far (p := ⟨gu, iN, none⟩) (by show gu ≠ g; omega) (.int .i64 0))
        have Z5 := Lib.hid (Z4.out.far (p := ⟨gu, iN, none⟩) (by show gu ≠ g + 1; omega) (.int .i64 0))
        obtain ⟨l, hl⟩ : ∃ l, f.marks.set iN 0 = l := ⟨_, rfl⟩
        have hll : l.length = n := by rw [← hl, List.length_set]; exact LN.out
        rw [hl] at HF o5
        have OW5 := Lib.hid (show (w4.setCell ⟨gu, iN, none⟩ (.int .i64 0)).ownsRow w1.heap.size 3 1 (.slice (some ⟨gu, 0, none⟩) n c3) l.length (icells l) by rw [hll]; exact o5)
        obtain ⟨w5, hw5⟩ : ∃ w5, w4.setCell ⟨gu, iN, none⟩ (.int .i64 0) = w5 := ⟨_, rfl⟩
        rw [hw5] at X5 S5 Z5 OW5 ⊢
        have HLL := Lib.hid hll
        clear hw5 hl hll o5 h5 hgu hg1 f9 k3 k4 hc9
        have ab := S5.out.blk
        have zb := Z5.out.blk
        refine wp_region_lit ?_
        refine wpList_load_row rfl 27 (.tmp 2) rfl g rfl 27 _ (0, 0) _ ab Try.underlying27 rfl (by kernel_rfl) ?_
        refine wpList_store_row rfl 27 (.tmp 4) (.tmp 40) rfl (g + 1) (frow f.stripe f.version f.need f.phase (.slice (some ⟨gu, 0, none⟩) n c3) (.slice B m d) (.slice C k e)) rfl rfl 27 _ zb (by kernel_rfl) rfl (by simp [Value.oneCell']) ?_
        clear ab zb
        go_wp2_with (fail)
        have hend := lose_end (f := f) 0 OW5.out HLL.out HL1.out X5.out (by rw [HG.out]; omega) H.out.v H.out.s f.stripe f.version f.need f.phase
        refine bodyPost_ret (v := .tuple #[fval f.stripe f.version f.need f.phase (.slice (some ⟨gu, 0, none⟩) n c3) (.slice B m d) (.slice C k e), .int .i64 0]) ?_ rfl (by rw [HF.out, HTE.out]; exact hend)
        rw [results_cell_tmp rfl]
        simp [asAddr, Result.andThen, (Z5.out.row f.stripe f.version f.need f.phase (.slice (some ⟨gu, 0, none⟩) n c3) (.slice B m d) (.slice C k e)).res]
      · have e2 : (y == 2) = false := by rw [beq_eq_false_iff_ne]; exact hm2
        have HF := Lib.hid (show Finds.loseF f (iN : Int) = { f with marks := f.marks } by rw [HTF.out, if_neg (fun q => hm2 q.2)])
        have OW5 := Lib.hid (show w4.ownsRow w1.heap.size 3 1 (.slice (some ⟨gu, 0, none⟩) n c3) f.marks.length (icells f.marks) by rw [LN.out]; exact OW4.out)
        clear hp hm2
        go_upto_region 6 with (fail)
        have ab := S4.out.blk
        have zb := Z4.out.blk
        refine wp_region_lit ?_
        refine wpList_load_row rfl 27 (.tmp 2) rfl g rfl 27 _ (0, 0) _ ab Try.underlying27 rfl (by kernel_rfl) ?_
        refine wpList_store_row rfl 27 (.tmp 4) (.tmp 40) rfl (g + 1) (frow f.stripe f.version f.need f.phase (.slice (some ⟨gu, 0, none⟩) n c3) (.slice B m d) (.slice C k e)) rfl rfl 27 _ zb (by kernel_rfl) rfl (by simp [Value.oneCell']) ?_
        clear ab zb
        go_wp2_with (fail)
        have hend := lose_end (f := f) 0 OW5.out LN.out HL1.out X4.out (by rw [HG.out]; omega) H.out.v H.out.s f.stripe f.version f.need f.phase
        refine bodyPost_ret (v := .tuple #[fval f.stripe f.version f.need f.phase (.slice (some ⟨gu, 0, none⟩) n c3) (.slice B m d) (.slice C k e), .int .i64 0]) ?_ rfl (by rw [HF.out, HTE.out]; exact hend)
        rw [results_cell_tmp rfl]
        simp [asAddr, Result.andThen, (Z4.out.row f.stripe f.version f.need f.phase (.slice (some ⟨gu, 0, none⟩) n c3) (.slice B m d) (.slice C k e)).res]
    · have e1 : (f.phase == 1) = false := by rw [beq_eq_false_iff_ne]; exact hp
      have HF := Lib.hid (show Finds.loseF f (iN : Int) = { f with marks := f.marks } by rw [HTF.out, if_neg (fun q => hp q.1)])
      have OW5 := Lib.hid (show w4.ownsRow w1.heap.size 3 1 (.slice (some ⟨gu, 0, none⟩) n c3) f.marks.length (icells f.marks) by rw [LN.out]; exact OW4.out)
      clear hp
      go_upto_region 6 with (fail)
      have ab := S4.out.blk
      have zb := Z4.out.blk
      refine wp_region_lit ?_
      refine wpList_load_row rfl 27 (.tmp 2) rfl g rfl 27 _ (0, 0) _ ab Try.underlying27 rfl (by kernel_rfl) ?_
      refine wpList_store_row rfl 27 (.tmp 4) (.tmp 40) rfl (g + 1) (frow f.stripe f.version f.need f.phase (.slice (some ⟨gu, 0, none⟩) n c3) (.slice B m d) (.slice C k e)) rfl rfl 27 _ zb (by kernel_rfl) rfl (by simp [Value.oneCell']) ?_
      clear ab zb
      go_wp2_with (fail)
      have hend := lose_end (f := f) 0 OW5.out LN.out HL1.out X4.out (by rw [HG.out]; omega) H.out.v H.out.s f.stripe f.version f.need f.phase
      refine bodyPost_ret (v := .tuple #[fval f.stripe f.version f.need f.phase (.slice (some ⟨gu, 0, none⟩) n c3) (.slice B m d) (.slice C k e), .int .i64 0]) ?_ rfl (by rw [HF.out, HTE.out]; exact hend)
      rw [results_cell_tmp rfl]
      simp [asAddr, Result.andThen, (Z4.out.row f.stripe f.version f.need f.phase (.slice (some ⟨gu, 0, none⟩) n c3) (.slice B m d) (.slice C k e)).res]
end Go.Proofs.Ytfpglkacjecoeaa
namespace Go.Proofs.Ytfpglkacjecoeaa
open Go.RowKit

def n0 : Finds.F := ⟨1099511627776, 1099511627776, 2, 1, [0, 0, 0, 0], [], []⟩
def n1 : Finds.F := ⟨1099511627776, 1099511627776, 2, 1, [1, 2, 2, 0], [0], [[]]⟩
def n2 : Finds.F := ⟨1099511627776, 1099511627776, 2, 2, [1, 2, 2, 1], [0, 3], [[], []]⟩
def n3 : Finds.F := ⟨1099511627776, 1099511627776, 2, 1, [2, 0, 0, 0], [], []⟩
def n4 (z : List UInt8) : Finds.F := ⟨1099511627776, 1099511627776, 2, 1, [2, 1, 0, 0], [1], [z]⟩
def n5 : Finds.F := ⟨1099511627776, 1099511627776, 2, 1, [1, 0, 2, 0], [0], [[]]⟩
theorem nu_begin : Finds.beginF 1099511627776 1099511627776 4 2 = n0 ∧ Finds.beginE 1099511627776 1099511627776 4 2 = 0 ∧ Finds.right n0 := by
  have h := Finds.begun_right (s := 1099511627776) (v := 1099511627776) (n := 4) (need := 2) (by decide)
  have e : Finds.beginF 1099511627776 1099511627776 4 2 = n0 := sameF_iff.1 (by decide +kernel)
  rw [e] at h
  exact ⟨e, by decide +kernel, h⟩
theorem nu_g : Finds.toldF (Finds.toldF (Finds.toldF (Finds.toldF n0 0 0 []) 1 0 [1]) 2 120 []) 0 60 [] = n1 ∧ Finds.right n1 := by
  have h1 := told_case (f := n0) (f' := ⟨1099511627776, 1099511627776, 2, 1, [1, 0, 0, 0], [0], [[]]⟩) (i := 0) (e := 0) (b := []) nu_begin.2.2 (by decide) (by decide) rfl rfl (by decide +kernel)
  have h2 := told_case (f := ⟨1099511627776, 1099511627776, 2, 1, [1, 0, 0, 0], [0], [[]]⟩) (f' := ⟨1099511627776, 1099511627776, 2, 1, [1, 2, 0, 0], [0], [[]]⟩) (i := 1) (e := 0) (b := [1]) h1.2 (by decide) (by decide) rfl rfl (by decide +kernel)
  have h3 := told_case (f := ⟨1099511627776, 1099511627776, 2, 1, [1, 2, 0, 0], [0], [[]]⟩) (f' := n1) (i := 2) (e := 120) (b := []) h2.2 (by decide) (by decide) rfl rfl (by decide +kernel)
  rw [h1.1, h2.1, h3.1]
  exact ⟨Finds.toldF_shut (fun h => absurd h.2 (by decide)) _ _, h3.2⟩
theorem nu_h : Finds.toldF (Finds.toldF (Finds.toldF n1 3 0 []) 1 0 []) 2 0 [] = n2 ∧ Finds.right n2 := by
  have h1 := told_case (f := n1) (f' := n2) (i := 3) (e := 0) (b := []) nu_g.2 (by decide) (by decide) rfl rfl (by decide +kernel)
  rw [h1.1, Finds.toldF_late (f := n2) (by decide), Finds.toldF_late (f := n2) (by decide)]
  exact ⟨rfl, h1.2⟩
theorem nu_big (z : List UInt8) (hz : z.length = 65537) : Finds.toldF n0 0 0 z = n3 ∧ Finds.right n3 := by
  have h2 := Finds.told_opened (f := n0) (i := 0) nu_begin.2.2 (by decide) (by decide) rfl rfl 0 z
  have h3 := Finds.right_told nu_begin.2.2 0 0 z
  have hg : ¬ (Finds.gets n0 0 z = true) := by simp [Finds.gets, Finds.fitsL, n0]; omega
  have h4 : Finds.told0 n0 (0 : Int).toNat 0 z = ⟨1099511627776, 1099511627776, 2, 1, [2, 0, 0, 0], [], []⟩ := if_neg hg
  rw [h4] at h2
  have h5 : Finds.phased ⟨1099511627776, 1099511627776, 2, 1, [2, 0, 0, 0], [], []⟩ = n3 := sameF_iff.1 (by decide +kernel)
  rw [h5] at h2
  rw [h2] at h3
  exact ⟨h2, h3⟩
theorem nu_big2 (z z' : List UInt8) (hz : z.length = 65537) (hz' : z'.length = 65536) : Finds.toldF (Finds.toldF n0 0 0 z) 1 0 z' = n4 z' := by
  rw [(nu_big z hz).1]
  have h2 := Finds.told_opened (f := n3) (i := 1) (nu_big z hz).2 (by decide) (by decide) rfl rfl 0 z'
  have hg : Finds.gets n3 0 z' = true := by simp [Finds.gets, Finds.fitsL, n3]; omega
  have h4 : Finds.told0 n3 (1 : Int).toNat 0 z' = ⟨1099511627776, 1099511627776, 2, 1, [2, 1, 0, 0], [1], [z']⟩ := if_pos hg
  rw [h4] at h2
  have h5 : Finds.phased ⟨1099511627776, 1099511627776, 2, 1, [2, 1, 0, 0], [1], [z']⟩ = n4 z' := by
    have k1 : ¬ ((2 : Int) ≤ (([1] : List Int).length : Nat)) := by decide
    have k2 : ¬ ((([2, 1, 0, 0] : List Int).length : Int) - 2 < Finds.cnt [2, 1, 0, 0] 2) := by decide
    unfold Finds.phased
    simp only
    rw [if_neg k1, if_neg k2]
    rfl
  rw [h5] at h2
  exact h2
theorem nu_told_no : Finds.toldE n0 4 = 140 ∧ Finds.toldF n0 4 0 [] = n0 ∧ Finds.toldE n0 (-1) = 140 ∧ Finds.toldF n0 (-1) 0 [] = n0 := by
  have h1 : ¬ Finds.mayTell n0 4 := fun h => absurd h.2.2 (by decide)
  have h2 : ¬ Finds.mayTell n0 (-1) := fun h => absurd h.2.1 (by decide)
  exact ⟨if_neg h1, if_neg (fun h => h1 h.1), if_neg h2, if_neg (fun h => h2 h.1)⟩
theorem nu_nought : ¬ Finds.right Finds.nought := fun h => absurd h.1 (by decide)
theorem nu_nought2 : ¬ Finds.right ⟨0, 0, 0, 0, [2], [], []⟩ := fun h => absurd h.1 (by decide)
theorem nu_told_nought : Finds.toldE Finds.nought 0 = 140 ∧ Finds.toldF Finds.nought 0 0 [] = Finds.nought :=
  ⟨if_neg (fun h => nu_nought h.1), if_neg (fun h => nu_nought h.1.1)⟩
theorem nu_lose : Finds.loseF n1 1 = n5 ∧ Finds.toldE n1 1 = 0 ∧ Finds.loseF n1 0 = n1 ∧ Finds.toldE n1 0 = 0 ∧ Finds.loseF n1 4 = n1 ∧ Finds.toldE n1 4 = 140 := by
  have m1 : Finds.mayTell n1 1 := ⟨nu_g.2, by decide, by decide⟩
  have m0 : Finds.mayTell n1 0 := ⟨nu_g.2, by decide, by decide⟩
  have m4 : ¬ Finds.mayTell n1 4 := fun h => absurd h.2.2 (by decide)
  exact ⟨(if_pos ⟨m1, rfl, rfl⟩ : Finds.loseF n1 1 = _).trans rfl, if_pos m1, if_neg (fun h => absurd h.2.2 (by decide)), if_pos m0, if_neg (fun h => m4 h.1), if_neg m4⟩
theorem nu_rest : wants4 (Finds.wantsL n2) = [] ∧ Finds.lacksL n1 = [1, 2] ∧ Finds.lacksL ⟨0, 0, 0, 0, [2], [], []⟩ = [] := by
  refine ⟨?_, ?_, if_neg nu_nought2⟩
  · rw [show Finds.wantsL n2 = [] from if_neg (fun h => absurd h.2 (by decide))]
    rfl
  · rw [show Finds.lacksL n1 = Finds.ofL n1.marks 2 from if_pos nu_g.2]
    decide +kernel
theorem nu_data : dataE n2 2 3 (decE 2 3 n2.which n2.shards) = 40 ∧ dataE n2 0 0 40 = 40 ∧ dataE n2 2 4 (decE 2 4 n2.which n2.shards) = 0 ∧ (dataM n2 2 4 (decM 2 4 n2.which n2.shards)).length = 2 ∧ dataE n1 2 4 (decE 2 4 n1.which n1.shards) = 80 ∧ dataE Finds.nought 2 4 (decE 2 4 Finds.nought.which Finds.nought.shards) = 140 := by
  refine ⟨?_, ?_, ?_, ?_, ?_, ?_⟩
  · unfold dataE
    rw [if_neg (fun q => q nu_h.2), if_neg (by decide), if_pos (by decide)]
  · unfold dataE
    rw [if_neg (fun q => q nu_h.2), if_neg (by decide), if_pos (by decide)]
  · unfold dataE
    rw [if_neg (fun q => q nu_h.2), if_neg (by decide), if_neg (by decide)]
    decide +kernel
  · rw [show dataM n2 2 4 (decM 2 4 n2.which n2.shards) = decM 2 4 n2.which n2.shards from if_pos ⟨nu_h.2, rfl, rfl, rfl⟩]
    decide +kernel
  · unfold dataE
    rw [if_neg (fun q => q nu_g.2), if_pos (by decide)]
  · unfold dataE
    rw [if_pos nu_nought]
end Go.Proofs.Ytfpglkacjecoeaa
namespace Go.Proofs.Ytfpglkacjecoeaa
open Go.RowKit

theorem wpList_valR {P : Program} {ops : Array Oper} {Q : Exit → Act → World → Prop} {rest : List Oper} {o : Oper} {a : Act} {w w' : World} (hgd : o.guard = none) (v : Value)
    (hrun : (execOp a.eval o).run P w = .ok (.value v) w') (h : wpList P ops Q rest (a.put o.dst v) w') : wpList P ops Q (o :: rest) a w :=
  wpList_plain hgd fun _ hK => by unfold Oper.wp; rw [hrun]; exact hK _ _ h
section
variable {P : Program} {ops : Array Oper} {Q : Exit → Act → World → Prop} {rest : List Oper} {o : Oper} {a : Act} {w w' : World}
/-- Is this the operation? (with_reducible.) -/
theorem opIs (o : Oper) (h : wpList P ops Q (o :: rest) a w) : wpList P ops Q (o :: rest) a w := h
theorem wpList_allocR (hgd : o.guard = none) (t : TypeId) (ho : o.op = .alloc t) (v : Value)
    (hr : (Instr.alloc t true (.tuple #[])).run P w = .ok v w') (h : wpList P ops Q rest (a.put o.dst v) w') : wpList P ops Q (o :: rest) a w :=
  wpList_valR hgd v (by unfold execOp; simp only [ho, Sem.run_bind, hr, Result.andThen_ok, Sem.run_pure]) h
theorem wpList_storeR (hgd : o.guard = none) (t : TypeId) (x y : Operand) (ho : o.op = .store t x y) {p v : Value} (hx : a.eval x = p) (hy : a.eval y = v)
    (hr : (Instr.storeAt t p v).run P w = .ok () w') (h : wpList P ops Q rest (a.put o.dst undef) w') : wpList P ops Q (o :: rest) a w :=
  wpList_plain hgd fun _ hK => by
    unfold Oper.wp execOp
    simp only [ho, hx, hy, Sem.run_bind, hr, Result.andThen_ok, Sem.run_pure]
    exact hK _ _ h
theorem wp_storeR {op : Oper} {K : Act → World → Prop} (t : TypeId) (x y : Operand) (ho : op.op = .store t x y) {p v : Value} (hx : a.eval x = p) (hy : a.eval y = v)
    (hr : (Instr.storeAt t p v).run P w = .ok () w') {a' : Act} (ha : a.put op.dst undef = a') (h : K a' w') : op.wp P a w K Q := by
  unfold Oper.wp execOp
  simp only [ho, hx, hy, Sem.run_bind, hr, Result.andThen_ok, Sem.run_pure]
  subst ha
  exact h
theorem wpList_loadR (hgd : o.guard = none) (t : TypeId) (x : Operand) (ho : o.op = .load t x) {p v : Value} (hx : a.eval x = p)
    (hr : (Instr.loadAt t p).run P w = .ok v w') (h : wpList P ops Q rest (a.put o.dst v) w') : wpList P ops Q (o :: rest) a w :=
  wpList_valR hgd v (by unfold execOp; simp only [ho, hx, Sem.run_bind, hr, Result.andThen_ok, Sem.run_pure]) h
end

theorem wp_allocR {P : Program} {Q : Exit → Act → World → Prop} {a : Act} {w w' : World} {op : Oper} {K : Act → World → Prop} (t : TypeId) (ho : op.op = .alloc t) (v : Value)
    (hr : (Instr.alloc t true (.tuple #[])).run P w = .ok v w') {a' : Act} (ha : a.put op.dst v = a') (h : K a' w') : op.wp P a w K Q := by
  unfold Oper.wp execOp
  simp only [ho, Sem.run_bind, hr, Result.andThen_ok, Sem.run_pure]
  subst ha
  exact h
end Go.Proofs.Ytfpglkacjecoeaa
