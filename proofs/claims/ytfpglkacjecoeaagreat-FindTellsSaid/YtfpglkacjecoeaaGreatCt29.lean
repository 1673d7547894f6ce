/- Several texts in one: The document's many (find): its contract. The contract of the document's Right (find). The contracts of the document's Wants and Lacks (find). -/
import Derived.Test.YtfpglkacjecoeaaGreatCt28
import Derived.Test.YtfpglkacjecoeaaGreatCt4
import Derived.Test.YtfpglkacjecoeaaGreatCt27
import Derived.Test.YtfpglkacjecoeaaGreatCt12
import Derived.Deep.DeepCutAuto
import Derived.Deep.RegionHeld3
import Derived.Deep.DrawnRows
import Derived.Deep.QuietTactic
import Derived.BigQuiet
import Derived.Test.YtfpglkacjecoeaaGreatCt10
namespace Go.Proofs.YtfpglkacjecoeaaGreat
open Go.RowKit

set_option maxHeartbeats 1000000 in
theorem refMany13_any (w : World) (st ve ne ph : Int) (V S : Value) (l : List Int) (A : Option Addr) (n c : Nat) (hl : Is w A n c l) (hn : n ≤ 1000000) (kd : Int) :
    Calls Tryz.prog 41 #[fval st ve ne ph (.slice A n c) V S, .int .i64 kd] w fun r w' => r = .returned (.int .i64 (Finds.cnt l kd : Nat)) ∧ Ext w w' := by
  have hmx := hl.max
  have hle := hl.le
  have L := Lib.hid hl.len
  go_enter Tryz.func41, Tryz.ntmps41
  go_wp2
  have x0 : Ext w (w.alloc (.cells #[.int .i64 st, .int .i64 ve, .int .i64 ne, .int .i64 ph, .slice A n c, V, S] 25)) := Ext.alloc _ _
  have bx := Fb.new w st ve ne ph (.slice A n c) V S rfl
  generalize (w.alloc (.cells #[.int .i64 st, .int .i64 ve, .int .i64 ne, .int .i64 ph, .slice A n c, V, S] 25)) = W at *
  generalize hg : w.heap.size = g at *
  clear hg
  have c4 := bx.c4
  have hl1 := hl.ext x0
  clear bx
  go_loop [5, 6] (fun q i => ∃ k : Nat, k ≤ n ∧ i = .int .i64 k ∧ q = .int .i64 ((Finds.upto l kd k).length : Nat)) (fun _ i => n - (intOf i).toNat)
  case atStart => exact ⟨0, by omega, rfl, rfl⟩
  case round =>
    obtain ⟨k, hk', rfl, rfl⟩ := hrel
    by_cases hlt : k < n
    · have q1 : (k : Int) < n := by omega
      obtain ⟨b, o, rfl, hc⟩ := hl1.rd.intAt hlt
      have hc1 := Finds.upto_length_le l kd k
      have hsn := Finds.upto_succ l kd k
      generalize Il.get l k = mk at *
      by_cases hin : mk = kd
      · subst hin
        rw [if_pos rfl] at hsn
        have hs2 : (Finds.upto l mk (k + 1)).length = (Finds.upto l mk k).length + 1 := by rw [hsn]; simp
        generalize (Finds.upto l mk k).length = q at *
        have HSN := Lib.hid hs2
        clear hsn hs2
        go_wp2_with (fail)
        go_round
        case rel => exact ⟨k + 1, by omega, by go_num, by rw [HSN.out]; go_num⟩
        case measure => simp [intOf]; omega
      · have e1 : (mk == kd) = false := by rw [beq_eq_false_iff_ne]; exact hin
        rw [if_neg hin] at hsn
        have hs2 : (Finds.upto l kd (k + 1)).length = (Finds.upto l kd k).length := by rw [hsn]
        generalize (Finds.upto l kd k).length = q at *
        have HSN := Lib.hid hs2
        clear hin hsn hs2
        go_wp2_with (fail)
        go_round
        case rel => exact ⟨k + 1, by omega, by go_num, by rw [HSN.out]⟩
        case measure => simp [intOf]; omega
    · have q1 : ¬ (k : Int) < n := by omega
      obtain rfl : k = n := by omega
      have HR := Lib.hid (show (Finds.upto l kd k).length = Finds.cnt l kd by unfold Finds.cnt Finds.ofL; rw [L.out])
      go_wp2_with (fail)
      go_ret
      rw [HR.out]
      exact ⟨rfl, x0⟩
end Go.Proofs.YtfpglkacjecoeaaGreat
namespace Go.Proofs.YtfpglkacjecoeaaGreat
open Go.RowKit
attribute [local go_sem ↓] Go.wp_at_zero Go.wp_at_succ

set_option maxRecDepth 100000 in
set_option maxHeartbeats 4000000 in
theorem refRight13_no (w : World) (f : Finds.F) (A : Option Addr) (n c : Nat) (B : Option Addr) (m d : Nat) (C : Option Addr) (k e : Nat) (h : Fd w f A n c B m d C k e) (hno : ¬ Finds.named f.stripe f.version f.marks.length f.need) :
    Calls Tryz.prog 19 #[fval f.stripe f.version f.need f.phase (.slice A n c) (.slice B m d) (.slice C k e)] w fun r w' => r = .returned (.bool false) ∧ Ext w w' := by
  have q1 := h.u.max
  have q2 := h.u.le
  rw [h.u.len] at hno
  have HN := Lib.hid hno
  clear hno h
  go_enter Tryz.func19, Tryz.ntmps19
  try dsimp only [List.append]
  go_wp2
  all_goals first
    | (go_ret; exact ⟨rfl, Ext.alloc _ _⟩)
    | (exfalso; have h := HN.out; unfold Finds.named at h; omega)
/-- What is asked of a shard, but that its index comes once. -/
def spot4 (f : Finds.F) (i : Nat) : Prop := (0 ≤ Il.get f.which i ∧ Il.get f.which i < f.marks.length) ∧ Il.get f.marks (Il.get f.which i).toNat = 1 ∧ (f.shards.getD i []).length = (f.shards.getD 0 []).length ∧ (f.shards.getD i []).length ≤ 65536
theorem spot_iff {f : Finds.F} {i : Nat} : Finds.spot f i ↔ spot4 f i ∧ ∀ j, j < i → Il.get f.which j ≠ Il.get f.which i :=
  ⟨fun h => ⟨⟨h.1, h.2.1, h.2.2.1, h.2.2.2.1⟩, h.2.2.2.2⟩, fun h => ⟨h.1.1, h.1.2.1, h.1.2.2.1, h.1.2.2.2, h.2⟩⟩
set_option maxRecDepth 100000 in
set_option maxHeartbeats 16000000 in
theorem refRight13_rest (w : World) (f : Finds.F) (A : Option Addr) (n c : Nat) (B : Option Addr) (m d : Nat) (C : Option Addr) (k e : Nat) (h : Fd w f A n c B m d C k e) (hnm : Finds.named f.stripe f.version f.marks.length f.need) :
    Calls Tryz.prog 19 #[fval f.stripe f.version f.need f.phase (.slice A n c) (.slice B m d) (.slice C k e)] w fun r w' => r = .returned (.bool (decide (Finds.right f))) ∧ Ext w w' := by
  have q1' := h.u.max
  have q2' := h.u.le
  have q3' := h.v.max
  have q4' := h.v.le
  have q5' := h.s.max
  have q6' := h.s.le
  have hnm0 := hnm
  rw [h.u.len] at hnm
  unfold Finds.named at hnm
  obtain ⟨⟨g0, g1⟩, ⟨g2, g3⟩, ⟨g4, g5⟩, ⟨g6, g7⟩⟩ := hnm
  have n255 : n ≤ 255 := by omega
  obtain ⟨RR, hRR⟩ : ∃ RR, decide (Finds.right f) = RR := ⟨_, rfl⟩
  have LN := Lib.hid h.u.len
  have LV := Lib.hid h.v.len
  have LS := Lib.hid h.s.len
  have HNO := Lib.hid (fun (q : ¬ (Finds.counted f ∧ (∀ i, i < f.which.length → Finds.spot f i) ∧ Finds.phaseOk f.phase (Finds.cnt f.marks 1) (Finds.cnt f.marks 2) f.marks.length f.need)) => show RR = false by rw [← hRR]; exact decide_eq_false (fun r => q ((Finds.right_ref f).1 r).2))
  have HYES := Lib.hid (fun (a : Finds.counted f) (b : ∀ i, i < f.which.length → Finds.spot f i) => show RR = decide (Finds.phaseOk f.phase (Finds.cnt f.marks 1) (Finds.cnt f.marks 2) n f.need) by
    rw [← hRR, ← LN.out]
    exact decide_eq_decide.2 ⟨fun r => ((Finds.right_ref f).1 r).2.2.2, fun r => (Finds.right_ref f).2 ⟨hnm0, a, b, r⟩⟩)
  rw [hRR]
  obtain ⟨q0, hq0⟩ : ∃ q, Finds.cnt f.marks 0 = q := ⟨_, rfl⟩
  obtain ⟨q1, hq1⟩ : ∃ q, Finds.cnt f.marks 1 = q := ⟨_, rfl⟩
  obtain ⟨q2, hq2⟩ : ∃ q, Finds.cnt f.marks 2 = q := ⟨_, rfl⟩
  have l0 : q0 ≤ n := by rw [← hq0, ← LN.out]; exact Finds.cnt_le _ _
  have l1 : q1 ≤ n := by rw [← hq1, ← LN.out]; exact Finds.cnt_le _ _
  have l2 : q2 ≤ n := by rw [← hq2, ← LN.out]; exact Finds.cnt_le _ _
  have HCC := Lib.hid (show Finds.counted f ↔ (q0 + q1 + q2 = n ∧ m = q1 ∧ k = m) by unfold Finds.counted; rw [hq0, hq1, hq2, LN.out, LV.out, LS.out])
  obtain ⟨g, hg⟩ : ∃ g, w.heap.size = g := ⟨_, rfl⟩
  have s1 := Fb.new w f.stripe f.version f.need f.phase (.slice A n c) (.slice B m d) (.slice C k e) hg
  have xA := Ext.alloc w (.cells #[.int .i64 f.stripe, .int .i64 f.version, .int .i64 f.need, .int .i64 f.phase, .slice A n c, .slice B m d, .slice C k e] 25)
  obtain ⟨W1, hW1⟩ : ∃ W1, w.alloc (.cells #[.int .i64 f.stripe, .int .i64 f.version, .int .i64 f.need, .int .i64 f.phase, .slice A n c, .slice B m d, .slice C k e] 25) = W1 := ⟨_, rfl⟩
  rw [hW1] at s1 xA
  have XW := Lib.hid xA
  have FB := Lib.hid s1
  have HW1 := Lib.hid hW1
  have HMA := fun (kd : Int) (W : World) (hW : Ext W1 W) => refMany13_any W f.stripe f.version f.need f.phase (.slice B m d) (.slice C k e) f.marks A n c (h.u.ext (xA.trans hW)) (by omega) kd
  have h0 := fun u : Ex W1 => HMA 0 u.w u.ext
  have h1 := fun u : Ex W1 => HMA 1 u.w u.ext
  have h2 := fun u : Ex W1 => HMA 2 u.w u.ext
  rw [hq0] at h0
  rw [hq1] at h1
  rw [hq2] at h2
  rw [hq1] at HYES
  rw [hq2] at HYES
  have H0 := Lib.hid h0
  have H1 := Lib.hid h1
  have H2 := Lib.hid h2
  have K1 := Lib.hid (fun (W : World) (hW : Ext W1 W) => by have := HMA 1 W hW; rwa [hq1] at this)
  have K2 := Lib.hid (fun (W : World) (hW : Ext W1 W) => by have := HMA 2 W hW; rwa [hq2] at this)
  have HU := Lib.hid (fun (W : World) (hW : Ext W1 W) => h.u.ext (xA.trans hW))
  have HV := Lib.hid (fun (W : World) (hW : Ext W1 W) => h.v.ext (xA.trans hW))
  have HS := Lib.hid (fun (W : World) (hW : Ext W1 W) => h.s.ext (xA.trans hW))
  obtain ⟨CT, hCT⟩ : ∃ CT, decide (q0 + q1 + q2 = n ∧ m = q1 ∧ k = m) = CT := ⟨_, rfl⟩
  have HCT := Lib.hid hCT
  clear h hRR hq0 hq1 hq2 s1 xA hW1 HMA h0 h1 h2 hnm0 hCT
  go_enter Tryz.func19, Tryz.ntmps19
  try dsimp only [List.append]
  go_upto_region 1 with (fail)
  rw [HW1.out]
  try rw [hg]
  clear hg HW1
  have k0 := FB.out.c0
  have k1 := FB.out.c1
  have k2 := FB.out.c2
  have k3 := FB.out.c3
  have k4 := FB.out.c4
  have k5 := FB.out.c5
  have k6 := FB.out.c6
  have EW1 : IntKind.i64.wrap (((q0 : Nat) : Int) + ((q1 : Nat) : Int)) = ((q0 : Nat) : Int) + ((q1 : Nat) : Int) := IntWalk.i64_in _ (by omega)
  have EW2 : IntKind.i64.wrap (((q0 : Nat) : Int) + ((q1 : Nat) : Int) + ((q2 : Nat) : Int)) = ((q0 : Nat) : Int) + ((q1 : Nat) : Int) + ((q2 : Nat) : Int) := IntWalk.i64_in _ (by omega)
  have EW3 : IntKind.i64.wrap ((n : Int) - f.need) = (n : Int) - f.need := IntWalk.i64_in _ (by omega)
  go_upto_region 2 with (fail)
  go_cut [46] (fun s46 wx => ∃ wv : World, wv = wx ∧ s46 = .bool false ∧ wx = W1)
  case first =>
    go_wp2_with (fail)
    go_meet
    exact ⟨_, rfl, by
      rw [decide_eq_false (show ¬ f.stripe < 0 by omega), decide_eq_false (show ¬ (1099511627776 : Int) < f.stripe by omega), decide_eq_false (show ¬ f.version < 1 by omega), decide_eq_false (show ¬ (1099511627776 : Int) < f.version by omega), decide_eq_false (show ¬ (n : Int) < 1 by omega), decide_eq_false (show ¬ (255 : Int) < (n : Int) by omega), decide_eq_false (show ¬ f.need < 1 by omega), decide_eq_false (show ¬ (n : Int) < f.need by omega)]
      rfl, rfl⟩
  case rest =>
  obtain ⟨W1, rfl, rfl, rfl⟩ := hcut
  go_upto_region 4 with (fail)
  have hS : ∀ u : Ex W1, u.w.cell? ⟨g, 0, none⟩ = some (.int .i64 f.stripe) ∧ u.w.cell? ⟨g, 1, none⟩ = some (.int .i64 f.version) ∧ u.w.cell? ⟨g, 2, none⟩ = some (.int .i64 f.need) ∧ u.w.cell? ⟨g, 3, none⟩ = some (.int .i64 f.phase) ∧ u.w.cell? ⟨g, 4, none⟩ = some (.slice A n c) ∧ u.w.cell? ⟨g, 5, none⟩ = some (.slice B m d) ∧ u.w.cell? ⟨g, 6, none⟩ = some (.slice C k e) := fun u => ⟨u.ext.cell k0, u.ext.cell k1, u.ext.cell k2, u.ext.cell k3, u.ext.cell k4, u.ext.cell k5, u.ext.cell k6⟩
  go_cut [73] (fun s73 wx => ∃ wv : World, wv = wx ∧ s73 = .bool (!CT) ∧ RowKit.Hid (Ext W1 wx))
  case first =>
    by_cases n1 : q0 + q1 + q2 = n
    · by_cases n2 : m = q1
      · by_cases n3 : k = m
        · have e1 : (((q0 : Nat) : Int) + ((q1 : Nat) : Int) + ((q2 : Nat) : Int) != (n : Int)) = false := by rw [bne_eq_false_iff_eq]; omega
          have e2 : ((m : Int) != ((q1 : Nat) : Int)) = false := by rw [bne_eq_false_iff_eq]; omega
          have e3 : ((k : Int) != (m : Int)) = false := by rw [bne_eq_false_iff_eq]; omega
          have HC := Lib.hid (show CT = true by rw [← HCT.out]; exact decide_eq_true (by omega))
          clear n1 n2 n3
          refine wp_region_grow (by kernel_rfl) (by kernel_rfl) ?_
          repeat (go_big_quiet_step (first | (with_reducible exact Ex.call _ (H0.out _)) | (with_reducible exact Ex.call _ (H1.out _)) | (with_reducible exact Ex.call _ (H2.out _))))
          refine wpQuiet_nil ?_
          rintro _ ⟨u, rfl⟩
          go_wp2_with (fail)
          go_meet
          exact ⟨_, rfl, by rw [HC.out]; rfl, Lib.hid u.ext⟩
        · have e1 : (((q0 : Nat) : Int) + ((q1 : Nat) : Int) + ((q2 : Nat) : Int) != (n : Int)) = false := by rw [bne_eq_false_iff_eq]; omega
          have e2 : ((m : Int) != ((q1 : Nat) : Int)) = false := by rw [bne_eq_false_iff_eq]; omega
          have e3 : ((k : Int) != (m : Int)) = true := by rw [bne_iff_ne]; omega
          have HC := Lib.hid (show CT = false by rw [← HCT.out]; exact decide_eq_false (fun q => by omega))
          clear n1 n2 n3
          refine wp_region_grow (by kernel_rfl) (by kernel_rfl) ?_
          repeat (go_big_quiet_step (first | (with_reducible exact Ex.call _ (H0.out _)) | (with_reducible exact Ex.call _ (H1.out _)) | (with_reducible exact Ex.call _ (H2.out _))))
          refine wpQuiet_nil ?_
          rintro _ ⟨u, rfl⟩
          go_wp2_with (fail)
          go_meet
          exact ⟨_, rfl, by rw [HC.out]; rfl, Lib.hid u.ext⟩
      · have e1 : (((q0 : Nat) : Int) + ((q1 : Nat) : Int) + ((q2 : Nat) : Int) != (n : Int)) = false := by rw [bne_eq_false_iff_eq]; omega
        have e2 : ((m : Int) != ((q1 : Nat) : Int)) = true := by rw [bne_iff_ne]; omega
        have HC := Lib.hid (show CT = false by rw [← HCT.out]; exact decide_eq_false (fun q => by omega))
        clear n1 n2
        refine wp_region_grow (by kernel_rfl) (by kernel_rfl) ?_
        repeat (go_big_quiet_step (first | (with_reducible exact Ex.call _ (H0.out _)) | (with_reducible exact Ex.call _ (H1.out _)) | (with_reducible exact Ex.call _ (H2.out _))))
        refine wpQuiet_nil ?_
        rintro _ ⟨u, rfl⟩
        go_wp2_with (fail)
        go_meet
        exact ⟨_, rfl, by rw [HC.out]; rfl, Lib.hid u.ext⟩
    · have e1 : (((q0 : Nat) : Int) + ((q1 : Nat) : Int) + ((q2 : Nat) : Int) != (n : Int)) = true := by rw [bne_iff_ne]; omega
      have HC := Lib.hid (show CT = false by rw [← HCT.out]; exact decide_eq_false (fun q => by omega))
      clear n1
      refine wp_region_grow (by kernel_rfl) (by kernel_rfl) ?_
      repeat (go_big_quiet_step (first | (with_reducible exact Ex.call _ (H0.out _)) | (with_reducible exact Ex.call _ (H1.out _)) | (with_reducible exact Ex.call _ (H2.out _))))
      refine wpQuiet_nil ?_
      rintro _ ⟨u, rfl⟩
      go_wp2_with (fail)
      go_meet
      exact ⟨_, rfl, by rw [HC.out]; rfl, Lib.hid u.ext⟩
  case rest =>
  obtain ⟨w1, rfl, rfl, X1⟩ := hcut
  clear hS k0 k1 k2 k3 k4 k5 k6
  cases CT with
  | false =>
    have HF := Lib.hid (HNO.out (fun q => of_decide_eq_false HCT.out (HCC.out.1 q.1)))
    go_wp2_with (fail)
    go_ret
    exact ⟨ret_bool HF.out.symm, XW.out.trans X1.out⟩
  | true =>
    have hct := of_decide_eq_true HCT.out
    have HCTD := Lib.hid (HCC.out.2 hct)
    have HKM := Lib.hid (show k = m from hct.2.2)
    have k3 := X1.out.cell FB.out.c3
    have k5 := X1.out.cell FB.out.c5
    have HEW := Lib.hid EW3
    have HLL := Lib.hid (And.intro l0 (And.intro l1 l2))
    clear hct HCC HCT g0 g1 g2 g3 g4 g5 g6 g7 EW1 EW2 EW3 l0 l1 l2
    go_upto_region 7 with (fail)
    go_loopw [4, 5, 6] (fun s4 _ _ wr => ∃ i : Nat, i ≤ m ∧ s4 = .int .i64 i ∧ RowKit.Hid (Ext W1 wr) ∧ RowKit.Hid (∀ i', i' < i → Finds.spot f i')) (fun s4 _ _ _ => m - (intOf s4).toNat)
    case atStart => exact ⟨0, by omega, rfl, X1, Lib.hid fun i hi => absurd hi (Nat.not_lt_zero _)⟩
    case round =>
      obtain ⟨i, hi, rfl, HX, HN⟩ := hrel
      clear k3 k5
      have k0 := HX.out.cell FB.out.c0
      have k1 := HX.out.cell FB.out.c1
      have k2 := HX.out.cell FB.out.c2
      have k3 := HX.out.cell FB.out.c3
      have k4 := HX.out.cell FB.out.c4
      have k5 := HX.out.cell FB.out.c5
      have k6 := HX.out.cell FB.out.c6
      have XX := HX
      by_cases hlt : i < m
      · have HBAD := Lib.hid (fun (q : ¬ (spot4 f i ∧ ∀ j, j < i → Il.get f.which j ≠ Il.get f.which i)) => HNO.out (fun r => q (spot_iff.1 (r.2.1 i (by rw [LV.out]; exact hlt)))))
        have r1 : (i : Int) < m := by omega
        have r0 : (0 : Int) < k := by have := HKM.out; omega
        have r9 : (i : Int) < k := by have := HKM.out; omega
        obtain ⟨bl, ol, rfl, hcl⟩ := (HV.out wr HX.out).rd.intAt hlt
        obtain ⟨x, hxl⟩ : ∃ x, Il.get f.which i = x := ⟨_, rfl⟩
        rw [hxl] at hcl
        have HXL := Lib.hid hxl
        obtain ⟨bs, os, A9, n9, c9, rfl, ci, hb9⟩ := (HS.out wr HX.out).at_ (i := i) (by have := HKM.out; omega)
        obtain ⟨bs', os', A0, n0, c0', e8, c0'', hb0⟩ := (HS.out wr HX.out).at_ (i := 0) (by have := HKM.out; omega)
        injection e8 with e8
        injection e8 with e8 e9
        subst e8 e9
        rw [Nat.add_zero] at c0''
        have c0' := c0''
        have HL9 := Lib.hid (show (f.shards.getD i []).length = n9 from hb9.len)
        have HL0 := Lib.hid (show (f.shards.getD 0 []).length = n0 from hb0.len)
        have p1 := hb9.max
        have p2 := hb9.le
        have p3 := hb0.max
        have p4 := hb0.le
        clear hxl hb9 hb0 c0'' k0 k1 k2 k3
        by_cases t1 : x < 0
        · have e1 : decide (x < 0) = true := decide_eq_true t1
          have HF := Lib.hid (HBAD.out (fun q => by have := q.1; unfold spot4 at this; rw [HXL.out, LN.out] at this; omega))
          go_wp2_with (fail)
          go_quiet (fail)
          go_wp2_with (fail)
          go_ret
          exact ⟨ret_bool HF.out.symm, (XW.out.trans XX.out).thenDrewN _⟩
        · have e1 : decide (x < 0) = false := decide_eq_false t1
          by_cases t2 : (n : Int) ≤ x
          · have e2 : decide ((n : Int) ≤ x) = true := decide_eq_true t2
            have HF := Lib.hid (HBAD.out (fun q => by have := q.1; unfold spot4 at this; rw [HXL.out, LN.out] at this; omega))
            go_wp2_with (fail)
            go_quiet (fail)
            go_wp2_with (fail)
            go_ret
            exact ⟨ret_bool HF.out.symm, (XW.out.trans XX.out).thenDrewN _⟩
          · have e2 : decide ((n : Int) ≤ x) = false := decide_eq_false t2
            obtain ⟨xn, rfl⟩ : ∃ xn : Nat, x = (xn : Int) := ⟨x.toNat, by omega⟩
            have hxn : xn < n := by omega
            have r4 : (xn : Int) < n := by omega
            have e2n : decide (n ≤ xn) = false := decide_eq_false (by omega)
            obtain ⟨bm, om, rfl, hcm⟩ := (HU.out wr XX.out).rd.intAt hxn
            obtain ⟨y, hyl⟩ : ∃ y, Il.get f.marks xn = y := ⟨_, rfl⟩
            rw [hyl] at hcm
            have HYM := Lib.hid (show Il.get f.marks ((xn : Nat) : Int).toNat = y by rw [Int.toNat_natCast]; exact hyl)
            clear hyl
            by_cases t3 : y = 1
            · have e3 : (y != 1) = false := by rw [bne_eq_false_iff_eq]; exact t3
              by_cases t4 : n9 = n0
              · have e4 : ((n9 : Int) != (n0 : Int)) = false := by rw [bne_eq_false_iff_eq]; omega
                by_cases t5 : 65536 < n9
                · have e5 : decide ((65536 : Int) < (n9 : Int)) = true := decide_eq_true (by omega)
                  have e5n : decide (65536 < n9) = true := decide_eq_true (by omega)
                  have HF := Lib.hid (HBAD.out (fun q => by have := q.1.2.2.2; rw [HL9.out] at this; omega))
                  go_wp2_with (fail)
                  go_quiet (fail)
                  go_wp2_with (fail)
                  go_ret
                  exact ⟨ret_bool HF.out.symm, (XW.out.trans XX.out).thenDrewN _⟩
                · have e5 : decide ((65536 : Int) < (n9 : Int)) = false := decide_eq_false (by omega)
                  have e5n : decide (65536 < n9) = false := decide_eq_false (by omega)
                  have HGOOD := Lib.hid (show spot4 f i from ⟨by rw [HXL.out, LN.out]; omega, by rw [HXL.out, HYM.out]; exact t3, by rw [HL9.out, HL0.out]; exact t4, by rw [HL9.out]; omega⟩)
                  clear t3 t4
                  go_wp2_with (fail)
                  go_quiet (fail)
                  go_wp2_with (fail)
                  go_loopw [6] (fun t wr' => ∃ j : Nat, j ≤ i ∧ t = .int .i64 j ∧ RowKit.Hid (Ext wr wr') ∧ RowKit.Hid (∀ j', j' < j → Il.get f.which j' ≠ ((xn : Nat) : Int))) (fun t _ => i - (intOf t).toNat)
                  case atStart => exact ⟨0, by omega, rfl, Lib.hid (Ext.drewN _ _), Lib.hid fun i hi => absurd hi (Nat.not_lt_zero _)⟩
                  case round =>
                    obtain ⟨j, hj, rfl, hxj, HJ⟩ := hrel
                    by_cases hji : j < i
                    · have r2 : (j : Int) < i := by omega
                      have hjq : j < m := by omega
                      have r3 : (j : Int) < m := by omega
                      obtain ⟨bl', ol', e8, hcj⟩ := (HV.out _ (XX.out.trans hxj.out)).rd.intAt hjq
                      injection e8 with e8
                      injection e8 with e8 e9
                      subst e8 e9
                      have k5' := hxj.out.cell k5
                      obtain ⟨y', hyl⟩ : ∃ y', Il.get f.which j = y' := ⟨_, rfl⟩
                      rw [hyl] at hcj
                      have HYL := Lib.hid hyl
                      clear hyl k4 k5 k6 hcl ci c0' e1 e2 e3 e4 e5 e2n e5n
                      by_cases hxy : y' = ((xn : Nat) : Int)
                      · have HF := Lib.hid (HBAD.out (fun q => q.2 j hji (by rw [HYL.out, HXL.out]; exact hxy)))
                        have e6 : (y' == ((xn : Nat) : Int)) = true := by rw [beq_iff_eq]; exact hxy
                        clear hxy
                        go_wp2_with (fail)
                        go_ret
                        exact ⟨ret_bool HF.out.symm, XW.out.trans (XX.out.trans hxj.out)⟩
                      · have e6 : (y' == ((xn : Nat) : Int)) = false := by rw [beq_eq_false_iff_ne]; exact hxy
                        have HXY := Lib.hid hxy
                        clear hxy
                        go_wp2_with (fail)
                        refine ⟨⟨j + 1, by omega, by go_num, hxj, Lib.hid fun j' hj' => ?_⟩, by simp [intOf]; omega⟩
                        by_cases e : j' = j
                        · rw [e, HYL.out]; exact HXY.out
                        · exact HJ.out j' (by omega)
                    · have r2 : ¬ (j : Int) < i := by omega
                      obtain rfl : i = j := by omega
                      go_wp2_with (fail)
                      refine ⟨⟨i + 1, by omega, by go_num, Lib.hid (HX.out.trans hxj.out), Lib.hid fun i' hi' => ?_⟩, by simp [intOf]; omega⟩
                      by_cases e : i' = i
                      · rw [e]; exact spot_iff.2 ⟨HGOOD.out, fun j' hj' => by rw [HXL.out]; exact HJ.out j' hj'⟩
                      · exact HN.out i' (by omega)
              · have e4 : ((n9 : Int) != (n0 : Int)) = true := by rw [bne_iff_ne]; omega
                have HF := Lib.hid (HBAD.out (fun q => by have := q.1.2.2.1; rw [HL9.out, HL0.out] at this; exact t4 this))
                go_wp2_with (fail)
                go_quiet (fail)
                go_wp2_with (fail)
                go_ret
                exact ⟨ret_bool HF.out.symm, (XW.out.trans XX.out).thenDrewN _⟩
            · have e3 : (y != 1) = true := by rw [bne_iff_ne]; exact t3
              have HF := Lib.hid (HBAD.out (fun q => by have := q.1.2.1; rw [HXL.out, HYM.out] at this; exact t3 this))
              go_wp2_with (fail)
              go_quiet (fail)
              go_wp2_with (fail)
              go_ret
              exact ⟨ret_bool HF.out.symm, (XW.out.trans XX.out).thenDrewN _⟩
      · have r1 : ¬ (i : Int) < m := by omega
        have HFIN := Lib.hid (HYES.out HCTD.out (fun i' hi' => HN.out i' (by rw [LV.out] at hi'; omega)))
        have hS : ∀ u : Ex wr, u.w.cell? ⟨g, 0, none⟩ = some (.int .i64 f.stripe) ∧ u.w.cell? ⟨g, 1, none⟩ = some (.int .i64 f.version) ∧ u.w.cell? ⟨g, 2, none⟩ = some (.int .i64 f.need) ∧ u.w.cell? ⟨g, 3, none⟩ = some (.int .i64 f.phase) ∧ u.w.cell? ⟨g, 4, none⟩ = some (.slice A n c) ∧ u.w.cell? ⟨g, 5, none⟩ = some (.slice B m d) ∧ u.w.cell? ⟨g, 6, none⟩ = some (.slice C k e) := fun u => ⟨u.ext.cell k0, u.ext.cell k1, u.ext.cell k2, u.ext.cell k3, u.ext.cell k4, u.ext.cell k5, u.ext.cell k6⟩
        have H0 := Lib.hid (fun u : Ex wr => K1.out u.w (HX.out.trans u.ext))
        have H1 := H0
        have H2 := Lib.hid (fun u : Ex wr => K2.out u.w (HX.out.trans u.ext))
        have EW3 := HEW.out
        have l1 := HLL.out.2.1
        have l2 := HLL.out.2.2
        clear HYES HNO K1 K2 XX
        by_cases p1 : f.phase = 1
        · have f1 : (f.phase == 1) = true := by rw [beq_iff_eq]; exact p1
          rw [p1] at HFIN
          clear p1
          by_cases b1 : ((q1 : Nat) : Int) < f.need
          · have e1 : decide (((q1 : Nat) : Int) < f.need) = true := decide_eq_true b1
            have B1 := Lib.hid b1
            clear b1
            go_wp2_with (fail)
            refine wp_region_grow (by kernel_rfl) (by kernel_rfl) ?_
            repeat (go_big_quiet_step (first | (with_reducible exact Ex.call _ (H0.out _)) | (with_reducible exact Ex.call _ (H1.out _)) | (with_reducible exact Ex.call _ (H2.out _))))
            refine wpQuiet_nil ?_
            rintro _ ⟨u, rfl⟩
            have XU := Lib.hid (XW.out.trans (HX.out.trans u.ext))
            clear hS
            generalize u.w = W9 at *
            go_wp2_with (fail)
            go_ret
            exact ⟨ret_bool (by rw [HFIN.out]; have := B1.out; exact decide_eq_decide.2 (by unfold Finds.phaseOk; omega)), XU.out⟩
          · have e1 : decide (((q1 : Nat) : Int) < f.need) = false := decide_eq_false b1
            have B1 := Lib.hid b1
            clear b1
            go_wp2_with (fail)
            refine wp_region_grow (by kernel_rfl) (by kernel_rfl) ?_
            repeat (go_big_quiet_step (first | (with_reducible exact Ex.call _ (H0.out _)) | (with_reducible exact Ex.call _ (H1.out _)) | (with_reducible exact Ex.call _ (H2.out _))))
            refine wpQuiet_nil ?_
            rintro _ ⟨u, rfl⟩
            have XU := Lib.hid (XW.out.trans (HX.out.trans u.ext))
            clear hS
            generalize u.w = W9 at *
            go_wp2_with (fail)
            go_ret
            exact ⟨ret_bool (by rw [HFIN.out]; have := B1.out; exact (decide_eq_false (by unfold Finds.phaseOk; omega)).symm), XU.out⟩
        · have f1 : (f.phase == 1) = false := by rw [beq_eq_false_iff_ne]; exact p1
          by_cases p2 : f.phase = 2
          · have f2 : (f.phase == 2) = true := by rw [beq_iff_eq]; exact p2
            rw [p2] at HFIN
            clear p1 p2
            go_wp2_with (fail)
            refine wp_region_grow (by kernel_rfl) (by kernel_rfl) ?_
            repeat (go_big_quiet_step (first | (with_reducible exact Ex.call _ (H0.out _)) | (with_reducible exact Ex.call _ (H1.out _)) | (with_reducible exact Ex.call _ (H2.out _))))
            refine wpQuiet_nil ?_
            rintro _ ⟨u, rfl⟩
            have XU := Lib.hid (XW.out.trans (HX.out.trans u.ext))
            clear hS
            generalize u.w = W9 at *
            go_wp2_with (fail)
            go_ret
            exact ⟨ret_bool (by rw [HFIN.out]; exact Bool.eq_iff_iff.2 (by rw [beq_iff_eq, decide_eq_true_eq]; unfold Finds.phaseOk; omega)), XU.out⟩
          · have f2 : (f.phase == 2) = false := by rw [beq_eq_false_iff_ne]; exact p2
            by_cases p3 : f.phase = 3
            · have f3 : (f.phase == 3) = true := by rw [beq_iff_eq]; exact p3
              rw [p3] at HFIN
              clear p1 p2 p3
              by_cases b1 : ((q1 : Nat) : Int) < f.need
              · have e1 : decide (((q1 : Nat) : Int) < f.need) = true := decide_eq_true b1
                have B1 := Lib.hid b1
                clear b1
                go_wp2_with (fail)
                refine wp_region_grow (by kernel_rfl) (by kernel_rfl) ?_
                repeat (go_big_quiet_step (first | (with_reducible exact Ex.call _ (H0.out _)) | (with_reducible exact Ex.call _ (H1.out _)) | (with_reducible exact Ex.call _ (H2.out _))))
                refine wpQuiet_nil ?_
                rintro _ ⟨u, rfl⟩
                have XU := Lib.hid (XW.out.trans (HX.out.trans u.ext))
                clear hS
                generalize u.w = W9 at *
                go_wp2_with (fail)
                go_ret
                exact ⟨ret_bool (by rw [HFIN.out]; have := B1.out; exact decide_eq_decide.2 (by unfold Finds.phaseOk; omega)), XU.out⟩
              · have e1 : decide (((q1 : Nat) : Int) < f.need) = false := decide_eq_false b1
                have B1 := Lib.hid b1
                clear b1
                go_wp2_with (fail)
                refine wp_region_grow (by kernel_rfl) (by kernel_rfl) ?_
                repeat (go_big_quiet_step (first | (with_reducible exact Ex.call _ (H0.out _)) | (with_reducible exact Ex.call _ (H1.out _)) | (with_reducible exact Ex.call _ (H2.out _))))
                refine wpQuiet_nil ?_
                rintro _ ⟨u, rfl⟩
                have XU := Lib.hid (XW.out.trans (HX.out.trans u.ext))
                clear hS
                generalize u.w = W9 at *
                go_wp2_with (fail)
                go_ret
                exact ⟨ret_bool (by rw [HFIN.out]; have := B1.out; exact (decide_eq_false (by unfold Finds.phaseOk; omega)).symm), XU.out⟩
            · have f3 : (f.phase == 3) = false := by rw [beq_eq_false_iff_ne]; exact p3
              have HF := Lib.hid (show RR = false by rw [HFIN.out]; exact decide_eq_false (by unfold Finds.phaseOk; omega))
              clear p1 p2 p3
              go_wp2_with (fail)
              go_ret
              exact ⟨ret_bool HF.out.symm, XW.out.trans HX.out⟩
theorem refRight13_any (w : World) (f : Finds.F) (A : Option Addr) (n c : Nat) (B : Option Addr) (m d : Nat) (C : Option Addr) (k e : Nat) (h : Fd w f A n c B m d C k e) :
    Calls Tryz.prog 19 #[fval f.stripe f.version f.need f.phase (.slice A n c) (.slice B m d) (.slice C k e)] w fun r w' => r = .returned (.bool (decide (Finds.right f))) ∧ Ext w w' := by
  by_cases hn : Finds.named f.stripe f.version f.marks.length f.need
  · exact refRight13_rest w f A n c B m d C k e h hn
  · rw [show decide (Finds.right f) = false from decide_eq_false (fun q => hn q.1)]
    exact refRight13_no w f A n c B m d C k e h hn
end Go.Proofs.YtfpglkacjecoeaaGreat
namespace Go.Proofs.YtfpglkacjecoeaaGreat
open Go.RowKit

theorem wants4_append (a b : List Int) : wants4 (a ++ b) = wants4 a ++ wants4 b := by simp [wants4]
set_option maxRecDepth 100000 in
set_option maxHeartbeats 4000000 in
theorem refWants13_any (w : World) (f : Finds.F) (A : Option Addr) (n c : Nat) (B : Option Addr) (m d : Nat) (C : Option Addr) (k e : Nat) (h : Fd w f A n c B m d C k e) :
    Calls Tryz.prog 22 #[fval f.stripe f.version f.need f.phase (.slice A n c) (.slice B m d) (.slice C k e)] w (GivesW (wants4 (Finds.wantsL f)) w) := by
  obtain ⟨i0, hi0, hz0, hz1, hz2⟩ := info_parts want_info
  have q1 := h.u.max
  have q2 := h.u.le
  have q3 := h.v.max
  have q4 := h.v.le
  have q5 := h.s.max
  have q6 := h.s.le
  obtain ⟨g, hg⟩ : ∃ g, w.heap.size = g := ⟨_, rfl⟩
  have s1 := Fb.new w f.stripe f.version f.need f.phase (.slice A n c) (.slice B m d) (.slice C k e) hg
  have xA := Ext.alloc w (.cells #[.int .i64 f.stripe, .int .i64 f.version, .int .i64 f.need, .int .i64 f.phase, .slice A n c, .slice B m d, .slice C k e] 25)
  obtain ⟨W1, hW1⟩ : ∃ W1, w.alloc (.cells #[.int .i64 f.stripe, .int .i64 f.version, .int .i64 f.need, .int .i64 f.phase, .slice A n c, .slice B m d, .slice C k e] 25) = W1 := ⟨_, rfl⟩
  rw [hW1] at s1 xA
  have XA := Lib.hid xA
  have HW1 := Lib.hid hW1
  have HR := Lib.hid (refRight13_any W1 f A n c B m d C k e (h.ext xA))
  have FB := Lib.hid s1
  have HU := Lib.hid h.u
  have LN := Lib.hid h.u.len
  clear h xA s1 hW1
  go_enter Tryz.func22, Tryz.ntmps22
  try dsimp only [List.append]
  go_upto_region 1 with (fail)
  rw [HW1.out]
  try rw [hg]
  clear hg HW1
  have k0 := FB.out.c0
  have k1 := FB.out.c1
  have k2 := FB.out.c2
  have k3 := FB.out.c3
  have k4 := FB.out.c4
  have k5 := FB.out.c5
  have k6 := FB.out.c6
  go_wp2_with (fail)
  refine HR.out.mono ?_
  rintro r w1 ⟨rfl, x1⟩
  have X1 := Lib.hid (XA.out.trans x1)
  have Y1 := Lib.hid x1
  clear x1 k0 k1 k2 k3 k4 k5 k6
  have k3 := Y1.out.cell FB.out.c3
  have k4 := Y1.out.cell FB.out.c4
  by_cases hr : Finds.right f
  · have HN := Lib.hid (show n ≤ 255 by rw [← LN.out]; exact (Finds.right_len hr).2)
    rw [decide_eq_true hr]
    by_cases hp : f.phase = 1
    · have e0 : (f.phase != 1) = false := by rw [bne_eq_false_iff_eq]; exact hp
      have HL := Lib.hid (show Finds.wantsL f = Finds.ofL f.marks 0 from if_pos ⟨hr, hp⟩)
      clear hr hp
      go_wp2_with (fail)
      go_loopw [3, 4] (fun u s wr => ∃ j : Nat, j ≤ n ∧ s = .int .i64 (j : Int) ∧ RowKit.Hid (wr.ownsRow w1.heap.size 63 2 u (wants4 (Finds.upto f.marks 0 j)).length (wcells (wants4 (Finds.upto f.marks 0 j)))) ∧ RowKit.Hid (Ext w1 wr)) (fun _ s _ => n - (intOf s).toNat)
      case atStart => exact ⟨0, by omega, rfl, Lib.hid (World.ownsRow_nil _ _ _ _), Lib.hid (Ext.refl _)⟩
      case round =>
        obtain ⟨j, hj, rfl, OWN, HX⟩ := hrel
        have k4' := HX.out.cell k4
        by_cases hlt : j < n
        · have r1 : (j : Int) < n := by omega
          obtain ⟨bm, om, rfl, hc⟩ := ((HU.out.ext X1.out).ext HX.out).rd.intAt hlt
          have hsn := Finds.upto_succ f.marks 0 j
          have hln : (Finds.upto f.marks 0 j).length ≤ 255 := by have := Finds.upto_length_le f.marks 0 j; have := HN.out; omega
          have hw4 : (wants4 (Finds.upto f.marks 0 j)).length ≤ 255 := by rw [wants4_length]; exact hln
          obtain ⟨y, hy⟩ : ∃ y, Il.get f.marks j = y := ⟨_, rfl⟩
          rw [hy] at hc hsn
          obtain ⟨L0, hL0⟩ : ∃ L0, Finds.upto f.marks 0 j = L0 := ⟨_, rfl⟩
          rw [hL0] at hsn OWN hln hw4
          have hsz := HX.out.size
          clear hy hL0 k3 k4
          by_cases hym : y = 0
          · have e1 : (y == 0) = true := by rw [beq_iff_eq]; exact hym
            rw [if_pos hym] at hsn
            have HSN := Lib.hid hsn
            clear hym hsn
            go_wp2_with (at_builtin; refine wpList_append_rd _ rfl (.tmp 27) (.tmp 30) 52 rfl w1.heap.size 63 i0 _ 2 16 Tryz.underlying52 hi0 hz0 hz1 hz2 rfl (by omega) u3 (wants4 L0).length (wcells (wants4 L0)) rfl (ownsRow_ext OWN.out (Ext.alloc _ _)) (some ⟨wr.heap.size, 0, none⟩) 1 1 [.int .i64 (j : Int), .int .u8 4] rfl (Rd.lit2w wr _ _ _) (by simp [Value.oneCell']) (by omega) (by unfold maxLen; omega) (by simp; omega) ?_; intro v1 w3 hown hgr hat)
            refine ⟨⟨j + 1, by omega, by go_num, Lib.hid ?_, Lib.hid ((HX.out.trans (Ext.alloc _ _)).ofGrown hgr (fun k hk => (OWN.out.lt k hk).1))⟩, by simp [intOf]; omega⟩
            rw [HSN.out, wants4_append, wcells_append, List.length_append]
            exact hown
          · have e1 : (y == 0) = false := by rw [beq_eq_false_iff_ne]; exact hym
            rw [if_neg hym] at hsn
            have HSN := Lib.hid hsn
            clear hym hsn
            go_wp2_with (fail)
            exact ⟨⟨j + 1, by omega, by go_num, by rw [HSN.out]; exact OWN, HX⟩, by simp [intOf]; omega⟩
        · have r1 : ¬ (j : Int) < n := by omega
          obtain rfl : j = n := by omega
          have hu : Finds.upto f.marks 0 j = Finds.ofL f.marks 0 := by unfold Finds.ofL; rw [LN.out]
          rw [hu] at OWN
          clear hu
          go_wp2_with (fail)
          go_ret
          obtain ⟨A3, c3, e3, hw⟩ := Ws.own OWN.out
          rw [HL.out]
          exact ⟨A3, _, c3, ret_val e3, hw, X1.out.trans HX.out⟩
    · have e0 : (f.phase != 1) = true := by rw [bne_iff_ne]; exact hp
      have HL := Lib.hid (show Finds.wantsL f = [] from if_neg (fun h => hp h.2))
      clear hr hp
      go_wp2_with (fail)
      go_ret
      rw [HL.out]; exact ⟨_, _, _, rfl, Ws.none _, X1.out⟩
  · rw [decide_eq_false hr]
    have HL := Lib.hid (show Finds.wantsL f = [] from if_neg (fun h => hr h.1))
    clear hr
    go_wp2_with (fail)
    go_ret
    rw [HL.out]; exact ⟨_, _, _, rfl, Ws.none _, X1.out⟩
set_option maxRecDepth 100000 in
set_option maxHeartbeats 4000000 in
theorem refLacks13_any (w : World) (f : Finds.F) (A : Option Addr) (n c : Nat) (B : Option Addr) (m d : Nat) (C : Option Addr) (k e : Nat) (h : Fd w f A n c B m d C k e) :
    Calls Tryz.prog 25 #[fval f.stripe f.version f.need f.phase (.slice A n c) (.slice B m d) (.slice C k e)] w fun r w' => ∃ v, r = .returned v ∧ NewInts w w' v (Finds.lacksL f) := by
  obtain ⟨i0, hi0, hz0, hz1, hz2⟩ := info_parts int_info
  have q1 := h.u.max
  have q2 := h.u.le
  have q3 := h.v.max
  have q4 := h.v.le
  have q5 := h.s.max
  have q6 := h.s.le
  obtain ⟨g, hg⟩ : ∃ g, w.heap.size = g := ⟨_, rfl⟩
  have s1 := Fb.new w f.stripe f.version f.need f.phase (.slice A n c) (.slice B m d) (.slice C k e) hg
  have xA := Ext.alloc w (.cells #[.int .i64 f.stripe, .int .i64 f.version, .int .i64 f.need, .int .i64 f.phase, .slice A n c, .slice B m d, .slice C k e] 25)
  obtain ⟨W1, hW1⟩ : ∃ W1, w.alloc (.cells #[.int .i64 f.stripe, .int .i64 f.version, .int .i64 f.need, .int .i64 f.phase, .slice A n c, .slice B m d, .slice C k e] 25) = W1 := ⟨_, rfl⟩
  rw [hW1] at s1 xA
  have XA := Lib.hid xA
  have HW1 := Lib.hid hW1
  have HR := Lib.hid (refRight13_any W1 f A n c B m d C k e (h.ext xA))
  have FB := Lib.hid s1
  have HU := Lib.hid h.u
  have LN := Lib.hid h.u.len
  clear h xA s1 hW1
  go_enter Tryz.func25, Tryz.ntmps25
  try dsimp only [List.append]
  go_upto_region 1 with (fail)
  rw [HW1.out]
  try rw [hg]
  clear hg HW1
  have k0 := FB.out.c0
  have k1 := FB.out.c1
  have k2 := FB.out.c2
  have k3 := FB.out.c3
  have k4 := FB.out.c4
  have k5 := FB.out.c5
  have k6 := FB.out.c6
  go_wp2_with (fail)
  refine HR.out.mono ?_
  rintro r w1 ⟨rfl, x1⟩
  have X1 := Lib.hid (XA.out.trans x1)
  have Y1 := Lib.hid x1
  clear x1 k0 k1 k2 k3 k4 k5 k6
  have k3 := Y1.out.cell FB.out.c3
  have k4 := Y1.out.cell FB.out.c4
  by_cases hr : Finds.right f
  · have HN := Lib.hid (show n ≤ 255 by rw [← LN.out]; exact (Finds.right_len hr).2)
    rw [decide_eq_true hr]
    have HL := Lib.hid (show Finds.lacksL f = Finds.ofL f.marks 2 from if_pos hr)
    clear hr
    go_wp2_with (fail)
    go_loopw [3, 4] (fun u s wr => ∃ j : Nat, j ≤ n ∧ s = .int .i64 (j : Int) ∧ RowKit.Hid (wr.ownsRow w1.heap.size 3 1 u (Finds.upto f.marks 2 j).length (icells (Finds.upto f.marks 2 j))) ∧ RowKit.Hid (Ext w1 wr)) (fun _ s _ => n - (intOf s).toNat)
    case atStart => exact ⟨0, by omega, rfl, Lib.hid (World.ownsRow_nil _ _ _ _), Lib.hid (Ext.refl _)⟩
    case round =>
      obtain ⟨j, hj, rfl, OWN, HX⟩ := hrel
      have k4' := HX.out.cell k4
      by_cases hlt : j < n
      · have r1 : (j : Int) < n := by omega
        obtain ⟨bm, om, rfl, hc⟩ := ((HU.out.ext X1.out).ext HX.out).rd.intAt hlt
        have hsn := Finds.upto_succ f.marks 2 j
        have hln : (Finds.upto f.marks 2 j).length ≤ 255 := by have := Finds.upto_length_le f.marks 2 j; have := HN.out; omega
        have hw4 : (Finds.upto f.marks 2 j).length ≤ 255 := by exact hln
        obtain ⟨y, hy⟩ : ∃ y, Il.get f.marks j = y := ⟨_, rfl⟩
        rw [hy] at hc hsn
        obtain ⟨L0, hL0⟩ : ∃ L0, Finds.upto f.marks 2 j = L0 := ⟨_, rfl⟩
        rw [hL0] at hsn OWN hln hw4
        have hsz := HX.out.size
        clear hy hL0 k3 k4
        by_cases hym : y = 2
        · have e1 : (y == 2) = true := by rw [beq_iff_eq]; exact hym
          rw [if_pos hym] at hsn
          have HSN := Lib.hid hsn
          clear hym hsn
          go_wp2_with (at_builtin; refine wpList_append_rd _ rfl (.tmp 22) (.tmp 24) 22 rfl w1.heap.size 3 i0 _ 1 8 Tryz.underlying22 hi0 hz0 hz1 hz2 rfl (by omega) u3 L0.length (icells L0) rfl (ownsRow_ext OWN.out (Ext.alloc _ _)) (some ⟨wr.heap.size, 0, none⟩) 1 1 [.int .i64 (j : Int)] rfl (Rd.lit wr #[_] _) (by simp [Value.oneCell']) (by omega) (by unfold maxLen; omega) (by simp; omega) ?_; intro v1 w3 hown hgr hat)
          refine ⟨⟨j + 1, by omega, by go_num, Lib.hid ?_, Lib.hid ((HX.out.trans (Ext.alloc _ _)).ofGrown hgr (fun k hk => (OWN.out.lt k hk).1))⟩, by simp [intOf]; omega⟩
          rw [HSN.out, icells_append, List.length_append]
          exact hown
        · have e1 : (y == 2) = false := by rw [beq_eq_false_iff_ne]; exact hym
          rw [if_neg hym] at hsn
          have HSN := Lib.hid hsn
          clear hym hsn
          go_wp2_with (fail)
          exact ⟨⟨j + 1, by omega, by go_num, by rw [HSN.out]; exact OWN, HX⟩, by simp [intOf]; omega⟩
      · have r1 : ¬ (j : Int) < n := by omega
        obtain rfl : j = n := by omega
        have hu : Finds.upto f.marks 2 j = Finds.ofL f.marks 2 := by unfold Finds.ofL; rw [LN.out]
        rw [hu] at OWN
        clear hu
        go_wp2_with (fail)
        go_ret
        rw [HL.out]
        exact ⟨_, rfl, ownsRow_base OWN.out X1.out.size, X1.out.trans HX.out⟩
  · rw [decide_eq_false hr]
    have HL := Lib.hid (show Finds.lacksL f = [] from if_neg hr)
    clear hr
    go_wp2_with (fail)
    go_ret
    rw [HL.out]
    exact ⟨_, rfl, World.ownsRow_nil _ _ _ _, X1.out⟩
end Go.Proofs.YtfpglkacjecoeaaGreat
