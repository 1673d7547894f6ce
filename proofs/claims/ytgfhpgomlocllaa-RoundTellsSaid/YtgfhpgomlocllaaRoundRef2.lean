/- The contract of the document's Right. -/
import Derived.Test.YtgfhpgomlocllaaRoundRef1
import Derived.Test.YtgfhpgomlocllaaRoundRight
namespace Go.Proofs.Ytgfhpgomlocllaa
open Go.RowKit

set_option maxRecDepth 100000 in
set_option maxHeartbeats 4000000 in
theorem refRight_no (w : World) (s v d p : Int) (l : List Int) (A : Option Addr) (n c : Nat) (hl : Is w A n c l) (h : ¬ Rounds.named s v l.length d) :
    Calls Try.prog 30 #[.agg #[.int .i64 s, .int .i64 v, .int .i64 d, .int .i64 p, .slice A n c]] w fun r w' => r = .returned (.bool false) ∧ Ext w w' := by
  have hm := hl.max
  have hle := hl.le
  rw [hl.len] at h
  have HN := Lib.hid h
  clear h
  go_enter Try.func30, Try.ntmps30
  try dsimp only [List.append]
  go_wp2
  all_goals first
    | (go_ret; exact ⟨rfl, Ext.alloc _ _⟩)
    | (exfalso; have h := HN.out; unfold Rounds.named at h; omega)

theorem inRange_iff (l : List Int) : Rounds.count l [0, 1, 2, 3, 4] = l.length ↔ ∀ k, k < l.length → 0 ≤ Il.get l k ∧ Il.get l k ≤ 4 := by
  rw [Rounds.count_all]
  constructor
  · intro h k hk
    have := h _ (Il.get_mem hk)
    simp only [List.mem_cons, List.not_mem_nil, or_false] at this
    omega
  · intro h m hm
    obtain ⟨k, hk, e⟩ := Il.mem_get hm
    have := h k hk
    rw [e] at this
    simp only [List.mem_cons, List.not_mem_nil, or_false]
    omega

/-- What is left to be asked of a round behind its names. -/
def rightRest (s v d p : Int) (l : List Int) : Bool := decide (Rounds.count l [0, 1, 2, 3, 4] = l.length ∧ Rounds.phaseOk ⟨s, v, d, p, l⟩)
set_option maxRecDepth 100000 in
set_option maxHeartbeats 4000000 in
theorem refRight_rest (w : World) (s v d p : Int) (l : List Int) (A : Option Addr) (n c : Nat) (hl : Is w A n c l) (h : Rounds.named s v l.length d) :
    Calls Try.prog 30 #[.agg #[.int .i64 s, .int .i64 v, .int .i64 d, .int .i64 p, .slice A n c]] w fun r w' => r = .returned (.bool (rightRest s v d p l)) ∧ Ext w w' := by
  have hm := hl.max
  have hle := hl.le
  rw [hl.len] at h
  unfold Rounds.named at h
  obtain ⟨g0, g1, g2, g3, g4, g5, g6, g7⟩ := h
  have h255 : n ≤ 255 := by omega
  have L := Lib.hid hl.len
  go_enter Try.func30, Try.ntmps30
  try dsimp only [List.append]
  go_wp2_with (fail)
  have x0 : Ext w (w.alloc (.cells #[.int .i64 s, .int .i64 v, .int .i64 d, .int .i64 p, .slice A n c] 25)) := Ext.alloc _ _
  have bx := Bx.new w s v d p (.slice A n c) rfl
  generalize (w.alloc (.cells #[.int .i64 s, .int .i64 v, .int .i64 d, .int .i64 p, .slice A n c] 25)) = W at *
  generalize hg : w.heap.size = g at *
  clear hg
  have c3 := bx.c3
  have c4 := bx.c4
  have hl1 := hl.ext x0
  have X0 := Lib.hid x0
  have BX := Lib.hid bx
  clear bx x0 hl
  go_loop [4] (fun i => ∃ k : Nat, k ≤ n ∧ i = .int .i64 k ∧ RowKit.Hid (∀ j, j < k → 0 ≤ Il.get l j ∧ Il.get l j ≤ 4)) (fun i => n - (intOf i).toNat)
  case atStart => exact ⟨0, by omega, rfl, Lib.hid (fun j hj => absurd hj (Nat.not_lt_zero _))⟩
  case round =>
    obtain ⟨k, hk', rfl, H⟩ := hrel
    by_cases hlt : k < n
    · have q1 : (k : Int) < n := by omega
      obtain ⟨b, o, rfl, hc⟩ := hl1.rd.intAt hlt
      generalize hmk : Il.get l k = mk at *
      have HMK := Lib.hid hmk
      clear hmk
      by_cases hin : 0 ≤ mk ∧ mk ≤ 4
      · obtain ⟨i0, i4⟩ := hin
        go_wp2_with (fail)
        go_round
        case rel => exact ⟨k + 1, by omega, by go_num, Lib.hid (fun j hj => by
            by_cases e : j = k
            · rw [e, HMK.out]; exact ⟨i0, i4⟩
            · exact H.out j (by omega))⟩
        case measure => simp [intOf]; omega
      · have hbad : false = rightRest s v d p l := by
          unfold rightRest
          rw [eq_comm, decide_eq_false_iff_not]
          intro h
          have := (inRange_iff l).1 h.1 k (by rw [L.out]; exact hlt)
          rw [HMK.out] at this
          exact hin this
        have HB := Lib.hid hbad
        have HIN := Lib.hid hin
        clear hbad hin
        go_wp2
        · go_ret
          exact ⟨ret_bool HB.out, X0.out⟩
        · go_ret
          exact ⟨ret_bool HB.out, X0.out⟩
    · have q1 : ¬ (k : Int) < n := by omega
      have hkn : k = n := by omega
      have hcount : Rounds.count l [0, 1, 2, 3, 4] = l.length := (inRange_iff l).2 (fun j hj => H.out j (by rw [L.out] at hj; omega))
      have fin : ∀ b : Bool, (b = true ↔ Rounds.phaseOk ⟨s, v, d, p, l⟩) → b = rightRest s v d p l := by
        unfold rightRest
        intro b hb
        rw [Bool.eq_iff_iff, hb, decide_eq_true_eq]
        exact ⟨fun h => ⟨hcount, h⟩, fun h => h.2⟩
      have FIN := Lib.hid fin
      clear fin hcount H
      have hc0 : ∀ (u : Ex W) (kd : Int), Calls Try.prog 43 #[.agg #[.int .i64 s, .int .i64 v, .int .i64 d, .int .i64 p, .slice A n c], .int .i64 kd] u.w fun r w' => r = .returned (.int .i64 (Rounds.many l kd)) ∧ Ext u.w w' := fun u kd => refMany_any u.w s v d p l A n c (hl1.ext u.ext) (by omega) kd
      have hS : ∀ u : Ex W, u.w.cell? ⟨g, 0, none⟩ = some (.int .i64 s) ∧ u.w.cell? ⟨g, 1, none⟩ = some (.int .i64 v) ∧ u.w.cell? ⟨g, 2, none⟩ = some (.int .i64 d) ∧ u.w.cell? ⟨g, 3, none⟩ = some (.int .i64 p) ∧ u.w.cell? ⟨g, 4, none⟩ = some (.slice A n c) :=
        fun u => ⟨u.ext.cell BX.out.c0, u.ext.cell BX.out.c1, u.ext.cell BX.out.c2, u.ext.cell BX.out.c3, u.ext.cell BX.out.c4⟩
      have hcW : ∀ kd : Int, Calls Try.prog 43 #[.agg #[.int .i64 s, .int .i64 v, .int .i64 d, .int .i64 p, .slice A n c], .int .i64 kd] W fun r w' => r = .returned (.int .i64 (Rounds.many l kd)) ∧ Ext W w' := fun kd => refMany_any W s v d p l A n c hl1 (by omega) kd
      have c0 := BX.out.c0
      have c1 := BX.out.c1
      have c2 := BX.out.c2
      have m1' := Rounds.many_ge l 1
      have m2' := Rounds.many_ge l 2
      have m3' := Rounds.many_ge l 3
      have m4' := Rounds.many_ge l 4
      have m2 := Rounds.many_le l 2
      have m4 := Rounds.many_le l 4
      rw [L.out] at m2 m4
      have P1 := Lib.hid (Rounds.phaseOk1 s v d l)
      have P2 := Lib.hid (Rounds.phaseOk2 s v d l)
      have P3 := Lib.hid (Rounds.phaseOk3 s v d l)
      have P4 := Lib.hid (Rounds.phaseOk4 s v d l)
      have P5 := Lib.hid (Rounds.phaseOk5 s v d l)
      have P6 := Lib.hid (Rounds.phaseOk6 s v d l)
      have PN := Lib.hid (Rounds.phaseOk_no s v d p l)
      rw [L.out] at P1 P3 P4 P5 P6
      have H1 := Lib.hid (fun u => hc0 u 1)
      have H2 := Lib.hid (fun u => hc0 u 2)
      have H3 := Lib.hid (fun u => hc0 u 3)
      have H4 := Lib.hid (fun u => hc0 u 4)
      have K2 := Lib.hid (hcW 2)
      have K4 := Lib.hid (hcW 4)
      clear hc0 hcW
      generalize Rounds.many l 1 = q1 at *
      generalize Rounds.many l 2 = q2 at *
      generalize Rounds.many l 3 = q3 at *
      generalize Rounds.many l 4 = q4 at *
      have EW : IntKind.i64.wrap ((n : Int) - d) = (n : Int) - d := IntWalk.i64_in _ (by omega)
      clear BX hkn g0 g1 g2 g3

      by_cases p1 : p = 1
      · subst p1
        by_cases a : q2 = 0
        · have fa : (q2 == 0) = true := by rw [beq_iff_eq]; exact a
          have Na := Lib.hid a; clear a
          by_cases b : q4 = 0
          · have fb : (q4 == 0) = true := by rw [beq_iff_eq]; exact b
            have Nb := Lib.hid b; clear b
            by_cases e : q1 < d
            · have fe : decide (q1 < d) = true := decide_eq_true e
              have Ne := Lib.hid e
              go_wp2_with (fail)
              refine wp_region_grow (by kernel_rfl) (by kernel_rfl) ?_
              repeat (go_big_quiet_step (first | (with_reducible exact Ex.call _ (H1.out _)) | (with_reducible exact Ex.call _ (H2.out _)) | (with_reducible exact Ex.call _ (H3.out _)) | (with_reducible exact Ex.call _ (H4.out _))))
              refine wpQuiet_nil ?_
              rintro _ ⟨u, rfl⟩
              have xu := X0.out.trans u.ext
              clear hS
              generalize u.w = W9 at *
              go_wp2_with (fail)
              go_ret
              have za := Na.out
              have zb := Nb.out
              have ze := Ne.out
              clear fa fb fe EW
              exact ⟨ret_bool (FIN.out _ (by rw [P1.out]; first | exact beq_iff_eq | (rw [decide_eq_true_eq]; omega) | (rw [bne_iff_ne]; omega) | (rw [beq_iff_eq]; omega) | (constructor; (intro h; cases h); (intro h; omega)) | (exact ⟨fun _ => by omega, fun _ => rfl⟩))), xu⟩
            · have fe : decide (q1 < d) = false := decide_eq_false e
              have Ne := Lib.hid e
              go_wp2_with (fail)
              refine wp_region_grow (by kernel_rfl) (by kernel_rfl) ?_
              repeat (go_big_quiet_step (first | (with_reducible exact Ex.call _ (H1.out _)) | (with_reducible exact Ex.call _ (H2.out _)) | (with_reducible exact Ex.call _ (H3.out _)) | (with_reducible exact Ex.call _ (H4.out _))))
              refine wpQuiet_nil ?_
              rintro _ ⟨u, rfl⟩
              have xu := X0.out.trans u.ext
              clear hS
              generalize u.w = W9 at *
              go_wp2_with (fail)
              go_ret
              have za := Na.out
              have zb := Nb.out
              have ze := Ne.out
              clear fa fb fe EW
              exact ⟨ret_bool (FIN.out _ (by rw [P1.out]; first | exact beq_iff_eq | (rw [decide_eq_true_eq]; omega) | (rw [bne_iff_ne]; omega) | (rw [beq_iff_eq]; omega) | (constructor; (intro h; cases h); (intro h; omega)) | (exact ⟨fun _ => by omega, fun _ => rfl⟩))), xu⟩
          · have fb : (q4 == 0) = false := by rw [beq_eq_false_iff_ne]; exact b
            have Nb := Lib.hid b; clear b
            go_wp2_with (fail)
            refine wp_region_grow (by kernel_rfl) (by kernel_rfl) ?_
            repeat (go_big_quiet_step (first | (with_reducible exact Ex.call _ (H1.out _)) | (with_reducible exact Ex.call _ (H2.out _)) | (with_reducible exact Ex.call _ (H3.out _)) | (with_reducible exact Ex.call _ (H4.out _))))
            refine wpQuiet_nil ?_
            rintro _ ⟨u, rfl⟩
            have xu := X0.out.trans u.ext
            clear hS
            generalize u.w = W9 at *
            go_wp2_with (fail)
            go_ret
            have za := Na.out
            have zb := Nb.out
            clear fa fb EW
            exact ⟨ret_bool (FIN.out _ (by rw [P1.out]; first | exact beq_iff_eq | (rw [decide_eq_true_eq]; omega) | (rw [bne_iff_ne]; omega) | (rw [beq_iff_eq]; omega) | (constructor; (intro h; cases h); (intro h; omega)) | (exact ⟨fun _ => by omega, fun _ => rfl⟩))), xu⟩
        · have fa : (q2 == 0) = false := by rw [beq_eq_false_iff_ne]; exact a
          have Na := Lib.hid a; clear a
          go_wp2_with (fail)
          refine wp_region_grow (by kernel_rfl) (by kernel_rfl) ?_
          repeat (go_big_quiet_step (first | (with_reducible exact Ex.call _ (H1.out _)) | (with_reducible exact Ex.call _ (H2.out _)) | (with_reducible exact Ex.call _ (H3.out _)) | (with_reducible exact Ex.call _ (H4.out _))))
          refine wpQuiet_nil ?_
          rintro _ ⟨u, rfl⟩
          have xu := X0.out.trans u.ext
          clear hS
          generalize u.w = W9 at *
          go_wp2_with (fail)
          go_ret
          have za := Na.out
          clear fa EW
          exact ⟨ret_bool (FIN.out _ (by rw [P1.out]; first | exact beq_iff_eq | (rw [decide_eq_true_eq]; omega) | (rw [bne_iff_ne]; omega) | (rw [beq_iff_eq]; omega) | (constructor; (intro h; cases h); (intro h; omega)) | (exact ⟨fun _ => by omega, fun _ => rfl⟩))), xu⟩
      · skip
        by_cases p2 : p = 2
        · subst p2
          by_cases a : q2 = 0
          · have fa : (q2 == 0) = true := by rw [beq_iff_eq]; exact a
            have Na := Lib.hid a; clear a
            by_cases b : q4 = 0
            · have fb : (q4 == 0) = true := by rw [beq_iff_eq]; exact b
              have Nb := Lib.hid b; clear b
              go_wp2_with (fail)
              refine wp_region_grow (by kernel_rfl) (by kernel_rfl) ?_
              repeat (go_big_quiet_step (first | (with_reducible exact Ex.call _ (H1.out _)) | (with_reducible exact Ex.call _ (H2.out _)) | (with_reducible exact Ex.call _ (H3.out _)) | (with_reducible exact Ex.call _ (H4.out _))))
              refine wpQuiet_nil ?_
              rintro _ ⟨u, rfl⟩
              have xu := X0.out.trans u.ext
              clear hS
              generalize u.w = W9 at *
              go_wp2_with (fail)
              go_ret
              have za := Na.out
              have zb := Nb.out
              clear fa fb EW
              exact ⟨ret_bool (FIN.out _ (by rw [P2.out]; first | exact beq_iff_eq | (rw [decide_eq_true_eq]; omega) | (rw [bne_iff_ne]; omega) | (rw [beq_iff_eq]; omega) | (constructor; (intro h; cases h); (intro h; omega)) | (exact ⟨fun _ => by omega, fun _ => rfl⟩))), xu⟩
            · have fb : (q4 == 0) = false := by rw [beq_eq_false_iff_ne]; exact b
              have Nb := Lib.hid b; clear b
              go_wp2_with (fail)
              refine wp_region_grow (by kernel_rfl) (by kernel_rfl) ?_
              repeat (go_big_quiet_step (first | (with_reducible exact Ex.call _ (H1.out _)) | (with_reducible exact Ex.call _ (H2.out _)) | (with_reducible exact Ex.call _ (H3.out _)) | (with_reducible exact Ex.call _ (H4.out _))))
              refine wpQuiet_nil ?_
              rintro _ ⟨u, rfl⟩
              have xu := X0.out.trans u.ext
              clear hS
              generalize u.w = W9 at *
              go_wp2_with (fail)
              go_ret
              have za := Na.out
              have zb := Nb.out
              clear fa fb EW
              exact ⟨ret_bool (FIN.out _ (by rw [P2.out]; first | exact beq_iff_eq | (rw [decide_eq_true_eq]; omega) | (rw [bne_iff_ne]; omega) | (rw [beq_iff_eq]; omega) | (constructor; (intro h; cases h); (intro h; omega)) | (exact ⟨fun _ => by omega, fun _ => rfl⟩))), xu⟩
          · have fa : (q2 == 0) = false := by rw [beq_eq_false_iff_ne]; exact a
            have Na := Lib.hid a; clear a
            go_wp2_with (fail)
            refine wp_region_grow (by kernel_rfl) (by kernel_rfl) ?_
            repeat (go_big_quiet_step (first | (with_reducible exact Ex.call _ (H1.out _)) | (with_reducible exact Ex.call _ (H2.out _)) | (with_reducible exact Ex.call _ (H3.out _)) | (with_reducible exact Ex.call _ (H4.out _))))
            refine wpQuiet_nil ?_
            rintro _ ⟨u, rfl⟩
            have xu := X0.out.trans u.ext
            clear hS
            generalize u.w = W9 at *
            go_wp2_with (fail)
            go_ret
            have za := Na.out
            clear fa EW
            exact ⟨ret_bool (FIN.out _ (by rw [P2.out]; first | exact beq_iff_eq | (rw [decide_eq_true_eq]; omega) | (rw [bne_iff_ne]; omega) | (rw [beq_iff_eq]; omega) | (constructor; (intro h; cases h); (intro h; omega)) | (exact ⟨fun _ => by omega, fun _ => rfl⟩))), xu⟩
        · skip
          by_cases p3 : p = 3
          · subst p3
            by_cases a : q4 = 0
            · have fa : (q4 == 0) = true := by rw [beq_iff_eq]; exact a
              have Na := Lib.hid a; clear a
              go_wp2_with (fail)
              refine K4.out.mono ?_
              rintro e0 w0 ⟨rfl, x0⟩
              have s0 := hS ⟨w0, x0⟩
              go_wp2_with (fail)
              refine (H2.out ⟨w0, x0⟩).mono ?_
              rintro e1 w1 ⟨rfl, x1⟩
              go_wp2_with (fail)
              go_ret
              have za := Na.out
              clear fa EW
              exact ⟨ret_bool (FIN.out _ (by rw [P3.out]; first | exact beq_iff_eq | (rw [decide_eq_true_eq]; omega) | (rw [bne_iff_ne]; omega) | (rw [beq_iff_eq]; omega) | (constructor; (intro h; cases h); (intro h; omega)) | (exact ⟨fun _ => by omega, fun _ => rfl⟩))), ((X0.out.trans x0).trans x1)⟩
            · have fa : (q4 == 0) = false := by rw [beq_eq_false_iff_ne]; exact a
              have Na := Lib.hid a; clear a
              go_wp2_with (fail)
              refine K4.out.mono ?_
              rintro e0 w0 ⟨rfl, x0⟩
              have s0 := hS ⟨w0, x0⟩
              go_wp2_with (fail)
              go_ret
              have za := Na.out
              clear fa EW
              exact ⟨ret_bool (FIN.out _ (by rw [P3.out]; first | exact beq_iff_eq | (rw [decide_eq_true_eq]; omega) | (rw [bne_iff_ne]; omega) | (rw [beq_iff_eq]; omega) | (constructor; (intro h; cases h); (intro h; omega)) | (exact ⟨fun _ => by omega, fun _ => rfl⟩))), (X0.out.trans x0)⟩
          · skip
            by_cases p4 : p = 4
            · subst p4
              go_wp2_with (fail)
              refine K2.out.mono ?_
              rintro e0 w0 ⟨rfl, x0⟩
              have s0 := hS ⟨w0, x0⟩
              go_wp2_with (fail)
              go_ret
              clear EW
              exact ⟨ret_bool (FIN.out _ (by rw [P4.out]; first | exact beq_iff_eq | (rw [decide_eq_true_eq]; omega) | (rw [bne_iff_ne]; omega) | (rw [beq_iff_eq]; omega) | (constructor; (intro h; cases h); (intro h; omega)) | (exact ⟨fun _ => by omega, fun _ => rfl⟩))), (X0.out.trans x0)⟩
            · skip
              by_cases p5 : p = 5
              · subst p5
                by_cases a : q2 = 0
                · have fa : (q2 == 0) = true := by rw [beq_iff_eq]; exact a
                  have Na := Lib.hid a; clear a
                  go_wp2_with (fail)
                  refine K2.out.mono ?_
                  rintro e0 w0 ⟨rfl, x0⟩
                  have s0 := hS ⟨w0, x0⟩
                  go_wp2_with (fail)
                  refine (H4.out ⟨w0, x0⟩).mono ?_
                  rintro e1 w1 ⟨rfl, x1⟩
                  go_wp2_with (fail)
                  go_ret
                  have za := Na.out
                  clear fa EW
                  exact ⟨ret_bool (FIN.out _ (by rw [P5.out]; first | exact beq_iff_eq | (rw [decide_eq_true_eq]; omega) | (rw [bne_iff_ne]; omega) | (rw [beq_iff_eq]; omega) | (constructor; (intro h; cases h); (intro h; omega)) | (exact ⟨fun _ => by omega, fun _ => rfl⟩))), ((X0.out.trans x0).trans x1)⟩
                · have fa : (q2 == 0) = false := by rw [beq_eq_false_iff_ne]; exact a
                  have Na := Lib.hid a; clear a
                  go_wp2_with (fail)
                  refine K2.out.mono ?_
                  rintro e0 w0 ⟨rfl, x0⟩
                  have s0 := hS ⟨w0, x0⟩
                  go_wp2_with (fail)
                  go_ret
                  have za := Na.out
                  clear fa EW
                  exact ⟨ret_bool (FIN.out _ (by rw [P5.out]; first | exact beq_iff_eq | (rw [decide_eq_true_eq]; omega) | (rw [bne_iff_ne]; omega) | (rw [beq_iff_eq]; omega) | (constructor; (intro h; cases h); (intro h; omega)) | (exact ⟨fun _ => by omega, fun _ => rfl⟩))), (X0.out.trans x0)⟩
              · skip
                by_cases p6 : p = 6
                · subst p6
                  go_wp2_with (fail)
                  refine K4.out.mono ?_
                  rintro e0 w0 ⟨rfl, x0⟩
                  have s0 := hS ⟨w0, x0⟩
                  go_wp2_with (fail)
                  go_ret
                  clear EW
                  exact ⟨ret_bool (FIN.out _ (by rw [P6.out]; first | exact beq_iff_eq | (rw [decide_eq_true_eq]; omega) | (rw [bne_iff_ne]; omega) | (rw [beq_iff_eq]; omega) | (constructor; (intro h; cases h); (intro h; omega)) | (exact ⟨fun _ => by omega, fun _ => rfl⟩))), (X0.out.trans x0)⟩
                · skip
                  have np := Lib.hid (PN.out p1 p2 p3 p4 p5 p6)
                  have f1 : (p == 1) = false := by rw [beq_eq_false_iff_ne]; exact p1
                  have f2 : (p == 2) = false := by rw [beq_eq_false_iff_ne]; exact p2
                  have f3 : (p == 3) = false := by rw [beq_eq_false_iff_ne]; exact p3
                  have f4 : (p == 4) = false := by rw [beq_eq_false_iff_ne]; exact p4
                  have f5 : (p == 5) = false := by rw [beq_eq_false_iff_ne]; exact p5
                  have f6 : (p == 6) = false := by rw [beq_eq_false_iff_ne]; exact p6
                  clear p1 p2 p3 p4 p5 p6
                  go_wp2_with (fail)
                  go_ret
                  exact ⟨ret_bool (FIN.out _ ⟨fun h => by simp at h, fun h => absurd h np.out⟩), X0.out⟩

theorem refRight_any (w : World) (r : Rounds.R) (A : Option Addr) (n c : Nat) (hl : Is w A n c r.marks) :
    Calls Try.prog 30 #[rval r A n c] w fun e w' => e = .returned (.bool (decide (Rounds.Right r))) ∧ Ext w w' := by
  by_cases h : Rounds.named r.stripe r.version r.marks.length r.need
  · refine (refRight_rest w r.stripe r.version r.need r.phase r.marks A n c hl h).mono ?_
    rintro e w' ⟨rfl, hx⟩
    refine ⟨ret_bool ?_, hx⟩
    unfold rightRest
    rw [decide_eq_decide]
    unfold Rounds.Right
    exact ⟨fun h' => ⟨h, h'⟩, fun h' => h'.2⟩
  · refine (refRight_no w r.stripe r.version r.need r.phase r.marks A n c hl h).mono ?_
    rintro e w' ⟨rfl, hx⟩
    exact ⟨ret_bool (decide_eq_false (fun h' => h h'.1)).symm, hx⟩
end Go.Proofs.Ytgfhpgomlocllaa
