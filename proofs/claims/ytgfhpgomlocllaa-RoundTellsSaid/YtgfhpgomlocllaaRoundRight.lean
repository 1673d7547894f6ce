/- The contract of round.Right. -/
import Derived.Test.YtgfhpgomlocllaaRound1
import Derived.Deep.DeepCutAuto
namespace Go.Proofs.Ytgfhpgomlocllaa
open Go.RowKit

set_option maxHeartbeats 2000000 in
theorem right_no (w : World) (s v d p : Int) (l : List Int) (A : Option Addr) (n c : Nat) (hl : Is w A n c l) (h : ¬ Rounds.named s v l.length d) :
    Calls Try.prog 15 #[.agg #[.int .i64 s, .int .i64 v, .int .i64 d, .int .i64 p, .slice A n c]] w fun r w' => r = .returned (.bool false) ∧ Ext w w' := by
  have hm := hl.max
  have hle := hl.le
  have hn := named_any (w.alloc (.cells #[.int .i64 s, .int .i64 v, .int .i64 d, .int .i64 p, .slice A n c] 25)) s v n d
  rw [hl.len] at h
  rw [decide_eq_false h] at hn
  have HN := Lib.hid hn
  clear hn h
  go_enter Try.func15, Try.ntmps15
  try dsimp only [List.append]
  go_wp2_with (fail)
  refine HN.out.mono ?_
  rintro r w' ⟨rfl, rfl⟩
  go_wp2_with (fail)
  go_ret
  exact ⟨rfl, Ext.alloc _ _⟩

set_option maxRecDepth 100000 in
set_option maxHeartbeats 4000000 in
theorem right_rest (w : World) (s v d p : Int) (l : List Int) (A : Option Addr) (n c : Nat) (hl : Is w A n c l) (h : Rounds.named s v l.length d) :
    Calls Try.prog 15 #[.agg #[.int .i64 s, .int .i64 v, .int .i64 d, .int .i64 p, .slice A n c]] w fun r w' => r = .returned (.bool (decide (Rounds.count l [0, 1, 2, 3, 4] = l.length ∧ Rounds.phaseOk ⟨s, v, d, p, l⟩))) ∧ Ext w w' := by
  have hm := hl.max
  have hle := hl.le
  have hn := named_any (w.alloc (.cells #[.int .i64 s, .int .i64 v, .int .i64 d, .int .i64 p, .slice A n c] 25)) s v n d
  rw [hl.len] at h
  rw [decide_eq_true h] at hn
  have HN := Lib.hid hn
  have h255 : n ≤ 255 := by unfold Rounds.named at h; omega
  have hd : 1 ≤ d ∧ d ≤ n := by unfold Rounds.named at h; omega
  have L := Lib.hid hl.len
  clear hn h
  go_enter Try.func15, Try.ntmps15
  try dsimp only [List.append]
  go_wp2_with (fail)
  refine HN.out.mono ?_
  rintro r w' ⟨rfl, rfl⟩
  have x0 : Ext w (w.alloc (.cells #[.int .i64 s, .int .i64 v, .int .i64 d, .int .i64 p, .slice A n c] 25)) := Ext.alloc _ _
  have bx : (w.alloc (.cells #[.int .i64 s, .int .i64 v, .int .i64 d, .int .i64 p, .slice A n c] 25)).heap[w.heap.size]? = some (.cells #[.int .i64 s, .int .i64 v, .int .i64 d, .int .i64 p, .slice A n c] 25 (0, 0)) := heap_alloc_new w _
  generalize (w.alloc (.cells #[.int .i64 s, .int .i64 v, .int .i64 d, .int .i64 p, .slice A n c] 25)) = W at *
  have hg : w.heap.size < W.heap.size := (Array.getElem?_eq_some_iff.1 bx).1
  generalize hgg : w.heap.size = g at *
  have c0 : W.cell? ⟨g, 0, none⟩ = some (.int .i64 s) := by rw [cell_of_row W _ _ _ _ _ bx]; rfl
  have c1 : W.cell? ⟨g, 1, none⟩ = some (.int .i64 v) := by rw [cell_of_row W _ _ _ _ _ bx]; rfl
  have c2 : W.cell? ⟨g, 2, none⟩ = some (.int .i64 d) := by rw [cell_of_row W _ _ _ _ _ bx]; rfl
  have c3 : W.cell? ⟨g, 3, none⟩ = some (.int .i64 p) := by rw [cell_of_row W _ _ _ _ _ bx]; rfl
  have c4 : W.cell? ⟨g, 4, none⟩ = some (.slice A n c) := by rw [cell_of_row W _ _ _ _ _ bx]; rfl
  have HGG := Lib.hid hgg
  clear hgg bx HN
  go_wp2_with (fail)
  have hks : Is (W.alloc (.cells #[.int .i64 0, .int .i64 1, .int .i64 2, .int .i64 3, .int .i64 4] 3)) (some ⟨W.heap.size, 0, none⟩) 5 5 [0, 1, 2, 3, 4] := Is.lit W W.heap.size rfl [0, 1, 2, 3, 4] _ _ 5 rfl rfl (by omega)
  refine (count_any _ s v d p l A n c _ 5 5 [0, 1, 2, 3, 4] ((hl.ext x0).up _) hks (by omega)).mono ?_
  rintro r w1 ⟨rfl, x1⟩
  replace x1 := (Ext.alloc W _).trans x1
  replace c0 := x1.cell c0
  replace c1 := x1.cell c1
  replace c2 := x1.cell c2
  replace c3 := x1.cell c3
  replace c4 := x1.cell c4
  have hg1 : g < w1.heap.size := World.block_lt_of_cell? _ _ c0
  have hl1 := (hl.ext x0).ext x1
  have X1 := Lib.hid (x0.trans x1)
  clear hks x0 x1 hg
  by_cases hall : Rounds.count l [0, 1, 2, 3, 4] = n
  · rw [hall]
    have e0 : ((n : Int) != (n : Int)) = false := by simp
    have HALL := Lib.hid hall
    clear hall
    have hcount : ∀ (W : World) (ga : Nat) (k : Int), Is W A n c l → Is W (some ⟨ga, 0, none⟩) 1 1 [k] → Calls Try.prog 38 #[.agg #[.int .i64 s, .int .i64 v, .int .i64 d, .int .i64 p, .slice A n c], .slice (some ⟨ga, 0, none⟩) 1 1] W fun r w' => r = .returned (.int .i64 (Rounds.many l k)) ∧ Ext W w' := by
      intro W ga k h1 h2
      rw [← Rounds.count_one]
      exact count_any W s v d p l A n c _ 1 1 [k] h1 h2 (by omega)
    have HC := Lib.hid hcount
    have hS : ∀ W : World, Ext w1 W → W.cell? ⟨g, 0, none⟩ = some (.int .i64 s) ∧ W.cell? ⟨g, 1, none⟩ = some (.int .i64 v) ∧ W.cell? ⟨g, 2, none⟩ = some (.int .i64 d) ∧ W.cell? ⟨g, 3, none⟩ = some (.int .i64 p) ∧ W.cell? ⟨g, 4, none⟩ = some (.slice A n c) := fun W hW => ⟨hW.cell c0, hW.cell c1, hW.cell c2, hW.cell c3, hW.cell c4⟩
    have HS := Lib.hid hS
    clear hS
    clear hcount
    go_wp2_with (fail)
    go_cut [4, 5, 6] (fun s4 s5 s6 wx => ∃ wv : World, wv = wx ∧ s4 = .int .i64 (Rounds.many l 1) ∧ s5 = .int .i64 (Rounds.many l 2) ∧ s6 = .int .i64 (Rounds.many l 4) ∧ Ext w1 wx)
    case first =>
      go_region_held3 (fun w' => w'.cell? ⟨g, 0, none⟩ = some (.int .i64 s) ∧ w'.cell? ⟨g, 1, none⟩ = some (.int .i64 v) ∧ w'.cell? ⟨g, 2, none⟩ = some (.int .i64 d) ∧ w'.cell? ⟨g, 3, none⟩ = some (.int .i64 p) ∧ w'.cell? ⟨g, 4, none⟩ = some (.slice A n c))
        (first | (refine HS.out _ ?_; (repeat (first | assumption | exact Ext.refl _ | apply Ext.thenDrew | apply Ext.thenDrewN | apply Ext.thenAlloc | (apply Ext.trans; rotate_left; assumption)))) | go_keep)
        (first | ((with_reducible refine (HC.out _ _ _ (by (repeat (first | assumption | (refine is_one _ _ _ ?_; simp; done) | (refine is_one _ _ _ rfl; done) | apply Is.drw | apply Is.drwN | apply Is.up | (apply Is.ext; rotate_left; assumption)))) (by (repeat (first | assumption | (refine is_one _ _ _ ?_; simp; done) | (refine is_one _ _ _ rfl; done) | apply Is.drw | apply Is.drwN | apply Is.up | (apply Is.ext; rotate_left; assumption))))).mono ?_); rintro r wz ⟨rfl, hx⟩))
      all_goals
        go_wp2_with (fail)
        go_meet
        refine ⟨_, rfl, rfl, rfl, rfl, ?_⟩
        repeat (first | assumption | exact Ext.refl _ | apply Ext.thenDrew | apply Ext.thenDrewN | apply Ext.thenAlloc | (apply Ext.trans; rotate_left; assumption))
    case rest =>
      obtain ⟨wv, rfl, rfl, rfl, rfl, hx⟩ := hcut
      clear c0 c1
      replace c2 := hx.cell c2
      replace c3 := hx.cell c3
      replace c4 := hx.cell c4
      have k0 := hx.cell (HS.out w1 (Ext.refl w1)).1
      have k1 := hx.cell (HS.out w1 (Ext.refl w1)).2.1
      have hl2 := hl1.ext hx
      have X2 := Lib.hid (X1.out.trans hx)
      have m1 := Rounds.many_le l 1
      have m1' := Rounds.many_ge l 1
      have m2 := Rounds.many_le l 2
      have m2' := Rounds.many_ge l 2
      have m3 := Rounds.many_le l 3
      have m3' := Rounds.many_ge l 3
      have m4 := Rounds.many_le l 4
      have m4' := Rounds.many_ge l 4
      rw [L.out] at m1 m2 m3 m4
      have fin : ∀ b : Bool, (b = true ↔ Rounds.phaseOk ⟨s, v, d, p, l⟩) → b = decide (Rounds.count l [0, 1, 2, 3, 4] = l.length ∧ Rounds.phaseOk ⟨s, v, d, p, l⟩) := by
        intro b hb
        rw [Bool.eq_iff_iff, hb, decide_eq_true_eq]
        exact ⟨fun h => ⟨by rw [HALL.out, L.out], h⟩, fun h => h.2⟩
      have FIN := Lib.hid fin
      clear fin hl1 HS
      have hlen : (l.length : Int) = n := by rw [L.out]
      have P1 := Lib.hid (Rounds.phaseOk1 s v d l)
      have P2 := Lib.hid (Rounds.phaseOk2 s v d l)
      have P3 := Lib.hid (Rounds.phaseOk3 s v d l)
      have P4 := Lib.hid (Rounds.phaseOk4 s v d l)
      have P5 := Lib.hid (Rounds.phaseOk5 s v d l)
      have P6 := Lib.hid (Rounds.phaseOk6 s v d l)
      have PN := Lib.hid (Rounds.phaseOk_no s v d p l)
      rw [hlen] at P1 P3 P4 P5 P6
      have HC3 := Lib.hid (fun (W : World) (ga : Nat) (h1 : Is W A n c l) (h2 : Is W (some ⟨ga, 0, none⟩) 1 1 [3]) => HC.out W ga 3 h1 h2)
      clear hlen HC HALL hl
      generalize Rounds.many l 1 = q1 at *
      generalize Rounds.many l 2 = q2 at *
      generalize Rounds.many l 3 = q3 at *
      generalize Rounds.many l 4 = q4 at *
      by_cases p1 : p = 1
      · subst p1
        by_cases z : q2 + q4 = 0
        · have ez : ((q2 + q4 : Int) == 0) = true := by rw [z]; rfl
          have ew : IntKind.i64.wrap (q2 + q4) = q2 + q4 := IntWalk.i64_in _ (by omega)
          have Z := Lib.hid z
          clear z
          by_cases y : q1 < d
          · have ey : decide (q1 < d) = true := decide_eq_true y
            have ew2 : IntKind.i64.wrap ((n : Int) - d) = (n : Int) - d := IntWalk.i64_in _ (by omega)
            have hS2 : ∀ W : World, Ext wv W → W.cell? ⟨g, 0, none⟩ = some (.int .i64 s) ∧ W.cell? ⟨g, 1, none⟩ = some (.int .i64 v) ∧ W.cell? ⟨g, 2, none⟩ = some (.int .i64 d) ∧ W.cell? ⟨g, 3, none⟩ = some (.int .i64 1) ∧ W.cell? ⟨g, 4, none⟩ = some (.slice A n c) := fun W hW => ⟨hW.cell k0, hW.cell k1, hW.cell c2, hW.cell c3, hW.cell c4⟩
            have HS := Lib.hid hS2
            clear hS2
            go_wp2_with (fail)
            go_region_held3 (fun w' => w'.cell? ⟨g, 0, none⟩ = some (.int .i64 s) ∧ w'.cell? ⟨g, 1, none⟩ = some (.int .i64 v) ∧ w'.cell? ⟨g, 2, none⟩ = some (.int .i64 d) ∧ w'.cell? ⟨g, 3, none⟩ = some (.int .i64 1) ∧ w'.cell? ⟨g, 4, none⟩ = some (.slice A n c))
              (first | (refine HS.out _ ?_; (repeat (first | assumption | exact Ext.refl _ | apply Ext.thenDrew | apply Ext.thenDrewN | apply Ext.thenAlloc | (apply Ext.trans; rotate_left; assumption)))) | go_keep)
              (first | ((with_reducible refine (HC3.out _ _ (by (repeat (first | assumption | (refine is_one _ _ _ ?_; simp; done) | (refine is_one _ _ _ rfl; done) | apply Is.drw | apply Is.drwN | apply Is.up | (apply Is.ext; rotate_left; assumption)))) (by (repeat (first | assumption | (refine is_one _ _ _ ?_; simp; done) | (refine is_one _ _ _ rfl; done) | apply Is.drw | apply Is.drwN | apply Is.up | (apply Is.ext; rotate_left; assumption))))).mono ?_); rintro r wz ⟨rfl, hxz⟩))
            go_wp2_with (fail)
            go_ret
            refine ⟨ret_bool (FIN.out _ ?_), ?_⟩
            · rw [decide_eq_true_eq, P1.out]
              have := Z.out
              omega
            · refine X2.out.trans ?_
              repeat (first | assumption | exact Ext.refl _ | apply Ext.thenDrew | apply Ext.thenDrewN | apply Ext.thenAlloc | (apply Ext.trans; rotate_left; assumption))
          · have ey : decide (q1 < d) = false := decide_eq_false y
            go_wp2_with (fail)
            go_quiet (fail)
            go_wp2_with (fail)
            go_ret
            exact ⟨ret_bool (FIN.out _ ⟨fun h => by simp at h, fun h => absurd (P1.out.1 h).2.1 (by omega)⟩), X2.out.thenDrewN _⟩
        · have ez : ((q2 + q4 : Int) == 0) = false := by rw [beq_eq_false_iff_ne]; exact z
          have ew : IntKind.i64.wrap (q2 + q4) = q2 + q4 := IntWalk.i64_in _ (by omega)
          have Z := Lib.hid z
          clear z
          go_wp2_with (fail)
          go_quiet (fail)
          go_wp2_with (fail)
          go_ret
          exact ⟨ret_bool (FIN.out _ ⟨fun h => by simp at h, fun h => absurd (P1.out.1 h).1 Z.out⟩), X2.out.thenDrewN _⟩
      · by_cases p2 : p = 2
        · subst p2
          clear p1
          have EW := Lib.hid (IntWalk.i64_in (q2 + q4) (by omega))
          go_wp2_with (fail)
          all_goals
            go_ret
            exact ⟨ret_bool (FIN.out _ (by rw [P2.out]; first | exact beq_iff_eq | (rw [decide_eq_true_eq]; omega) | (constructor; (intro h; cases h); (intro h; omega)) | (exact ⟨fun _ => by omega, fun _ => rfl⟩))), X2.out⟩
        · by_cases p3 : p = 3
          · subst p3
            clear p1 p2
            have EW := Lib.hid (IntWalk.i64_in (q2 + q4) (by omega))
            go_wp2_with (fail)
            all_goals
              go_ret
              exact ⟨ret_bool (FIN.out _ (by rw [P3.out]; first | exact beq_iff_eq | (rw [decide_eq_true_eq]; omega) | (constructor; (intro h; cases h); (intro h; omega)) | (exact ⟨fun _ => by omega, fun _ => rfl⟩))), X2.out⟩
          · by_cases p4 : p = 4
            · subst p4
              clear p1 p2 p3
              have EW := Lib.hid (IntWalk.i64_in (q2 + q4) (by omega))
              go_wp2_with (fail)
              all_goals
                go_ret
                exact ⟨ret_bool (FIN.out _ (by rw [P4.out]; first | exact beq_iff_eq | (rw [decide_eq_true_eq]; omega) | (constructor; (intro h; cases h); (intro h; omega)) | (exact ⟨fun _ => by omega, fun _ => rfl⟩))), X2.out⟩
            · by_cases p5 : p = 5
              · subst p5
                clear p1 p2 p3 p4
                have EW := Lib.hid (IntWalk.i64_in (q2 + q4) (by omega))
                go_wp2_with (fail)
                all_goals
                  go_ret
                  exact ⟨ret_bool (FIN.out _ (by rw [P5.out]; first | exact beq_iff_eq | (rw [decide_eq_true_eq]; omega) | (constructor; (intro h; cases h); (intro h; omega)) | (exact ⟨fun _ => by omega, fun _ => rfl⟩))), X2.out⟩
              · by_cases p6 : p = 6
                · subst p6
                  clear p1 p2 p3 p4 p5
                  have EW := Lib.hid (IntWalk.i64_in (q2 + q4) (by omega))
                  go_wp2_with (fail)
                  all_goals
                    go_ret
                    exact ⟨ret_bool (FIN.out _ (by rw [P6.out]; first | exact beq_iff_eq | (rw [decide_eq_true_eq]; omega) | (constructor; (intro h; cases h); (intro h; omega)) | (exact ⟨fun _ => by omega, fun _ => rfl⟩))), X2.out⟩
                · have np := PN.out p1 p2 p3 p4 p5 p6
                  have NP := Lib.hid np
                  have f1 : ((p : Int) == 1) = false := by rw [beq_eq_false_iff_ne]; exact p1
                  have f2 : ((p : Int) == 2) = false := by rw [beq_eq_false_iff_ne]; exact p2
                  have f3 : ((p : Int) == 3) = false := by rw [beq_eq_false_iff_ne]; exact p3
                  have f4 : ((p : Int) == 4) = false := by rw [beq_eq_false_iff_ne]; exact p4
                  have f5 : ((p : Int) == 5) = false := by rw [beq_eq_false_iff_ne]; exact p5
                  have f6 : ((p : Int) == 6) = false := by rw [beq_eq_false_iff_ne]; exact p6
                  clear np p1 p2 p3 p4 p5 p6
                  go_wp2_with (fail)
                  go_ret
                  exact ⟨ret_bool (FIN.out _ ⟨fun h => by simp at h, fun h => absurd h NP.out⟩), X2.out⟩
  · have e0 : (Rounds.count l [0, 1, 2, 3, 4] != (n : Int)) = true := by rw [bne_iff_ne]; exact hall
    have HALL := Lib.hid hall
    clear hall
    go_wp2_with (fail)
    go_ret
    refine ⟨ret_bool (decide_eq_false (fun h => HALL.out ?_)).symm, X1.out⟩
    rw [← L.out]; exact h.1

theorem right_any (w : World) (r : Rounds.R) (A : Option Addr) (n c : Nat) (hl : Is w A n c r.marks) :
    Calls Try.prog 15 #[rval r A n c] w fun e w' => e = .returned (.bool (decide (Rounds.Right r))) ∧ Ext w w' := by
  by_cases h : Rounds.named r.stripe r.version r.marks.length r.need
  · refine (right_rest w r.stripe r.version r.need r.phase r.marks A n c hl h).mono ?_
    rintro e w' ⟨rfl, hx⟩
    refine ⟨ret_bool ?_, hx⟩
    rw [decide_eq_decide]
    unfold Rounds.Right
    exact ⟨fun h' => ⟨h, h'⟩, fun h' => h'.2⟩
  · refine (right_no w r.stripe r.version r.need r.phase r.marks A n c hl h).mono ?_
    rintro e w' ⟨rfl, hx⟩
    exact ⟨ret_bool (decide_eq_false (fun h' => h h'.1)).symm, hx⟩
end Go.Proofs.Ytgfhpgomlocllaa
