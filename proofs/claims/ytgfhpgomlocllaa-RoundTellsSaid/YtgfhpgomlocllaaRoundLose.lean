/- The contract of round.Lose. -/
import Derived.Test.YtgfhpgomlocllaaRoundTurn
import Derived.Test.YtgfhpgomlocllaaRounds3
import Derived.Deep.RegionHeld3
namespace Go.Proofs.Ytgfhpgomlocllaa
open Go.RowKit

set_option maxRecDepth 100000 in
set_option maxHeartbeats 2000000 in
theorem lose_bad1 (w : World) (s v d p : Int) (l : List Int) (A : Option Addr) (n c : Nat) (hl : Is w A n c l) (i : Int) (hr : ¬ Rounds.Right ⟨s, v, d, p, l⟩) :
    Calls Try.prog 19 #[.agg #[.int .i64 s, .int .i64 v, .int .i64 d, .int .i64 p, .slice A n c], .int .i64 i] w (GivesR A n ⟨s, v, d, p, l⟩ 130 w) := by
  have tw := Two.start w s v d p (.slice A n c)
  have hR := right_any ((w.alloc (.cells #[.int .i64 s, .int .i64 v, .int .i64 d, .int .i64 p, .slice A n c] 25)).alloc (.cells #[.int .i64 0, .int .i64 0, .int .i64 0, .int .i64 0, .slice none 0 0] 25)) ⟨s, v, d, p, l⟩ A n c (hl.ext tw.x)
  rw [decide_eq_false hr] at hR
  have HR := Lib.hid hR
  have TW0 := Lib.hid tw
  have hmx := hl.max
  have hle := hl.le
  clear hR tw hr
  go_enter Try.func19, Try.ntmps19
  try dsimp only [List.append]
  go_wp2_with (fail)
  refine HR.out.mono ?_
  rintro x w1 ⟨rfl, x1⟩
  have tw := TW0.out.ext x1
  have hl1 := hl.ext tw.x
  clear HR x1 TW0
  generalize hg : w.heap.size = g at *
  have HG := Lib.hid hg
  clear hg
  have c0 := tw.a.c0
  have c1 := tw.a.c1
  have c2 := tw.a.c2
  have c3 := tw.a.c3
  have c4 := tw.a.c4
  have d0 := tw.b.c0
  have d1 := tw.b.c1
  have d2 := tw.b.c2
  have d3 := tw.b.c3
  have d4 := tw.b.c4
  have f0 := tw.b.fz 0
  have f1 := tw.b.fz 1
  have f2 := tw.b.fz 2
  have f3 := tw.b.fz 3
  have f4 := tw.b.fz 4
  have e3 := tw.a.fz 3
  have e4 := tw.a.fz 4
  have l0 := tw.a.lt
  have l1 := tw.b.lt
  have TW := Lib.hid tw
  clear tw
  go_wp2_with (fail)
  exact bodyPost_ret (v := .tuple #[.agg #[.int .i64 s, .int .i64 v, .int .i64 d, .int .i64 p, .slice A n c], .int .i64 130]) (by simp [results, Try.results19, go_sem, d0, d1, d2, d3, d4]) rfl ⟨A, n, c, rfl, hl.ext TW.out.done, FreshOr.same _ _ _, TW.out.done⟩

set_option maxRecDepth 100000 in
set_option maxHeartbeats 2000000 in
theorem lose_bad2 (w : World) (s v d p : Int) (l : List Int) (A : Option Addr) (n c : Nat) (hl : Is w A n c l) (i : Int) (hr : Rounds.Right ⟨s, v, d, p, l⟩) (hi : i < 0) :
    Calls Try.prog 19 #[.agg #[.int .i64 s, .int .i64 v, .int .i64 d, .int .i64 p, .slice A n c], .int .i64 i] w (GivesR A n ⟨s, v, d, p, l⟩ 130 w) := by
  have tw := Two.start w s v d p (.slice A n c)
  have hR := right_any ((w.alloc (.cells #[.int .i64 s, .int .i64 v, .int .i64 d, .int .i64 p, .slice A n c] 25)).alloc (.cells #[.int .i64 0, .int .i64 0, .int .i64 0, .int .i64 0, .slice none 0 0] 25)) ⟨s, v, d, p, l⟩ A n c (hl.ext tw.x)
  rw [decide_eq_true hr] at hR
  have HR := Lib.hid hR
  have TW0 := Lib.hid tw
  have hmx := hl.max
  have hle := hl.le
  clear hR tw hr
  go_enter Try.func19, Try.ntmps19
  try dsimp only [List.append]
  go_wp2_with (fail)
  refine HR.out.mono ?_
  rintro x w1 ⟨rfl, x1⟩
  have tw := TW0.out.ext x1
  have hl1 := hl.ext tw.x
  clear HR x1 TW0
  generalize hg : w.heap.size = g at *
  have HG := Lib.hid hg
  clear hg
  have c0 := tw.a.c0
  have c1 := tw.a.c1
  have c2 := tw.a.c2
  have c3 := tw.a.c3
  have c4 := tw.a.c4
  have d0 := tw.b.c0
  have d1 := tw.b.c1
  have d2 := tw.b.c2
  have d3 := tw.b.c3
  have d4 := tw.b.c4
  have f0 := tw.b.fz 0
  have f1 := tw.b.fz 1
  have f2 := tw.b.fz 2
  have f3 := tw.b.fz 3
  have f4 := tw.b.fz 4
  have e3 := tw.a.fz 3
  have e4 := tw.a.fz 4
  have l0 := tw.a.lt
  have l1 := tw.b.lt
  have TW := Lib.hid tw
  clear tw
  go_wp2_with (fail)
  exact bodyPost_ret (v := .tuple #[.agg #[.int .i64 s, .int .i64 v, .int .i64 d, .int .i64 p, .slice A n c], .int .i64 130]) (by simp [results, Try.results19, go_sem, d0, d1, d2, d3, d4]) rfl ⟨A, n, c, rfl, hl.ext TW.out.done, FreshOr.same _ _ _, TW.out.done⟩

set_option maxRecDepth 100000 in
set_option maxHeartbeats 2000000 in
theorem lose_bad3 (w : World) (s v d p : Int) (l : List Int) (A : Option Addr) (n c : Nat) (hl : Is w A n c l) (i : Int) (hr : Rounds.Right ⟨s, v, d, p, l⟩) (hi : 0 ≤ i) (hi2 : (n : Int) ≤ i) :
    Calls Try.prog 19 #[.agg #[.int .i64 s, .int .i64 v, .int .i64 d, .int .i64 p, .slice A n c], .int .i64 i] w (GivesR A n ⟨s, v, d, p, l⟩ 130 w) := by
  have tw := Two.start w s v d p (.slice A n c)
  have hR := right_any ((w.alloc (.cells #[.int .i64 s, .int .i64 v, .int .i64 d, .int .i64 p, .slice A n c] 25)).alloc (.cells #[.int .i64 0, .int .i64 0, .int .i64 0, .int .i64 0, .slice none 0 0] 25)) ⟨s, v, d, p, l⟩ A n c (hl.ext tw.x)
  rw [decide_eq_true hr] at hR
  have HR := Lib.hid hR
  have TW0 := Lib.hid tw
  have hmx := hl.max
  have hle := hl.le
  clear hR tw hr
  go_enter Try.func19, Try.ntmps19
  try dsimp only [List.append]
  go_wp2_with (fail)
  refine HR.out.mono ?_
  rintro x w1 ⟨rfl, x1⟩
  have tw := TW0.out.ext x1
  have hl1 := hl.ext tw.x
  clear HR x1 TW0
  generalize hg : w.heap.size = g at *
  have HG := Lib.hid hg
  clear hg
  have c0 := tw.a.c0
  have c1 := tw.a.c1
  have c2 := tw.a.c2
  have c3 := tw.a.c3
  have c4 := tw.a.c4
  have d0 := tw.b.c0
  have d1 := tw.b.c1
  have d2 := tw.b.c2
  have d3 := tw.b.c3
  have d4 := tw.b.c4
  have f0 := tw.b.fz 0
  have f1 := tw.b.fz 1
  have f2 := tw.b.fz 2
  have f3 := tw.b.fz 3
  have f4 := tw.b.fz 4
  have e3 := tw.a.fz 3
  have e4 := tw.a.fz 4
  have l0 := tw.a.lt
  have l1 := tw.b.lt
  have TW := Lib.hid tw
  clear tw
  go_wp2_with (fail)
  exact bodyPost_ret (v := .tuple #[.agg #[.int .i64 s, .int .i64 v, .int .i64 d, .int .i64 p, .slice A n c], .int .i64 130]) (by simp [results, Try.results19, go_sem, d0, d1, d2, d3, d4]) rfl ⟨A, n, c, rfl, hl.ext TW.out.done, FreshOr.same _ _ _, TW.out.done⟩

set_option maxRecDepth 100000 in
set_option maxHeartbeats 4000000 in
theorem lose_ok (w : World) (s v d p : Int) (l : List Int) (A : Option Addr) (n c : Nat) (hl : Is w A n c l) (hn : n ≤ 1000000) (i : Nat) (hr : Rounds.Right ⟨s, v, d, p, l⟩) (hi : i < n) :
    Calls Try.prog 19 #[.agg #[.int .i64 s, .int .i64 v, .int .i64 d, .int .i64 p, .slice A n c], .int .i64 (i : Int)] w (GivesR A n (Rounds.lose1 ⟨s, v, d, p, l⟩ i) 0 w) := by
  have hd : 1 ≤ d ∧ d ≤ n := by
    have h1 := hr.1
    have h2 := hl.len
    unfold Rounds.named at h1
    simp only at h1
    omega
  have tw := Two.start w s v d p (.slice A n c)
  have hR := right_any ((w.alloc (.cells #[.int .i64 s, .int .i64 v, .int .i64 d, .int .i64 p, .slice A n c] 25)).alloc (.cells #[.int .i64 0, .int .i64 0, .int .i64 0, .int .i64 0, .slice none 0 0] 25)) ⟨s, v, d, p, l⟩ A n c (hl.ext tw.x)
  rw [decide_eq_true hr] at hR
  have HR := Lib.hid hR
  have TW0 := Lib.hid tw
  have hmx := hl.max
  have hle := hl.le
  clear hR tw hr
  go_enter Try.func19, Try.ntmps19
  try dsimp only [List.append]
  go_wp2_with (fail)
  refine HR.out.mono ?_
  rintro x w1 ⟨rfl, x1⟩
  have tw := TW0.out.ext x1
  have hl1 := hl.ext tw.x
  clear HR x1 TW0
  generalize hg : w.heap.size = g at *
  have HG := Lib.hid hg
  clear hg
  have c0 := tw.a.c0
  have c1 := tw.a.c1
  have c2 := tw.a.c2
  have c3 := tw.a.c3
  have c4 := tw.a.c4
  have d0 := tw.b.c0
  have d1 := tw.b.c1
  have d2 := tw.b.c2
  have d3 := tw.b.c3
  have d4 := tw.b.c4
  have f0 := tw.b.fz 0
  have f1 := tw.b.fz 1
  have f2 := tw.b.fz 2
  have f3 := tw.b.fz 3
  have f4 := tw.b.fz 4
  have e3 := tw.a.fz 3
  have e4 := tw.a.fz 4
  have l0 := tw.a.lt
  have l1 := tw.b.lt
  have TW := Lib.hid tw
  clear tw
  have q1 : (i : Int) < n := by omega
  have q2 : ¬ (n : Int) ≤ i := by omega
  go_wp2_with (fail)
  refine (cloneInts_any w1 A n c l hl1 (by omega)).mono ?_
  rintro x w2 ⟨y, rfl, hy⟩
  obtain ⟨D, e', rfl, _, _⟩ := ownsRow_slice hy.own
  have own := hy.own
  rw [hl1.len] at own ⊢
  have tw := TW.out.ext hy.ext
  have lb := TW.out.b.lt
  have HBS := Lib.hid TW.out.base
  have L := Lib.hid hl.len
  clear c0 c1 c2 c3 c4 d0 d1 d2 d3 d4 f0 f1 f2 f3 f4 e3 e4 l0 l1
  clear TW hl1 hy
  have c0 := tw.a.c0
  have c1 := tw.a.c1
  have c2 := tw.a.c2
  have c3 := tw.a.c3
  have c4 := tw.a.c4
  have d0 := tw.b.c0
  have d1 := tw.b.c1
  have d2 := tw.b.c2
  have d3 := tw.b.c3
  have d4 := tw.b.c4
  have f0 := tw.b.fz 0
  have f1 := tw.b.fz 1
  have f2 := tw.b.fz 2
  have f3 := tw.b.fz 3
  have f4 := tw.b.fz 4
  have e3 := tw.a.fz 3
  have e4 := tw.a.fz 4
  have l0 := tw.a.lt
  have l1 := tw.b.lt
  have TW := Lib.hid tw
  clear tw
  obtain ⟨b, rfl, j1, j2⟩ := own_addr own (by omega)
  have k1 : w2.cell? ⟨b, i, none⟩ = some (.int .i64 (Il.get l i)) := by rw [own.cellAt i (by omega), icells_get (by rw [L.out]; exact hi)]
  have k2 : w2.frozen? ⟨b, i, none⟩ = false := own.frozenAt i
  have q3 : (0 : Int) ≤ (i : Int) := by omega
  have q4 : (n : Int) ≤ (e' : Int) := by have := L.out; omega
  have tw3 := TW.out.set4 (.slice (some ⟨b, 0, none⟩) n e')
  have own3 := ownsRow_far own (p := ⟨g, 4, none⟩) (by show g < w1.heap.size; omega) (.slice (some ⟨b, 0, none⟩) n e')
  clear TW own
  have TW := Lib.hid tw3
  have OWN := Lib.hid own3
  have FR : FreshOr w A n (some ⟨b, 0, none⟩) n := FreshOr.new (by have := HBS.out; omega)
  clear own3 tw3
  by_cases p4 : p = 4
  · subst p4
    go_wp2_with (fail)
    rw [Rounds.lose_4]
    exact bodyPost_ret (v := .tuple #[.agg #[.int .i64 s, .int .i64 v, .int .i64 d, .int .i64 4, .slice (some ⟨b, 0, none⟩) n e'], .int .i64 0]) (by simp [results, Try.results19, go_sem, d0, d1, d2, d3, d4]) rfl
      ⟨some ⟨b, 0, none⟩, n, e', rfl, Is.done OWN.out lb _ _ _ _ _, FR, TW.out.done⟩
  · by_cases p6 : p = 6
    · subst p6
      go_wp2_with (fail)
      rw [Rounds.lose_6]
      exact bodyPost_ret (v := .tuple #[.agg #[.int .i64 s, .int .i64 v, .int .i64 d, .int .i64 6, .slice (some ⟨b, 0, none⟩) n e'], .int .i64 0]) (by simp [results, Try.results19, go_sem, d0, d1, d2, d3, d4]) rfl
        ⟨some ⟨b, 0, none⟩, n, e', rfl, Is.done OWN.out lb _ _ _ _ _, FR, TW.out.done⟩
    · have x4 : ((p : Int) == 4) = false := by rw [beq_eq_false_iff_ne]; exact p4
      have x6 : ((p : Int) == 6) = false := by rw [beq_eq_false_iff_ne]; exact p6
      have hno : ¬ (p = 4 ∨ p = 6) := fun h => h.elim p4 p6
      have HNO := Lib.hid hno
      have tw := TW.out.far (q := ⟨b, i, none⟩) (by show g + 1 < b; omega) (.int .i64 0)
      have own5 := (OWN.out.stored i (.int .i64 0)).1
      rw [← icells_set] at own5
      have hI := (Own.mk (base := w1.heap.size) (e := 3) own5).ints
      have hlen : ((l.set i 0).length : Int) = n := by rw [List.length_set, L.out]
      have hto : Rounds.lose1 ⟨s, v, d, p, l⟩ i = Rounds.fallen ⟨s, v, d, p, l.set i 0⟩ := Rounds.lose_else i hno
      have HTO := Lib.hid hto
      have OWN5 := Lib.hid own5
      have LEN := Lib.hid hlen
      clear hno hto own5 hlen p4 p6
      by_cases p2 : p = 2
      · subst p2
        have b1 := Rounds.many_le (l.set i 0) 1
        have b2 := Rounds.many_ge (l.set i 0) 1
        rw [LEN.out] at b1
        have hcount : ∀ (W : World) (ga : Nat) (k : Int), Is W (some ⟨b, 0, none⟩) n e' (l.set i 0) → Is W (some ⟨ga, 0, none⟩) 1 1 [k] → Calls Try.prog 38 #[.agg #[.int .i64 s, .int .i64 v, .int .i64 d, .int .i64 2, .slice (some ⟨b, 0, none⟩) n e'], .slice (some ⟨ga, 0, none⟩) 1 1] W fun r w' => r = .returned (.int .i64 (Rounds.many (l.set i 0) k)) ∧ Ext W w' := by
          intro W ga k h1 h2
          rw [← Rounds.count_one]
          exact count_any W s v d 2 (l.set i 0) _ n e' _ 1 1 [k] h1 h2 (by omega)
        have HC := Lib.hid hcount
        clear hcount
        generalize hll : l.set i 0 = l' at *
        have HLL := Lib.hid hll
        clear hll
        by_cases y : Rounds.many l' 1 < d
        · have ey : decide (Rounds.many l' 1 < d) = true := decide_eq_true y
          have Y := Lib.hid y
          clear y
          go_wp2_with (fail)
          clear c0 c1 c2 c3 c4 d0 d1 d2 d3 d4 f0 f1 f2 f3 f4 e3 e4 l0 l1
          clear k1 k2 TW OWN
          generalize (w2.setCell ⟨g, 4, none⟩ (.slice (some ⟨b, 0, none⟩) n e')).setCell ⟨b, i, none⟩ (.int .i64 0) = W5 at *
          have c0 := tw.a.c0
          have c1 := tw.a.c1
          have c2 := tw.a.c2
          have c3 := tw.a.c3
          have c4 := tw.a.c4
          have d0 := tw.b.c0
          have d1 := tw.b.c1
          have d2 := tw.b.c2
          have d3 := tw.b.c3
          have d4 := tw.b.c4
          have f0 := tw.b.fz 0
          have f1 := tw.b.fz 1
          have f2 := tw.b.fz 2
          have f3 := tw.b.fz 3
          have f4 := tw.b.fz 4
          have e3 := tw.a.fz 3
          have e4 := tw.a.fz 4
          have l0 := tw.a.lt
          have l1 := tw.b.lt
          have TW := Lib.hid tw
          clear tw
          have hS : ∀ W : World, Ext W5 W → (W.cell? ⟨g, 0, none⟩ = some (.int .i64 s) ∧ W.cell? ⟨g, 1, none⟩ = some (.int .i64 v) ∧ W.cell? ⟨g, 2, none⟩ = some (.int .i64 d) ∧ W.cell? ⟨g, 3, none⟩ = some (.int .i64 2) ∧ W.cell? ⟨g, 4, none⟩ = some (.slice (some ⟨b, 0, none⟩) n e')) := fun W hW => ⟨hW.cell c0, hW.cell c1, hW.cell c2, hW.cell c3, hW.cell c4⟩
          have HS := Lib.hid hS
          have OWN := Lib.hid OWN5.out
          clear hS OWN5
          go_region_held3 (fun w' => w'.cell? ⟨g, 0, none⟩ = some (.int .i64 s) ∧ w'.cell? ⟨g, 1, none⟩ = some (.int .i64 v) ∧ w'.cell? ⟨g, 2, none⟩ = some (.int .i64 d) ∧ w'.cell? ⟨g, 3, none⟩ = some (.int .i64 2) ∧ w'.cell? ⟨g, 4, none⟩ = some (.slice (some ⟨b, 0, none⟩) n e'))
            (first | (refine HS.out _ ?_; (repeat (first | assumption | exact Ext.refl _ | apply Ext.thenDrew | apply Ext.thenDrewN | apply Ext.thenAlloc | (apply Ext.trans; rotate_left; assumption)))) | go_keep)
            (first | ((with_reducible refine (HC.out _ _ 1 (by (repeat (first | assumption | (refine is_one _ _ _ ?_; simp; done) | (refine is_one _ _ _ rfl; done) | apply Is.drw | apply Is.drwN | apply Is.up | (apply Is.ext; rotate_left; assumption)))) (by (repeat (first | assumption | (refine is_one _ _ _ ?_; simp; done) | (refine is_one _ _ _ rfl; done) | apply Is.drw | apply Is.drwN | apply Is.up | (apply Is.ext; rotate_left; assumption))))).mono ?_); rintro x wa ⟨rfl, hwa⟩))
          have hxx : Ext W5 wa := by (repeat (first | assumption | exact Ext.refl _ | apply Ext.thenDrew | apply Ext.thenDrewN | apply Ext.thenAlloc | (apply Ext.trans; rotate_left; assumption)))
          have tw := TW.out.ext hxx
          have own7 := ownsRow_ext OWN.out hxx
          clear c0 c1 c2 c3 c4 d0 d1 d2 d3 d4 f0 f1 f2 f3 f4 e3 e4 l0 l1
          clear TW OWN HS
          have c0 := tw.a.c0
          have c1 := tw.a.c1
          have c2 := tw.a.c2
          have c3 := tw.a.c3
          have c4 := tw.a.c4
          have d0 := tw.b.c0
          have d1 := tw.b.c1
          have d2 := tw.b.c2
          have d3 := tw.b.c3
          have d4 := tw.b.c4
          have f0 := tw.b.fz 0
          have f1 := tw.b.fz 1
          have f2 := tw.b.fz 2
          have f3 := tw.b.fz 3
          have f4 := tw.b.fz 4
          have e3 := tw.a.fz 3
          have e4 := tw.a.fz 4
          have l0 := tw.a.lt
          have l1 := tw.b.lt
          have TW := Lib.hid tw
          clear tw
          have OWN := Lib.hid own7
          clear own7 hxx
          go_wp2_with (fail)
          rw [HTO.out, show Rounds.fallen ⟨s, v, d, 2, l'⟩ = ⟨s, v, d, 1, l'⟩ by unfold Rounds.fallen; rw [if_pos ⟨rfl, Y.out⟩]]
          exact bodyPost_ret (v := .tuple #[.agg #[.int .i64 s, .int .i64 v, .int .i64 d, .int .i64 1, .slice (some ⟨b, 0, none⟩) n e'], .int .i64 0]) (by simp [results, Try.results19, go_sem, d0, d1, d2, d3, d4]) rfl
            ⟨some ⟨b, 0, none⟩, n, e', rfl, Is.done (ownsRow_far OWN.out (p := ⟨g, 3, none⟩) (by show g < w1.heap.size; omega) _) lb _ _ _ _ _, FR, (TW.out.set3 1).done⟩
        · have ey : decide (Rounds.many l' 1 < d) = false := decide_eq_false y
          have Y := Lib.hid y
          clear y
          go_wp2_with (fail)
          clear c0 c1 c2 c3 c4 d0 d1 d2 d3 d4 f0 f1 f2 f3 f4 e3 e4 l0 l1
          clear k1 k2 TW OWN
          generalize (w2.setCell ⟨g, 4, none⟩ (.slice (some ⟨b, 0, none⟩) n e')).setCell ⟨b, i, none⟩ (.int .i64 0) = W5 at *
          have c0 := tw.a.c0
          have c1 := tw.a.c1
          have c2 := tw.a.c2
          have c3 := tw.a.c3
          have c4 := tw.a.c4
          have d0 := tw.b.c0
          have d1 := tw.b.c1
          have d2 := tw.b.c2
          have d3 := tw.b.c3
          have d4 := tw.b.c4
          have f0 := tw.b.fz 0
          have f1 := tw.b.fz 1
          have f2 := tw.b.fz 2
          have f3 := tw.b.fz 3
          have f4 := tw.b.fz 4
          have e3 := tw.a.fz 3
          have e4 := tw.a.fz 4
          have l0 := tw.a.lt
          have l1 := tw.b.lt
          have TW := Lib.hid tw
          clear tw
          have hS : ∀ W : World, Ext W5 W → (W.cell? ⟨g, 0, none⟩ = some (.int .i64 s) ∧ W.cell? ⟨g, 1, none⟩ = some (.int .i64 v) ∧ W.cell? ⟨g, 2, none⟩ = some (.int .i64 d) ∧ W.cell? ⟨g, 3, none⟩ = some (.int .i64 2) ∧ W.cell? ⟨g, 4, none⟩ = some (.slice (some ⟨b, 0, none⟩) n e')) := fun W hW => ⟨hW.cell c0, hW.cell c1, hW.cell c2, hW.cell c3, hW.cell c4⟩
          have HS := Lib.hid hS
          have OWN := Lib.hid OWN5.out
          clear hS OWN5
          go_region_held3 (fun w' => w'.cell? ⟨g, 0, none⟩ = some (.int .i64 s) ∧ w'.cell? ⟨g, 1, none⟩ = some (.int .i64 v) ∧ w'.cell? ⟨g, 2, none⟩ = some (.int .i64 d) ∧ w'.cell? ⟨g, 3, none⟩ = some (.int .i64 2) ∧ w'.cell? ⟨g, 4, none⟩ = some (.slice (some ⟨b, 0, none⟩) n e'))
            (first | (refine HS.out _ ?_; (repeat (first | assumption | exact Ext.refl _ | apply Ext.thenDrew | apply Ext.thenDrewN | apply Ext.thenAlloc | (apply Ext.trans; rotate_left; assumption)))) | go_keep)
            (first | ((with_reducible refine (HC.out _ _ 1 (by (repeat (first | assumption | (refine is_one _ _ _ ?_; simp; done) | (refine is_one _ _ _ rfl; done) | apply Is.drw | apply Is.drwN | apply Is.up | (apply Is.ext; rotate_left; assumption)))) (by (repeat (first | assumption | (refine is_one _ _ _ ?_; simp; done) | (refine is_one _ _ _ rfl; done) | apply Is.drw | apply Is.drwN | apply Is.up | (apply Is.ext; rotate_left; assumption))))).mono ?_); rintro x wa ⟨rfl, hwa⟩))
          have hxx : Ext W5 wa := by (repeat (first | assumption | exact Ext.refl _ | apply Ext.thenDrew | apply Ext.thenDrewN | apply Ext.thenAlloc | (apply Ext.trans; rotate_left; assumption)))
          have tw := TW.out.ext hxx
          have own7 := ownsRow_ext OWN.out hxx
          clear c0 c1 c2 c3 c4 d0 d1 d2 d3 d4 f0 f1 f2 f3 f4 e3 e4 l0 l1
          clear TW OWN HS
          have c0 := tw.a.c0
          have c1 := tw.a.c1
          have c2 := tw.a.c2
          have c3 := tw.a.c3
          have c4 := tw.a.c4
          have d0 := tw.b.c0
          have d1 := tw.b.c1
          have d2 := tw.b.c2
          have d3 := tw.b.c3
          have d4 := tw.b.c4
          have f0 := tw.b.fz 0
          have f1 := tw.b.fz 1
          have f2 := tw.b.fz 2
          have f3 := tw.b.fz 3
          have f4 := tw.b.fz 4
          have e3 := tw.a.fz 3
          have e4 := tw.a.fz 4
          have l0 := tw.a.lt
          have l1 := tw.b.lt
          have TW := Lib.hid tw
          clear tw
          have OWN := Lib.hid own7
          clear own7 hxx
          go_wp2_with (fail)
          rw [HTO.out, show Rounds.fallen ⟨s, v, d, 2, l'⟩ = ⟨s, v, d, 2, l'⟩ by unfold Rounds.fallen; rw [if_neg (fun h => by have h1 := h.2; have h2 := Y.out; simp only at h1; omega)]]
          exact bodyPost_ret (v := .tuple #[.agg #[.int .i64 s, .int .i64 v, .int .i64 d, .int .i64 2, .slice (some ⟨b, 0, none⟩) n e'], .int .i64 0]) (by simp [results, Try.results19, go_sem, d0, d1, d2, d3, d4]) rfl
            ⟨some ⟨b, 0, none⟩, n, e', rfl, Is.done OWN.out lb _ _ _ _ _, FR, TW.out.done⟩
      · have x2 : ((p : Int) == 2) = false := by rw [beq_eq_false_iff_ne]; exact p2
        have hf : Rounds.fallen ⟨s, v, d, p, l.set i 0⟩ = ⟨s, v, d, p, l.set i 0⟩ := by unfold Rounds.fallen; rw [if_neg (fun h => p2 h.1)]
        have HF := Lib.hid hf
        clear hf p2 hI
        generalize l.set i 0 = l' at *
        go_wp2_with (fail)
        clear c0 c1 c2 c3 c4 d0 d1 d2 d3 d4 f0 f1 f2 f3 f4 e3 e4 l0 l1
        clear k1 k2 TW OWN
        generalize (w2.setCell ⟨g, 4, none⟩ (.slice (some ⟨b, 0, none⟩) n e')).setCell ⟨b, i, none⟩ (.int .i64 0) = W5 at *
        have c0 := tw.a.c0
        have c1 := tw.a.c1
        have c2 := tw.a.c2
        have c3 := tw.a.c3
        have c4 := tw.a.c4
        have d0 := tw.b.c0
        have d1 := tw.b.c1
        have d2 := tw.b.c2
        have d3 := tw.b.c3
        have d4 := tw.b.c4
        have f0 := tw.b.fz 0
        have f1 := tw.b.fz 1
        have f2 := tw.b.fz 2
        have f3 := tw.b.fz 3
        have f4 := tw.b.fz 4
        have e3 := tw.a.fz 3
        have e4 := tw.a.fz 4
        have l0 := tw.a.lt
        have l1 := tw.b.lt
        have TW := Lib.hid tw
        clear tw
        go_quiet (fail)
        go_wp2_with (fail)
        rw [HTO.out, HF.out]
        exact bodyPost_ret (v := .tuple #[.agg #[.int .i64 s, .int .i64 v, .int .i64 d, .int .i64 p, .slice (some ⟨b, 0, none⟩) n e'], .int .i64 0]) (by simp [results, Try.results19, go_sem, d0, d1, d2, d3, d4]) rfl
          ⟨some ⟨b, 0, none⟩, n, e', rfl, Is.done (ownsRow_ext OWN5.out (Ext.drewN _ _)) lb _ _ _ _ _, FR, (TW.out.ext (Ext.drewN _ _)).done⟩

theorem lose_any (w : World) (r : Rounds.R) (A : Option Addr) (n c : Nat) (hl : Is w A n c r.marks) (hn : n ≤ 1000000) (i : Int) :
    Calls Try.prog 19 #[rval r A n c, .int .i64 i] w (GivesR A n (Rounds.lose r i) (Rounds.toldE r i) w) := by
  unfold Rounds.lose Rounds.toldE
  by_cases hr : Rounds.Right r
  · by_cases h0 : i < 0
    · rw [if_neg (fun h => by have := h.2.1; omega), if_neg (fun h => by have := h.2.1; omega)]
      exact lose_bad2 w r.stripe r.version r.need r.phase r.marks A n c hl i hr h0
    · by_cases h1 : (n : Int) ≤ i
      · have hno : ¬ Rounds.InRange r i := fun h => by have h2 := h.2.2; rw [hl.len] at h2; omega
        rw [if_neg hno, if_neg hno]
        exact lose_bad3 w r.stripe r.version r.need r.phase r.marks A n c hl i hr (by omega) h1
      · obtain ⟨k, rfl⟩ := Int.eq_ofNat_of_zero_le (show 0 ≤ i by omega)
        have hyes : Rounds.InRange r (k : Int) := ⟨hr, by omega, by rw [hl.len]; omega⟩
        rw [if_pos hyes, if_pos hyes, Int.toNat_natCast]
        exact lose_ok w r.stripe r.version r.need r.phase r.marks A n c hl hn k hr (by omega)
  · rw [if_neg (fun h => hr h.1), if_neg (fun h => hr h.1)]
    exact lose_bad1 w r.stripe r.version r.need r.phase r.marks A n c hl i hr
end Go.Proofs.Ytgfhpgomlocllaa
