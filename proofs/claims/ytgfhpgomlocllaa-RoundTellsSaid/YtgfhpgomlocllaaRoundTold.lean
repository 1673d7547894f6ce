/- The contract of round.Told. -/
import Derived.Test.YtgfhpgomlocllaaRoundTurn
import Derived.Test.YtgfhpgomlocllaaRoundWant
import Derived.StillTailTactics
import Derived.Test.YtgfhpgomlocllaaRounds3
namespace Go.Proofs.Ytgfhpgomlocllaa
open Go.RowKit

set_option maxRecDepth 100000 in
set_option maxHeartbeats 2000000 in
theorem told_bad1 (w : World) (s v d p : Int) (l : List Int) (A : Option Addr) (n c : Nat) (hl : Is w A n c l) (i o e : Int) (hr : ¬ Rounds.Right ⟨s, v, d, p, l⟩) :
    Calls Try.prog 12 #[.agg #[.int .i64 s, .int .i64 v, .int .i64 d, .int .i64 p, .slice A n c], .int .i64 i, .int .u8 o, .int .i64 e] w (GivesR A n ⟨s, v, d, p, l⟩ 130 w) := by
  have tw := Two.start w s v d p (.slice A n c)
  have hR := right_any ((w.alloc (.cells #[.int .i64 s, .int .i64 v, .int .i64 d, .int .i64 p, .slice A n c] 25)).alloc (.cells #[.int .i64 0, .int .i64 0, .int .i64 0, .int .i64 0, .slice none 0 0] 25)) ⟨s, v, d, p, l⟩ A n c (hl.ext tw.x)
  rw [decide_eq_false hr] at hR
  have HR := Lib.hid hR
  have TW0 := Lib.hid tw
  have hmx := hl.max
  have hle := hl.le
  clear hR tw hr
  go_enter Try.func12, Try.ntmps12
  try dsimp only [List.append]
  go_wp2_with (fail)
  refine HR.out.mono ?_
  rintro x w1 ⟨rfl, x1⟩
  have tw := TW0.out.ext x1
  have hl1 := hl.ext tw.x
  clear HR x1 TW0
  generalize hg : w.heap.size = g at *
  have HG := Lib.hid hg
  clear hg
  have c0 := tw.a.c0
  have c1 := tw.a.c1
  have c2 := tw.a.c2
  have c3 := tw.a.c3
  have c4 := tw.a.c4
  have d0 := tw.b.c0
  have d1 := tw.b.c1
  have d2 := tw.b.c2
  have d3 := tw.b.c3
  have d4 := tw.b.c4
  have f0 := tw.b.fz 0
  have f1 := tw.b.fz 1
  have f2 := tw.b.fz 2
  have f3 := tw.b.fz 3
  have f4 := tw.b.fz 4
  have e3 := tw.a.fz 3
  have e4 := tw.a.fz 4
  have l0 := tw.a.lt
  have l1 := tw.b.lt
  have TW := Lib.hid tw
  clear tw
  go_wp2_with (fail)
  exact bodyPost_ret (v := .tuple #[.agg #[.int .i64 s, .int .i64 v, .int .i64 d, .int .i64 p, .slice A n c], .int .i64 130]) (by simp [results, Try.results12, go_sem, d0, d1, d2, d3, d4]) rfl ⟨A, n, c, rfl, hl.ext TW.out.done, FreshOr.same _ _ _, TW.out.done⟩

set_option maxRecDepth 100000 in
set_option maxHeartbeats 2000000 in
theorem told_bad2 (w : World) (s v d p : Int) (l : List Int) (A : Option Addr) (n c : Nat) (hl : Is w A n c l) (i o e : Int) (hr : Rounds.Right ⟨s, v, d, p, l⟩) (hi : i < 0) :
    Calls Try.prog 12 #[.agg #[.int .i64 s, .int .i64 v, .int .i64 d, .int .i64 p, .slice A n c], .int .i64 i, .int .u8 o, .int .i64 e] w (GivesR A n ⟨s, v, d, p, l⟩ 130 w) := by
  have tw := Two.start w s v d p (.slice A n c)
  have hR := right_any ((w.alloc (.cells #[.int .i64 s, .int .i64 v, .int .i64 d, .int .i64 p, .slice A n c] 25)).alloc (.cells #[.int .i64 0, .int .i64 0, .int .i64 0, .int .i64 0, .slice none 0 0] 25)) ⟨s, v, d, p, l⟩ A n c (hl.ext tw.x)
  rw [decide_eq_true hr] at hR
  have HR := Lib.hid hR
  have TW0 := Lib.hid tw
  have hmx := hl.max
  have hle := hl.le
  clear hR tw hr
  go_enter Try.func12, Try.ntmps12
  try dsimp only [List.append]
  go_wp2_with (fail)
  refine HR.out.mono ?_
  rintro x w1 ⟨rfl, x1⟩
  have tw := TW0.out.ext x1
  have hl1 := hl.ext tw.x
  clear HR x1 TW0
  generalize hg : w.heap.size = g at *
  have HG := Lib.hid hg
  clear hg
  have c0 := tw.a.c0
  have c1 := tw.a.c1
  have c2 := tw.a.c2
  have c3 := tw.a.c3
  have c4 := tw.a.c4
  have d0 := tw.b.c0
  have d1 := tw.b.c1
  have d2 := tw.b.c2
  have d3 := tw.b.c3
  have d4 := tw.b.c4
  have f0 := tw.b.fz 0
  have f1 := tw.b.fz 1
  have f2 := tw.b.fz 2
  have f3 := tw.b.fz 3
  have f4 := tw.b.fz 4
  have e3 := tw.a.fz 3
  have e4 := tw.a.fz 4
  have l0 := tw.a.lt
  have l1 := tw.b.lt
  have TW := Lib.hid tw
  clear tw
  go_wp2_with (fail)
  exact bodyPost_ret (v := .tuple #[.agg #[.int .i64 s, .int .i64 v, .int .i64 d, .int .i64 p, .slice A n c], .int .i64 130]) (by simp [results, Try.results12, go_sem, d0, d1, d2, d3, d4]) rfl ⟨A, n, c, rfl, hl.ext TW.out.done, FreshOr.same _ _ _, TW.out.done⟩

set_option maxRecDepth 100000 in
set_option maxHeartbeats 2000000 in
theorem told_bad3 (w : World) (s v d p : Int) (l : List Int) (A : Option Addr) (n c : Nat) (hl : Is w A n c l) (i o e : Int) (hr : Rounds.Right ⟨s, v, d, p, l⟩) (hi : 0 ≤ i) (hi2 : (n : Int) ≤ i) :
    Calls Try.prog 12 #[.agg #[.int .i64 s, .int .i64 v, .int .i64 d, .int .i64 p, .slice A n c], .int .i64 i, .int .u8 o, .int .i64 e] w (GivesR A n ⟨s, v, d, p, l⟩ 130 w) := by
  have tw := Two.start w s v d p (.slice A n c)
  have hR := right_any ((w.alloc (.cells #[.int .i64 s, .int .i64 v, .int .i64 d, .int .i64 p, .slice A n c] 25)).alloc (.cells #[.int .i64 0, .int .i64 0, .int .i64 0, .int .i64 0, .slice none 0 0] 25)) ⟨s, v, d, p, l⟩ A n c (hl.ext tw.x)
  rw [decide_eq_true hr] at hR
  have HR := Lib.hid hR
  have TW0 := Lib.hid tw
  have hmx := hl.max
  have hle := hl.le
  clear hR tw hr
  go_enter Try.func12, Try.ntmps12
  try dsimp only [List.append]
  go_wp2_with (fail)
  refine HR.out.mono ?_
  rintro x w1 ⟨rfl, x1⟩
  have tw := TW0.out.ext x1
  have hl1 := hl.ext tw.x
  clear HR x1 TW0
  generalize hg : w.heap.size = g at *
  have HG := Lib.hid hg
  clear hg
  have c0 := tw.a.c0
  have c1 := tw.a.c1
  have c2 := tw.a.c2
  have c3 := tw.a.c3
  have c4 := tw.a.c4
  have d0 := tw.b.c0
  have d1 := tw.b.c1
  have d2 := tw.b.c2
  have d3 := tw.b.c3
  have d4 := tw.b.c4
  have f0 := tw.b.fz 0
  have f1 := tw.b.fz 1
  have f2 := tw.b.fz 2
  have f3 := tw.b.fz 3
  have f4 := tw.b.fz 4
  have e3 := tw.a.fz 3
  have e4 := tw.a.fz 4
  have l0 := tw.a.lt
  have l1 := tw.b.lt
  have TW := Lib.hid tw
  clear tw
  go_wp2_with (fail)
  exact bodyPost_ret (v := .tuple #[.agg #[.int .i64 s, .int .i64 v, .int .i64 d, .int .i64 p, .slice A n c], .int .i64 130]) (by simp [results, Try.results12, go_sem, d0, d1, d2, d3, d4]) rfl ⟨A, n, c, rfl, hl.ext TW.out.done, FreshOr.same _ _ _, TW.out.done⟩

set_option maxRecDepth 100000 in
set_option maxHeartbeats 4000000 in
theorem told_ok (w : World) (s v d p : Int) (l : List Int) (A : Option Addr) (n c : Nat) (hl : Is w A n c l) (hn : n ≤ 1000000) (i : Nat) (o e : Int) (hr : Rounds.Right ⟨s, v, d, p, l⟩) (hi : i < n) :
    Calls Try.prog 12 #[.agg #[.int .i64 s, .int .i64 v, .int .i64 d, .int .i64 p, .slice A n c], .int .i64 (i : Int), .int .u8 o, .int .i64 e] w (GivesR A n (Rounds.told1 ⟨s, v, d, p, l⟩ i o e) 0 w) := by
  have hd : 1 ≤ d ∧ d ≤ n := by
    have h1 := hr.1
    have h2 := hl.len
    unfold Rounds.named at h1
    simp only at h1
    omega
  have tw := Two.start w s v d p (.slice A n c)
  have hR := right_any ((w.alloc (.cells #[.int .i64 s, .int .i64 v, .int .i64 d, .int .i64 p, .slice A n c] 25)).alloc (.cells #[.int .i64 0, .int .i64 0, .int .i64 0, .int .i64 0, .slice none 0 0] 25)) ⟨s, v, d, p, l⟩ A n c (hl.ext tw.x)
  rw [decide_eq_true hr] at hR
  have HR := Lib.hid hR
  have TW0 := Lib.hid tw
  have hmx := hl.max
  have hle := hl.le
  clear hR tw hr
  go_enter Try.func12, Try.ntmps12
  try dsimp only [List.append]
  go_wp2_with (fail)
  refine HR.out.mono ?_
  rintro x w1 ⟨rfl, x1⟩
  have tw := TW0.out.ext x1
  have hl1 := hl.ext tw.x
  clear HR x1 TW0
  generalize hg : w.heap.size = g at *
  have HG := Lib.hid hg
  clear hg
  have c0 := tw.a.c0
  have c1 := tw.a.c1
  have c2 := tw.a.c2
  have c3 := tw.a.c3
  have c4 := tw.a.c4
  have d0 := tw.b.c0
  have d1 := tw.b.c1
  have d2 := tw.b.c2
  have d3 := tw.b.c3
  have d4 := tw.b.c4
  have f0 := tw.b.fz 0
  have f1 := tw.b.fz 1
  have f2 := tw.b.fz 2
  have f3 := tw.b.fz 3
  have f4 := tw.b.fz 4
  have e3 := tw.a.fz 3
  have e4 := tw.a.fz 4
  have l0 := tw.a.lt
  have l1 := tw.b.lt
  have TW := Lib.hid tw
  clear tw
  have q1 : (i : Int) < n := by omega
  have q2 : ¬ (n : Int) ≤ i := by omega
  go_wp2_with (fail)
  refine (cloneInts_any w1 A n c l hl1 (by omega)).mono ?_
  rintro x w2 ⟨y, rfl, hy⟩
  obtain ⟨D, e', rfl, _, _⟩ := ownsRow_slice hy.own
  have own := hy.own
  rw [hl1.len] at own ⊢
  have tw := TW.out.ext hy.ext
  have lb := TW.out.b.lt
  have HBS := Lib.hid TW.out.base
  have L := Lib.hid hl.len
  clear c0 c1 c2 c3 c4 d0 d1 d2 d3 d4 f0 f1 f2 f3 f4 e3 e4 l0 l1
  clear TW hl1 hy
  have c0 := tw.a.c0
  have c1 := tw.a.c1
  have c2 := tw.a.c2
  have c3 := tw.a.c3
  have c4 := tw.a.c4
  have d0 := tw.b.c0
  have d1 := tw.b.c1
  have d2 := tw.b.c2
  have d3 := tw.b.c3
  have d4 := tw.b.c4
  have f0 := tw.b.fz 0
  have f1 := tw.b.fz 1
  have f2 := tw.b.fz 2
  have f3 := tw.b.fz 3
  have f4 := tw.b.fz 4
  have e3 := tw.a.fz 3
  have e4 := tw.a.fz 4
  have l0 := tw.a.lt
  have l1 := tw.b.lt
  have TW := Lib.hid tw
  clear tw
  go_wp2_with (fail)
  have tw := TW.out.set4 (.slice D n e')
  have own3 := ownsRow_far own (p := ⟨g, 4, none⟩) (by show g < w1.heap.size; omega) (.slice D n e')
  clear own TW
  clear c0 c1 c2 c3 c4 d0 d1 d2 d3 d4 f0 f1 f2 f3 f4 e3 e4 l0 l1
  generalize w2.setCell ⟨g, 4, none⟩ (.slice D n e') = W3 at *
  have c0 := tw.a.c0
  have c1 := tw.a.c1
  have c2 := tw.a.c2
  have c3 := tw.a.c3
  have c4 := tw.a.c4
  have d0 := tw.b.c0
  have d1 := tw.b.c1
  have d2 := tw.b.c2
  have d3 := tw.b.c3
  have d4 := tw.b.c4
  have f0 := tw.b.fz 0
  have f1 := tw.b.fz 1
  have f2 := tw.b.fz 2
  have f3 := tw.b.fz 3
  have f4 := tw.b.fz 4
  have e3 := tw.a.fz 3
  have e4 := tw.a.fz 4
  have l0 := tw.a.lt
  have l1 := tw.b.lt
  have TW := Lib.hid tw
  clear tw
  obtain ⟨b, rfl, j1, j2⟩ := own_addr own3 (by omega)
  have k1 : W3.cell? ⟨b, i, none⟩ = some (.int .i64 (Il.get l i)) := by rw [own3.cellAt i (by omega), icells_get (by rw [L.out]; exact hi)]
  have k2 : W3.frozen? ⟨b, i, none⟩ = false := own3.frozenAt i
  have HM := Lib.hid (fun W => marked_any W p (Il.get l i) o e)
  have q3 : (0 : Int) ≤ (i : Int) := by omega
  have q4 : (n : Int) ≤ (e' : Int) := by have := L.out; omega
  have OWN := Lib.hid own3
  clear own3
  go_still_tail 14, (by kernel_rfl)
  still_call ((HM.out _).mono (fun e w' h => ⟨h.1, h.2.symm⟩))
  repeat still_step
  refine wpStill_nil ?_
  have tw := TW.out.ext (Ext.drew W3)
  have own4 := ownsRow_ext OWN.out (Ext.drew W3)
  change wpList _ _ _ _ _ W3.drew
  replace k1 : W3.drew.cell? ⟨b, i, none⟩ = _ := k1
  replace k2 : W3.drew.frozen? ⟨b, i, none⟩ = false := k2
  generalize hmk : Rounds.marked p (Il.get l i) o e = mk at *
  generalize W3.drew = W4 at *
  clear TW OWN HM
  clear c0 c1 c2 c3 c4 d0 d1 d2 d3 d4 f0 f1 f2 f3 f4 e3 e4 l0 l1
  have c0 := tw.a.c0
  have c1 := tw.a.c1
  have c2 := tw.a.c2
  have c3 := tw.a.c3
  have c4 := tw.a.c4
  have d0 := tw.b.c0
  have d1 := tw.b.c1
  have d2 := tw.b.c2
  have d3 := tw.b.c3
  have d4 := tw.b.c4
  have f0 := tw.b.fz 0
  have f1 := tw.b.fz 1
  have f2 := tw.b.fz 2
  have f3 := tw.b.fz 3
  have f4 := tw.b.fz 4
  have e3 := tw.a.fz 3
  have e4 := tw.a.fz 4
  have l0 := tw.a.lt
  have l1 := tw.b.lt
  have TW := Lib.hid tw
  clear tw
  have OWN := Lib.hid own4
  have HMK := Lib.hid hmk
  clear own4 hmk
  go_wp2_with (fail)
  have tw := TW.out.far (q := ⟨b, i, none⟩) (by show g + 1 < b; omega) (.int .i64 mk)
  have own5 := (OWN.out.stored i (.int .i64 mk)).1
  rw [← icells_set] at own5
  have hI := (Own.mk (base := w1.heap.size) (e := 3) own5).ints
  have hlen : ((l.set i mk).length : Int) = n := by rw [List.length_set, L.out]
  have hto : Rounds.told1 ⟨s, v, d, p, l⟩ i o e = Rounds.next ⟨s, v, d, p, l.set i mk⟩ := by unfold Rounds.told1 Rounds.setMark; rw [← HMK.out]
  have HTO := Lib.hid hto
  clear k1 k2 TW OWN hto
  clear c0 c1 c2 c3 c4 d0 d1 d2 d3 d4 f0 f1 f2 f3 f4 e3 e4 l0 l1
  generalize W4.setCell ⟨b, i, none⟩ (.int .i64 mk) = W5 at *
  have hcount : ∀ (W : World) (ga : Nat) (k : Int), Is W (some ⟨b, 0, none⟩) n e' (l.set i mk) → Is W (some ⟨ga, 0, none⟩) 1 1 [k] → Calls Try.prog 38 #[.agg #[.int .i64 s, .int .i64 v, .int .i64 d, .int .i64 p, .slice (some ⟨b, 0, none⟩) n e'], .slice (some ⟨ga, 0, none⟩) 1 1] W fun r w' => r = .returned (.int .i64 (Rounds.many (l.set i mk) k)) ∧ Ext W w' := by
    intro W ga k h1 h2
    rw [← Rounds.count_one]
    exact count_any W s v d p (l.set i mk) _ n e' _ 1 1 [k] h1 h2 (by omega)
  have HC := Lib.hid hcount
  have LEN := Lib.hid hlen
  have OWN := Lib.hid own5
  have FR : FreshOr w A n (some ⟨b, 0, none⟩) n := FreshOr.new (by have := HBS.out; omega)
  clear hcount hlen own5
  generalize l.set i mk = l' at *
  have b1 := Rounds.many_le l' 1
  have b2 := Rounds.many_le l' 2
  have b3 := Rounds.many_le l' 3
  have b4 := Rounds.many_le l' 4
  have b5 := Rounds.many_ge l' 1
  have b6 := Rounds.many_ge l' 2
  have b7 := Rounds.many_ge l' 3
  have b8 := Rounds.many_ge l' 4
  rw [LEN.out] at b1 b2 b3 b4
  have c0 := tw.a.c0
  have c1 := tw.a.c1
  have c2 := tw.a.c2
  have c3 := tw.a.c3
  have c4 := tw.a.c4
  have d0 := tw.b.c0
  have d1 := tw.b.c1
  have d2 := tw.b.c2
  have d3 := tw.b.c3
  have d4 := tw.b.c4
  have f0 := tw.b.fz 0
  have f1 := tw.b.fz 1
  have f2 := tw.b.fz 2
  have f3 := tw.b.fz 3
  have f4 := tw.b.fz 4
  have e3 := tw.a.fz 3
  have e4 := tw.a.fz 4
  have l0 := tw.a.lt
  have l1 := tw.b.lt
  have TW := Lib.hid tw
  clear tw
  by_cases p1 : p = 1
  · subst p1
    have hS : ∀ W : World, Ext W5 W → (W.cell? ⟨g, 0, none⟩ = some (.int .i64 s) ∧ W.cell? ⟨g, 1, none⟩ = some (.int .i64 v) ∧ W.cell? ⟨g, 2, none⟩ = some (.int .i64 d) ∧ W.cell? ⟨g, 3, none⟩ = some (.int .i64 1) ∧ W.cell? ⟨g, 4, none⟩ = some (.slice (some ⟨b, 0, none⟩) n e')) := fun W hW => ⟨hW.cell c0, hW.cell c1, hW.cell c2, hW.cell c3, hW.cell c4⟩
    have HS := Lib.hid hS
    clear hS
    by_cases y : d ≤ Rounds.many l' 1
    · have ey : decide (d ≤ Rounds.many l' 1) = true := decide_eq_true y
      have Y := Lib.hid y
      clear y
      go_wp2_with (fail)
      go_region_held3 (fun w' => w'.cell? ⟨g, 0, none⟩ = some (.int .i64 s) ∧ w'.cell? ⟨g, 1, none⟩ = some (.int .i64 v) ∧ w'.cell? ⟨g, 2, none⟩ = some (.int .i64 d) ∧ w'.cell? ⟨g, 3, none⟩ = some (.int .i64 1) ∧ w'.cell? ⟨g, 4, none⟩ = some (.slice (some ⟨b, 0, none⟩) n e'))
        (first | (refine HS.out _ ?_; (repeat (first | assumption | exact Ext.refl _ | apply Ext.thenDrew | apply Ext.thenDrewN | apply Ext.thenAlloc | (apply Ext.trans; rotate_left; assumption)))) | go_keep)
        (first | ((with_reducible refine (HC.out _ _ 1 (by (repeat (first | assumption | (refine is_one _ _ _ ?_; simp; done) | (refine is_one _ _ _ rfl; done) | apply Is.drw | apply Is.drwN | apply Is.up | (apply Is.ext; rotate_left; assumption)))) (by (repeat (first | assumption | (refine is_one _ _ _ ?_; simp; done) | (refine is_one _ _ _ rfl; done) | apply Is.drw | apply Is.drwN | apply Is.up | (apply Is.ext; rotate_left; assumption))))).mono ?_); rintro x wa ⟨rfl, hwa⟩))
      have hxx : Ext W5 wa := by (repeat (first | assumption | exact Ext.refl _ | apply Ext.thenDrew | apply Ext.thenDrewN | apply Ext.thenAlloc | (apply Ext.trans; rotate_left; assumption)))
      have tw := TW.out.ext hxx
      have own7 := ownsRow_ext OWN.out hxx
      replace hI := hI.ext hxx
      clear c0 c1 c2 c3 c4 d0 d1 d2 d3 d4 f0 f1 f2 f3 f4 e3 e4 l0 l1
      clear TW OWN HS
      have c0 := tw.a.c0
      have c1 := tw.a.c1
      have c2 := tw.a.c2
      have c3 := tw.a.c3
      have c4 := tw.a.c4
      have d0 := tw.b.c0
      have d1 := tw.b.c1
      have d2 := tw.b.c2
      have d3 := tw.b.c3
      have d4 := tw.b.c4
      have f0 := tw.b.fz 0
      have f1 := tw.b.fz 1
      have f2 := tw.b.fz 2
      have f3 := tw.b.fz 3
      have f4 := tw.b.fz 4
      have e3 := tw.a.fz 3
      have e4 := tw.a.fz 4
      have l0 := tw.a.lt
      have l1 := tw.b.lt
      have TW := Lib.hid tw
      clear tw
      have OWN := Lib.hid own7
      clear own7 hxx
      go_wp2_with (fail)
      rw [HTO.out, Rounds.next_ready Y.out]
      exact bodyPost_ret (v := .tuple #[.agg #[.int .i64 s, .int .i64 v, .int .i64 d, .int .i64 2, .slice (some ⟨b, 0, none⟩) n e'], .int .i64 0]) (by simp [results, Try.results12, go_sem, d0, d1, d2, d3, d4]) rfl
        ⟨some ⟨b, 0, none⟩, n, e', rfl, Is.done (ownsRow_far OWN.out (p := ⟨g, 3, none⟩) (by show g < w1.heap.size; omega) _) lb _ _ _ _ _, FR, (TW.out.set3 2).done⟩
    · have ey : decide (d ≤ Rounds.many l' 1) = false := decide_eq_false y
      have Y := Lib.hid y
      clear y
      go_wp2_with (fail)
      go_region_held3 (fun w' => w'.cell? ⟨g, 0, none⟩ = some (.int .i64 s) ∧ w'.cell? ⟨g, 1, none⟩ = some (.int .i64 v) ∧ w'.cell? ⟨g, 2, none⟩ = some (.int .i64 d) ∧ w'.cell? ⟨g, 3, none⟩ = some (.int .i64 1) ∧ w'.cell? ⟨g, 4, none⟩ = some (.slice (some ⟨b, 0, none⟩) n e'))
        (first | (refine HS.out _ ?_; (repeat (first | assumption | exact Ext.refl _ | apply Ext.thenDrew | apply Ext.thenDrewN | apply Ext.thenAlloc | (apply Ext.trans; rotate_left; assumption)))) | go_keep)
        (first | ((with_reducible refine (HC.out _ _ 1 (by (repeat (first | assumption | (refine is_one _ _ _ ?_; simp; done) | (refine is_one _ _ _ rfl; done) | apply Is.drw | apply Is.drwN | apply Is.up | (apply Is.ext; rotate_left; assumption)))) (by (repeat (first | assumption | (refine is_one _ _ _ ?_; simp; done) | (refine is_one _ _ _ rfl; done) | apply Is.drw | apply Is.drwN | apply Is.up | (apply Is.ext; rotate_left; assumption))))).mono ?_); rintro x wa ⟨rfl, hwa⟩))
      have hxx : Ext W5 wa := by (repeat (first | assumption | exact Ext.refl _ | apply Ext.thenDrew | apply Ext.thenDrewN | apply Ext.thenAlloc | (apply Ext.trans; rotate_left; assumption)))
      have tw := TW.out.ext hxx
      have own7 := ownsRow_ext OWN.out hxx
      replace hI := hI.ext hxx
      clear c0 c1 c2 c3 c4 d0 d1 d2 d3 d4 f0 f1 f2 f3 f4 e3 e4 l0 l1
      clear TW OWN HS
      have c0 := tw.a.c0
      have c1 := tw.a.c1
      have c2 := tw.a.c2
      have c3 := tw.a.c3
      have c4 := tw.a.c4
      have d0 := tw.b.c0
      have d1 := tw.b.c1
      have d2 := tw.b.c2
      have d3 := tw.b.c3
      have d4 := tw.b.c4
      have f0 := tw.b.fz 0
      have f1 := tw.b.fz 1
      have f2 := tw.b.fz 2
      have f3 := tw.b.fz 3
      have f4 := tw.b.fz 4
      have e3 := tw.a.fz 3
      have e4 := tw.a.fz 4
      have l0 := tw.a.lt
      have l1 := tw.b.lt
      have TW := Lib.hid tw
      clear tw
      have OWN := Lib.hid own7
      clear own7 hxx
      have hS : ∀ W : World, Ext wa W → (W.cell? ⟨g, 0, none⟩ = some (.int .i64 s) ∧ W.cell? ⟨g, 1, none⟩ = some (.int .i64 v) ∧ W.cell? ⟨g, 2, none⟩ = some (.int .i64 d) ∧ W.cell? ⟨g, 3, none⟩ = some (.int .i64 1) ∧ W.cell? ⟨g, 4, none⟩ = some (.slice (some ⟨b, 0, none⟩) n e')) := fun W hW => ⟨hW.cell c0, hW.cell c1, hW.cell c2, hW.cell c3, hW.cell c4⟩
      have HS := Lib.hid hS
      clear hS
      have ew : IntKind.i64.wrap ((n : Int) - d) = (n : Int) - d := IntWalk.i64_in _ (by omega)
      by_cases z : (n : Int) - d < Rounds.many l' 3
      · have ez : decide ((n : Int) - d < Rounds.many l' 3) = true := decide_eq_true z
        have Z := Lib.hid z
        clear z
        go_wp2_with (fail)
        go_region_held3 (fun w' => w'.cell? ⟨g, 0, none⟩ = some (.int .i64 s) ∧ w'.cell? ⟨g, 1, none⟩ = some (.int .i64 v) ∧ w'.cell? ⟨g, 2, none⟩ = some (.int .i64 d) ∧ w'.cell? ⟨g, 3, none⟩ = some (.int .i64 1) ∧ w'.cell? ⟨g, 4, none⟩ = some (.slice (some ⟨b, 0, none⟩) n e'))
          (first | (refine HS.out _ ?_; (repeat (first | assumption | exact Ext.refl _ | apply Ext.thenDrew | apply Ext.thenDrewN | apply Ext.thenAlloc | (apply Ext.trans; rotate_left; assumption)))) | go_keep)
          (first | ((with_reducible refine (HC.out _ _ 3 (by (repeat (first | assumption | (refine is_one _ _ _ ?_; simp; done) | (refine is_one _ _ _ rfl; done) | apply Is.drw | apply Is.drwN | apply Is.up | (apply Is.ext; rotate_left; assumption)))) (by (repeat (first | assumption | (refine is_one _ _ _ ?_; simp; done) | (refine is_one _ _ _ rfl; done) | apply Is.drw | apply Is.drwN | apply Is.up | (apply Is.ext; rotate_left; assumption))))).mono ?_); rintro x wb ⟨rfl, hwb⟩))
        have hxx : Ext wa wb := by (repeat (first | assumption | exact Ext.refl _ | apply Ext.thenDrew | apply Ext.thenDrewN | apply Ext.thenAlloc | (apply Ext.trans; rotate_left; assumption)))
        have tw := TW.out.ext hxx
        have own7 := ownsRow_ext OWN.out hxx
        replace hI := hI.ext hxx
        clear c0 c1 c2 c3 c4 d0 d1 d2 d3 d4 f0 f1 f2 f3 f4 e3 e4 l0 l1
        clear TW OWN HS
        have c0 := tw.a.c0
        have c1 := tw.a.c1
        have c2 := tw.a.c2
        have c3 := tw.a.c3
        have c4 := tw.a.c4
        have d0 := tw.b.c0
        have d1 := tw.b.c1
        have d2 := tw.b.c2
        have d3 := tw.b.c3
        have d4 := tw.b.c4
        have f0 := tw.b.fz 0
        have f1 := tw.b.fz 1
        have f2 := tw.b.fz 2
        have f3 := tw.b.fz 3
        have f4 := tw.b.fz 4
        have e3 := tw.a.fz 3
        have e4 := tw.a.fz 4
        have l0 := tw.a.lt
        have l1 := tw.b.lt
        have TW := Lib.hid tw
        clear tw
        have OWN := Lib.hid own7
        clear own7 hxx
        go_wp2_with (fail)
        rw [HTO.out, Rounds.next_given (by have := Y.out; omega) (by rw [LEN.out]; exact Z.out)]
        exact bodyPost_ret (v := .tuple #[.agg #[.int .i64 s, .int .i64 v, .int .i64 d, .int .i64 5, .slice (some ⟨b, 0, none⟩) n e'], .int .i64 0]) (by simp [results, Try.results12, go_sem, d0, d1, d2, d3, d4]) rfl
          ⟨some ⟨b, 0, none⟩, n, e', rfl, Is.done (ownsRow_far OWN.out (p := ⟨g, 3, none⟩) (by show g < w1.heap.size; omega) _) lb _ _ _ _ _, FR, (TW.out.set3 5).done⟩
      · have ez : decide ((n : Int) - d < Rounds.many l' 3) = false := decide_eq_false z
        have Z := Lib.hid z
        clear z
        go_wp2_with (fail)
        go_region_held3 (fun w' => w'.cell? ⟨g, 0, none⟩ = some (.int .i64 s) ∧ w'.cell? ⟨g, 1, none⟩ = some (.int .i64 v) ∧ w'.cell? ⟨g, 2, none⟩ = some (.int .i64 d) ∧ w'.cell? ⟨g, 3, none⟩ = some (.int .i64 1) ∧ w'.cell? ⟨g, 4, none⟩ = some (.slice (some ⟨b, 0, none⟩) n e'))
          (first | (refine HS.out _ ?_; (repeat (first | assumption | exact Ext.refl _ | apply Ext.thenDrew | apply Ext.thenDrewN | apply Ext.thenAlloc | (apply Ext.trans; rotate_left; assumption)))) | go_keep)
          (first | ((with_reducible refine (HC.out _ _ 3 (by (repeat (first | assumption | (refine is_one _ _ _ ?_; simp; done) | (refine is_one _ _ _ rfl; done) | apply Is.drw | apply Is.drwN | apply Is.up | (apply Is.ext; rotate_left; assumption)))) (by (repeat (first | assumption | (refine is_one _ _ _ ?_; simp; done) | (refine is_one _ _ _ rfl; done) | apply Is.drw | apply Is.drwN | apply Is.up | (apply Is.ext; rotate_left; assumption))))).mono ?_); rintro x wb ⟨rfl, hwb⟩))
        have hxx : Ext wa wb := by (repeat (first | assumption | exact Ext.refl _ | apply Ext.thenDrew | apply Ext.thenDrewN | apply Ext.thenAlloc | (apply Ext.trans; rotate_left; assumption)))
        have tw := TW.out.ext hxx
        have own7 := ownsRow_ext OWN.out hxx
        replace hI := hI.ext hxx
        clear c0 c1 c2 c3 c4 d0 d1 d2 d3 d4 f0 f1 f2 f3 f4 e3 e4 l0 l1
        clear TW OWN HS
        have c0 := tw.a.c0
        have c1 := tw.a.c1
        have c2 := tw.a.c2
        have c3 := tw.a.c3
        have c4 := tw.a.c4
        have d0 := tw.b.c0
        have d1 := tw.b.c1
        have d2 := tw.b.c2
        have d3 := tw.b.c3
        have d4 := tw.b.c4
        have f0 := tw.b.fz 0
        have f1 := tw.b.fz 1
        have f2 := tw.b.fz 2
        have f3 := tw.b.fz 3
        have f4 := tw.b.fz 4
        have e3 := tw.a.fz 3
        have e4 := tw.a.fz 4
        have l0 := tw.a.lt
        have l1 := tw.b.lt
        have TW := Lib.hid tw
        clear tw
        have OWN := Lib.hid own7
        clear own7 hxx
        go_wp2_with (fail)
        rw [HTO.out, Rounds.next_1 (by have := Y.out; omega) (by rw [LEN.out]; have := Z.out; omega)]
        exact bodyPost_ret (v := .tuple #[.agg #[.int .i64 s, .int .i64 v, .int .i64 d, .int .i64 1, .slice (some ⟨b, 0, none⟩) n e'], .int .i64 0]) (by simp [results, Try.results12, go_sem, d0, d1, d2, d3, d4]) rfl
          ⟨some ⟨b, 0, none⟩, n, e', rfl, Is.done OWN.out lb _ _ _ _ _, FR, TW.out.done⟩
  · by_cases p3 : p = 3
    · subst p3
      by_cases y : Rounds.many l' 2 = (n : Int)
      · have ey : (Rounds.many l' 2 == (n : Int)) = true := by rw [beq_iff_eq]; exact y
        have Y := Lib.hid y
        clear y
        go_wp2_with (fail)
        go_quiet (fail)
        go_wp2_with (fail)
        go_quiet (fail)
        go_wp2_with (fail)
        refine (HC.out _ _ 2 (by (repeat (first | assumption | (refine is_one _ _ _ ?_; simp; done) | (refine is_one _ _ _ rfl; done) | apply Is.drw | apply Is.drwN | apply Is.up | (apply Is.ext; rotate_left; assumption)))) (by (repeat (first | assumption | (refine is_one _ _ _ ?_; simp; done) | (refine is_one _ _ _ rfl; done) | apply Is.drw | apply Is.drwN | apply Is.up | (apply Is.ext; rotate_left; assumption))))).mono ?_
        rintro x wa ⟨rfl, hwa⟩
        have hxx : Ext W5 wa := by (repeat (first | assumption | exact Ext.refl _ | apply Ext.thenDrew | apply Ext.thenDrewN | apply Ext.thenAlloc | (apply Ext.trans; rotate_left; assumption)))
        have tw := TW.out.ext hxx
        have own7 := ownsRow_ext OWN.out hxx
        clear c0 c1 c2 c3 c4 d0 d1 d2 d3 d4 f0 f1 f2 f3 f4 e3 e4 l0 l1
        clear TW OWN 
        have c0 := tw.a.c0
        have c1 := tw.a.c1
        have c2 := tw.a.c2
        have c3 := tw.a.c3
        have c4 := tw.a.c4
        have d0 := tw.b.c0
        have d1 := tw.b.c1
        have d2 := tw.b.c2
        have d3 := tw.b.c3
        have d4 := tw.b.c4
        have f0 := tw.b.fz 0
        have f1 := tw.b.fz 1
        have f2 := tw.b.fz 2
        have f3 := tw.b.fz 3
        have f4 := tw.b.fz 4
        have e3 := tw.a.fz 3
        have e4 := tw.a.fz 4
        have l0 := tw.a.lt
        have l1 := tw.b.lt
        have TW := Lib.hid tw
        clear tw
        have OWN := Lib.hid own7
        clear own7 hxx
        go_wp2_with (fail)
        rw [HTO.out, Rounds.next_done (by rw [LEN.out]; exact Y.out)]
        exact bodyPost_ret (v := .tuple #[.agg #[.int .i64 s, .int .i64 v, .int .i64 d, .int .i64 4, .slice (some ⟨b, 0, none⟩) n e'], .int .i64 0]) (by simp [results, Try.results12, go_sem, d0, d1, d2, d3, d4]) rfl
          ⟨some ⟨b, 0, none⟩, n, e', rfl, Is.done (ownsRow_far OWN.out (p := ⟨g, 3, none⟩) (by show g < w1.heap.size; omega) _) lb _ _ _ _ _, FR, (TW.out.set3 4).done⟩
      · have ey : (Rounds.many l' 2 == (n : Int)) = false := by rw [beq_eq_false_iff_ne]; exact y
        have Y := Lib.hid y
        clear y
        go_wp2_with (fail)
        go_quiet (fail)
        go_wp2_with (fail)
        go_quiet (fail)
        go_wp2_with (fail)
        refine (HC.out _ _ 2 (by (repeat (first | assumption | (refine is_one _ _ _ ?_; simp; done) | (refine is_one _ _ _ rfl; done) | apply Is.drw | apply Is.drwN | apply Is.up | (apply Is.ext; rotate_left; assumption)))) (by (repeat (first | assumption | (refine is_one _ _ _ ?_; simp; done) | (refine is_one _ _ _ rfl; done) | apply Is.drw | apply Is.drwN | apply Is.up | (apply Is.ext; rotate_left; assumption))))).mono ?_
        rintro x wa ⟨rfl, hwa⟩
        have hxx : Ext W5 wa := by (repeat (first | assumption | exact Ext.refl _ | apply Ext.thenDrew | apply Ext.thenDrewN | apply Ext.thenAlloc | (apply Ext.trans; rotate_left; assumption)))
        have tw := TW.out.ext hxx
        have own7 := ownsRow_ext OWN.out hxx
        clear c0 c1 c2 c3 c4 d0 d1 d2 d3 d4 f0 f1 f2 f3 f4 e3 e4 l0 l1
        clear TW OWN 
        have c0 := tw.a.c0
        have c1 := tw.a.c1
        have c2 := tw.a.c2
        have c3 := tw.a.c3
        have c4 := tw.a.c4
        have d0 := tw.b.c0
        have d1 := tw.b.c1
        have d2 := tw.b.c2
        have d3 := tw.b.c3
        have d4 := tw.b.c4
        have f0 := tw.b.fz 0
        have f1 := tw.b.fz 1
        have f2 := tw.b.fz 2
        have f3 := tw.b.fz 3
        have f4 := tw.b.fz 4
        have e3 := tw.a.fz 3
        have e4 := tw.a.fz 4
        have l0 := tw.a.lt
        have l1 := tw.b.lt
        have TW := Lib.hid tw
        clear tw
        have OWN := Lib.hid own7
        clear own7 hxx
        go_wp2_with (fail)
        rw [HTO.out, Rounds.next_3 (by rw [LEN.out]; exact Y.out)]
        exact bodyPost_ret (v := .tuple #[.agg #[.int .i64 s, .int .i64 v, .int .i64 d, .int .i64 3, .slice (some ⟨b, 0, none⟩) n e'], .int .i64 0]) (by simp [results, Try.results12, go_sem, d0, d1, d2, d3, d4]) rfl
          ⟨some ⟨b, 0, none⟩, n, e', rfl, Is.done OWN.out lb _ _ _ _ _, FR, TW.out.done⟩
    · by_cases p5 : p = 5
      · subst p5
        by_cases y : Rounds.many l' 4 = (n : Int)
        · have ey : (Rounds.many l' 4 == (n : Int)) = true := by rw [beq_iff_eq]; exact y
          have Y := Lib.hid y
          clear y
          go_wp2_with (fail)
          go_quiet (fail)
          go_wp2_with (fail)
          go_quiet (fail)
          go_wp2_with (fail)
          refine (HC.out _ _ 4 (by (repeat (first | assumption | (refine is_one _ _ _ ?_; simp; done) | (refine is_one _ _ _ rfl; done) | apply Is.drw | apply Is.drwN | apply Is.up | (apply Is.ext; rotate_left; assumption)))) (by (repeat (first | assumption | (refine is_one _ _ _ ?_; simp; done) | (refine is_one _ _ _ rfl; done) | apply Is.drw | apply Is.drwN | apply Is.up | (apply Is.ext; rotate_left; assumption))))).mono ?_
          rintro x wa ⟨rfl, hwa⟩
          have hxx : Ext W5 wa := by (repeat (first | assumption | exact Ext.refl _ | apply Ext.thenDrew | apply Ext.thenDrewN | apply Ext.thenAlloc | (apply Ext.trans; rotate_left; assumption)))
          have tw := TW.out.ext hxx
          have own7 := ownsRow_ext OWN.out hxx
          clear c0 c1 c2 c3 c4 d0 d1 d2 d3 d4 f0 f1 f2 f3 f4 e3 e4 l0 l1
          clear TW OWN 
          have c0 := tw.a.c0
          have c1 := tw.a.c1
          have c2 := tw.a.c2
          have c3 := tw.a.c3
          have c4 := tw.a.c4
          have d0 := tw.b.c0
          have d1 := tw.b.c1
          have d2 := tw.b.c2
          have d3 := tw.b.c3
          have d4 := tw.b.c4
          have f0 := tw.b.fz 0
          have f1 := tw.b.fz 1
          have f2 := tw.b.fz 2
          have f3 := tw.b.fz 3
          have f4 := tw.b.fz 4
          have e3 := tw.a.fz 3
          have e4 := tw.a.fz 4
          have l0 := tw.a.lt
          have l1 := tw.b.lt
          have TW := Lib.hid tw
          clear tw
          have OWN := Lib.hid own7
          clear own7 hxx
          go_wp2_with (fail)
          rw [HTO.out, Rounds.next_gone (by rw [LEN.out]; exact Y.out)]
          exact bodyPost_ret (v := .tuple #[.agg #[.int .i64 s, .int .i64 v, .int .i64 d, .int .i64 6, .slice (some ⟨b, 0, none⟩) n e'], .int .i64 0]) (by simp [results, Try.results12, go_sem, d0, d1, d2, d3, d4]) rfl
            ⟨some ⟨b, 0, none⟩, n, e', rfl, Is.done (ownsRow_far OWN.out (p := ⟨g, 3, none⟩) (by show g < w1.heap.size; omega) _) lb _ _ _ _ _, FR, (TW.out.set3 6).done⟩
        · have ey : (Rounds.many l' 4 == (n : Int)) = false := by rw [beq_eq_false_iff_ne]; exact y
          have Y := Lib.hid y
          clear y
          go_wp2_with (fail)
          go_quiet (fail)
          go_wp2_with (fail)
          go_quiet (fail)
          go_wp2_with (fail)
          refine (HC.out _ _ 4 (by (repeat (first | assumption | (refine is_one _ _ _ ?_; simp; done) | (refine is_one _ _ _ rfl; done) | apply Is.drw | apply Is.drwN | apply Is.up | (apply Is.ext; rotate_left; assumption)))) (by (repeat (first | assumption | (refine is_one _ _ _ ?_; simp; done) | (refine is_one _ _ _ rfl; done) | apply Is.drw | apply Is.drwN | apply Is.up | (apply Is.ext; rotate_left; assumption))))).mono ?_
          rintro x wa ⟨rfl, hwa⟩
          have hxx : Ext W5 wa := by (repeat (first | assumption | exact Ext.refl _ | apply Ext.thenDrew | apply Ext.thenDrewN | apply Ext.thenAlloc | (apply Ext.trans; rotate_left; assumption)))
          have tw := TW.out.ext hxx
          have own7 := ownsRow_ext OWN.out hxx
          clear c0 c1 c2 c3 c4 d0 d1 d2 d3 d4 f0 f1 f2 f3 f4 e3 e4 l0 l1
          clear TW OWN 
          have c0 := tw.a.c0
          have c1 := tw.a.c1
          have c2 := tw.a.c2
          have c3 := tw.a.c3
          have c4 := tw.a.c4
          have d0 := tw.b.c0
          have d1 := tw.b.c1
          have d2 := tw.b.c2
          have d3 := tw.b.c3
          have d4 := tw.b.c4
          have f0 := tw.b.fz 0
          have f1 := tw.b.fz 1
          have f2 := tw.b.fz 2
          have f3 := tw.b.fz 3
          have f4 := tw.b.fz 4
          have e3 := tw.a.fz 3
          have e4 := tw.a.fz 4
          have l0 := tw.a.lt
          have l1 := tw.b.lt
          have TW := Lib.hid tw
          clear tw
          have OWN := Lib.hid own7
          clear own7 hxx
          go_wp2_with (fail)
          rw [HTO.out, Rounds.next_5 (by rw [LEN.out]; exact Y.out)]
          exact bodyPost_ret (v := .tuple #[.agg #[.int .i64 s, .int .i64 v, .int .i64 d, .int .i64 5, .slice (some ⟨b, 0, none⟩) n e'], .int .i64 0]) (by simp [results, Try.results12, go_sem, d0, d1, d2, d3, d4]) rfl
            ⟨some ⟨b, 0, none⟩, n, e', rfl, Is.done OWN.out lb _ _ _ _ _, FR, TW.out.done⟩
      · have x1 : ((p : Int) == 1) = false := by rw [beq_eq_false_iff_ne]; exact p1
        have x3 : ((p : Int) == 3) = false := by rw [beq_eq_false_iff_ne]; exact p3
        have x5 : ((p : Int) == 5) = false := by rw [beq_eq_false_iff_ne]; exact p5
        have NO := Lib.hid (Rounds.next_other (s := s) (v := v) (d := d) (l := l') p1 p3 p5)
        clear p1 p3 p5
        go_wp2_with (fail)
        go_quiet (fail)
        go_wp2_with (fail)
        go_quiet (fail)
        go_wp2_with (fail)
        rw [HTO.out, NO.out]
        exact bodyPost_ret (v := .tuple #[.agg #[.int .i64 s, .int .i64 v, .int .i64 d, .int .i64 p, .slice (some ⟨b, 0, none⟩) n e'], .int .i64 0]) (by simp [results, Try.results12, go_sem, d0, d1, d2, d3, d4]) rfl
          ⟨some ⟨b, 0, none⟩, n, e', rfl, Is.done (ownsRow_ext OWN.out (Ext.drewN _ _)) lb _ _ _ _ _, FR, (TW.out.ext (Ext.drewN _ _)).done⟩

theorem told_any (w : World) (r : Rounds.R) (A : Option Addr) (n c : Nat) (hl : Is w A n c r.marks) (hn : n ≤ 1000000) (i o e : Int) :
    Calls Try.prog 12 #[rval r A n c, .int .i64 i, .int .u8 o, .int .i64 e] w (GivesR A n (Rounds.told r i o e) (Rounds.toldE r i) w) := by
  unfold Rounds.told Rounds.toldE
  by_cases hr : Rounds.Right r
  · by_cases h0 : i < 0
    · rw [if_neg (fun h => by have := h.2.1; omega), if_neg (fun h => by have := h.2.1; omega)]
      exact told_bad2 w r.stripe r.version r.need r.phase r.marks A n c hl i o e hr h0
    · by_cases h1 : (n : Int) ≤ i
      · have hno : ¬ Rounds.InRange r i := fun h => by have h2 := h.2.2; rw [hl.len] at h2; omega
        rw [if_neg hno, if_neg hno]
        exact told_bad3 w r.stripe r.version r.need r.phase r.marks A n c hl i o e hr (by omega) h1
      · obtain ⟨k, rfl⟩ := Int.eq_ofNat_of_zero_le (show 0 ≤ i by omega)
        have hyes : Rounds.InRange r (k : Int) := ⟨hr, by omega, by rw [hl.len]; omega⟩
        rw [if_pos hyes, if_pos hyes, Int.toNat_natCast]
        exact told_ok w r.stripe r.version r.need r.phase r.marks A n c hl hn k o e hr (by omega)
  · rw [if_neg (fun h => hr h.1), if_neg (fun h => hr h.1)]
    exact told_bad1 w r.stripe r.version r.need r.phase r.marks A n c hl i o e hr
end Go.Proofs.Ytgfhpgomlocllaa
