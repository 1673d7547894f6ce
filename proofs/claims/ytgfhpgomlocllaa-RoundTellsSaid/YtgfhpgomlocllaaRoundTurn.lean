/- The contracts of what turns a round's phase: turned, Publish, Give. -/
import Derived.Test.YtgfhpgomlocllaaRoundBox
namespace Go.Proofs.Ytgfhpgomlocllaa
open Go.RowKit

theorem GivesR.of {A : Option Addr} {n0 : Nat} {r r' : Rounds.R} {e e' : Int} {w : World} {x : Ending} {w' : World} (h : GivesR A n0 r e w x w') (hr : r = r') (he : e = e') : GivesR A n0 r' e' w x w' := by rw [← hr, ← he]; exact h

set_option maxRecDepth 100000 in
set_option maxHeartbeats 2000000 in
theorem turned_bad (w : World) (s v d p : Int) (l : List Int) (A : Option Addr) (n c : Nat) (hl : Is w A n c l) (tp : Int) (B : Option Addr) (m e : Nat) (hr : ¬ Rounds.Right ⟨s, v, d, p, l⟩) :
    Calls Try.prog 40 #[.agg #[.int .i64 s, .int .i64 v, .int .i64 d, .int .i64 p, .slice A n c], .int .i64 tp, .slice B m e] w (GivesR A n ⟨s, v, d, p, l⟩ 130 w) := by
  have tw := Two.start w s v d p (.slice A n c)
  have hR := right_any ((w.alloc (.cells #[.int .i64 s, .int .i64 v, .int .i64 d, .int .i64 p, .slice A n c] 25)).alloc (.cells #[.int .i64 0, .int .i64 0, .int .i64 0, .int .i64 0, .slice none 0 0] 25)) ⟨s, v, d, p, l⟩ A n c (hl.ext tw.x)
  rw [decide_eq_false hr] at hR
  have HR := Lib.hid hR
  have TW0 := Lib.hid tw
  clear hR tw hr
  go_enter Try.func40, Try.ntmps40
  try dsimp only [List.append]
  go_wp2_with (fail)
  refine HR.out.mono ?_
  rintro x w1 ⟨rfl, x1⟩
  have tw := TW0.out.ext x1
  have hl1 := hl.ext tw.x
  clear HR x1 TW0
  generalize hg : w.heap.size = g at *
  have HG := Lib.hid hg
  clear hg
  have c0 := tw.a.c0
  have c1 := tw.a.c1
  have c2 := tw.a.c2
  have c3 := tw.a.c3
  have c4 := tw.a.c4
  have d0 := tw.b.c0
  have d1 := tw.b.c1
  have d2 := tw.b.c2
  have d3 := tw.b.c3
  have d4 := tw.b.c4
  have f0 := tw.b.fz 0
  have f1 := tw.b.fz 1
  have f2 := tw.b.fz 2
  have f3 := tw.b.fz 3
  have f4 := tw.b.fz 4
  have e3 := tw.a.fz 3
  have e4 := tw.a.fz 4
  have l0 := tw.a.lt
  have l1 := tw.b.lt
  have TW := Lib.hid tw
  clear tw
  go_wp2_with (fail)
  exact bodyPost_ret (v := .tuple #[.agg #[.int .i64 s, .int .i64 v, .int .i64 d, .int .i64 p, .slice A n c], .int .i64 130]) (by simp [results, Try.results40, go_sem, d0, d1, d2, d3, d4]) rfl ⟨A, n, c, rfl, hl.ext TW.out.done, FreshOr.same _ _ _, TW.out.done⟩
set_option maxRecDepth 100000 in
set_option maxHeartbeats 2000000 in
theorem turned_now (w : World) (s v d p : Int) (l : List Int) (A : Option Addr) (n c : Nat) (hl : Is w A n c l) (tp : Int) (B : Option Addr) (m e : Nat) (fs : List Int) (hf : Is w B m e fs) (hr : Rounds.Right ⟨s, v, d, p, l⟩) (hp : p ∉ fs) :
    Calls Try.prog 40 #[.agg #[.int .i64 s, .int .i64 v, .int .i64 d, .int .i64 p, .slice A n c], .int .i64 tp, .slice B m e] w (GivesR A n ⟨s, v, d, p, l⟩ 80 w) := by
  have tw := Two.start w s v d p (.slice A n c)
  have hR := right_any ((w.alloc (.cells #[.int .i64 s, .int .i64 v, .int .i64 d, .int .i64 p, .slice A n c] 25)).alloc (.cells #[.int .i64 0, .int .i64 0, .int .i64 0, .int .i64 0, .slice none 0 0] 25)) ⟨s, v, d, p, l⟩ A n c (hl.ext tw.x)
  rw [decide_eq_true hr] at hR
  have HR := Lib.hid hR
  have TW0 := Lib.hid tw
  clear hR tw hr
  go_enter Try.func40, Try.ntmps40
  try dsimp only [List.append]
  go_wp2_with (fail)
  refine HR.out.mono ?_
  rintro x w1 ⟨rfl, x1⟩
  have tw := TW0.out.ext x1
  have hl1 := hl.ext tw.x
  clear HR x1 TW0
  generalize hg : w.heap.size = g at *
  have HG := Lib.hid hg
  clear hg
  have c0 := tw.a.c0
  have c1 := tw.a.c1
  have c2 := tw.a.c2
  have c3 := tw.a.c3
  have c4 := tw.a.c4
  have d0 := tw.b.c0
  have d1 := tw.b.c1
  have d2 := tw.b.c2
  have d3 := tw.b.c3
  have d4 := tw.b.c4
  have f0 := tw.b.fz 0
  have f1 := tw.b.fz 1
  have f2 := tw.b.fz 2
  have f3 := tw.b.fz 3
  have f4 := tw.b.fz 4
  have e3 := tw.a.fz 3
  have e4 := tw.a.fz 4
  have l0 := tw.a.lt
  have l1 := tw.b.lt
  have TW := Lib.hid tw
  clear tw
  have hc := contains_any w1 B m e fs p (hf.ext TW.out.x)
  rw [decide_eq_false hp] at hc
  have HC := Lib.hid hc
  clear hc hp
  go_wp2_with (fail)
  refine HC.out.mono ?_
  rintro x w' ⟨rfl, rfl⟩
  go_wp2_with (fail)
  exact bodyPost_ret (v := .tuple #[.agg #[.int .i64 s, .int .i64 v, .int .i64 d, .int .i64 p, .slice A n c], .int .i64 80]) (by simp [results, Try.results40, go_sem, d0, d1, d2, d3, d4]) rfl ⟨A, n, c, rfl, hl.ext TW.out.done, FreshOr.same _ _ _, TW.out.done⟩
set_option maxRecDepth 100000 in
set_option maxHeartbeats 2000000 in
theorem turned_ok (w : World) (s v d p : Int) (l : List Int) (A : Option Addr) (n c : Nat) (hl : Is w A n c l) (hn : n ≤ 1000000) (tp : Int) (B : Option Addr) (m e : Nat) (fs : List Int) (hf : Is w B m e fs) (hr : Rounds.Right ⟨s, v, d, p, l⟩) (hp : p ∈ fs) :
    Calls Try.prog 40 #[.agg #[.int .i64 s, .int .i64 v, .int .i64 d, .int .i64 p, .slice A n c], .int .i64 tp, .slice B m e] w (GivesR A n ⟨s, v, d, tp, l⟩ 0 w) := by
  have tw := Two.start w s v d p (.slice A n c)
  have hR := right_any ((w.alloc (.cells #[.int .i64 s, .int .i64 v, .int .i64 d, .int .i64 p, .slice A n c] 25)).alloc (.cells #[.int .i64 0, .int .i64 0, .int .i64 0, .int .i64 0, .slice none 0 0] 25)) ⟨s, v, d, p, l⟩ A n c (hl.ext tw.x)
  rw [decide_eq_true hr] at hR
  have HR := Lib.hid hR
  have TW0 := Lib.hid tw
  clear hR tw hr
  go_enter Try.func40, Try.ntmps40
  try dsimp only [List.append]
  go_wp2_with (fail)
  refine HR.out.mono ?_
  rintro x w1 ⟨rfl, x1⟩
  have tw := TW0.out.ext x1
  have hl1 := hl.ext tw.x
  clear HR x1 TW0
  generalize hg : w.heap.size = g at *
  have HG := Lib.hid hg
  clear hg
  have c0 := tw.a.c0
  have c1 := tw.a.c1
  have c2 := tw.a.c2
  have c3 := tw.a.c3
  have c4 := tw.a.c4
  have d0 := tw.b.c0
  have d1 := tw.b.c1
  have d2 := tw.b.c2
  have d3 := tw.b.c3
  have d4 := tw.b.c4
  have f0 := tw.b.fz 0
  have f1 := tw.b.fz 1
  have f2 := tw.b.fz 2
  have f3 := tw.b.fz 3
  have f4 := tw.b.fz 4
  have e3 := tw.a.fz 3
  have e4 := tw.a.fz 4
  have l0 := tw.a.lt
  have l1 := tw.b.lt
  have TW := Lib.hid tw
  clear tw
  have hc := contains_any w1 B m e fs p (hf.ext TW.out.x)
  rw [decide_eq_true hp] at hc
  have HC := Lib.hid hc
  clear hc hp
  go_wp2_with (fail)
  refine HC.out.mono ?_
  rintro x w' ⟨rfl, rfl⟩
  go_wp2_with (fail)
  refine (cloneInts_any w1 A n c l hl1 (by omega)).mono ?_
  rintro x w2 ⟨y, rfl, hy⟩
  obtain ⟨D, e', rfl, hD⟩ := hy.is
  have own := hy.own
  rw [hl1.len] at hD own ⊢
  have tw := TW.out.ext hy.ext
  have lb := TW.out.b.lt
  clear c0 c1 c2 c3 c4 d0 d1 d2 d3 d4 f0 f1 f2 f3 f4 e3 e4 l0 l1
  clear TW hl1 hy
  have c0 := tw.a.c0
  have c1 := tw.a.c1
  have c2 := tw.a.c2
  have c3 := tw.a.c3
  have c4 := tw.a.c4
  have d0 := tw.b.c0
  have d1 := tw.b.c1
  have d2 := tw.b.c2
  have d3 := tw.b.c3
  have d4 := tw.b.c4
  have f0 := tw.b.fz 0
  have f1 := tw.b.fz 1
  have f2 := tw.b.fz 2
  have f3 := tw.b.fz 3
  have f4 := tw.b.fz 4
  have e3 := tw.a.fz 3
  have e4 := tw.a.fz 4
  have l0 := tw.a.lt
  have l1 := tw.b.lt
  have TW := Lib.hid tw
  clear tw
  go_wp2_with (fail)
  have tw2 := (TW.out.set3 tp).set4 (.slice D n e')
  exact bodyPost_ret (v := .tuple #[.agg #[.int .i64 s, .int .i64 v, .int .i64 d, .int .i64 tp, .slice D n e'], .int .i64 0]) (by simp [results, Try.results40, go_sem, d0, d1, d2, d3, d4]) rfl
    ⟨D, n, e', rfl, Is.done (ownsRow_far (ownsRow_far own (p := ⟨g, 3, none⟩) (by show g < w1.heap.size; omega) _) (p := ⟨g, 4, none⟩) (by show g < w1.heap.size; omega) _) lb _ _ _ _ _, FreshOr.own own (by have := TW.out.base; omega), tw2.done⟩

theorem turned_any (w : World) (r : Rounds.R) (A : Option Addr) (n c : Nat) (hl : Is w A n c r.marks) (hn : n ≤ 1000000) (tp : Int) (B : Option Addr) (m e : Nat) (fs : List Int) (hf : Is w B m e fs) :
    Calls Try.prog 40 #[rval r A n c, .int .i64 tp, .slice B m e] w (GivesR A n (Rounds.turned r tp fs) (Rounds.turnedE r fs) w) := by
  unfold Rounds.turned Rounds.turnedE
  by_cases hr : Rounds.Right r
  · rw [if_pos hr]
    by_cases hp : r.phase ∈ fs
    · rw [if_pos ⟨hr, hp⟩, if_pos hp]
      exact turned_ok w r.stripe r.version r.need r.phase r.marks A n c hl hn tp B m e fs hf hr hp
    · rw [if_neg (fun h => hp h.2), if_neg hp]
      exact turned_now w r.stripe r.version r.need r.phase r.marks A n c hl tp B m e fs hf hr hp
  · rw [if_neg (fun h => hr h.1), if_neg hr]
    exact turned_bad w r.stripe r.version r.need r.phase r.marks A n c hl tp B m e hr
end Go.Proofs.Ytgfhpgomlocllaa
