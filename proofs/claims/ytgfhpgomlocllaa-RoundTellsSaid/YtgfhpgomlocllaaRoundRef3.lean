/- The contracts of the document's Publish, Give, Begin (round). -/
import Derived.Test.YtgfhpgomlocllaaRoundRef2
import Derived.Test.YtgfhpgomlocllaaRoundPub
import Derived.Test.YtgfhpgomlocllaaRoundsOrder
import Derived.Test.YtgfhpgomlocllaaRoundsAct
namespace Go.Proofs.Ytgfhpgomlocllaa
open Go.RowKit

theorem right_begun (s v d : Int) (n : Nat) : Rounds.Right (Rounds.begun s v d n) ↔ Rounds.named s v n d := by
  have h1 := Rounds.many_replicate_zero n 1 (by omega)
  have h2 := Rounds.many_replicate_zero n 2 (by omega)
  have h3 := Rounds.many_replicate_zero n 3 (by omega)
  have h4 := Rounds.many_replicate_zero n 4 (by omega)
  unfold Rounds.Right Rounds.begun
  rw [Rounds.phaseOk1, h1, h2, h3, h4, List.length_replicate]
  constructor
  · exact fun h => h.1
  · intro h
    refine ⟨h, ?_, by omega, ?_, ?_⟩
    · have := (Rounds.count_all (List.replicate n 0) [0, 1, 2, 3, 4]).2 (fun m hm => by rw [(List.mem_replicate.1 hm).2]; simp)
      rwa [List.length_replicate] at this
    · unfold Rounds.named at h; omega
    · unfold Rounds.named at h; omega

set_option maxRecDepth 100000 in
set_option maxHeartbeats 2000000 in
theorem refPublish_bad (w : World) (s v d p : Int) (l : List Int) (A : Option Addr) (n c : Nat) (hl : Is w A n c l) (hr : ¬ Rounds.Right ⟨s, v, d, p, l⟩) :
    Calls Try.prog 26 #[.agg #[.int .i64 s, .int .i64 v, .int .i64 d, .int .i64 p, .slice A n c]] w (GivesR A n ⟨s, v, d, p, l⟩ 130 w) := by
  have tw := Two.start w s v d p (.slice A n c)
  have hR := refRight_any ((w.alloc (.cells #[.int .i64 s, .int .i64 v, .int .i64 d, .int .i64 p, .slice A n c] 25)).alloc (.cells #[.int .i64 0, .int .i64 0, .int .i64 0, .int .i64 0, .slice none 0 0] 25)) ⟨s, v, d, p, l⟩ A n c (hl.ext tw.x)
  rw [decide_eq_false hr] at hR
  have HR := Lib.hid hR
  have TW0 := Lib.hid tw
  have HRT := Lib.hid hr
  clear hR tw hr
  go_enter Try.func26, Try.ntmps26
  try dsimp only [List.append]
  go_wp2_with (fail)
  refine HR.out.mono ?_
  rintro x w1 ⟨rfl, x1⟩
  have tw := TW0.out.ext x1
  have hl1 := hl.ext tw.x
  clear HR x1 TW0
  generalize hg : w.heap.size = g at *
  have HG := Lib.hid hg
  clear hg
  have c0 := tw.a.c0
  have c1 := tw.a.c1
  have c2 := tw.a.c2
  have c3 := tw.a.c3
  have c4 := tw.a.c4
  have d0 := tw.b.c0
  have d1 := tw.b.c1
  have d2 := tw.b.c2
  have d3 := tw.b.c3
  have d4 := tw.b.c4
  have f0 := tw.b.fz 0
  have f1 := tw.b.fz 1
  have f2 := tw.b.fz 2
  have f3 := tw.b.fz 3
  have f4 := tw.b.fz 4
  have e3 := tw.a.fz 3
  have l0 := tw.a.lt
  have l1 := tw.b.lt
  have TW := Lib.hid tw
  clear tw
  go_wp2_with (fail)
  exact bodyPost_ret (v := .tuple #[.agg #[.int .i64 s, .int .i64 v, .int .i64 d, .int .i64 p, .slice A n c], .int .i64 130]) (by simp [results, Try.results26, go_sem, d0, d1, d2, d3, d4]) rfl ⟨A, n, c, rfl, hl.ext TW.out.done, FreshOr.same _ _ _, TW.out.done⟩

set_option maxRecDepth 100000 in
set_option maxHeartbeats 2000000 in
theorem refPublish_now (w : World) (s v d p : Int) (l : List Int) (A : Option Addr) (n c : Nat) (hl : Is w A n c l) (hr : Rounds.Right ⟨s, v, d, p, l⟩) (hp : p ∉ ([2] : List Int)) :
    Calls Try.prog 26 #[.agg #[.int .i64 s, .int .i64 v, .int .i64 d, .int .i64 p, .slice A n c]] w (GivesR A n ⟨s, v, d, p, l⟩ 80 w) := by
  have n2 : (p != 2) = true := by rw [bne_iff_ne]; intro e; exact hp (by simp [e])
  clear hp
  have tw := Two.start w s v d p (.slice A n c)
  have hR := refRight_any ((w.alloc (.cells #[.int .i64 s, .int .i64 v, .int .i64 d, .int .i64 p, .slice A n c] 25)).alloc (.cells #[.int .i64 0, .int .i64 0, .int .i64 0, .int .i64 0, .slice none 0 0] 25)) ⟨s, v, d, p, l⟩ A n c (hl.ext tw.x)
  rw [decide_eq_true hr] at hR
  have HR := Lib.hid hR
  have TW0 := Lib.hid tw
  have HRT := Lib.hid hr
  clear hR tw hr
  go_enter Try.func26, Try.ntmps26
  try dsimp only [List.append]
  go_wp2_with (fail)
  refine HR.out.mono ?_
  rintro x w1 ⟨rfl, x1⟩
  have tw := TW0.out.ext x1
  have hl1 := hl.ext tw.x
  clear HR x1 TW0
  generalize hg : w.heap.size = g at *
  have HG := Lib.hid hg
  clear hg
  have c0 := tw.a.c0
  have c1 := tw.a.c1
  have c2 := tw.a.c2
  have c3 := tw.a.c3
  have c4 := tw.a.c4
  have d0 := tw.b.c0
  have d1 := tw.b.c1
  have d2 := tw.b.c2
  have d3 := tw.b.c3
  have d4 := tw.b.c4
  have f0 := tw.b.fz 0
  have f1 := tw.b.fz 1
  have f2 := tw.b.fz 2
  have f3 := tw.b.fz 3
  have f4 := tw.b.fz 4
  have e3 := tw.a.fz 3
  have l0 := tw.a.lt
  have l1 := tw.b.lt
  have TW := Lib.hid tw
  clear tw
  go_wp2_with (fail)
  exact bodyPost_ret (v := .tuple #[.agg #[.int .i64 s, .int .i64 v, .int .i64 d, .int .i64 p, .slice A n c], .int .i64 80]) (by simp [results, Try.results26, go_sem, d0, d1, d2, d3, d4]) rfl ⟨A, n, c, rfl, hl.ext TW.out.done, FreshOr.same _ _ _, TW.out.done⟩

set_option maxRecDepth 100000 in
set_option maxHeartbeats 2000000 in
theorem refPublish_2 (w : World) (s v d p : Int) (l : List Int) (A : Option Addr) (n c : Nat) (hl : Is w A n c l) (hr : Rounds.Right ⟨s, v, d, p, l⟩) (hp : p = 2) :
    Calls Try.prog 26 #[.agg #[.int .i64 s, .int .i64 v, .int .i64 d, .int .i64 p, .slice A n c]] w (GivesR A n ⟨s, v, d, 3, l⟩ 0 w) := by
  subst hp
  have tw := Two.start w s v d 2 (.slice A n c)
  have hR := refRight_any ((w.alloc (.cells #[.int .i64 s, .int .i64 v, .int .i64 d, .int .i64 2, .slice A n c] 25)).alloc (.cells #[.int .i64 0, .int .i64 0, .int .i64 0, .int .i64 0, .slice none 0 0] 25)) ⟨s, v, d, 2, l⟩ A n c (hl.ext tw.x)
  rw [decide_eq_true hr] at hR
  have HR := Lib.hid hR
  have TW0 := Lib.hid tw
  have HRT := Lib.hid hr
  clear hR tw hr
  go_enter Try.func26, Try.ntmps26
  try dsimp only [List.append]
  go_wp2_with (fail)
  refine HR.out.mono ?_
  rintro x w1 ⟨rfl, x1⟩
  have tw := TW0.out.ext x1
  have hl1 := hl.ext tw.x
  clear HR x1 TW0
  generalize hg : w.heap.size = g at *
  have HG := Lib.hid hg
  clear hg
  have c0 := tw.a.c0
  have c1 := tw.a.c1
  have c2 := tw.a.c2
  have c3 := tw.a.c3
  have c4 := tw.a.c4
  have d0 := tw.b.c0
  have d1 := tw.b.c1
  have d2 := tw.b.c2
  have d3 := tw.b.c3
  have d4 := tw.b.c4
  have f0 := tw.b.fz 0
  have f1 := tw.b.fz 1
  have f2 := tw.b.fz 2
  have f3 := tw.b.fz 3
  have f4 := tw.b.fz 4
  have e3 := tw.a.fz 3
  have l0 := tw.a.lt
  have l1 := tw.b.lt
  have TW := Lib.hid tw
  clear tw
  go_wp2_with (fail)
  have tw2 := TW.out.set3 3
  exact bodyPost_ret (v := .tuple #[.agg #[.int .i64 s, .int .i64 v, .int .i64 d, .int .i64 3, .slice A n c], .int .i64 0]) (by simp [results, Try.results26, go_sem, d0, d1, d2, d3, d4]) rfl ⟨A, n, c, rfl, hl.ext tw2.done, FreshOr.same _ _ _, tw2.done⟩

theorem refPublish_any (w : World) (r : Rounds.R) (A : Option Addr) (n c : Nat) (hl : Is w A n c r.marks) :
    Calls Try.prog 26 #[rval r A n c] w (GivesR A n (Rounds.publish r) (Rounds.turnedE r [2]) w) := by
  unfold Rounds.publish Rounds.turned Rounds.turnedE
  by_cases hr : Rounds.Right r
  · rw [if_pos hr]
    by_cases hp : r.phase ∈ ([2] : List Int)
    · rw [if_pos ⟨hr, hp⟩, if_pos hp]
      simp only [List.mem_cons, List.not_mem_nil, or_false] at hp
      exact refPublish_2 w r.stripe r.version r.need r.phase r.marks A n c hl hr hp
    · rw [if_neg (fun h => hp h.2), if_neg hp]
      exact refPublish_now w r.stripe r.version r.need r.phase r.marks A n c hl hr hp
  · rw [if_neg (fun h => hr h.1), if_neg hr]
    exact refPublish_bad w r.stripe r.version r.need r.phase r.marks A n c hl hr

set_option maxRecDepth 100000 in
set_option maxHeartbeats 2000000 in
theorem refGive_bad (w : World) (s v d p : Int) (l : List Int) (A : Option Addr) (n c : Nat) (hl : Is w A n c l) (hr : ¬ Rounds.Right ⟨s, v, d, p, l⟩) :
    Calls Try.prog 27 #[.agg #[.int .i64 s, .int .i64 v, .int .i64 d, .int .i64 p, .slice A n c]] w (GivesR A n ⟨s, v, d, p, l⟩ 130 w) := by
  have tw := Two.start w s v d p (.slice A n c)
  have hR := refRight_any ((w.alloc (.cells #[.int .i64 s, .int .i64 v, .int .i64 d, .int .i64 p, .slice A n c] 25)).alloc (.cells #[.int .i64 0, .int .i64 0, .int .i64 0, .int .i64 0, .slice none 0 0] 25)) ⟨s, v, d, p, l⟩ A n c (hl.ext tw.x)
  rw [decide_eq_false hr] at hR
  have HR := Lib.hid hR
  have TW0 := Lib.hid tw
  have HRT := Lib.hid hr
  clear hR tw hr
  go_enter Try.func27, Try.ntmps27
  try dsimp only [List.append]
  go_wp2_with (fail)
  refine HR.out.mono ?_
  rintro x w1 ⟨rfl, x1⟩
  have tw := TW0.out.ext x1
  have hl1 := hl.ext tw.x
  clear HR x1 TW0
  generalize hg : w.heap.size = g at *
  have HG := Lib.hid hg
  clear hg
  have c0 := tw.a.c0
  have c1 := tw.a.c1
  have c2 := tw.a.c2
  have c3 := tw.a.c3
  have c4 := tw.a.c4
  have d0 := tw.b.c0
  have d1 := tw.b.c1
  have d2 := tw.b.c2
  have d3 := tw.b.c3
  have d4 := tw.b.c4
  have f0 := tw.b.fz 0
  have f1 := tw.b.fz 1
  have f2 := tw.b.fz 2
  have f3 := tw.b.fz 3
  have f4 := tw.b.fz 4
  have e3 := tw.a.fz 3
  have l0 := tw.a.lt
  have l1 := tw.b.lt
  have TW := Lib.hid tw
  clear tw
  go_wp2_with (fail)
  exact bodyPost_ret (v := .tuple #[.agg #[.int .i64 s, .int .i64 v, .int .i64 d, .int .i64 p, .slice A n c], .int .i64 130]) (by simp [results, Try.results27, go_sem, d0, d1, d2, d3, d4]) rfl ⟨A, n, c, rfl, hl.ext TW.out.done, FreshOr.same _ _ _, TW.out.done⟩

set_option maxRecDepth 100000 in
set_option maxHeartbeats 2000000 in
theorem refGive_now (w : World) (s v d p : Int) (l : List Int) (A : Option Addr) (n c : Nat) (hl : Is w A n c l) (hr : Rounds.Right ⟨s, v, d, p, l⟩) (hp : p ∉ ([1, 2] : List Int)) :
    Calls Try.prog 27 #[.agg #[.int .i64 s, .int .i64 v, .int .i64 d, .int .i64 p, .slice A n c]] w (GivesR A n ⟨s, v, d, p, l⟩ 80 w) := by
  have n1 : (p != 1) = true := by rw [bne_iff_ne]; intro e; exact hp (by simp [e])
  have n2 : (p != 2) = true := by rw [bne_iff_ne]; intro e; exact hp (by simp [e])
  clear hp
  have tw := Two.start w s v d p (.slice A n c)
  have hR := refRight_any ((w.alloc (.cells #[.int .i64 s, .int .i64 v, .int .i64 d, .int .i64 p, .slice A n c] 25)).alloc (.cells #[.int .i64 0, .int .i64 0, .int .i64 0, .int .i64 0, .slice none 0 0] 25)) ⟨s, v, d, p, l⟩ A n c (hl.ext tw.x)
  rw [decide_eq_true hr] at hR
  have HR := Lib.hid hR
  have TW0 := Lib.hid tw
  have HRT := Lib.hid hr
  clear hR tw hr
  go_enter Try.func27, Try.ntmps27
  try dsimp only [List.append]
  go_wp2_with (fail)
  refine HR.out.mono ?_
  rintro x w1 ⟨rfl, x1⟩
  have tw := TW0.out.ext x1
  have hl1 := hl.ext tw.x
  clear HR x1 TW0
  generalize hg : w.heap.size = g at *
  have HG := Lib.hid hg
  clear hg
  have c0 := tw.a.c0
  have c1 := tw.a.c1
  have c2 := tw.a.c2
  have c3 := tw.a.c3
  have c4 := tw.a.c4
  have d0 := tw.b.c0
  have d1 := tw.b.c1
  have d2 := tw.b.c2
  have d3 := tw.b.c3
  have d4 := tw.b.c4
  have f0 := tw.b.fz 0
  have f1 := tw.b.fz 1
  have f2 := tw.b.fz 2
  have f3 := tw.b.fz 3
  have f4 := tw.b.fz 4
  have e3 := tw.a.fz 3
  have l0 := tw.a.lt
  have l1 := tw.b.lt
  have TW := Lib.hid tw
  clear tw
  go_wp2_with (fail)
  exact bodyPost_ret (v := .tuple #[.agg #[.int .i64 s, .int .i64 v, .int .i64 d, .int .i64 p, .slice A n c], .int .i64 80]) (by simp [results, Try.results27, go_sem, d0, d1, d2, d3, d4]) rfl ⟨A, n, c, rfl, hl.ext TW.out.done, FreshOr.same _ _ _, TW.out.done⟩

set_option maxRecDepth 100000 in
set_option maxHeartbeats 2000000 in
theorem refGive_1 (w : World) (s v d p : Int) (l : List Int) (A : Option Addr) (n c : Nat) (hl : Is w A n c l) (hr : Rounds.Right ⟨s, v, d, p, l⟩) (hp : p = 1) :
    Calls Try.prog 27 #[.agg #[.int .i64 s, .int .i64 v, .int .i64 d, .int .i64 p, .slice A n c]] w (GivesR A n ⟨s, v, d, 5, l⟩ 0 w) := by
  subst hp
  have tw := Two.start w s v d 1 (.slice A n c)
  have hR := refRight_any ((w.alloc (.cells #[.int .i64 s, .int .i64 v, .int .i64 d, .int .i64 1, .slice A n c] 25)).alloc (.cells #[.int .i64 0, .int .i64 0, .int .i64 0, .int .i64 0, .slice none 0 0] 25)) ⟨s, v, d, 1, l⟩ A n c (hl.ext tw.x)
  rw [decide_eq_true hr] at hR
  have HR := Lib.hid hR
  have TW0 := Lib.hid tw
  have HRT := Lib.hid hr
  clear hR tw hr
  go_enter Try.func27, Try.ntmps27
  try dsimp only [List.append]
  go_wp2_with (fail)
  refine HR.out.mono ?_
  rintro x w1 ⟨rfl, x1⟩
  have tw := TW0.out.ext x1
  have hl1 := hl.ext tw.x
  clear HR x1 TW0
  generalize hg : w.heap.size = g at *
  have HG := Lib.hid hg
  clear hg
  have c0 := tw.a.c0
  have c1 := tw.a.c1
  have c2 := tw.a.c2
  have c3 := tw.a.c3
  have c4 := tw.a.c4
  have d0 := tw.b.c0
  have d1 := tw.b.c1
  have d2 := tw.b.c2
  have d3 := tw.b.c3
  have d4 := tw.b.c4
  have f0 := tw.b.fz 0
  have f1 := tw.b.fz 1
  have f2 := tw.b.fz 2
  have f3 := tw.b.fz 3
  have f4 := tw.b.fz 4
  have e3 := tw.a.fz 3
  have l0 := tw.a.lt
  have l1 := tw.b.lt
  have TW := Lib.hid tw
  clear tw
  go_wp2_with (fail)
  have tw2 := TW.out.set3 5
  exact bodyPost_ret (v := .tuple #[.agg #[.int .i64 s, .int .i64 v, .int .i64 d, .int .i64 5, .slice A n c], .int .i64 0]) (by simp [results, Try.results27, go_sem, d0, d1, d2, d3, d4]) rfl ⟨A, n, c, rfl, hl.ext tw2.done, FreshOr.same _ _ _, tw2.done⟩

set_option maxRecDepth 100000 in
set_option maxHeartbeats 2000000 in
theorem refGive_2 (w : World) (s v d p : Int) (l : List Int) (A : Option Addr) (n c : Nat) (hl : Is w A n c l) (hr : Rounds.Right ⟨s, v, d, p, l⟩) (hp : p = 2) :
    Calls Try.prog 27 #[.agg #[.int .i64 s, .int .i64 v, .int .i64 d, .int .i64 p, .slice A n c]] w (GivesR A n ⟨s, v, d, 5, l⟩ 0 w) := by
  subst hp
  have tw := Two.start w s v d 2 (.slice A n c)
  have hR := refRight_any ((w.alloc (.cells #[.int .i64 s, .int .i64 v, .int .i64 d, .int .i64 2, .slice A n c] 25)).alloc (.cells #[.int .i64 0, .int .i64 0, .int .i64 0, .int .i64 0, .slice none 0 0] 25)) ⟨s, v, d, 2, l⟩ A n c (hl.ext tw.x)
  rw [decide_eq_true hr] at hR
  have HR := Lib.hid hR
  have TW0 := Lib.hid tw
  have HRT := Lib.hid hr
  clear hR tw hr
  go_enter Try.func27, Try.ntmps27
  try dsimp only [List.append]
  go_wp2_with (fail)
  refine HR.out.mono ?_
  rintro x w1 ⟨rfl, x1⟩
  have tw := TW0.out.ext x1
  have hl1 := hl.ext tw.x
  clear HR x1 TW0
  generalize hg : w.heap.size = g at *
  have HG := Lib.hid hg
  clear hg
  have c0 := tw.a.c0
  have c1 := tw.a.c1
  have c2 := tw.a.c2
  have c3 := tw.a.c3
  have c4 := tw.a.c4
  have d0 := tw.b.c0
  have d1 := tw.b.c1
  have d2 := tw.b.c2
  have d3 := tw.b.c3
  have d4 := tw.b.c4
  have f0 := tw.b.fz 0
  have f1 := tw.b.fz 1
  have f2 := tw.b.fz 2
  have f3 := tw.b.fz 3
  have f4 := tw.b.fz 4
  have e3 := tw.a.fz 3
  have l0 := tw.a.lt
  have l1 := tw.b.lt
  have TW := Lib.hid tw
  clear tw
  go_wp2_with (fail)
  have tw2 := TW.out.set3 5
  exact bodyPost_ret (v := .tuple #[.agg #[.int .i64 s, .int .i64 v, .int .i64 d, .int .i64 5, .slice A n c], .int .i64 0]) (by simp [results, Try.results27, go_sem, d0, d1, d2, d3, d4]) rfl ⟨A, n, c, rfl, hl.ext tw2.done, FreshOr.same _ _ _, tw2.done⟩

theorem refGive_any (w : World) (r : Rounds.R) (A : Option Addr) (n c : Nat) (hl : Is w A n c r.marks) :
    Calls Try.prog 27 #[rval r A n c] w (GivesR A n (Rounds.give r) (Rounds.turnedE r [1, 2]) w) := by
  unfold Rounds.give Rounds.turned Rounds.turnedE
  by_cases hr : Rounds.Right r
  · rw [if_pos hr]
    by_cases hp : r.phase ∈ ([1, 2] : List Int)
    · rw [if_pos ⟨hr, hp⟩, if_pos hp]
      simp only [List.mem_cons, List.not_mem_nil, or_false] at hp
      rcases hp with hp | hp
      · exact refGive_1 w r.stripe r.version r.need r.phase r.marks A n c hl hr hp
      · exact refGive_2 w r.stripe r.version r.need r.phase r.marks A n c hl hr hp
    · rw [if_neg (fun h => hp h.2), if_neg hp]
      exact refGive_now w r.stripe r.version r.need r.phase r.marks A n c hl hr hp
  · rw [if_neg (fun h => hr h.1), if_neg hr]
    exact refGive_bad w r.stripe r.version r.need r.phase r.marks A n c hl hr

set_option maxHeartbeats 1000000 in
theorem refBegin_out (w : World) (s v n d : Int) (h : n < 1 ∨ 255 < n) :
    Calls Try.prog 23 #[.int .i64 s, .int .i64 v, .int .i64 n, .int .i64 d] w (GivesR none 0 Rounds.zero 130 w) := by
  rcases h with h | h
  · go_enter Try.func23, Try.ntmps23
    go_wp2_with (fail)
    exact bodyPost_ret (v := .tuple #[rval Rounds.zero none 0 0, .int .i64 130]) (by simp [results, Try.results23, go_sem, Rounds.zero]) rfl ⟨none, 0, 0, rfl, Is.none _, FreshOr.none _ _ _ _, Ext.alloc _ _⟩
  · have h' : ¬ n < 1 := by omega
    go_enter Try.func23, Try.ntmps23
    go_wp2_with (fail)
    exact bodyPost_ret (v := .tuple #[rval Rounds.zero none 0 0, .int .i64 130]) (by simp [results, Try.results23, go_sem, Rounds.zero]) rfl ⟨none, 0, 0, rfl, Is.none _, FreshOr.none _ _ _ _, Ext.alloc _ _⟩
set_option maxRecDepth 100000 in
set_option maxHeartbeats 1000000 in
theorem refBegin_in (w : World) (s v d : Int) (n : Nat) (h1 : 1 ≤ n) (h255 : n ≤ 255) :
    Calls Try.prog 23 #[.int .i64 s, .int .i64 v, .int .i64 (n : Int), .int .i64 d] w (GivesR none 0 (if Rounds.named s v n d then Rounds.begun s v d n else Rounds.zero) (if Rounds.named s v n d then 0 else 130) w) := by
  have g1 : ¬ (n : Int) < 1 := by omega
  have g2 : ¬ (255 : Int) < n := by omega
  have hmk := fun W => run_make_ints W n (by omega)
  have im := is_made (w.alloc (.cells #[.int .i64 0, .int .i64 0, .int .i64 0, .int .i64 0, .slice none 0 0] 25)) n 3 (by omega) (g := w.heap.size + 1) (by simp)
  have bz := Bx.new w 0 0 0 0 (.slice none 0 0) rfl
  have bx := Bx.new ((w.alloc (.cells #[.int .i64 0, .int .i64 0, .int .i64 0, .int .i64 0, .slice none 0 0] 25)).alloc (.cells (made n (.int .i64 0)) 3)) s v d 1 (.slice (some ⟨w.heap.size + 1, 0, none⟩) n n) (g := w.heap.size + 1 + 1) (by simp)
  have x0 : Ext w (((w.alloc (.cells #[.int .i64 0, .int .i64 0, .int .i64 0, .int .i64 0, .slice none 0 0] 25)).alloc (.cells (made n (.int .i64 0)) 3)).alloc (.cells #[.int .i64 s, .int .i64 v, .int .i64 d, .int .i64 1, .slice (some ⟨w.heap.size + 1, 0, none⟩) n n] 25)) := ((Ext.alloc _ _).thenAlloc _).thenAlloc _
  have hz := (bz.ext (Ext.alloc _ (.cells (made n (.int .i64 0)) 3))).ext (Ext.alloc _ (.cells #[.int .i64 s, .int .i64 v, .int .i64 d, .int .i64 1, .slice (some ⟨w.heap.size + 1, 0, none⟩) n n] 25))
  have hi := im.up (.cells #[.int .i64 s, .int .i64 v, .int .i64 d, .int .i64 1, .slice (some ⟨w.heap.size + 1, 0, none⟩) n n] 25)
  have hR := refRight_any _ (Rounds.begun s v d n) (some ⟨w.heap.size + 1, 0, none⟩) n n hi
  have HR := Lib.hid hR
  have HZ := Lib.hid hz
  have HI := Lib.hid hi
  have HX := Lib.hid x0
  have HB := Lib.hid bx
  have hsz : w.heap.size + 1 + 1 < (((w.alloc (.cells #[.int .i64 0, .int .i64 0, .int .i64 0, .int .i64 0, .slice none 0 0] 25)).alloc (.cells (made n (.int .i64 0)) 3)).alloc (.cells #[.int .i64 s, .int .i64 v, .int .i64 d, .int .i64 1, .slice (some ⟨w.heap.size + 1, 0, none⟩) n n] 25)).heap.size := by simp
  have HSZ := Lib.hid hsz
  clear hR hz hi x0 bx bz im hsz
  have hrb := right_begun s v d n
  by_cases h : Rounds.named s v n d
  · rw [if_pos h, if_pos h]
    rw [decide_eq_true (hrb.2 h)] at HR
    clear hrb h
    go_enter Try.func23, Try.ntmps23
    go_wp2_with (fail)
    refine HR.out.mono ?_
    rintro x w1 ⟨rfl, x1⟩
    have bz := HZ.out.ext x1
    have bb := HB.out.ext x1
    have b0 := bb.c0
    have b1 := bb.c1
    have b2 := bb.c2
    have b3 := bb.c3
    have b4 := bb.c4
    have d0 := bz.c0
    have d1 := bz.c1
    have d2 := bz.c2
    have d3 := bz.c3
    have d4 := bz.c4
    have f0 := bz.fz 0
    have f1 := bz.fz 1
    have f2 := bz.fz 2
    have f3 := bz.fz 3
    have f4 := bz.fz 4
    have lz := bz.lt
    have XX := Lib.hid x1
    clear bz bb x1
    go_wp2_with (fail)
    exact bodyPost_ret (v := .tuple #[rval (Rounds.begun s v d n) (some ⟨w.heap.size + 1, 0, none⟩) n n, .int .i64 0]) (by simp [results, Try.results23, go_sem, d0, d1, d2, d3, d4, Rounds.begun]) rfl
      ⟨_, _, _, rfl, (HI.out.ext XX.out).five (fun _ b hb e => by injection hb with hb; subst hb; have e' : w.heap.size = w.heap.size + 1 := e; omega) _ _ _ _ _, FreshOr.new (Nat.le_succ _), (HX.out.trans XX.out).five (Nat.le_refl _) _ _ _ _ _⟩
  · rw [if_neg h, if_neg h]
    rw [decide_eq_false (fun e => h (hrb.1 e))] at HR
    clear hrb h
    go_enter Try.func23, Try.ntmps23
    go_wp2_with (fail)
    refine HR.out.mono ?_
    rintro x w1 ⟨rfl, x1⟩
    have bz := HZ.out.ext x1
    have d0 := bz.c0
    have d1 := bz.c1
    have d2 := bz.c2
    have d3 := bz.c3
    have d4 := bz.c4
    have f0 := bz.fz 0
    have f1 := bz.fz 1
    have f2 := bz.fz 2
    have f3 := bz.fz 3
    have f4 := bz.fz 4
    have lz := bz.lt
    have XX := Lib.hid x1
    clear bz x1
    go_wp2_with (fail)
    exact bodyPost_ret (v := .tuple #[rval Rounds.zero none 0 0, .int .i64 130]) (by simp [results, Try.results23, go_sem, d0, d1, d2, d3, d4, Rounds.zero]) rfl ⟨none, 0, 0, rfl, Is.none _, FreshOr.none _ _ _ _, (HX.out.trans XX.out).five (Nat.le_refl _) _ _ _ _ _⟩
theorem refBegin_any (w : World) (s v n d : Int) :
    Calls Try.prog 23 #[.int .i64 s, .int .i64 v, .int .i64 n, .int .i64 d] w (GivesR none 0 (if Rounds.named s v n d then Rounds.begun s v d n.toNat else Rounds.zero) (if Rounds.named s v n d then 0 else 130) w) := by
  by_cases h : n < 1 ∨ 255 < n
  · have h' : ¬ Rounds.named s v n d := by unfold Rounds.named; omega
    rw [if_neg h', if_neg h']
    exact refBegin_out w s v n d h
  · obtain ⟨m, rfl⟩ := Int.eq_ofNat_of_zero_le (show 0 ≤ n by omega)
    rw [Int.toNat_natCast]
    exact refBegin_in w s v d m (by omega) (by omega)
end Go.Proofs.Ytgfhpgomlocllaa
