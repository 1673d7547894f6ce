/- The contract of the document's Lose. -/
import Derived.Test.YtgfhpgomlocllaaRoundRef5
import Derived.Test.YtgfhpgomlocllaaRounds3
import Derived.Test.YtgfhpgomlocllaaRoundsKeep
import Derived.Deep.RegionLaw
namespace Go.Proofs.Ytgfhpgomlocllaa
open Go.RowKit

set_option maxRecDepth 100000 in
set_option maxHeartbeats 4000000 in
theorem refLose_bad1 (w : World) (s v d p : Int) (l : List Int) (A : Option Addr) (n c : Nat) (hl : Is w A n c l) (i : Int) (hr : ¬ Rounds.Right ⟨s, v, d, p, l⟩) :
    Calls Try.prog 28 #[.agg #[.int .i64 s, .int .i64 v, .int .i64 d, .int .i64 p, .slice A n c], .int .i64 i] w (GivesR A n ⟨s, v, d, p, l⟩ 130 w) := by
  have tw := Two.start w s v d p (.slice A n c)
  have hR := refRight_any ((w.alloc (.cells #[.int .i64 s, .int .i64 v, .int .i64 d, .int .i64 p, .slice A n c] 25)).alloc (.cells #[.int .i64 0, .int .i64 0, .int .i64 0, .int .i64 0, .slice none 0 0] 25)) ⟨s, v, d, p, l⟩ A n c (hl.ext tw.x)
  rw [decide_eq_false hr] at hR
  have HR := Lib.hid hR
  have TW0 := Lib.hid tw
  clear hR tw hr
  go_enter Try.func28, Try.ntmps28
  try dsimp only [List.append]
  go_wp2_with (fail)
  refine HR.out.mono ?_
  rintro x w1 ⟨rfl, x1⟩
  have tw := TW0.out.ext x1
  clear HR x1 TW0
  generalize hg : w.heap.size = g at *
  have HG := Lib.hid hg
  clear hg
  have c0 := tw.a.c0
  have c1 := tw.a.c1
  have c2 := tw.a.c2
  have c3 := tw.a.c3
  have c4 := tw.a.c4
  have d0 := tw.b.c0
  have d1 := tw.b.c1
  have d2 := tw.b.c2
  have d3 := tw.b.c3
  have d4 := tw.b.c4
  have f0 := tw.b.fz 0
  have f1 := tw.b.fz 1
  have f2 := tw.b.fz 2
  have f3 := tw.b.fz 3
  have f4 := tw.b.fz 4
  have l0 := tw.a.lt
  have l1 := tw.b.lt
  have TW := Lib.hid tw
  clear tw
  go_wp2_with (fail)
  exact bodyPost_ret (v := .tuple #[.agg #[.int .i64 s, .int .i64 v, .int .i64 d, .int .i64 p, .slice A n c], .int .i64 130]) (by simp [results, Try.results28, go_sem, d0, d1, d2, d3, d4]) rfl ⟨A, n, c, rfl, hl.ext TW.out.done, FreshOr.same _ _ _, TW.out.done⟩

set_option maxRecDepth 100000 in
set_option maxHeartbeats 4000000 in
theorem refLose_bad2 (w : World) (s v d p : Int) (l : List Int) (A : Option Addr) (n c : Nat) (hl : Is w A n c l) (i : Int) (hr : Rounds.Right ⟨s, v, d, p, l⟩) (hi : i < 0) :
    Calls Try.prog 28 #[.agg #[.int .i64 s, .int .i64 v, .int .i64 d, .int .i64 p, .slice A n c], .int .i64 i] w (GivesR A n ⟨s, v, d, p, l⟩ 130 w) := by
  have tw := Two.start w s v d p (.slice A n c)
  have hR := refRight_any ((w.alloc (.cells #[.int .i64 s, .int .i64 v, .int .i64 d, .int .i64 p, .slice A n c] 25)).alloc (.cells #[.int .i64 0, .int .i64 0, .int .i64 0, .int .i64 0, .slice none 0 0] 25)) ⟨s, v, d, p, l⟩ A n c (hl.ext tw.x)
  rw [decide_eq_true hr] at hR
  have HR := Lib.hid hR
  have TW0 := Lib.hid tw
  clear hR tw hr
  go_enter Try.func28, Try.ntmps28
  try dsimp only [List.append]
  go_wp2_with (fail)
  refine HR.out.mono ?_
  rintro x w1 ⟨rfl, x1⟩
  have tw := TW0.out.ext x1
  clear HR x1 TW0
  generalize hg : w.heap.size = g at *
  have HG := Lib.hid hg
  clear hg
  have c0 := tw.a.c0
  have c1 := tw.a.c1
  have c2 := tw.a.c2
  have c3 := tw.a.c3
  have c4 := tw.a.c4
  have d0 := tw.b.c0
  have d1 := tw.b.c1
  have d2 := tw.b.c2
  have d3 := tw.b.c3
  have d4 := tw.b.c4
  have f0 := tw.b.fz 0
  have f1 := tw.b.fz 1
  have f2 := tw.b.fz 2
  have f3 := tw.b.fz 3
  have f4 := tw.b.fz 4
  have l0 := tw.a.lt
  have l1 := tw.b.lt
  have TW := Lib.hid tw
  clear tw
  go_wp2_with (fail)
  exact bodyPost_ret (v := .tuple #[.agg #[.int .i64 s, .int .i64 v, .int .i64 d, .int .i64 p, .slice A n c], .int .i64 130]) (by simp [results, Try.results28, go_sem, d0, d1, d2, d3, d4]) rfl ⟨A, n, c, rfl, hl.ext TW.out.done, FreshOr.same _ _ _, TW.out.done⟩

set_option maxRecDepth 100000 in
set_option maxHeartbeats 4000000 in
theorem refLose_bad3 (w : World) (s v d p : Int) (l : List Int) (A : Option Addr) (n c : Nat) (hl : Is w A n c l) (i : Int) (hr : Rounds.Right ⟨s, v, d, p, l⟩) (hi : 0 ≤ i) (hi2 : (n : Int) ≤ i) :
    Calls Try.prog 28 #[.agg #[.int .i64 s, .int .i64 v, .int .i64 d, .int .i64 p, .slice A n c], .int .i64 i] w (GivesR A n ⟨s, v, d, p, l⟩ 130 w) := by
  have tw := Two.start w s v d p (.slice A n c)
  have hR := refRight_any ((w.alloc (.cells #[.int .i64 s, .int .i64 v, .int .i64 d, .int .i64 p, .slice A n c] 25)).alloc (.cells #[.int .i64 0, .int .i64 0, .int .i64 0, .int .i64 0, .slice none 0 0] 25)) ⟨s, v, d, p, l⟩ A n c (hl.ext tw.x)
  rw [decide_eq_true hr] at hR
  have HR := Lib.hid hR
  have TW0 := Lib.hid tw
  clear hR tw hr
  go_enter Try.func28, Try.ntmps28
  try dsimp only [List.append]
  go_wp2_with (fail)
  refine HR.out.mono ?_
  rintro x w1 ⟨rfl, x1⟩
  have tw := TW0.out.ext x1
  clear HR x1 TW0
  generalize hg : w.heap.size = g at *
  have HG := Lib.hid hg
  clear hg
  have c0 := tw.a.c0
  have c1 := tw.a.c1
  have c2 := tw.a.c2
  have c3 := tw.a.c3
  have c4 := tw.a.c4
  have d0 := tw.b.c0
  have d1 := tw.b.c1
  have d2 := tw.b.c2
  have d3 := tw.b.c3
  have d4 := tw.b.c4
  have f0 := tw.b.fz 0
  have f1 := tw.b.fz 1
  have f2 := tw.b.fz 2
  have f3 := tw.b.fz 3
  have f4 := tw.b.fz 4
  have l0 := tw.a.lt
  have l1 := tw.b.lt
  have TW := Lib.hid tw
  clear tw
  go_wp2_with (fail)
  exact bodyPost_ret (v := .tuple #[.agg #[.int .i64 s, .int .i64 v, .int .i64 d, .int .i64 p, .slice A n c], .int .i64 130]) (by simp [results, Try.results28, go_sem, d0, d1, d2, d3, d4]) rfl ⟨A, n, c, rfl, hl.ext TW.out.done, FreshOr.same _ _ _, TW.out.done⟩

set_option maxRecDepth 100000 in
set_option maxHeartbeats 4000000 in
theorem refLose_4 (w : World) (s v d : Int) (l : List Int) (A : Option Addr) (n c : Nat) (hl : Is w A n c l) (i : Nat) (hr : Rounds.Right ⟨s, v, d, 4, l⟩) (hi : i < n) :
    Calls Try.prog 28 #[.agg #[.int .i64 s, .int .i64 v, .int .i64 d, .int .i64 4, .slice A n c], .int .i64 (i : Int)] w (GivesR A n ⟨s, v, d, 4, l⟩ 0 w) := by
  have z1 : decide ((i : Int) < 0) = false := decide_eq_false (by omega)
  have z2 : decide (n ≤ i) = false := decide_eq_false (by omega)
  have tw := Two.start w s v d 4 (.slice A n c)
  have hR := refRight_any ((w.alloc (.cells #[.int .i64 s, .int .i64 v, .int .i64 d, .int .i64 4, .slice A n c] 25)).alloc (.cells #[.int .i64 0, .int .i64 0, .int .i64 0, .int .i64 0, .slice none 0 0] 25)) ⟨s, v, d, 4, l⟩ A n c (hl.ext tw.x)
  rw [decide_eq_true hr] at hR
  have HR := Lib.hid hR
  have TW0 := Lib.hid tw
  clear hR tw hr
  go_enter Try.func28, Try.ntmps28
  try dsimp only [List.append]
  go_wp2_with (fail)
  refine HR.out.mono ?_
  rintro x w1 ⟨rfl, x1⟩
  have tw := TW0.out.ext x1
  clear HR x1 TW0
  generalize hg : w.heap.size = g at *
  have HG := Lib.hid hg
  clear hg
  have c0 := tw.a.c0
  have c1 := tw.a.c1
  have c2 := tw.a.c2
  have c3 := tw.a.c3
  have c4 := tw.a.c4
  have d0 := tw.b.c0
  have d1 := tw.b.c1
  have d2 := tw.b.c2
  have d3 := tw.b.c3
  have d4 := tw.b.c4
  have f0 := tw.b.fz 0
  have f1 := tw.b.fz 1
  have f2 := tw.b.fz 2
  have f3 := tw.b.fz 3
  have f4 := tw.b.fz 4
  have l0 := tw.a.lt
  have l1 := tw.b.lt
  have TW := Lib.hid tw
  clear tw
  go_wp2_with (fail)
  exact bodyPost_ret (v := .tuple #[.agg #[.int .i64 s, .int .i64 v, .int .i64 d, .int .i64 4, .slice A n c], .int .i64 0]) (by simp [results, Try.results28, go_sem, d0, d1, d2, d3, d4]) rfl ⟨A, n, c, rfl, hl.ext TW.out.done, FreshOr.same _ _ _, TW.out.done⟩

set_option maxRecDepth 100000 in
set_option maxHeartbeats 4000000 in
theorem refLose_6 (w : World) (s v d : Int) (l : List Int) (A : Option Addr) (n c : Nat) (hl : Is w A n c l) (i : Nat) (hr : Rounds.Right ⟨s, v, d, 6, l⟩) (hi : i < n) :
    Calls Try.prog 28 #[.agg #[.int .i64 s, .int .i64 v, .int .i64 d, .int .i64 6, .slice A n c], .int .i64 (i : Int)] w (GivesR A n ⟨s, v, d, 6, l⟩ 0 w) := by
  have z1 : decide ((i : Int) < 0) = false := decide_eq_false (by omega)
  have z2 : decide (n ≤ i) = false := decide_eq_false (by omega)
  have tw := Two.start w s v d 6 (.slice A n c)
  have hR := refRight_any ((w.alloc (.cells #[.int .i64 s, .int .i64 v, .int .i64 d, .int .i64 6, .slice A n c] 25)).alloc (.cells #[.int .i64 0, .int .i64 0, .int .i64 0, .int .i64 0, .slice none 0 0] 25)) ⟨s, v, d, 6, l⟩ A n c (hl.ext tw.x)
  rw [decide_eq_true hr] at hR
  have HR := Lib.hid hR
  have TW0 := Lib.hid tw
  clear hR tw hr
  go_enter Try.func28, Try.ntmps28
  try dsimp only [List.append]
  go_wp2_with (fail)
  refine HR.out.mono ?_
  rintro x w1 ⟨rfl, x1⟩
  have tw := TW0.out.ext x1
  clear HR x1 TW0
  generalize hg : w.heap.size = g at *
  have HG := Lib.hid hg
  clear hg
  have c0 := tw.a.c0
  have c1 := tw.a.c1
  have c2 := tw.a.c2
  have c3 := tw.a.c3
  have c4 := tw.a.c4
  have d0 := tw.b.c0
  have d1 := tw.b.c1
  have d2 := tw.b.c2
  have d3 := tw.b.c3
  have d4 := tw.b.c4
  have f0 := tw.b.fz 0
  have f1 := tw.b.fz 1
  have f2 := tw.b.fz 2
  have f3 := tw.b.fz 3
  have f4 := tw.b.fz 4
  have l0 := tw.a.lt
  have l1 := tw.b.lt
  have TW := Lib.hid tw
  clear tw
  go_wp2_with (fail)
  exact bodyPost_ret (v := .tuple #[.agg #[.int .i64 s, .int .i64 v, .int .i64 d, .int .i64 6, .slice A n c], .int .i64 0]) (by simp [results, Try.results28, go_sem, d0, d1, d2, d3, d4]) rfl ⟨A, n, c, rfl, hl.ext TW.out.done, FreshOr.same _ _ _, TW.out.done⟩

set_option maxRecDepth 100000 in
set_option maxHeartbeats 4000000 in
theorem refLose_ok (w : World) (s v d p : Int) (l : List Int) (A : Option Addr) (n c : Nat) (hl : Is w A n c l) (hn : n ≤ 1000000) (i : Nat) (hr : Rounds.Right ⟨s, v, d, p, l⟩) (hi : i < n) (h4 : p ≠ 4) (h6 : p ≠ 6) :
    Calls Try.prog 28 #[.agg #[.int .i64 s, .int .i64 v, .int .i64 d, .int .i64 p, .slice A n c], .int .i64 (i : Int)] w (GivesR A n (Rounds.lose1 ⟨s, v, d, p, l⟩ i) 0 w) := by
  obtain ⟨M, hM⟩ : ∃ M, l.set i 0 = M := ⟨_, rfl⟩
  have hres : Rounds.lose1 ⟨s, v, d, p, l⟩ i = Rounds.fallen ⟨s, v, d, p, M⟩ := by rw [← hM]; exact Rounds.lose_else i (by omega)
  rw [hres]
  have hML : M.length = n := by rw [← hM, List.length_set]; exact hl.len
  have hMg : ∀ k, k < n → Il.get M k = if i = k then 0 else Il.get l k := fun k hk => by
    rw [← hM]; by_cases e : i = k
    · subst e; rw [if_pos rfl, Il.get_set _ (by rw [hl.len]; exact hk), if_pos rfl]
    · rw [if_neg e, Il.get_set _ (by rw [hl.len]; exact hi), if_neg e]
  obtain ⟨i0, hi0, hz0, hz1, hz2⟩ := info_parts int_info
  have hnm := hr.1
  unfold Rounds.named at hnm
  simp only at hnm
  have hll := hl.len
  rw [hll] at hnm
  have hd1 : 1 ≤ d := by omega
  have hdn : d ≤ n := by omega
  have h255 : n ≤ 255 := by omega
  clear hnm hll
  have hmx := hl.max
  have hle := hl.le
  have q0 : (i : Int) < n := by omega
  have z1 : decide ((i : Int) < 0) = false := decide_eq_false (by omega)
  have z2 : decide (n ≤ i) = false := decide_eq_false (by omega)
  have z3 : (p == 4) = false := by rw [beq_eq_false_iff_ne]; exact h4
  have z4' : (p == 6) = false := by rw [beq_eq_false_iff_ne]; exact h6
  have tw := Two.start w s v d p (.slice A n c)
  have hR := refRight_any ((w.alloc (.cells #[.int .i64 s, .int .i64 v, .int .i64 d, .int .i64 p, .slice A n c] 25)).alloc (.cells #[.int .i64 0, .int .i64 0, .int .i64 0, .int .i64 0, .slice none 0 0] 25)) ⟨s, v, d, p, l⟩ A n c (hl.ext tw.x)
  rw [decide_eq_true hr] at hR
  have HR := Lib.hid hR
  have TW0 := Lib.hid tw
  have HML := Lib.hid hML
  have HMG := Lib.hid hMg
  clear hR tw hr hres hM hML hMg h4 h6
  go_enter Try.func28, Try.ntmps28
  try dsimp only [List.append]
  go_wp2_with (fail)
  refine HR.out.mono ?_
  rintro x w1 ⟨rfl, x1⟩
  have tw := TW0.out.ext x1
  clear HR x1 TW0
  generalize hg : w.heap.size = g at *
  clear hg
  have c0 := tw.a.c0
  have c1 := tw.a.c1
  have c2 := tw.a.c2
  have c3 := tw.a.c3
  have c4 := tw.a.c4
  have l0 := tw.a.lt
  have l1 := tw.b.lt
  have hl1 := hl.ext tw.x
  have TW := Lib.hid tw
  clear tw hl
  go_wp2_with (fail)
  have bx := Bx.new w1 s v d p (.slice none 0 0) rfl
  have tl : Tl w w1 (w1.alloc (.cells #[.int .i64 s, .int .i64 v, .int .i64 d, .int .i64 p, .slice none 0 0] 25)) g w1.heap.size (w1.heap.size + 1) s v d p A n c (.slice none 0 0) 0 [] := ⟨TW.out.ext (Ext.alloc _ _), Ext.alloc _ _, bx, World.ownsRow_nil _ _ _ _, by simp⟩
  generalize (w1.alloc (.cells #[.int .i64 s, .int .i64 v, .int .i64 d, .int .i64 p, .slice none 0 0] 25)) = W at *
  obtain ⟨h, hh⟩ : ∃ h, w1.heap.size = h := ⟨_, rfl⟩
  have hgh : g + 1 < h := by omega
  rw [hh] at tl ⊢
  have HH := Lib.hid hh
  clear bx hh c0 c1 c2 TW
  go_loopw [7] (fun i wr => ∃ (k : Nat) (V : Value), k ≤ n ∧ i = .int .i64 k ∧ Tl w w1 wr g h (h + 1) s v d p A n c V k (M.take k)) (fun i _ => n - (intOf i).toNat)
  case atStart => exact ⟨0, .slice none 0 0, by omega, rfl, tl⟩
  case round =>
    obtain ⟨k, V, hk, rfl, t⟩ := hrel
    clear tl
    replace c3 := t.x.cell c3
    replace c4 := t.x.cell c4
    have y0 := t.bx.c0
    have y1 := t.bx.c1
    have y2 := t.bx.c2
    have y3 := t.bx.c3
    have y4 := t.bx.c4
    have hb := t.base_
    by_cases hlt : k < n
    · have q1 : (k : Int) < n := by omega
      have q2 : (0 : Int) ≤ (k : Int) := by omega
      obtain ⟨b, o, rfl, hc1⟩ := hl1.rd.intAt hlt
      have hbl : b < w1.heap.size := World.block_lt_of_cell? _ _ hc1
      have hc := t.x.cell hc1
      have hsn : M.take (k + 1) = M.take k ++ [Il.get M k] := Rounds.take_snoc (by rw [HML.out]; exact hlt)
      rw [HMG.out k hlt] at hsn
      generalize hmk : Il.get l k = mk at *
      have HMK := Lib.hid hmk
      have HSN := Lib.hid hsn
      have T := Lib.hid t
      have HC1 := Lib.hid hc1
      clear hmk hsn t hc1
      by_cases hik : i = k
      · subst hik
        rw [if_pos rfl] at HSN
        go_wp2_with (at_builtin; refine wpList_append_rd _ rfl (.tmp 52) (.tmp 53) 23 rfl (h + 1) 3 i0 _ 1 8 Try.underlying23 hi0 hz0 hz1 hz2 rfl (by omega) V i (icells (M.take i)) rfl (ownsRow_ext T.out.own (Ext.alloc _ _)) (some ⟨wr.heap.size, 0, none⟩) 1 1 [.int .i64 0] rfl (Rd.lit _ #[.int .i64 0] _) (by simp [Value.oneCell']) (by omega) (by unfold maxLen; omega) (by simp; omega) ?_; intro v1 w2 hown hgr hat; have hb2 := (T.out.grown hgh (by omega) (by rw [HH.out]; omega) (Ext.alloc _ _) 0 hgr (V' := v1)).1; have z4 := hb2.c4; have zf := hb2.fz 4; obtain ⟨Dv, dv, rfl, _, _⟩ := ownsRow_slice hown)
        refine ⟨⟨i + 1, .slice Dv (i + 1) dv, by omega, by go_num, ?_⟩, by simp [intOf]; omega⟩
        rw [HSN.out]
        exact (T.out.grown hgh (by omega) (by rw [HH.out]; omega) (Ext.alloc _ _) 0 hgr).2 hown
      · have e1 : ((k : Int) == (i : Int)) = false := by rw [beq_eq_false_iff_ne]; omega
        rw [if_neg hik] at HSN
        clear hik
        have s1 := Lib.hid (show (k + 1) * 8 ≤ 140737488355328 by omega)
        have s2 := Lib.hid (show k + 1 ≤ maxLen by unfold maxLen; omega)
        have s3 := Lib.hid (show h + 1 ≤ ((wr.alloc (.cells #[.int .i64 mk] 3)).drew).heap.size by simp; omega)
        have s4 := Lib.hid (show ((wr.alloc (.cells #[.int .i64 mk] 3)).drew).ownsRow (h + 1) 3 1 V k (icells (M.take k)) from ownsRow_ext T.out.own ((Ext.alloc _ _).thenDrew))
        have s5 := Lib.hid (show Rd ((wr.alloc (.cells #[.int .i64 mk] 3)).drew) 1 (some ⟨wr.heap.size, 0, none⟩) 1 [.int .i64 mk] from Rd.lit wr #[.int .i64 mk] 3)
        have s6 := Lib.hid (show ∀ u ∈ [Value.int .i64 mk], u.oneCell' = true by simp [Value.oneCell'])
        have hbh := Lib.hid (show b < h + 1 by rw [← HH.out]; omega)
        have n1 : h < wr.heap.size := World.block_lt_of_cell? _ _ y4
        have n2 : g < wr.heap.size := World.block_lt_of_cell? _ _ c4
        have n3 : b < wr.heap.size := World.block_lt_of_cell? _ _ hc
        clear y0 y1 y2 y3 c3
        obtain ⟨wo, rfl⟩ : ∃ wo : World, wo = wr := ⟨_, rfl⟩
        go_wp2_with (fail)
        go_region_law (refine step_append_rd _ rfl (.tmp 57) (.tmp 63) 23 rfl (h + 1) 3 i0 _ 1 8 Try.underlying23 hi0 hz0 hz1 hz2 rfl (by omega) V k (icells (M.take k)) (by simp [Act.eval]) s4.out (some ⟨wo.heap.size, 0, none⟩) 1 1 [.int .i64 mk] (by simp [Act.eval]) s5.out s6.out s1.out s2.out s3.out ?_; intro v1 w2 hown hgr hat; have hb2 := (T.out.grown hgh (by omega) (by rw [HH.out]; omega) (Ext.alloc _ _).thenDrew mk hgr (V' := v1)).1; have z4 := hb2.c4; have zf := hb2.fz 4; obtain ⟨Dv, dv, rfl, _, _⟩ := ownsRow_slice hown)
        all_goals
          go_wp2_with (fail)
          refine ⟨⟨k + 1, .slice Dv (k + 1) dv, by omega, by go_num, ?_⟩, by simp [intOf]; omega⟩
          rw [HSN.out]
          exact (T.out.grown hgh (by omega) (by rw [HH.out]; omega) (Ext.alloc _ _).thenDrew mk hgr).2 hown
    · have q1 : ¬ (k : Int) < n := by omega
      obtain rfl : k = n := by omega
      obtain ⟨D, e, rfl, hce, hcm⟩ := ownsRow_slice t.own
      have hall : M.take k = M := List.take_of_length_le (by rw [HML.out]; omega)
      have tb : Tb w wr g h (h + 1) s v d p A k c D e M p := ⟨t.tw, t.bx, by have := t.own; rwa [hall] at this, hgh, by omega⟩
      clear t hall
      obtain ⟨q1', hq1⟩ : ∃ q, Rounds.many M 1 = q := ⟨_, rfl⟩
      have H1 := Lib.hid (fun u hu => tb.many hn 1 u hu)
      rw [hq1] at H1
      have H3 := H1
      have Q1 := Lib.hid hq1
      have TB := Lib.hid tb
      clear hq1 tb y0 y1 y2 y3
      by_cases p2 : p = 2
      · subst p2
        by_cases a : q1' < d
        · have fa : decide (q1' < d) = true := decide_eq_true a
          have Na := Lib.hid a
          clear a
          have hS := TB.out.grow
          have gS := hS ⟨_, Ext.refl _⟩
          go_wp2_with (fail)
          refine wp_region_grow (by kernel_rfl) (by kernel_rfl) ?_
          repeat (go_big_quiet_step (first | (with_reducible exact Ex.call _ (H1.out _ (Ex.ext _))) | (with_reducible exact Ex.call _ (H3.out _ (Ex.ext _)))))
          refine wpQuiet_nil ?_
          rintro _ ⟨u1, rfl⟩
          have xx1 : Ext wr u1.w := u1.ext
          clear hS gS
          obtain ⟨W1, hW1⟩ : ∃ W9, u1.w = W9 := ⟨_, rfl⟩
          rw [hW1] at xx1 ⊢
          clear hW1 u1
          have XX1 := Lib.hid xx1
          clear xx1
          have hS := (TB.out.ext XX1.out).grow
          have gS := hS ⟨_, Ext.refl _⟩
          have tb := TB.out.ext XX1.out
          have d0 := tb.tw.b.c0
          have d1 := tb.tw.b.c1
          have d2 := tb.tw.b.c2
          have d3 := tb.tw.b.c3
          have d4 := tb.tw.b.c4
          have f0 := tb.tw.b.fz 0
          have f1 := tb.tw.b.fz 1
          have f2 := tb.tw.b.fz 2
          have f3 := tb.tw.b.fz 3
          have f4 := tb.tw.b.fz 4
          have l1 := tb.tw.b.lt
          have b3 := tb.bx.fz 3
          have lh := tb.bx.lt
          have TB3 := Lib.hid (tb.set3 1)
          clear tb hS
          go_wp2_with (fail)
          exact bodyPost_ret (v := .tuple #[.agg #[.int .i64 s, .int .i64 v, .int .i64 d, .int .i64 1, .slice D k e], .int .i64 0]) (by simp [results, Try.results28, go_sem, d0, d1, d2, d3, d4]) rfl (TB3.out.fin _ (show Rounds.fallen ⟨s, v, d, 2, M⟩ = ⟨s, v, d, 1, M⟩ from if_pos ⟨rfl, by rw [Q1.out]; have := Na.out; omega⟩).symm)
        · have fa : decide (q1' < d) = false := decide_eq_false a
          have Na := Lib.hid a
          clear a
          have hS := TB.out.grow
          have gS := hS ⟨_, Ext.refl _⟩
          go_wp2_with (fail)
          refine wp_region_grow (by kernel_rfl) (by kernel_rfl) ?_
          repeat (go_big_quiet_step (first | (with_reducible exact Ex.call _ (H1.out _ (Ex.ext _))) | (with_reducible exact Ex.call _ (H3.out _ (Ex.ext _)))))
          refine wpQuiet_nil ?_
          rintro _ ⟨u1, rfl⟩
          have xx1 : Ext wr u1.w := u1.ext
          clear hS gS
          obtain ⟨W1, hW1⟩ : ∃ W9, u1.w = W9 := ⟨_, rfl⟩
          rw [hW1] at xx1 ⊢
          clear hW1 u1
          have XX1 := Lib.hid xx1
          clear xx1
          have hS := (TB.out.ext XX1.out).grow
          have gS := hS ⟨_, Ext.refl _⟩
          have tb := TB.out.ext XX1.out
          have d0 := tb.tw.b.c0
          have d1 := tb.tw.b.c1
          have d2 := tb.tw.b.c2
          have d3 := tb.tw.b.c3
          have d4 := tb.tw.b.c4
          have f0 := tb.tw.b.fz 0
          have f1 := tb.tw.b.fz 1
          have f2 := tb.tw.b.fz 2
          have f3 := tb.tw.b.fz 3
          have f4 := tb.tw.b.fz 4
          have l1 := tb.tw.b.lt
          have TB3 := Lib.hid tb
          clear tb hS
          go_wp2_with (fail)
          exact bodyPost_ret (v := .tuple #[.agg #[.int .i64 s, .int .i64 v, .int .i64 d, .int .i64 2, .slice D k e], .int .i64 0]) (by simp [results, Try.results28, go_sem, d0, d1, d2, d3, d4]) rfl (TB3.out.fin _ (show Rounds.fallen ⟨s, v, d, 2, M⟩ = ⟨s, v, d, 2, M⟩ from if_neg (fun hh => by have h2 : Rounds.many M 1 < d := hh.2; rw [Q1.out] at h2; have := Na.out; omega)).symm)
      · skip
        have NN := Lib.hid (show Rounds.fallen ⟨s, v, d, p, M⟩ = ⟨s, v, d, p, M⟩ from if_neg (fun hh => p2 hh.1))
        have f2 : (p == 2) = false := by rw [beq_eq_false_iff_ne]; exact p2
        clear p2
        have hS := TB.out.grow
        have gS := hS ⟨_, Ext.refl _⟩
        go_wp2_with (fail)
        refine wp_region_grow (by kernel_rfl) (by kernel_rfl) ?_
        repeat (go_big_quiet_step (first | (with_reducible exact Ex.call _ (H1.out _ (Ex.ext _))) | (with_reducible exact Ex.call _ (H3.out _ (Ex.ext _)))))
        refine wpQuiet_nil ?_
        rintro _ ⟨u1, rfl⟩
        have xx1 : Ext wr u1.w := u1.ext
        clear hS gS
        obtain ⟨W1, hW1⟩ : ∃ W9, u1.w = W9 := ⟨_, rfl⟩
        rw [hW1] at xx1 ⊢
        clear hW1 u1
        have XX1 := Lib.hid xx1
        clear xx1
        have hS := (TB.out.ext XX1.out).grow
        have gS := hS ⟨_, Ext.refl _⟩
        have tb := TB.out.ext XX1.out
        have d0 := tb.tw.b.c0
        have d1 := tb.tw.b.c1
        have d2 := tb.tw.b.c2
        have d3 := tb.tw.b.c3
        have d4 := tb.tw.b.c4
        have f0 := tb.tw.b.fz 0
        have f1 := tb.tw.b.fz 1
        have f2 := tb.tw.b.fz 2
        have f3 := tb.tw.b.fz 3
        have f4 := tb.tw.b.fz 4
        have l1 := tb.tw.b.lt
        have TB3 := Lib.hid tb
        clear tb hS
        go_wp2_with (fail)
        exact bodyPost_ret (v := .tuple #[.agg #[.int .i64 s, .int .i64 v, .int .i64 d, .int .i64 p, .slice D k e], .int .i64 0]) (by simp [results, Try.results28, go_sem, d0, d1, d2, d3, d4]) rfl (TB3.out.fin _ (NN.out).symm)

theorem refLose_any (w : World) (r : Rounds.R) (A : Option Addr) (n c : Nat) (hl : Is w A n c r.marks) (hn : n ≤ 1000000) (i : Int) :
    Calls Try.prog 28 #[rval r A n c, .int .i64 i] w (GivesR A n (Rounds.lose r i) (Rounds.toldE r i) w) := by
  unfold Rounds.lose Rounds.toldE
  by_cases hr : Rounds.Right r
  · by_cases h0 : 0 ≤ i
    · by_cases h1 : i < r.marks.length
      · have h : Rounds.InRange r i := ⟨hr, h0, h1⟩
        rw [if_pos h, if_pos h]
        obtain ⟨m, rfl⟩ := Int.eq_ofNat_of_zero_le h0
        rw [Int.toNat_natCast]
        have hm : m < n := by have := hl.len; omega
        obtain ⟨s, v, d, p, l⟩ := r
        by_cases h4 : p = 4
        · subst h4
          exact refLose_4 w s v d l A n c hl m hr hm
        · by_cases h6 : p = 6
          · subst h6
            exact refLose_6 w s v d l A n c hl m hr hm
          · exact refLose_ok w s v d p l A n c hl hn m hr hm h4 h6
      · rw [if_neg (fun h => h1 h.2.2), if_neg (fun h => h1 h.2.2)]
        exact refLose_bad3 w r.stripe r.version r.need r.phase r.marks A n c hl i hr h0 (by have := hl.len; omega)
    · rw [if_neg (fun h => h0 h.2.1), if_neg (fun h => h0 h.2.1)]
      exact refLose_bad2 w r.stripe r.version r.need r.phase r.marks A n c hl i hr (by omega)
  · rw [if_neg (fun h => hr h.1), if_neg (fun h => hr h.1)]
    exact refLose_bad1 w r.stripe r.version r.need r.phase r.marks A n c hl i hr
end Go.Proofs.Ytgfhpgomlocllaa
