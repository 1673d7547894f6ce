/- The contracts of Publish and Give. -/
import Derived.Test.YtgfhpgomlocllaaRoundTurn
namespace Go.Proofs.Ytgfhpgomlocllaa
open Go.RowKit

set_option maxRecDepth 100000 in
set_option maxHeartbeats 2000000 in
theorem publish_any (w : World) (r : Rounds.R) (A : Option Addr) (n c : Nat) (hl : Is w A n c r.marks) (hn : n ≤ 1000000) :
    Calls Try.prog 16 #[rval r A n c] w (GivesR A n (Rounds.publish r) (Rounds.turnedE r [2]) w) := by
  unfold Rounds.publish
  obtain ⟨s, v, d, p, l⟩ := r
  have tw0 := Two.start w s v d p (.slice A n c)
  have hl' : Is w A n c l := hl
  have ht := turned_any _ ⟨s, v, d, p, l⟩ A n c ((hl.ext tw0.x).up (.cells #[.int .i64 2] 3)) hn 3 (some ⟨w.heap.size + 1 + 1, 0, none⟩) 1 1 [2] (Is.lit ((w.alloc (.cells #[.int .i64 s, .int .i64 v, .int .i64 d, .int .i64 p, .slice A n c] 25)).alloc (.cells #[.int .i64 0, .int .i64 0, .int .i64 0, .int .i64 0, .slice none 0 0] 25)) (w.heap.size + 1 + 1) (by simp) [2] #[.int .i64 2] 3 1 rfl rfl (by omega))
  have hsz : w.heap.size + 1 < (((w.alloc (.cells #[.int .i64 s, .int .i64 v, .int .i64 d, .int .i64 p, .slice A n c] 25)).alloc (.cells #[.int .i64 0, .int .i64 0, .int .i64 0, .int .i64 0, .slice none 0 0] 25)).alloc (.cells #[.int .i64 2] 3)).heap.size := by simp
  have HT := Lib.hid ht
  have TW := Lib.hid tw0
  show Calls Try.prog 16 #[.agg #[.int .i64 s, .int .i64 v, .int .i64 d, .int .i64 p, .slice A n c]] w _
  clear ht tw0 hl
  go_enter Try.func16, Try.ntmps16
  try dsimp only [List.append]
  go_wp2_with (fail)
  refine HT.out.mono ?_
  rintro x w1 ⟨D, n', e', rfl, hD, hfr, x1⟩
  have tw := TW.out.ext ((Ext.alloc _ _).trans x1)
  have hoff := hfr.off hl' (q := w.heap.size + 1) (by omega) hsz
  have hfr2 := hfr.from_ (TW.out.x.thenAlloc _)
  clear x1 TW HT hsz hfr
  have HO := Lib.hid hoff
  have HF := Lib.hid hfr2
  have d0 := tw.b.c0
  have d1 := tw.b.c1
  have d2 := tw.b.c2
  have d3 := tw.b.c3
  have d4 := tw.b.c4
  have f0 := tw.b.fz 0
  have f1 := tw.b.fz 1
  have f2 := tw.b.fz 2
  have f3 := tw.b.fz 3
  have f4 := tw.b.fz 4
  have TW := Lib.hid tw
  clear tw hoff hfr2
  go_wp2_with (fail)
  exact bodyPost_ret (v := .tuple #[rval (Rounds.turned ⟨s, v, d, p, l⟩ 3 [2]) D n' e', .int .i64 (Rounds.turnedE ⟨s, v, d, p, l⟩ [2])]) (by simp [results, Try.results16, go_sem, d0, d1, d2, d3, d4]) rfl
    ⟨D, n', e', rfl, hD.five HO.out _ _ _ _ _, HF.out, TW.out.x.five (by omega) _ _ _ _ _⟩

set_option maxRecDepth 100000 in
set_option maxHeartbeats 2000000 in
theorem give_any (w : World) (r : Rounds.R) (A : Option Addr) (n c : Nat) (hl : Is w A n c r.marks) (hn : n ≤ 1000000) :
    Calls Try.prog 17 #[rval r A n c] w (GivesR A n (Rounds.give r) (Rounds.turnedE r [1, 2]) w) := by
  unfold Rounds.give
  obtain ⟨s, v, d, p, l⟩ := r
  have tw0 := Two.start w s v d p (.slice A n c)
  have hl' : Is w A n c l := hl
  have ht := turned_any _ ⟨s, v, d, p, l⟩ A n c ((hl.ext tw0.x).up (.cells #[.int .i64 1, .int .i64 2] 3)) hn 5 (some ⟨w.heap.size + 1 + 1, 0, none⟩) 2 2 [1, 2] (Is.lit ((w.alloc (.cells #[.int .i64 s, .int .i64 v, .int .i64 d, .int .i64 p, .slice A n c] 25)).alloc (.cells #[.int .i64 0, .int .i64 0, .int .i64 0, .int .i64 0, .slice none 0 0] 25)) (w.heap.size + 1 + 1) (by simp) [1, 2] #[.int .i64 1, .int .i64 2] 3 2 rfl rfl (by omega))
  have hsz : w.heap.size + 1 < (((w.alloc (.cells #[.int .i64 s, .int .i64 v, .int .i64 d, .int .i64 p, .slice A n c] 25)).alloc (.cells #[.int .i64 0, .int .i64 0, .int .i64 0, .int .i64 0, .slice none 0 0] 25)).alloc (.cells #[.int .i64 1, .int .i64 2] 3)).heap.size := by simp
  have HT := Lib.hid ht
  have TW := Lib.hid tw0
  show Calls Try.prog 17 #[.agg #[.int .i64 s, .int .i64 v, .int .i64 d, .int .i64 p, .slice A n c]] w _
  clear ht tw0 hl
  go_enter Try.func17, Try.ntmps17
  try dsimp only [List.append]
  go_wp2_with (fail)
  refine HT.out.mono ?_
  rintro x w1 ⟨D, n', e', rfl, hD, hfr, x1⟩
  have tw := TW.out.ext ((Ext.alloc _ _).trans x1)
  have hoff := hfr.off hl' (q := w.heap.size + 1) (by omega) hsz
  have hfr2 := hfr.from_ (TW.out.x.thenAlloc _)
  clear x1 TW HT hsz hfr
  have HO := Lib.hid hoff
  have HF := Lib.hid hfr2
  have d0 := tw.b.c0
  have d1 := tw.b.c1
  have d2 := tw.b.c2
  have d3 := tw.b.c3
  have d4 := tw.b.c4
  have f0 := tw.b.fz 0
  have f1 := tw.b.fz 1
  have f2 := tw.b.fz 2
  have f3 := tw.b.fz 3
  have f4 := tw.b.fz 4
  have TW := Lib.hid tw
  clear tw hoff hfr2
  go_wp2_with (fail)
  exact bodyPost_ret (v := .tuple #[rval (Rounds.turned ⟨s, v, d, p, l⟩ 5 [1, 2]) D n' e', .int .i64 (Rounds.turnedE ⟨s, v, d, p, l⟩ [1, 2])]) (by simp [results, Try.results17, go_sem, d0, d1, d2, d3, d4]) rfl
    ⟨D, n', e', rfl, hD.five HO.out _ _ _ _ _, HF.out, TW.out.x.five (by omega) _ _ _ _ _⟩
end Go.Proofs.Ytgfhpgomlocllaa
