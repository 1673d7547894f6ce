/- The chapter's examples come out as written: awake returns true. -/
import Derived.Test.YtkanlbkfbkkknaaPlaceHas
import Derived.Test.YtkanlbkfbkkknaaPlaceMoveAny
import Derived.Test.YtkanlbkfbkkknaaPlaceOf
namespace Go.Proofs.Ytkanlbkfbkkknaa
open Go.RowKit

/-- Four slices of three, written out. -/
theorem iss4 (w : World) (g : Nat) (hg : w.heap.size = g) (t s : TypeId) (a b c d : List Int) (ca cb cc cd : Array Value) (ha : ca.toList = icells a) (hb : cb.toList = icells b) (hc : cc.toList = icells c) (hd : cd.toList = icells d)
    (la : a.length = 3) (lb : b.length = 3) (lc : c.length = 3) (ld : d.length = 3) :
    Iss (((((w.alloc (.cells ca t)).alloc (.cells cb t)).alloc (.cells cc t)).alloc (.cells cd t)).alloc (.cells #[.slice (some ⟨g, 0, none⟩) 3 3, .slice (some ⟨g + 1, 0, none⟩) 3 3, .slice (some ⟨g + 1 + 1, 0, none⟩) 3 3, .slice (some ⟨g + 1 + 1 + 1, 0, none⟩) 3 3] s)) (some ⟨g + 1 + 1 + 1 + 1, 0, none⟩) 4 4 [a, b, c, d] := by
  subst hg
  refine Iss.lit _ _ (by simp) [a, b, c, d] _ _ 4 rfl ⟨⟨_, _, _, rfl, ?_⟩, ⟨_, _, _, rfl, ?_⟩, ⟨_, _, _, rfl, ?_⟩, ⟨_, _, _, rfl, ?_⟩, trivial⟩ (by omega)
  · exact (((Is.lit w _ rfl a ca t 3 la ha (by omega)).up _).up _).up _
  · exact ((Is.lit _ _ (by simp) b cb t 3 lb hb (by omega)).up _).up _
  · exact (Is.lit _ _ (by simp) c cc t 3 lc hc (by omega)).up _
  · exact Is.lit _ _ (by simp) d cd t 3 ld hd (by omega)

set_option maxRecDepth 100000 in
set_option maxHeartbeats 2000000 in
theorem awake_any (w : World) :
    Calls Try.prog 14 #[] w fun e w' => e = .returned (.bool true) ∧ Ext w w' := by
  have d1 : hasB (Pl.first 4 3 4) [1, 1, 1, 1] [[0, 1, 2], [1, 2, 3], [2, 3, 0], [3, 0, 1]] = true := by decide
  have d2 : Pl.moveE (Pl.first 4 3 4) 0 5 = 0 := by decide +kernel
  have d3 : Pl.moveE (Pl.first 4 3 4) 1 2 = 100 := by decide +kernel
  have d4 : hasB (Pl.moveL (Pl.first 4 3 4) 0 5) [2, 1, 2, 2] [[5, 1, 2], [1, 2, 3], [2, 3, 5], [3, 5, 1]] = true := by decide +kernel
  have d5 : decide (Pl.moveG (Pl.first 4 3 4) 0 5 = [0, 2, 3]) = true := by decide +kernel
  have d6 : Pl.pget (Pl.first 4 3 4) (6 % 4) = (1, [2, 3, 0]) := by decide
  have d7 : Il.idx [2, 3, 0] 3 = 1 := by decide
  have D1 := Lib.hid d1
  have D2 := Lib.hid d2
  have D3 := Lib.hid d3
  have D4 := Lib.hid d4
  have D5 := Lib.hid d5
  have D6 := Lib.hid d6
  have D7 := Lib.hid d7
  clear d1 d2 d3 d4 d5 d6 d7
  go_enter Try.func14, Try.ntmps14
  go_wp2_with (fail)
  refine (first_ok _ 4 3 4 (by decide)).mono ?_
  rintro e w1 ⟨v, rfl, hv⟩
  obtain ⟨A1, c1, rfl, hp⟩ := hv.ps
  have x1 := hv.ext
  have hlen : (Pl.first 4 3 4).length = 4 := by decide
  rw [hlen] at hp ⊢
  clear hv hlen
  go_wp2_with (fail)
  have he := Is.lit w1 w1.heap.size rfl [1, 1, 1, 1] #[.int .i64 1, .int .i64 1, .int .i64 1, .int .i64 1] 3 4 rfl rfl (by omega)
  have hi := iss4 (w1.alloc (.cells #[.int .i64 1, .int .i64 1, .int .i64 1, .int .i64 1] 3)) (w1.heap.size + 1) (by simp) 3 28 [0, 1, 2] [1, 2, 3] [2, 3, 0] [3, 0, 1] #[.int .i64 0, .int .i64 1, .int .i64 2] #[.int .i64 1, .int .i64 2, .int .i64 3] #[.int .i64 2, .int .i64 3, .int .i64 0] #[.int .i64 3, .int .i64 0, .int .i64 1] rfl rfl rfl rfl rfl rfl rfl rfl
  refine (has_any _ A1 _ _ 4 c1 4 4 4 4 _ _ _ (hp.ext ((((((Ext.alloc _ _).thenAlloc _).thenAlloc _).thenAlloc _).thenAlloc _).thenAlloc _)) (((((he.up _).up _).up _).up _).up _) hi).mono ?_
  rintro r w2 ⟨rfl, hd⟩
  rw [D1.out]
  have x2 : Ext w1 w2 := ((((((Ext.alloc w1 _).thenAlloc _).thenAlloc _).thenAlloc _).thenAlloc _).thenAlloc _).trans (Dr.ext hd)
  have hp2 := hp.ext x2
  have X := Lib.hid (x1.trans x2)
  clear he hi hd x1 x2 hp
  go_wp2_with (fail)
  refine (of_ok w2 A1 4 c1 (Pl.first 4 3 4) 6 hp2 (by omega) (by omega) (by omega) (by rw [D6.out]; decide)).mono ?_
  rintro r w3 ⟨v, rfl, hv⟩
  rw [D6.out] at hv ⊢
  obtain ⟨B, d, rfl, hI⟩ := hv.is
  have hp3 := hp2.ext hv.ext
  have X := Lib.hid (X.out.trans hv.ext)
  have hlen : ((1, [2, 3, 0]) : Pl.P).2.length = 3 := rfl
  rw [hlen] at hI ⊢
  clear hv hp2 hlen
  have hI' : Is w3 B 3 d [2, 3, 0] := hI
  go_wp2_with (fail)
  have x4 : Ext w3 (w3.alloc (.cells #[.int .i64 1, .slice B 3 d] 33)) := Ext.alloc _ _
  have y0 : (w3.alloc (.cells #[.int .i64 1, .slice B 3 d] 33)).cell? ⟨w3.heap.size, 0, none⟩ = some (.int .i64 1) := by rw [World.cell?_alloc_new]; rfl
  have y1 : (w3.alloc (.cells #[.int .i64 1, .slice B 3 d] 33)).cell? ⟨w3.heap.size, 1, none⟩ = some (.slice B 3 d) := by rw [World.cell?_alloc_new]; rfl
  generalize w3.alloc (.cells #[.int .i64 1, .slice B 3 d] 33) = w4 at *
  have hp4 := hp3.ext x4
  have hI4 := hI'.ext x4
  have X := Lib.hid (X.out.trans x4)
  generalize w3.heap.size = g at *
  clear hp3 hI' hI x4
  refine (move_any w4 A1 4 c1 _ hp4 0 5).mono ?_
  rintro r w5 ⟨v, s, rfl, hv, hs⟩
  obtain ⟨A2, c2, rfl, hm⟩ := hv.ps
  obtain ⟨A3, c3, rfl, hg⟩ := hs.is
  have x5 := hv.ext
  have l1 : (Pl.moveL (Pl.first 4 3 4) 0 5).length = 4 := by decide +kernel
  have l2 : (Pl.moveG (Pl.first 4 3 4) 0 5).length = 3 := by decide +kernel
  rw [l1] at hm ⊢
  rw [l2] at hg ⊢
  rw [D2.out]
  have hp5 := hp4.ext x5
  have hI5 := hI4.ext x5
  have y0' := x5.cell y0
  have y1' := x5.cell y1
  have X := Lib.hid (X.out.trans x5)
  clear hv hs l1 l2 hp4 hI4 y0 y1 x5
  go_wp2_with (fail)
  refine (move_any w5 A1 4 c1 _ hp5 1 2).mono ?_
  rintro r w6 ⟨v, s, rfl, hv, hs⟩
  rw [D3.out]
  have x6 := hv.ext
  have hm6 := hm.ext x6
  have hI6 := hI5.ext x6
  have hg6 := hg.ext x6
  have y0 := x6.cell y0'
  have y1 := x6.cell y1'
  have X := Lib.hid (X.out.trans x6)
  clear hv hs hm hg hI5 y0' y1' x6 hp5
  go_wp2_with (fail)
  refine (sameInts_any _ B _ 3 d 3 3 [2, 3, 0] [2, 3, 0] (hI6.up _) (Is.lit w6 w6.heap.size rfl [2, 3, 0] #[.int .i64 2, .int .i64 3, .int .i64 0] 3 3 rfl rfl (by omega))).mono ?_
  rintro r w7 ⟨rfl, hd⟩
  rw [decide_eq_true (show ([2, 3, 0] : List Int) = [2, 3, 0] from rfl)]
  have x7 := (Ext.alloc w6 _).trans (Dr.ext hd)
  have hm7 := hm6.ext x7
  have hI7 := hI6.ext x7
  have hg7 := hg6.ext x7
  have z0 := x7.cell y0
  have z1 := x7.cell y1
  have X := Lib.hid (X.out.trans x7)
  clear hd hm6 hI6 hg6 y0 y1 x7
  go_wp2_with (fail)
  refine (pIndex_any w7 1 B 3 d [2, 3, 0] 3 hI7).mono ?_
  rintro r w8 ⟨rfl, x8⟩
  rw [D7.out]
  have hm8 := hm7.ext x8
  have hg8 := hg7.ext x8
  have X := Lib.hid (X.out.trans x8)
  clear hm7 hI7 hg7 z0 z1 x8
  go_wp2_with (fail)
  have he := Is.lit w8 w8.heap.size rfl [2, 1, 2, 2] #[.int .i64 2, .int .i64 1, .int .i64 2, .int .i64 2] 3 4 rfl rfl (by omega)
  have hi := iss4 (w8.alloc (.cells #[.int .i64 2, .int .i64 1, .int .i64 2, .int .i64 2] 3)) (w8.heap.size + 1) (by simp) 3 28 [5, 1, 2] [1, 2, 3] [2, 3, 5] [3, 5, 1] #[.int .i64 5, .int .i64 1, .int .i64 2] #[.int .i64 1, .int .i64 2, .int .i64 3] #[.int .i64 2, .int .i64 3, .int .i64 5] #[.int .i64 3, .int .i64 5, .int .i64 1] rfl rfl rfl rfl rfl rfl rfl rfl
  refine (has_any _ A2 _ _ 4 c2 4 4 4 4 _ _ _ (hm8.ext ((((((Ext.alloc _ _).thenAlloc _).thenAlloc _).thenAlloc _).thenAlloc _).thenAlloc _)) (((((he.up _).up _).up _).up _).up _) hi).mono ?_
  rintro r w9 ⟨rfl, hd⟩
  rw [D4.out]
  have x9 : Ext w8 w9 := ((((((Ext.alloc w8 _).thenAlloc _).thenAlloc _).thenAlloc _).thenAlloc _).thenAlloc _).trans (Dr.ext hd)
  have hg9 := hg8.ext x9
  have X := Lib.hid (X.out.trans x9)
  clear he hi hd hm8 hg8 x9
  go_wp2_with (fail)
  refine (sameInts_any _ A3 _ 3 c3 3 3 _ [0, 2, 3] (hg9.up _) (Is.lit w9 w9.heap.size rfl [0, 2, 3] #[.int .i64 0, .int .i64 2, .int .i64 3] 3 3 rfl rfl (by omega))).mono ?_
  rintro r w10 ⟨rfl, hd⟩
  rw [D5.out]
  have X := Lib.hid ((X.out.thenAlloc _).trans (Dr.ext hd))
  clear hd hg9
  go_wp2_with (fail)
  go_ret
  exact ⟨rfl, X.out⟩
end Go.Proofs.Ytkanlbkfbkkknaa
