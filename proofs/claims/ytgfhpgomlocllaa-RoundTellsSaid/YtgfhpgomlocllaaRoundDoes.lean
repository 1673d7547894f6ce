/- The contract of the laws' does: an op upon a round. -/
import Derived.Test.YtgfhpgomlocllaaRoundPub
import Derived.Test.YtgfhpgomlocllaaRoundLose
import Derived.Test.YtgfhpgomlocllaaRoundTold
import Derived.Test.YtgfhpgomlocllaaRoundBegun
import Derived.Deep.RegionHeld3
namespace Go.Proofs.Ytgfhpgomlocllaa
open Go.RowKit

/-- An op. -/
structure OpR where
  kind : Int
  index : Int
  op : Int
  e : Int
abbrev oval (o : OpR) : Value := .agg #[.int .i64 o.kind, .int .i64 o.index, .int .u8 o.op, .int .i64 o.e]
/-- Which index an op means. -/
def spot (r : Rounds.R) (x : Int) : Int := pick x (max r.marks.length 1)
def doesR (r : Rounds.R) (o : OpR) : Rounds.R :=
  if o.kind = 7 then Rounds.publish r else if o.kind = 8 then Rounds.give r else if o.kind = 9 then Rounds.lose r (spot r o.index) else Rounds.told r (spot r o.index) o.op o.e
def doesE (r : Rounds.R) (o : OpR) : Int :=
  if o.kind = 7 then Rounds.turnedE r [2] else if o.kind = 8 then Rounds.turnedE r [1, 2] else Rounds.toldE r (spot r o.index)
/-- Where does begins: the round, the op, a box for the result. -/
structure Tri (w W : World) (g : Nat) (s v d p : Int) (S : Value) (k x o e : Int) : Prop where
  a : Bx W g s v d p S
  ob : W.heap[g + 1]? = some (.cells #[.int .i64 k, .int .i64 x, .int .u8 o, .int .i64 e] 52 (0, 0))
  b : Bx W (g + 1 + 1) 0 0 0 0 (.slice none 0 0)
  x : Ext w W
  base : w.heap.size ≤ g
section
variable {w W W' : World} {g : Nat} {s v d p k x o e : Int} {S : Value}
theorem Tri.o0 (h : Tri w W g s v d p S k x o e) : W.cell? ⟨g + 1, 0, none⟩ = some (.int .i64 k) := by rw [cell_of_row W _ _ _ _ _ h.ob]; rfl
theorem Tri.o1 (h : Tri w W g s v d p S k x o e) : W.cell? ⟨g + 1, 1, none⟩ = some (.int .i64 x) := by rw [cell_of_row W _ _ _ _ _ h.ob]; rfl
theorem Tri.o2 (h : Tri w W g s v d p S k x o e) : W.cell? ⟨g + 1, 2, none⟩ = some (.int .u8 o) := by rw [cell_of_row W _ _ _ _ _ h.ob]; rfl
theorem Tri.o3 (h : Tri w W g s v d p S k x o e) : W.cell? ⟨g + 1, 3, none⟩ = some (.int .i64 e) := by rw [cell_of_row W _ _ _ _ _ h.ob]; rfl
theorem Tri.ofz (h : Tri w W g s v d p S k x o e) (j : Nat) : W.frozen? ⟨g + 1, j, none⟩ = false := frozen_of_row W _ _ _ _ h.ob
theorem Tri.olt (h : Tri w W g s v d p S k x o e) : g + 1 < W.heap.size := (Array.getElem?_eq_some_iff.1 h.ob).1
theorem Tri.ext (h : Tri w W g s v d p S k x o e) (hx : Ext W W') : Tri w W' g s v d p S k x o e := ⟨h.a.ext hx, (hx.block _ h.olt).trans h.ob, h.b.ext hx, h.x.trans hx, h.base⟩
end
theorem cell_five {W : World} {q b j : Nat} {v : Value} (h : W.cell? ⟨b, j, none⟩ = some v) (hq : q ≠ b) (a0 a1 a2 a3 a4 : Value) :
    (((((W.setCell ⟨q, 0, none⟩ a0).setCell ⟨q, 1, none⟩ a1).setCell ⟨q, 2, none⟩ a2).setCell ⟨q, 3, none⟩ a3).setCell ⟨q, 4, none⟩ a4).cell? ⟨b, j, none⟩ = some v := by
  rw [World.cell?_setCell_far _ _ _ _ hq, World.cell?_setCell_far _ _ _ _ hq, World.cell?_setCell_far _ _ _ _ hq, World.cell?_setCell_far _ _ _ _ hq, World.cell?_setCell_far _ _ _ _ hq]
  exact h
theorem Tri.start (w : World) (s v d p : Int) (S : Value) (k x o e : Int) :
    Tri w (((w.alloc (.cells #[.int .i64 s, .int .i64 v, .int .i64 d, .int .i64 p, S] 25)).alloc (.cells #[.int .i64 k, .int .i64 x, .int .u8 o, .int .i64 e] 52)).alloc (.cells #[.int .i64 0, .int .i64 0, .int .i64 0, .int .i64 0, .slice none 0 0] 25)) w.heap.size s v d p S k x o e := by
  have h : (w.alloc (.cells #[.int .i64 s, .int .i64 v, .int .i64 d, .int .i64 p, S] 25)).heap.size = w.heap.size + 1 := by simp
  have ob : ((w.alloc (.cells #[.int .i64 s, .int .i64 v, .int .i64 d, .int .i64 p, S] 25)).alloc (.cells #[.int .i64 k, .int .i64 x, .int .u8 o, .int .i64 e] 52)).heap[w.heap.size + 1]? = some (.cells #[.int .i64 k, .int .i64 x, .int .u8 o, .int .i64 e] 52 (0, 0)) := by
    rw [← h]; exact heap_alloc_new _ _
  have lt : w.heap.size + 1 < ((w.alloc (.cells #[.int .i64 s, .int .i64 v, .int .i64 d, .int .i64 p, S] 25)).alloc (.cells #[.int .i64 k, .int .i64 x, .int .u8 o, .int .i64 e] 52)).heap.size := by simp
  exact ⟨((Bx.new w s v d p S rfl).ext (Ext.alloc _ _)).ext (Ext.alloc _ _), ((Ext.alloc _ _).block _ lt).trans ob, Bx.new _ 0 0 0 0 _ (by simp), ((Ext.alloc _ _).thenAlloc _).thenAlloc _, Nat.le_refl _⟩

set_option maxRecDepth 100000 in
set_option maxHeartbeats 2000000 in
theorem does_7 (w : World) (s v d p : Int) (l : List Int) (A : Option Addr) (n c : Nat) (hl : Is w A n c l) (hn : n ≤ 1000000) (x o e : Int) :
    Calls Try.prog 33 #[.agg #[.int .i64 s, .int .i64 v, .int .i64 d, .int .i64 p, .slice A n c], .agg #[.int .i64 7, .int .i64 x, .int .u8 o, .int .i64 e]] w (GivesR A n (Rounds.publish ⟨s, v, d, p, l⟩) (Rounds.turnedE ⟨s, v, d, p, l⟩ [2]) w) := by
  have tr := Tri.start w s v d p (.slice A n c) 7 x o e
  have hc := publish_any (((w.alloc (.cells #[.int .i64 s, .int .i64 v, .int .i64 d, .int .i64 p, .slice A n c] 25)).alloc (.cells #[.int .i64 7, .int .i64 x, .int .u8 o, .int .i64 e] 52)).alloc (.cells #[.int .i64 0, .int .i64 0, .int .i64 0, .int .i64 0, .slice none 0 0] 25)) ⟨s, v, d, p, l⟩ A n c (hl.ext tr.x) hn
  have HC := Lib.hid hc
  have hsz := tr.b.lt
  have HSZ := Lib.hid hsz
  have a0 := tr.a.c0
  have a1 := tr.a.c1
  have a2 := tr.a.c2
  have a3 := tr.a.c3
  have a4 := tr.a.c4
  have o0 := tr.o0
  have o1 := tr.o1
  have o2 := tr.o2
  have o3 := tr.o3
  have TR := Lib.hid tr
  clear hc tr hsz
  go_enter Try.func33, Try.ntmps33
  try dsimp only [List.append]
  go_wp2_with (fail)
  refine HC.out.mono ?_
  rintro x9 w1 ⟨D, n', e', rfl, hD, hfr, x1⟩
  have hoff := hfr.off hl (q := w.heap.size + 1 + 1) (by omega) HSZ.out
  have hfr2 := hfr.from_ TR.out.x
  have tw := TR.out.ext x1
  clear a0 a1 a2 a3 a4 o0 o1 o2 o3 TR HC HSZ hfr x1
  have HO := Lib.hid hoff
  have HF := Lib.hid hfr2
  have d0 := tw.b.c0
  have d1 := tw.b.c1
  have d2 := tw.b.c2
  have d3 := tw.b.c3
  have d4 := tw.b.c4
  have f0 := tw.b.fz 0
  have f1 := tw.b.fz 1
  have f2 := tw.b.fz 2
  have f3 := tw.b.fz 3
  have f4 := tw.b.fz 4
  have TW := Lib.hid tw
  clear tw hoff hfr2
  generalize hR : Rounds.publish ⟨s, v, d, p, l⟩ = R at *
  generalize hE : Rounds.turnedE ⟨s, v, d, p, l⟩ [2] = E at *
  clear hR hE
  go_wp2_with (fail)
  exact bodyPost_ret (v := .tuple #[rval R D n' e', .int .i64 E]) (by simp [results, Try.results33, go_sem, d0, d1, d2, d3, d4]) rfl
    ⟨D, n', e', rfl, hD.five HO.out _ _ _ _ _, HF.out, TW.out.x.five (by omega) _ _ _ _ _⟩

set_option maxRecDepth 100000 in
set_option maxHeartbeats 2000000 in
theorem does_8 (w : World) (s v d p : Int) (l : List Int) (A : Option Addr) (n c : Nat) (hl : Is w A n c l) (hn : n ≤ 1000000) (x o e : Int) :
    Calls Try.prog 33 #[.agg #[.int .i64 s, .int .i64 v, .int .i64 d, .int .i64 p, .slice A n c], .agg #[.int .i64 8, .int .i64 x, .int .u8 o, .int .i64 e]] w (GivesR A n (Rounds.give ⟨s, v, d, p, l⟩) (Rounds.turnedE ⟨s, v, d, p, l⟩ [1, 2]) w) := by
  have tr := Tri.start w s v d p (.slice A n c) 8 x o e
  have hc := give_any (((w.alloc (.cells #[.int .i64 s, .int .i64 v, .int .i64 d, .int .i64 p, .slice A n c] 25)).alloc (.cells #[.int .i64 8, .int .i64 x, .int .u8 o, .int .i64 e] 52)).alloc (.cells #[.int .i64 0, .int .i64 0, .int .i64 0, .int .i64 0, .slice none 0 0] 25)) ⟨s, v, d, p, l⟩ A n c (hl.ext tr.x) hn
  have HC := Lib.hid hc
  have hsz := tr.b.lt
  have HSZ := Lib.hid hsz
  have a0 := tr.a.c0
  have a1 := tr.a.c1
  have a2 := tr.a.c2
  have a3 := tr.a.c3
  have a4 := tr.a.c4
  have o0 := tr.o0
  have o1 := tr.o1
  have o2 := tr.o2
  have o3 := tr.o3
  have TR := Lib.hid tr
  clear hc tr hsz
  go_enter Try.func33, Try.ntmps33
  try dsimp only [List.append]
  go_wp2_with (fail)
  refine HC.out.mono ?_
  rintro x9 w1 ⟨D, n', e', rfl, hD, hfr, x1⟩
  have hoff := hfr.off hl (q := w.heap.size + 1 + 1) (by omega) HSZ.out
  have hfr2 := hfr.from_ TR.out.x
  have tw := TR.out.ext x1
  clear a0 a1 a2 a3 a4 o0 o1 o2 o3 TR HC HSZ hfr x1
  have HO := Lib.hid hoff
  have HF := Lib.hid hfr2
  have d0 := tw.b.c0
  have d1 := tw.b.c1
  have d2 := tw.b.c2
  have d3 := tw.b.c3
  have d4 := tw.b.c4
  have f0 := tw.b.fz 0
  have f1 := tw.b.fz 1
  have f2 := tw.b.fz 2
  have f3 := tw.b.fz 3
  have f4 := tw.b.fz 4
  have TW := Lib.hid tw
  clear tw hoff hfr2
  generalize hR : Rounds.give ⟨s, v, d, p, l⟩ = R at *
  generalize hE : Rounds.turnedE ⟨s, v, d, p, l⟩ [1, 2] = E at *
  clear hR hE
  go_wp2_with (fail)
  exact bodyPost_ret (v := .tuple #[rval R D n' e', .int .i64 E]) (by simp [results, Try.results33, go_sem, d0, d1, d2, d3, d4]) rfl
    ⟨D, n', e', rfl, hD.five HO.out _ _ _ _ _, HF.out, TW.out.x.five (by omega) _ _ _ _ _⟩

set_option maxRecDepth 100000 in
set_option maxHeartbeats 4000000 in
theorem does_9 (w : World) (s v d p : Int) (l : List Int) (A : Option Addr) (n c : Nat) (hl : Is w A n c l) (hn : n ≤ 1000000) (x o e : Int) :
    Calls Try.prog 33 #[.agg #[.int .i64 s, .int .i64 v, .int .i64 d, .int .i64 p, .slice A n c], .agg #[.int .i64 9, .int .i64 x, .int .u8 o, .int .i64 e]] w (GivesR A n (Rounds.lose ⟨s, v, d, p, l⟩ (spot ⟨s, v, d, p, l⟩ x)) (Rounds.toldE ⟨s, v, d, p, l⟩ (spot ⟨s, v, d, p, l⟩ x)) w) := by
  have tr := Tri.start w s v d p (.slice A n c) 9 x o e
  have hlen : l.length = n := hl.len
  have hP : spot ⟨s, v, d, p, l⟩ x = pick x (max n 1) := by unfold spot; rw [show (⟨s, v, d, p, l⟩ : Rounds.R).marks.length = n from hlen]
  rw [hP]
  have hpk := fun W => pick_any W x (max n 1) (by omega)
  have hcast : (((max n 1 : Nat)) : Int) = if (n : Int) < 1 then 1 else (n : Int) := by split <;> omega
  rw [hcast] at hpk
  have PK := Lib.hid hpk
  have W0 : ∃ W0, (((w.alloc (.cells #[.int .i64 s, .int .i64 v, .int .i64 d, .int .i64 p, .slice A n c] 25)).alloc (.cells #[.int .i64 9, .int .i64 x, .int .u8 o, .int .i64 e] 52)).alloc (.cells #[.int .i64 0, .int .i64 0, .int .i64 0, .int .i64 0, .slice none 0 0] 25)) = W0 := ⟨_, rfl⟩
  have hc : ∀ W : World, Ext w W → Calls Try.prog 19 #[.agg #[.int .i64 s, .int .i64 v, .int .i64 d, .int .i64 p, .slice A n c], .int .i64 (pick x (max n 1))] W (GivesR A n (Rounds.lose ⟨s, v, d, p, l⟩ (pick x (max n 1))) (Rounds.toldE ⟨s, v, d, p, l⟩ (pick x (max n 1))) W) := fun W hx => lose_any W ⟨s, v, d, p, l⟩ A n c (hl.ext hx) hn (pick x (max n 1))
  have HC := Lib.hid hc
  have hsz := tr.b.lt
  have HSZ := Lib.hid hsz
  have hmx := hl.max
  have hle := hl.le
  have a0 := tr.a.c0
  have a1 := tr.a.c1
  have a2 := tr.a.c2
  have a3 := tr.a.c3
  have a4 := tr.a.c4
  have o0 := tr.o0
  have o1 := tr.o1
  have o2 := tr.o2
  have o3 := tr.o3
  have TR := Lib.hid tr
  clear hc tr hsz hP hpk hlen hcast W0
  generalize pick x (max n 1) = P at *
  generalize Rounds.lose ⟨s, v, d, p, l⟩ P = R at *
  generalize Rounds.toldE ⟨s, v, d, p, l⟩ P = E at *
  go_enter Try.func33, Try.ntmps33
  try dsimp only [List.append]
  go_wp2_with (fail)
  generalize (((w.alloc (.cells #[.int .i64 s, .int .i64 v, .int .i64 d, .int .i64 p, .slice A n c] 25)).alloc (.cells #[.int .i64 9, .int .i64 x, .int .u8 o, .int .i64 e] 52)).alloc (.cells #[.int .i64 0, .int .i64 0, .int .i64 0, .int .i64 0, .slice none 0 0] 25)) = W0 at *
  generalize hg : w.heap.size = g at *
  have HG := Lib.hid hg
  clear hg
  have hS : ∀ W : World, Ext W0 W → (W.cell? ⟨g, 0, none⟩ = some (.int .i64 s) ∧ W.cell? ⟨g, 1, none⟩ = some (.int .i64 v) ∧ W.cell? ⟨g, 2, none⟩ = some (.int .i64 d) ∧ W.cell? ⟨g, 3, none⟩ = some (.int .i64 p) ∧ W.cell? ⟨g, 4, none⟩ = some (.slice A n c) ∧ W.cell? ⟨g + 1, 1, none⟩ = some (.int .i64 x)) := fun W hW => ⟨hW.cell a0, hW.cell a1, hW.cell a2, hW.cell a3, hW.cell a4, hW.cell o1⟩
  have HS := Lib.hid hS
  have hK : ∀ (W' : World) (b0 b1 b2 b3 b4 : Value), Ext W0 W' → ∀ W, W = (((((W'.setCell ⟨g + 1 + 1, 0, none⟩ b0).setCell ⟨g + 1 + 1, 1, none⟩ b1).setCell ⟨g + 1 + 1, 2, none⟩ b2).setCell ⟨g + 1 + 1, 3, none⟩ b3).setCell ⟨g + 1 + 1, 4, none⟩ b4) → (W.cell? ⟨g, 0, none⟩ = some (.int .i64 s) ∧ W.cell? ⟨g, 1, none⟩ = some (.int .i64 v) ∧ W.cell? ⟨g, 2, none⟩ = some (.int .i64 d) ∧ W.cell? ⟨g, 3, none⟩ = some (.int .i64 p) ∧ W.cell? ⟨g, 4, none⟩ = some (.slice A n c) ∧ W.cell? ⟨g + 1, 1, none⟩ = some (.int .i64 x)) := by
    intro W' b0 b1 b2 b3 b4 hW W e
    subst e
    exact ⟨cell_five (hW.cell a0) (by omega) _ _ _ _ _, cell_five (hW.cell a1) (by omega) _ _ _ _ _, cell_five (hW.cell a2) (by omega) _ _ _ _ _, cell_five (hW.cell a3) (by omega) _ _ _ _ _, cell_five (hW.cell a4) (by omega) _ _ _ _ _, cell_five (hW.cell o1) (by omega) _ _ _ _ _⟩
  have HK := Lib.hid hK
  clear hS hK
  go_region_held3 (fun W => W.cell? ⟨g, 0, none⟩ = some (.int .i64 s) ∧ W.cell? ⟨g, 1, none⟩ = some (.int .i64 v) ∧ W.cell? ⟨g, 2, none⟩ = some (.int .i64 d) ∧ W.cell? ⟨g, 3, none⟩ = some (.int .i64 p) ∧ W.cell? ⟨g, 4, none⟩ = some (.slice A n c) ∧ W.cell? ⟨g + 1, 1, none⟩ = some (.int .i64 x))
    (first | (refine HS.out _ ?_; (repeat (first | assumption | exact Ext.refl _ | apply Ext.thenDrew | apply Ext.thenDrewN | apply Ext.thenAlloc | (apply Ext.trans; rotate_left; assumption))); done) | (refine HK.out _ _ _ _ _ _ ?_ _ rfl; (repeat (first | assumption | exact Ext.refl _ | apply Ext.thenDrew | apply Ext.thenDrewN | apply Ext.thenAlloc | (apply Ext.trans; rotate_left; assumption))); done) | go_keep)
    (first | ((with_reducible refine (PK.out _).mono ?_); rintro x9 w9 ⟨rfl, rfl⟩; generalize (if (n : Int) < 1 then (1 : Int) else (n : Int)) = mx) | ((with_reducible refine (HC.out _ (TR.out.x.trans (by (repeat (first | assumption | exact Ext.refl _ | apply Ext.thenDrew | apply Ext.thenDrewN | apply Ext.thenAlloc | (apply Ext.trans; rotate_left; assumption)))))).mono ?_); rintro x9 w1 ⟨D, n', e', rfl, hD, hfr, x1⟩; have tw := TR.out.ext ((Ext.drew W0).trans x1); have d0 := tw.b.c0; have d1 := tw.b.c1; have d2 := tw.b.c2; have d3 := tw.b.c3; have d4 := tw.b.c4; have f0 := tw.b.fz 0; have f1 := tw.b.fz 1; have f2 := tw.b.fz 2; have f3 := tw.b.fz 3; have f4 := tw.b.fz 4))
  have hoff := hfr.off hl (q := g + 1 + 1) (by have := HG.out; omega) (by simpa using HSZ.out)
  have hfr2 := hfr.from_ (TR.out.x.trans (Ext.drew W0))
  have TW := Lib.hid tw
  go_wp2_with (fail)
  exact bodyPost_ret (v := .tuple #[rval R D n' e', .int .i64 E]) (by simp [results, Try.results33, go_sem, d0, d1, d2, d3, d4]) rfl
    ⟨D, n', e', rfl, hD.five hoff _ _ _ _ _, hfr2, TW.out.x.five (by have := HG.out; omega) _ _ _ _ _⟩

set_option maxRecDepth 100000 in
set_option maxHeartbeats 4000000 in
theorem does_told (w : World) (s v d p : Int) (l : List Int) (A : Option Addr) (n c : Nat) (hl : Is w A n c l) (hn : n ≤ 1000000) (k : Int) (k7 : (k == 7) = false) (k8 : (k == 8) = false) (k9 : (k == 9) = false) (x o e : Int) :
    Calls Try.prog 33 #[.agg #[.int .i64 s, .int .i64 v, .int .i64 d, .int .i64 p, .slice A n c], .agg #[.int .i64 k, .int .i64 x, .int .u8 o, .int .i64 e]] w (GivesR A n (Rounds.told ⟨s, v, d, p, l⟩ (spot ⟨s, v, d, p, l⟩ x) o e) (Rounds.toldE ⟨s, v, d, p, l⟩ (spot ⟨s, v, d, p, l⟩ x)) w) := by
  have tr := Tri.start w s v d p (.slice A n c) k x o e
  have hlen : l.length = n := hl.len
  have hP : spot ⟨s, v, d, p, l⟩ x = pick x (max n 1) := by unfold spot; rw [show (⟨s, v, d, p, l⟩ : Rounds.R).marks.length = n from hlen]
  rw [hP]
  have hpk := fun W => pick_any W x (max n 1) (by omega)
  have hcast : (((max n 1 : Nat)) : Int) = if (n : Int) < 1 then 1 else (n : Int) := by split <;> omega
  rw [hcast] at hpk
  have PK := Lib.hid hpk
  have W0 : ∃ W0, (((w.alloc (.cells #[.int .i64 s, .int .i64 v, .int .i64 d, .int .i64 p, .slice A n c] 25)).alloc (.cells #[.int .i64 k, .int .i64 x, .int .u8 o, .int .i64 e] 52)).alloc (.cells #[.int .i64 0, .int .i64 0, .int .i64 0, .int .i64 0, .slice none 0 0] 25)) = W0 := ⟨_, rfl⟩
  have hc : ∀ W : World, Ext w W → Calls Try.prog 12 #[.agg #[.int .i64 s, .int .i64 v, .int .i64 d, .int .i64 p, .slice A n c], .int .i64 (pick x (max n 1)), .int .u8 o, .int .i64 e] W (GivesR A n (Rounds.told ⟨s, v, d, p, l⟩ (pick x (max n 1)) o e) (Rounds.toldE ⟨s, v, d, p, l⟩ (pick x (max n 1))) W) := fun W hx => told_any W ⟨s, v, d, p, l⟩ A n c (hl.ext hx) hn (pick x (max n 1)) o e
  have HC := Lib.hid hc
  have hsz := tr.b.lt
  have HSZ := Lib.hid hsz
  have hmx := hl.max
  have hle := hl.le
  have a0 := tr.a.c0
  have a1 := tr.a.c1
  have a2 := tr.a.c2
  have a3 := tr.a.c3
  have a4 := tr.a.c4
  have o0 := tr.o0
  have o1 := tr.o1
  have o2 := tr.o2
  have o3 := tr.o3
  have TR := Lib.hid tr
  clear hc tr hsz hP hpk hlen hcast W0
  generalize pick x (max n 1) = P at *
  generalize Rounds.told ⟨s, v, d, p, l⟩ P o e = R at *
  generalize Rounds.toldE ⟨s, v, d, p, l⟩ P = E at *
  go_enter Try.func33, Try.ntmps33
  try dsimp only [List.append]
  go_wp2_with (fail)
  generalize (((w.alloc (.cells #[.int .i64 s, .int .i64 v, .int .i64 d, .int .i64 p, .slice A n c] 25)).alloc (.cells #[.int .i64 k, .int .i64 x, .int .u8 o, .int .i64 e] 52)).alloc (.cells #[.int .i64 0, .int .i64 0, .int .i64 0, .int .i64 0, .slice none 0 0] 25)) = W0 at *
  generalize hg : w.heap.size = g at *
  have HG := Lib.hid hg
  clear hg
  have hS : ∀ W : World, Ext W0 W → (W.cell? ⟨g, 0, none⟩ = some (.int .i64 s) ∧ W.cell? ⟨g, 1, none⟩ = some (.int .i64 v) ∧ W.cell? ⟨g, 2, none⟩ = some (.int .i64 d) ∧ W.cell? ⟨g, 3, none⟩ = some (.int .i64 p) ∧ W.cell? ⟨g, 4, none⟩ = some (.slice A n c) ∧ W.cell? ⟨g + 1, 1, none⟩ = some (.int .i64 x) ∧ W.cell? ⟨g + 1, 2, none⟩ = some (.int .u8 o) ∧ W.cell? ⟨g + 1, 3, none⟩ = some (.int .i64 e)) := fun W hW => ⟨hW.cell a0, hW.cell a1, hW.cell a2, hW.cell a3, hW.cell a4, hW.cell o1, hW.cell o2, hW.cell o3⟩
  have HS := Lib.hid hS
  have hK : ∀ (W' : World) (b0 b1 b2 b3 b4 : Value), Ext W0 W' → ∀ W, W = (((((W'.setCell ⟨g + 1 + 1, 0, none⟩ b0).setCell ⟨g + 1 + 1, 1, none⟩ b1).setCell ⟨g + 1 + 1, 2, none⟩ b2).setCell ⟨g + 1 + 1, 3, none⟩ b3).setCell ⟨g + 1 + 1, 4, none⟩ b4) → (W.cell? ⟨g, 0, none⟩ = some (.int .i64 s) ∧ W.cell? ⟨g, 1, none⟩ = some (.int .i64 v) ∧ W.cell? ⟨g, 2, none⟩ = some (.int .i64 d) ∧ W.cell? ⟨g, 3, none⟩ = some (.int .i64 p) ∧ W.cell? ⟨g, 4, none⟩ = some (.slice A n c) ∧ W.cell? ⟨g + 1, 1, none⟩ = some (.int .i64 x) ∧ W.cell? ⟨g + 1, 2, none⟩ = some (.int .u8 o) ∧ W.cell? ⟨g + 1, 3, none⟩ = some (.int .i64 e)) := by
    intro W' b0 b1 b2 b3 b4 hW W e
    subst e
    exact ⟨cell_five (hW.cell a0) (by omega) _ _ _ _ _, cell_five (hW.cell a1) (by omega) _ _ _ _ _, cell_five (hW.cell a2) (by omega) _ _ _ _ _, cell_five (hW.cell a3) (by omega) _ _ _ _ _, cell_five (hW.cell a4) (by omega) _ _ _ _ _, cell_five (hW.cell o1) (by omega) _ _ _ _ _, cell_five (hW.cell o2) (by omega) _ _ _ _ _, cell_five (hW.cell o3) (by omega) _ _ _ _ _⟩
  have HK := Lib.hid hK
  clear hS hK
  go_region_held3 (fun W => W.cell? ⟨g, 0, none⟩ = some (.int .i64 s) ∧ W.cell? ⟨g, 1, none⟩ = some (.int .i64 v) ∧ W.cell? ⟨g, 2, none⟩ = some (.int .i64 d) ∧ W.cell? ⟨g, 3, none⟩ = some (.int .i64 p) ∧ W.cell? ⟨g, 4, none⟩ = some (.slice A n c) ∧ W.cell? ⟨g + 1, 1, none⟩ = some (.int .i64 x) ∧ W.cell? ⟨g + 1, 2, none⟩ = some (.int .u8 o) ∧ W.cell? ⟨g + 1, 3, none⟩ = some (.int .i64 e))
    (first | (refine HS.out _ ?_; (repeat (first | assumption | exact Ext.refl _ | apply Ext.thenDrew | apply Ext.thenDrewN | apply Ext.thenAlloc | (apply Ext.trans; rotate_left; assumption))); done) | (refine HK.out _ _ _ _ _ _ ?_ _ rfl; (repeat (first | assumption | exact Ext.refl _ | apply Ext.thenDrew | apply Ext.thenDrewN | apply Ext.thenAlloc | (apply Ext.trans; rotate_left; assumption))); done) | go_keep)
    (first | ((with_reducible refine (PK.out _).mono ?_); rintro x9 w9 ⟨rfl, rfl⟩; generalize (if (n : Int) < 1 then (1 : Int) else (n : Int)) = mx) | ((with_reducible refine (HC.out _ (TR.out.x.trans (by (repeat (first | assumption | exact Ext.refl _ | apply Ext.thenDrew | apply Ext.thenDrewN | apply Ext.thenAlloc | (apply Ext.trans; rotate_left; assumption)))))).mono ?_); rintro x9 w1 ⟨D, n', e', rfl, hD, hfr, x1⟩; have tw := TR.out.ext ((Ext.drew W0).trans x1); have d0 := tw.b.c0; have d1 := tw.b.c1; have d2 := tw.b.c2; have d3 := tw.b.c3; have d4 := tw.b.c4; have f0 := tw.b.fz 0; have f1 := tw.b.fz 1; have f2 := tw.b.fz 2; have f3 := tw.b.fz 3; have f4 := tw.b.fz 4))
  have hoff := hfr.off hl (q := g + 1 + 1) (by have := HG.out; omega) (by simpa using HSZ.out)
  have hfr2 := hfr.from_ (TR.out.x.trans (Ext.drew W0))
  have TW := Lib.hid tw
  go_wp2_with (fail)
  exact bodyPost_ret (v := .tuple #[rval R D n' e', .int .i64 E]) (by simp [results, Try.results33, go_sem, d0, d1, d2, d3, d4]) rfl
    ⟨D, n', e', rfl, hD.five hoff _ _ _ _ _, hfr2, TW.out.x.five (by have := HG.out; omega) _ _ _ _ _⟩

theorem does_any (w : World) (r : Rounds.R) (A : Option Addr) (n c : Nat) (hl : Is w A n c r.marks) (hn : n ≤ 1000000) (o : OpR) :
    Calls Try.prog 33 #[rval r A n c, oval o] w (GivesR A n (doesR r o) (doesE r o) w) := by
  obtain ⟨s, v, d, p, l⟩ := r
  obtain ⟨k, x, op, e⟩ := o
  unfold doesR doesE
  simp only
  by_cases h7 : k = 7
  · subst h7
    rw [if_pos rfl, if_pos rfl]
    exact does_7 w s v d p l A n c hl hn x op e
  · rw [if_neg h7, if_neg h7]
    by_cases h8 : k = 8
    · subst h8
      rw [if_pos rfl, if_pos rfl]
      exact does_8 w s v d p l A n c hl hn x op e
    · rw [if_neg h8, if_neg h8]
      by_cases h9 : k = 9
      · subst h9
        rw [if_pos rfl]
        exact does_9 w s v d p l A n c hl hn x op e
      · rw [if_neg h9]
        exact does_told w s v d p l A n c hl hn k (by rw [beq_eq_false_iff_ne]; exact h7) (by rw [beq_eq_false_iff_ne]; exact h8) (by rw [beq_eq_false_iff_ne]; exact h9) x op e
end Go.Proofs.Ytgfhpgomlocllaa

