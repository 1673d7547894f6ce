/- The contract of the laws' does. -/
import Derived.Test.YtkclimblcipmlaaScHold
import Derived.Test.YtkclimblcipmlaaPickNum
import Derived.Test.YtkclimblcipmlaaRegTail
namespace Scrubs
open Go.Proofs.Ytkclimblcipmlaa (pick)
/-- What an op makes of a scrubbing; what it takes. -/
def doesS (s : S) (k n : Int) (l : List Int) : S := if k ≤ 2 then urgeS s (pick n 100) else if k ≤ 6 then takeS s l else if 0 < s.busy.length then overS s (Il.get s.busy (pick n s.busy.length).toNat) else s
def doesN (s : S) (k : Int) (l : List Int) : Int := if 2 < k ∧ k ≤ 6 ∧ takeE s l = 0 then takeN s l else -1
end Scrubs
namespace Go.Proofs.Ytkclimblcipmlaa
open Go.RowKit

/-- A scrubbing and a number are handed back. -/
def GivesL (b0 : Nat) (s : Scrubs.S) (x : Int) (w : World) (e : Ending) (w' : World) : Prop := ∃ A n c B m d, e = .returned (.tuple #[sval s.cur s.queue (.slice A n c) (.slice B m d), .int .i64 x]) ∧ Ls b0 w' s A n c B m d ∧ Ext w w'
/-- Where does begins. -/
structure Dw (b0 : Nat) (w W : World) (g : Nat) (s : Scrubs.S) (A : Option Addr) (n c : Nat) (B : Option Addr) (m d : Nat) (k x : Int) (L : Value) : Prop where
  a : Sb W g s.cur s.queue (.slice A n c) (.slice B m d)
  o : W.heap[g + 1]? = some (.cells #[.int .i64 k, .int .i64 x, L] 37 (0, 0))
  b : Sb W (g + 1 + 1) 0 false (.slice none 0 0) (.slice none 0 0)
  ls : Ls b0 W s A n c B m d
  x : Ext w W
  base : w.heap.size = g
abbrev begun3 (w : World) (cu : Int) (qu : Bool) (U B : Value) (k x : Int) (L : Value) : World :=
  ((w.alloc (.cells #[.int .i64 cu, .bool qu, U, B] 24)).alloc (.cells #[.int .i64 k, .int .i64 x, L] 37)).alloc (.cells #[.int .i64 0, .bool false, .slice none 0 0, .slice none 0 0] 24)
theorem Dw.start {b0 : Nat} {w : World} {s : Scrubs.S} {A : Option Addr} {n c : Nat} {B : Option Addr} {m d : Nat} (ls : Ls b0 w s A n c B m d) (k x : Int) (L : Value) : Dw b0 w (begun3 w s.cur s.queue (.slice A n c) (.slice B m d) k x L) w.heap.size s A n c B m d k x L := by
  have x0 : Ext w (begun3 w s.cur s.queue (.slice A n c) (.slice B m d) k x L) := ((Ext.alloc _ _).thenAlloc _).thenAlloc _
  refine ⟨((Sb.new w _ _ _ _ rfl).ext (Ext.alloc _ _)).ext (Ext.alloc _ _), ?_, Sb.new _ _ _ _ _ (by simp), ls.ext x0, x0, rfl⟩
  have h := heap_alloc_new (w.alloc (.cells #[.int .i64 s.cur, .bool s.queue, .slice A n c, .slice B m d] 24)) (.cells #[.int .i64 k, .int .i64 x, L] 37)
  rw [show (w.alloc (.cells #[.int .i64 s.cur, .bool s.queue, .slice A n c, .slice B m d] 24)).heap.size = w.heap.size + 1 by simp] at h
  exact ((Ext.alloc _ _).block _ (by simp)).trans h
section
variable {b0 : Nat} {w W : World} {g : Nat} {s : Scrubs.S} {A : Option Addr} {n c : Nat} {B : Option Addr} {m d : Nat} {k x : Int} {L : Value}
theorem Dw.o0 (h : Dw b0 w W g s A n c B m d k x L) : W.cell? ⟨g + 1, 0, none⟩ = some (.int .i64 k) := by rw [cell_of_row W _ _ _ _ _ h.o]; rfl
theorem Dw.o1 (h : Dw b0 w W g s A n c B m d k x L) : W.cell? ⟨g + 1, 1, none⟩ = some (.int .i64 x) := by rw [cell_of_row W _ _ _ _ _ h.o]; rfl
theorem Dw.ext {W' : World} (h : Dw b0 w W g s A n c B m d k x L) (hx : Ext W W') : Dw b0 w W' g s A n c B m d k x L := ⟨h.a.ext hx, (hx.block _ (Array.getElem?_eq_some_iff.1 h.o).1).trans h.o, h.b.ext hx, h.ls.ext hx, h.x.trans hx, h.base⟩
/-- The scrubbing in the box turns. -/
theorem Dw.turn (h : Dw b0 w W g s A n c B m d k x L) (hg : b0 ≤ g) {s' : Scrubs.S} {A' : Option Addr} {n' c' : Nat} {B' : Option Addr} {m' d' : Nat} (ls : Ls b0 W s' A' n' c' B' m' d') : Dw b0 w (four W g s'.cur s'.queue (.slice A' n' c') (.slice B' m' d')) g s' A' n' c' B' m' d' k x L :=
  ⟨h.a.whole _ _ _ _, (four_other W g _ _ _ _ (g + 1) (by omega)).trans h.o, h.b.put (by omega) _ _ _ _, ls.put h.a hg _ _ _ _, h.x.four (by have := h.base; omega) _ _ _ _, h.base⟩
theorem Dw.res (h : Dw b0 w W g s A n c B m d k x L) (cu : Int) (qu : Bool) (U V : Value) : (loadVar 24 ⟨g + 1 + 1, 0, none⟩).run Try.prog (four W (g + 1 + 1) cu qu U V) = .ok (sval cu qu U V) (four W (g + 1 + 1) cu qu U V) := (h.b.whole cu qu U V).res
theorem Dw.gives (h : Dw b0 w W g s A n c B m d k x L) (hg : b0 ≤ g) {s' : Scrubs.S} {A' : Option Addr} {n' c' : Nat} {B' : Option Addr} {m' d' : Nat} (ls : Ls b0 W s' A' n' c' B' m' d') (y : Int) : GivesL b0 s' y w (.returned (.tuple #[sval s'.cur s'.queue (.slice A' n' c') (.slice B' m' d'), .int .i64 y])) (four W (g + 1 + 1) s'.cur s'.queue (.slice A' n' c') (.slice B' m' d')) :=
  ⟨A', n', c', B', m', d', rfl, ls.put h.b (by omega) _ _ _ _, h.x.four (by have := h.base; omega) _ _ _ _⟩
end
set_option maxRecDepth 100000 in
set_option maxHeartbeats 4000000 in
theorem does_law (b0 : Nat) (w : World) (hg : b0 ≤ w.heap.size) (s : Scrubs.S) (A : Option Addr) (n c : Nat) (B : Option Addr) (m d : Nat) (ls : Ls b0 w s A n c B m d) (k x : Int) (L : Option Addr) (L1 L2 : Nat) (C : Option Addr) (q e0 : Nat) (l : List Int) (hl : Is w C q e0 l) (hm : m ≤ 1000000) :
    Calls Try.prog 21 #[sval s.cur s.queue (.slice A n c) (.slice B m d), .agg #[.int .i64 k, .int .i64 x, .slice L L1 L2], .slice C q e0] w (GivesL b0 (Scrubs.doesS s k x l) (Scrubs.doesN s k l) w) := by
  have q1 := ls.u.max
  have q2 := ls.u.le
  have q3 := ls.b.max
  have q4 := ls.b.le
  have q5 := hl.max
  have q6 := hl.le
  obtain ⟨W0, hW0⟩ : ∃ W0, begun3 w s.cur s.queue (.slice A n c) (.slice B m d) k x (.slice L L1 L2) = W0 := ⟨_, rfl⟩
  have dw := Dw.start ls k x (.slice L L1 L2)
  rw [hW0] at dw
  have HW0 := Lib.hid (show ((w.alloc (.cells #[.int .i64 s.cur, .bool s.queue, .slice A n c, .slice B m d] 24)).alloc (.cells #[.int .i64 k, .int .i64 x, .slice L L1 L2] 37)).alloc (.cells #[.int .i64 0, .bool false, .slice none 0 0, .slice none 0 0] 24) = W0 from hW0)
  have HL := Lib.hid hl
  have LB := Lib.hid ls.b.len
  have DW := Lib.hid dw
  have HG := Lib.hid hg
  have HP := Lib.hid (fun W : World => show Calls Try.prog 41 #[.int .i64 x, .int .i64 100] W fun r w' => r = .returned (.int .i64 (pick x 100)) ∧ W = w' from pick_any W x 100 (by omega))
  have HP2 := Lib.hid (fun W : World => pick_any W x m hm)
  have HU := Lib.hid (fun (W : World) (hW : Ext w W) => scUrge_any W s A n c B m d (pick x 100) (ls.u.ext hW) (ls.b.ext hW))
  have HT := Lib.hid (fun (W : World) (hW : Ext w W) => scTake_any W s A n c B m d C q e0 l (ls.u.ext hW) (ls.b.ext hW) (hl.ext hW))
  have HO := Lib.hid (fun (W : World) (hW : Ext w W) (y : Int) => scOver_any W s A n c B m d y (ls.u.ext hW) (ls.b.ext hW))
  have HB := Lib.hid ls.b
  have hRange := pick_range x m
  have HRG := Lib.hid hRange
  have e1 : k ≤ 2 → Scrubs.doesS s k x l = Scrubs.urgeS s (pick x 100) ∧ Scrubs.doesN s k l = -1 := fun h => by
    unfold Scrubs.doesS Scrubs.doesN
    exact ⟨if_pos h, if_neg (fun h => by omega)⟩
  have e2 : ¬ k ≤ 2 → k ≤ 6 → Scrubs.doesS s k x l = Scrubs.takeS s l := fun h h' => by
    unfold Scrubs.doesS
    rw [if_neg h, if_pos h']
  have e3 : ¬ k ≤ 2 → k ≤ 6 → Scrubs.takeE s l = 0 → Scrubs.doesN s k l = Scrubs.takeN s l := fun h h' he => if_pos ⟨by omega, h', he⟩
  have e4 : ¬ Scrubs.takeE s l = 0 → Scrubs.doesN s k l = -1 := fun he => if_neg (fun h => he h.2.2)
  have e5 : ¬ k ≤ 2 → ¬ k ≤ 6 → 0 < m → Scrubs.doesS s k x l = Scrubs.overS s (Il.get s.busy (pick x m).toNat) := fun h h' h0 => by
    unfold Scrubs.doesS
    rw [if_neg h, if_neg h', if_pos (by rw [LB.out]; exact h0), LB.out]
  have e6 : ¬ k ≤ 2 → ¬ k ≤ 6 → ¬ 0 < m → Scrubs.doesS s k x l = s := fun h h' h0 => by
    unfold Scrubs.doesS
    rw [if_neg h, if_neg h', if_neg (by rw [LB.out]; exact h0)]
  have e8 : ¬ k ≤ 2 → k ≤ 6 → ¬ Scrubs.takeE s l = 0 → Scrubs.doesS s k x l = s := fun h h' he => by
    unfold Scrubs.doesS
    rw [if_neg h, if_pos h']
    exact (Scrubs.take_err he).1
  have E8 := Lib.hid e8
  have e7 : ¬ k ≤ 6 → Scrubs.doesN s k l = -1 := fun h => if_neg (fun h' => h h'.2.1)
  have E1 := Lib.hid e1
  have E2 := Lib.hid e2
  have E3 := Lib.hid e3
  have E4 := Lib.hid e4
  have E5 := Lib.hid e5
  have E6 := Lib.hid e6
  have E7 := Lib.hid e7
  clear ls hl dw hg hW0 e1 e2 e3 e4 e5 e6 e7 e8 hRange
  generalize Scrubs.doesS s k x l = s' at *
  generalize Scrubs.doesN s k l = y' at *
  go_enter Try.func21, Try.ntmps21
  go_upto_block 0 with (fail)
  rw [HW0.out]
  go_cut [] (fun wx => ∃ wv : World, wv = wx ∧ ∃ (A1 : Option Addr) (n1 c1 : Nat) (B1 : Option Addr) (m1 d1 : Nat), Dw b0 w wx w.heap.size s' A1 n1 c1 B1 m1 d1 k x (.slice L L1 L2) ∧ RowKit.Hid (y' = -1))
  case first =>
    have a0 := DW.out.a.c0
    have a1 := DW.out.a.c1
    have a2 := DW.out.a.c2
    have a3 := DW.out.a.c3
    have o0 := DW.out.o0
    have o1 := DW.out.o1
    by_cases h2 : k ≤ 2
    · obtain ⟨es, ey⟩ := E1.out h2
      have ES := Lib.hid es
      have EY := Lib.hid ey
      clear es ey
      generalize pick x 100 = P at *
      go_upto_region 2 with (fail)
      have HS := Lib.hid (fun (W : World) (hW : Ext W0 W) => (⟨hW.cell a0, hW.cell a1, hW.cell a2, hW.cell a3, hW.cell o1⟩ : (fun W => W.cell? ⟨w.heap.size, 0, none⟩ = some (.int .i64 s.cur) ∧ W.cell? ⟨w.heap.size, 1, none⟩ = some (.bool s.queue) ∧ W.cell? ⟨w.heap.size, 2, none⟩ = some (.slice A n c) ∧ W.cell? ⟨w.heap.size, 3, none⟩ = some (.slice B m d) ∧ W.cell? ⟨w.heap.size + 1, 1, none⟩ = some (.int .i64 x)) W))
      refine wp_region_T (S := (fun W => W.cell? ⟨w.heap.size, 0, none⟩ = some (.int .i64 s.cur) ∧ W.cell? ⟨w.heap.size, 1, none⟩ = some (.bool s.queue) ∧ W.cell? ⟨w.heap.size, 2, none⟩ = some (.slice A n c) ∧ W.cell? ⟨w.heap.size, 3, none⟩ = some (.slice B m d) ∧ W.cell? ⟨w.heap.size + 1, 1, none⟩ = some (.int .i64 x))) 8 (n := 9) rfl rfl ?_
      have hHeld : ((fun W => W.cell? ⟨w.heap.size, 0, none⟩ = some (.int .i64 s.cur) ∧ W.cell? ⟨w.heap.size, 1, none⟩ = some (.bool s.queue) ∧ W.cell? ⟨w.heap.size, 2, none⟩ = some (.slice A n c) ∧ W.cell? ⟨w.heap.size, 3, none⟩ = some (.slice B m d) ∧ W.cell? ⟨w.heap.size + 1, 1, none⟩ = some (.int .i64 x))) W0.drew := HS.out _ (Ext.drew _)
      refine takeT (i := 0) (v := ?_) rfl (by kernel_rfl) (by kernel_rfl) (by kernel_rfl) (by kernel_rfl) (by decide) (fun _ _ _ h => h) (by kernel_rfl) (Or.inl ⟨by rfl, ?_⟩) (by assumption) ?_
      rotate_left
      · (intro W9 hSw; (try dsimp only at hSw); go_simp; (try with_reducible rfl))
      try simp only [Act.put, List.setIfInBounds_toArray, List.set_cons_zero, List.set_cons_succ]
      refine takeT (i := 1) (v := ?_) rfl (by kernel_rfl) (by kernel_rfl) (by kernel_rfl) (by kernel_rfl) (by decide) (fun _ _ _ h => h) (by kernel_rfl) (Or.inl ⟨by rfl, ?_⟩) (by assumption) ?_
      rotate_left
      · (intro W9 hSw; (try dsimp only at hSw); go_simp; (try with_reducible rfl))
      try simp only [Act.put, List.setIfInBounds_toArray, List.set_cons_zero, List.set_cons_succ]
      refine takeT (i := 2) (v := ?_) rfl (by kernel_rfl) (by kernel_rfl) (by kernel_rfl) (by kernel_rfl) (by decide) (fun _ _ _ h => h) (by kernel_rfl) (Or.inl ⟨by rfl, ?_⟩) (by assumption) ?_
      rotate_left
      · (intro W9 hSw; (try dsimp only at hSw); go_simp; (try with_reducible rfl))
      try simp only [Act.put, List.setIfInBounds_toArray, List.set_cons_zero, List.set_cons_succ]
      refine oneT (i := 3) rfl (by kernel_rfl) (fun K hK => ?_)
      rw [if_pos (by kernel_rfl)]
      go_wp2_with (((with_reducible refine (HP.out _).mono ?_); (rintro e w9 ⟨rfl, rfl⟩)))
      refine hK.out _ _ (fun _ => HS.out _ (Ext.drew _)) ?_
      clear hK K hHeld
      have hHeld : ((fun W => W.cell? ⟨w.heap.size, 0, none⟩ = some (.int .i64 s.cur) ∧ W.cell? ⟨w.heap.size, 1, none⟩ = some (.bool s.queue) ∧ W.cell? ⟨w.heap.size, 2, none⟩ = some (.slice A n c) ∧ W.cell? ⟨w.heap.size, 3, none⟩ = some (.slice B m d) ∧ W.cell? ⟨w.heap.size + 1, 1, none⟩ = some (.int .i64 x))) W0.drew := HS.out _ (Ext.drew _)
      try simp only [Act.put, List.setIfInBounds_toArray, List.set_cons_zero, List.set_cons_succ]
      refine oneT (i := 4) rfl (by kernel_rfl) (fun K hK => ?_)
      rw [if_pos (by kernel_rfl)]
      go_wp2_with (((with_reducible refine (HU.out _ (DW.out.x.trans (Ext.drew _))).mono ?_); (intro e w1 hn; obtain ⟨A1, n1, c1, B1, m1, d1, rfl, ls, x1⟩ := hn.ls (b0 := b0) (DW.out.ls.lu.ext (Ext.drew _)) (DW.out.ls.lb.ext (Ext.drew _)); have z1 : Ext W0 w1 := (Ext.drew _).trans x1; have dw := DW.out.ext z1; have f4 := dw.a.fz; have D1 := Lib.hid dw; have LS := Lib.hid ls; clear hn ls dw x1)))
      refine hK.out _ _ (fun _ => HS.out _ z1) ?_
      clear hK K hHeld
      have hHeld : ((fun W => W.cell? ⟨w.heap.size, 0, none⟩ = some (.int .i64 s.cur) ∧ W.cell? ⟨w.heap.size, 1, none⟩ = some (.bool s.queue) ∧ W.cell? ⟨w.heap.size, 2, none⟩ = some (.slice A n c) ∧ W.cell? ⟨w.heap.size, 3, none⟩ = some (.slice B m d) ∧ W.cell? ⟨w.heap.size + 1, 1, none⟩ = some (.int .i64 x))) w1 := HS.out _ z1
      try simp only [Act.put, List.setIfInBounds_toArray, List.set_cons_zero, List.set_cons_succ]
      refine takeT (i := 5) (v := ?_) rfl (by kernel_rfl) (by kernel_rfl) (by kernel_rfl) (by kernel_rfl) (by decide) (fun _ _ _ h => h) (by kernel_rfl) (Or.inl ⟨by rfl, ?_⟩) (by assumption) ?_
      rotate_left
      · (intro W9 hSw; (try dsimp only at hSw); go_simp; (try with_reducible rfl))
      try simp only [Act.put, List.setIfInBounds_toArray, List.set_cons_zero, List.set_cons_succ]
      refine takeT (i := 6) (v := ?_) rfl (by kernel_rfl) (by kernel_rfl) (by kernel_rfl) (by kernel_rfl) (by decide) (fun _ _ _ h => h) (by kernel_rfl) (Or.inl ⟨by rfl, ?_⟩) (by assumption) ?_
      rotate_left
      · (intro W9 hSw; (try dsimp only at hSw); go_simp; (try with_reducible rfl))
      try simp only [Act.put, List.setIfInBounds_toArray, List.set_cons_zero, List.set_cons_succ]
      refine pureT (i := 7) (v := ?_) rfl (by kernel_rfl) (by kernel_rfl) (by kernel_rfl) (by decide) (fun _ _ _ h => h) (Or.inl ⟨by rfl, ?_⟩) (fun _ => by assumption) ?_
      rotate_left
      · (intro W9 _; go_simp; (try with_reducible rfl))
      try simp only [Act.put, List.setIfInBounds_toArray, List.set_cons_zero, List.set_cons_succ]
      refine oneT (i := 8) rfl (by kernel_rfl) (fun K hK => ?_)
      rw [if_pos (by kernel_rfl)]
      go_wp2_with (fail)
      refine hK.out _ _ (fun h => absurd (show true = false from h) (by decide)) ?_
      clear hK K hHeld
      try simp only [Act.put, List.setIfInBounds_toArray, List.set_cons_zero, List.set_cons_succ]
      refine doneT (by kernel_rfl) ?_ _
      go_wp2_with (fail)
      go_meet
      exact ⟨_, rfl, A1, n1, c1, B1, m1, d1, by rw [ES.out]; exact D1.out.turn HG.out LS.out, EY⟩
    · by_cases h6 : k ≤ 6
      · have es := E2.out h2 h6
        have ES := Lib.hid es
        have E3' := Lib.hid (E3.out h2 h6)
        clear es
        generalize Scrubs.takeE s l = er at *
        generalize Scrubs.takeN s l = y at *
        go_wp2_with (fail)
        refine (HT.out _ DW.out.x).mono ?_
        intro e w1 hn
        obtain ⟨A1, n1, c1, B1, m1, d1, rfl, ls, x1⟩ := hn.ls (b0 := b0) DW.out.ls.lu DW.out.ls.lb
        clear hn
        rw [← ES.out] at *
        by_cases he : er = 0
        · subst he
          have hy := E3'.out rfl
          subst hy
          have z1 := x1.thenAlloc (.cells #[.int .i64 s'.cur, .bool s'.queue, .slice A1 n1 c1, .slice B1 m1 d1] 24)
          have dw := DW.out.ext z1
          have t0 := dw.b.c0
          have t1 := dw.b.c1
          have t2 := dw.b.c2
          have t3 := dw.b.c3
          have t4 := dw.b.fz
          have D1 := Lib.hid dw
          have LS := Lib.hid (ls.ext (Ext.alloc w1 (.cells #[.int .i64 s'.cur, .bool s'.queue, .slice A1 n1 c1, .slice B1 m1 d1] 24)))
          clear dw ls
          go_wp2_with (fail)
          refine bodyPost_ret (v := .tuple #[sval s'.cur s'.queue (.slice A1 n1 c1) (.slice B1 m1 d1), .int .i64 y']) ?_ rfl (D1.out.gives HG.out LS.out y')
          rw [results_cell_tmp rfl]
          simp [asAddr, Result.andThen, (D1.out.b.whole s'.cur s'.queue (.slice A1 n1 c1) (.slice B1 m1 d1)).res]
        · have e0' : (er == 0) = false := by rw [beq_eq_false_iff_ne]; exact he
          have hs := E8.out h2 h6 he
          have hy := E4.out he
          have Z1 := Lib.hid (x1.thenAlloc (.cells #[.int .i64 s'.cur, .bool s'.queue, .slice A1 n1 c1, .slice B1 m1 d1] 24))
          have HS := Lib.hid hs
          have HY := Lib.hid hy
          clear ls hs hy he
          go_wp2_with (fail)
          go_meet
          exact ⟨_, rfl, A, n, c, B, m, d, by rw [HS.out]; rw [HS.out] at Z1; exact DW.out.ext Z1.out, HY⟩
      · by_cases h0 : 0 < m
        · have es := E5.out h2 h6 h0
          have hy := E7.out h6
          have hrg := HRG.out h0
          obtain ⟨p, hp⟩ : ∃ p : Nat, pick x m = (p : Int) := ⟨(pick x m).toNat, by omega⟩
          rw [hp] at HP2 es hrg
          rw [show ((p : Int)).toNat = p by omega] at es
          have hpm : p < m := by omega
          obtain ⟨bb, oo, rfl, hcel⟩ := (HB.out.ext DW.out.x).rd.intAt hpm
          have HO2 := Lib.hid (fun (W : World) (hW : Ext w W) => HO.out W hW (Il.get s.busy p))
          have ES := Lib.hid es
          have HY := Lib.hid hy
          have g0 : (0 : Int) < m := by omega
          have g1 : (p : Int) < m := by omega
          clear es hy hrg hp
          generalize Il.get s.busy p = z at *
          go_upto_region 8 with (fail)
          have HS := Lib.hid (fun (W : World) (hW : Ext W0 W) => (⟨hW.cell a0, hW.cell a1, hW.cell a2, hW.cell a3, hW.cell o1, hW.cell hcel⟩ : (fun W => W.cell? ⟨w.heap.size, 0, none⟩ = some (.int .i64 s.cur) ∧ W.cell? ⟨w.heap.size, 1, none⟩ = some (.bool s.queue) ∧ W.cell? ⟨w.heap.size, 2, none⟩ = some (.slice A n c) ∧ W.cell? ⟨w.heap.size, 3, none⟩ = some (.slice (some ⟨bb, oo, none⟩) m d) ∧ W.cell? ⟨w.heap.size + 1, 1, none⟩ = some (.int .i64 x) ∧ W.cell? ⟨bb, oo + p, none⟩ = some (.int .i64 z)) W))
          refine wp_region_T (S := (fun W => W.cell? ⟨w.heap.size, 0, none⟩ = some (.int .i64 s.cur) ∧ W.cell? ⟨w.heap.size, 1, none⟩ = some (.bool s.queue) ∧ W.cell? ⟨w.heap.size, 2, none⟩ = some (.slice A n c) ∧ W.cell? ⟨w.heap.size, 3, none⟩ = some (.slice (some ⟨bb, oo, none⟩) m d) ∧ W.cell? ⟨w.heap.size + 1, 1, none⟩ = some (.int .i64 x) ∧ W.cell? ⟨bb, oo + p, none⟩ = some (.int .i64 z))) 15 (n := 16) rfl rfl ?_
          have hHeld : ((fun W => W.cell? ⟨w.heap.size, 0, none⟩ = some (.int .i64 s.cur) ∧ W.cell? ⟨w.heap.size, 1, none⟩ = some (.bool s.queue) ∧ W.cell? ⟨w.heap.size, 2, none⟩ = some (.slice A n c) ∧ W.cell? ⟨w.heap.size, 3, none⟩ = some (.slice (some ⟨bb, oo, none⟩) m d) ∧ W.cell? ⟨w.heap.size + 1, 1, none⟩ = some (.int .i64 x) ∧ W.cell? ⟨bb, oo + p, none⟩ = some (.int .i64 z))) W0.drew := HS.out _ (Ext.drew _)
          refine takeT (i := 0) (v := ?_) rfl (by kernel_rfl) (by kernel_rfl) (by kernel_rfl) (by kernel_rfl) (by decide) (fun _ _ _ h => h) (by kernel_rfl) (Or.inl ⟨by rfl, ?_⟩) (by assumption) ?_
          rotate_left
          · (intro W9 hSw; (try dsimp only at hSw); go_simp; (try with_reducible rfl))
          try simp only [Act.put, List.setIfInBounds_toArray, List.set_cons_zero, List.set_cons_succ]
          refine takeT (i := 1) (v := ?_) rfl (by kernel_rfl) (by kernel_rfl) (by kernel_rfl) (by kernel_rfl) (by decide) (fun _ _ _ h => h) (by kernel_rfl) (Or.inl ⟨by rfl, ?_⟩) (by assumption) ?_
          rotate_left
          · (intro W9 hSw; (try dsimp only at hSw); go_simp; (try with_reducible rfl))
          try simp only [Act.put, List.setIfInBounds_toArray, List.set_cons_zero, List.set_cons_succ]
          refine takeT (i := 2) (v := ?_) rfl (by kernel_rfl) (by kernel_rfl) (by kernel_rfl) (by kernel_rfl) (by decide) (fun _ _ _ h => h) (by kernel_rfl) (Or.inl ⟨by rfl, ?_⟩) (by assumption) ?_
          rotate_left
          · (intro W9 hSw; (try dsimp only at hSw); go_simp; (try with_reducible rfl))
          try simp only [Act.put, List.setIfInBounds_toArray, List.set_cons_zero, List.set_cons_succ]
          refine takeT (i := 3) (v := ?_) rfl (by kernel_rfl) (by kernel_rfl) (by kernel_rfl) (by kernel_rfl) (by decide) (fun _ _ _ h => h) (by kernel_rfl) (Or.inl ⟨by rfl, ?_⟩) (by assumption) ?_
          rotate_left
          · (intro W9 hSw; (try dsimp only at hSw); go_simp; (try with_reducible rfl))
          try simp only [Act.put, List.setIfInBounds_toArray, List.set_cons_zero, List.set_cons_succ]
          refine takeT (i := 4) (v := ?_) rfl (by kernel_rfl) (by kernel_rfl) (by kernel_rfl) (by kernel_rfl) (by decide) (fun _ _ _ h => h) (by kernel_rfl) (Or.inl ⟨by rfl, ?_⟩) (by assumption) ?_
          rotate_left
          · (intro W9 hSw; (try dsimp only at hSw); go_simp; (try with_reducible rfl))
          try simp only [Act.put, List.setIfInBounds_toArray, List.set_cons_zero, List.set_cons_succ]
          refine takeT (i := 5) (v := ?_) rfl (by kernel_rfl) (by kernel_rfl) (by kernel_rfl) (by kernel_rfl) (by decide) (fun _ _ _ h => h) (by kernel_rfl) (Or.inl ⟨by rfl, ?_⟩) (by assumption) ?_
          rotate_left
          · (intro W9 hSw; (try dsimp only at hSw); go_simp; (try with_reducible rfl))
          try simp only [Act.put, List.setIfInBounds_toArray, List.set_cons_zero, List.set_cons_succ]
          refine takeT (i := 6) (v := ?_) rfl (by kernel_rfl) (by kernel_rfl) (by kernel_rfl) (by kernel_rfl) (by decide) (fun _ _ _ h => h) (by kernel_rfl) (Or.inl ⟨by rfl, ?_⟩) (by assumption) ?_
          rotate_left
          · (intro W9 hSw; (try dsimp only at hSw); go_simp; (try with_reducible rfl))
          try simp only [Act.put, List.setIfInBounds_toArray, List.set_cons_zero, List.set_cons_succ]
          refine takeT (i := 7) (v := ?_) rfl (by kernel_rfl) (by kernel_rfl) (by kernel_rfl) (by kernel_rfl) (by decide) (fun _ _ _ h => h) (by kernel_rfl) (Or.inl ⟨by rfl, ?_⟩) (by assumption) ?_
          rotate_left
          · (intro W9 hSw; (try dsimp only at hSw); go_simp; (try with_reducible rfl))
          try simp only [Act.put, List.setIfInBounds_toArray, List.set_cons_zero, List.set_cons_succ]
          refine oneT (i := 8) rfl (by kernel_rfl) (fun K hK => ?_)
          rw [if_pos (by kernel_rfl)]
          go_wp2_with (((with_reducible refine (HP2.out _).mono ?_); (rintro e w9 ⟨rfl, rfl⟩)))
          refine hK.out _ _ (fun _ => HS.out _ (Ext.drew _)) ?_
          clear hK K hHeld
          have hHeld : ((fun W => W.cell? ⟨w.heap.size, 0, none⟩ = some (.int .i64 s.cur) ∧ W.cell? ⟨w.heap.size, 1, none⟩ = some (.bool s.queue) ∧ W.cell? ⟨w.heap.size, 2, none⟩ = some (.slice A n c) ∧ W.cell? ⟨w.heap.size, 3, none⟩ = some (.slice (some ⟨bb, oo, none⟩) m d) ∧ W.cell? ⟨w.heap.size + 1, 1, none⟩ = some (.int .i64 x) ∧ W.cell? ⟨bb, oo + p, none⟩ = some (.int .i64 z))) W0.drew := HS.out _ (Ext.drew _)
          try simp only [Act.put, List.setIfInBounds_toArray, List.set_cons_zero, List.set_cons_succ]
          refine takeT (i := 9) (v := ?_) rfl (by kernel_rfl) (by kernel_rfl) (by kernel_rfl) (by kernel_rfl) (by decide) (fun _ _ _ h => h) (by kernel_rfl) (Or.inl ⟨by rfl, ?_⟩) (by assumption) ?_
          rotate_left
          · (intro W9 hSw; (try dsimp only at hSw); go_simp; (try with_reducible rfl))
          try simp only [Act.put, List.setIfInBounds_toArray, List.set_cons_zero, List.set_cons_succ]
          refine takeT (i := 10) (v := ?_) rfl (by kernel_rfl) (by kernel_rfl) (by kernel_rfl) (by kernel_rfl) (by decide) (fun _ _ _ h => h) (by kernel_rfl) (Or.inl ⟨by rfl, ?_⟩) (by assumption) ?_
          rotate_left
          · (intro W9 hSw; (try dsimp only at hSw); go_simp; (try with_reducible rfl))
          try simp only [Act.put, List.setIfInBounds_toArray, List.set_cons_zero, List.set_cons_succ]
          refine oneT (i := 11) rfl (by kernel_rfl) (fun K hK => ?_)
          rw [if_pos (by kernel_rfl)]
          go_wp2_with (((with_reducible refine (HO2.out _ (DW.out.x.trans (Ext.drew _))).mono ?_); (intro e w1 hn; obtain ⟨A1, n1, c1, B1, m1, d1, rfl, ls, x1⟩ := hn.ls (b0 := b0) (DW.out.ls.lu.ext (Ext.drew _)) (DW.out.ls.lb.ext (Ext.drew _)); have z1 : Ext W0 w1 := (Ext.drew _).trans x1; have dw := DW.out.ext z1; have f4 := dw.a.fz; have D1 := Lib.hid dw; have LS := Lib.hid ls; clear hn ls dw x1)))
          refine hK.out _ _ (fun _ => HS.out _ z1) ?_
          clear hK K hHeld
          have hHeld : ((fun W => W.cell? ⟨w.heap.size, 0, none⟩ = some (.int .i64 s.cur) ∧ W.cell? ⟨w.heap.size, 1, none⟩ = some (.bool s.queue) ∧ W.cell? ⟨w.heap.size, 2, none⟩ = some (.slice A n c) ∧ W.cell? ⟨w.heap.size, 3, none⟩ = some (.slice (some ⟨bb, oo, none⟩) m d) ∧ W.cell? ⟨w.heap.size + 1, 1, none⟩ = some (.int .i64 x) ∧ W.cell? ⟨bb, oo + p, none⟩ = some (.int .i64 z))) w1 := HS.out _ z1
          try simp only [Act.put, List.setIfInBounds_toArray, List.set_cons_zero, List.set_cons_succ]
          refine takeT (i := 12) (v := ?_) rfl (by kernel_rfl) (by kernel_rfl) (by kernel_rfl) (by kernel_rfl) (by decide) (fun _ _ _ h => h) (by kernel_rfl) (Or.inl ⟨by rfl, ?_⟩) (by assumption) ?_
          rotate_left
          · (intro W9 hSw; (try dsimp only at hSw); go_simp; (try with_reducible rfl))
          try simp only [Act.put, List.setIfInBounds_toArray, List.set_cons_zero, List.set_cons_succ]
          refine takeT (i := 13) (v := ?_) rfl (by kernel_rfl) (by kernel_rfl) (by kernel_rfl) (by kernel_rfl) (by decide) (fun _ _ _ h => h) (by kernel_rfl) (Or.inl ⟨by rfl, ?_⟩) (by assumption) ?_
          rotate_left
          · (intro W9 hSw; (try dsimp only at hSw); go_simp; (try with_reducible rfl))
          try simp only [Act.put, List.setIfInBounds_toArray, List.set_cons_zero, List.set_cons_succ]
          refine pureT (i := 14) (v := ?_) rfl (by kernel_rfl) (by kernel_rfl) (by kernel_rfl) (by decide) (fun _ _ _ h => h) (Or.inl ⟨by rfl, ?_⟩) (fun _ => by assumption) ?_
          rotate_left
          · (intro W9 _; go_simp; (try with_reducible rfl))
          try simp only [Act.put, List.setIfInBounds_toArray, List.set_cons_zero, List.set_cons_succ]
          refine oneT (i := 15) rfl (by kernel_rfl) (fun K hK => ?_)
          rw [if_pos (by kernel_rfl)]
          go_wp2_with (fail)
          refine hK.out _ _ (fun h => absurd (show true = false from h) (by decide)) ?_
          clear hK K hHeld
          try simp only [Act.put, List.setIfInBounds_toArray, List.set_cons_zero, List.set_cons_succ]
          refine doneT (by kernel_rfl) ?_ _
          go_wp2_with (fail)
          go_meet
          exact ⟨_, rfl, A1, n1, c1, B1, m1, d1, by rw [ES.out]; exact D1.out.turn HG.out LS.out, HY⟩
        · have es := E6.out h2 h6 h0
          have hy := E7.out h6
          have g0 : ¬ (0 : Int) < m := by omega
          have ES := Lib.hid es
          have HY := Lib.hid hy
          clear es hy
          go_wp2_with (fail)
          go_meet
          exact ⟨_, rfl, A, n, c, B, m, d, by rw [ES.out]; exact DW.out, HY⟩
  case rest =>
    obtain ⟨w1, rfl, A1, n1, c1, B1, m1, d1, dw, hy⟩ := hcut
    have a0 := dw.a.c0
    have a1 := dw.a.c1
    have a2 := dw.a.c2
    have a3 := dw.a.c3
    have t0 := dw.b.c0
    have t1 := dw.b.c1
    have t2 := dw.b.c2
    have t3 := dw.b.c3
    have t4 := dw.b.fz
    have D1 := Lib.hid dw
    clear dw
    go_wp2_with (fail)
    refine bodyPost_ret (v := .tuple #[sval s'.cur s'.queue (.slice A1 n1 c1) (.slice B1 m1 d1), .int .i64 (-1)]) ?_ rfl (by rw [hy.out]; exact D1.out.gives HG.out D1.out.ls (-1))
    rw [results_cell_tmp rfl]
    simp [asAddr, Result.andThen, D1.out.res]
end Go.Proofs.Ytkclimblcipmlaa
