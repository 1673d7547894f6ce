/- ScrubNumbers' walk. -/
import Derived.Test.YtkclimblcipmlaaScNums
import Derived.Test.YtkclimblcipmlaaScAwake
import Derived.Test.YtkclimblcipmlaaScHold
import Derived.Laws.MakeOwn
import Derived.Deep.DeepCutAuto
namespace Go.Proofs.Ytkclimblcipmlaa
open Go.RowKit

def made (c : Nat) (z : Value) : Array Value := madeCells #[z] c
theorem made_toList (c : Nat) (z : Value) : (made c z).toList = List.replicate c z := by
  unfold made madeCells
  rw [Array.toList_map, Array.toList_range]
  apply List.ext_getElem (by simp)
  intro i h1 h2
  simp [Nat.mod_one]
theorem run_make_wide (W : World) : (Instr.makeSlice 22 (.int .i64 1001) (.int .i64 1001)).run Try.prog W = .ok (.slice (some ⟨W.heap.size, 0, none⟩) 1001 1001) (W.alloc (.cells (made 1001 (.int .i64 0)) 3)) := by
  obtain ⟨i, hi, hz, h1, h2⟩ := info_parts int_info
  have h := run_make (P := Try.prog) W 22 3 i _ Try.underlying22 hi hz .i64 .i64 (1001 : Int) (1001 : Int) (by omega) (Int.le_refl _) (by rw [h2]; omega) (by omega)
  rw [h1] at h
  simpa [made, Value.cells] using h
theorem icells_zeros (n : Nat) : icells (List.replicate n 0) = List.replicate n (.int .i64 0) := by simp [icells]
theorem is_wide (w : World) {g : Nat} (hg : w.heap.size = g) (t : TypeId) : Is (w.alloc (.cells (made 1001 (.int .i64 0)) t)) (some ⟨g, 0, .none⟩) 1001 1001 (List.replicate 1001 0) := by
  subst hg
  refine ⟨List.length_replicate .., Nat.le_refl _, by omega, by rw [icells_length, List.length_replicate], fun _ => ⟨w.heap.size, 0, rfl, fun j u hu => ?_⟩⟩
  rw [Nat.zero_add, World.cell?_alloc_new, ← Array.getElem?_toList, made_toList, ← icells_zeros]
  exact hu
theorem cell_lit16 (W : World) (cs : Array Value) (t : TypeId) {g : Nat} (hg : W.heap.size = g) (j : Nat) : (W.alloc (.cells cs t)).cell? ⟨g, j, none⟩ = cs[j]? := by
  subst hg
  exact World.cell?_alloc_new W cs t j
theorem bad_urge (W : World) (s : Scrubs.S) (A : Option Addr) (n c : Nat) (B : Option Addr) (m d : Nat) (hu : Is W A n c s.urged) (hb : Is W B m d s.busy) (hs : ¬ Scrubs.right s) : Calls Try.prog 8 #[sval s.cur s.queue (.slice A n c) (.slice B m d), .int .i64 1] W (GivesS s 165 A n B m W) := by
  have h := scUrge_any W s A n c B m d 1 hu hb
  rewrite [(Scrubs.bad_all hs 1 []).1.1, (Scrubs.bad_all hs 1 []).1.2] at h
  exact h
theorem bad_take (W : World) (s : Scrubs.S) (A : Option Addr) (n c : Nat) (B : Option Addr) (m d : Nat) (C : Option Addr) (q e : Nat) (l : List Int) (hu : Is W A n c s.urged) (hb : Is W B m d s.busy) (hl : Is W C q e l) (er : Int) (hs : Scrubs.takeE s l = er ∧ Scrubs.takeS s l = s ∧ Scrubs.takeN s l = 0) : Calls Try.prog 9 #[sval s.cur s.queue (.slice A n c) (.slice B m d), .slice C q e] W (GivesN s 0 er A n B m W) := by
  have h := scTake_any W s A n c B m d C q e l hu hb hl
  rewrite [hs.1, hs.2.1, hs.2.2] at h
  exact h
theorem bad_over (W : World) (s : Scrubs.S) (A : Option Addr) (n c : Nat) (B : Option Addr) (m d : Nat) (hu : Is W A n c s.urged) (hb : Is W B m d s.busy) (x : Int) (hs : Scrubs.overE s x = 165 ∧ Scrubs.overS s x = s) : Calls Try.prog 10 #[sval s.cur s.queue (.slice A n c) (.slice B m d), .int .i64 x] W (GivesS s 165 A n B m W) := by
  have h := scOver_any W s A n c B m d x hu hb
  rewrite [hs.1, hs.2] at h
  exact h
theorem bad_right (W : World) (s : Scrubs.S) (A : Option Addr) (n c : Nat) (B : Option Addr) (m d : Nat) (hu : Is W A n c s.urged) (hb : Is W B m d s.busy) (hs : ¬ Scrubs.right s) : Calls Try.prog 11 #[sval s.cur s.queue (.slice A n c) (.slice B m d)] W fun e w' => e = .returned (.bool false) ∧ Ext W w' := by
  have h := scRight_any W s A n c B m d hu hb
  rewrite [decide_eq_false hs] at h
  exact h
theorem good_right (W : World) (s : Scrubs.S) (A : Option Addr) (n c : Nat) (B : Option Addr) (m d : Nat) (hu : Is W A n c s.urged) (hb : Is W B m d s.busy) (hs : Scrubs.right s) : Calls Try.prog 11 #[sval s.cur s.queue (.slice A n c) (.slice B m d)] W fun e w' => e = .returned (.bool true) ∧ Ext W w' := by
  have h := scRight_any W s A n c B m d hu hb
  rewrite [decide_eq_true hs] at h
  exact h
theorem known_urge (W : World) (s : Scrubs.S) (A : Option Addr) (n c : Nat) (B : Option Addr) (m d : Nat) (hu : Is W A n c s.urged) (hb : Is W B m d s.busy) (x er : Int) (s' : Scrubs.S) (hs : Scrubs.urgeE s x = er ∧ Scrubs.urgeS s x = s') : Calls Try.prog 8 #[sval s.cur s.queue (.slice A n c) (.slice B m d), .int .i64 x] W (GivesS s' er A n B m W) := by
  have h := scUrge_any W s A n c B m d x hu hb
  rewrite [hs.1, hs.2] at h
  exact h
theorem known_take (W : World) (s : Scrubs.S) (A : Option Addr) (n c : Nat) (B : Option Addr) (m d : Nat) (C : Option Addr) (q e : Nat) (l : List Int) (hu : Is W A n c s.urged) (hb : Is W B m d s.busy) (hl : Is W C q e l) (x er : Int) (s' : Scrubs.S) (h1 : Scrubs.takeE s l = er) (h2 : Scrubs.takeN s l = x) (h3 : Scrubs.takeS s l = s') : Calls Try.prog 9 #[sval s.cur s.queue (.slice A n c) (.slice B m d), .slice C q e] W (GivesN s' x er A n B m W) := by
  have h := scTake_any W s A n c B m d C q e l hu hb hl
  rewrite [h1, h2, h3] at h
  exact h
/-- Nothing urged, nothing mended. -/
theorem nu_urge (W : World) (x : Int) (h : x < 0 ∨ Scrubs.great < x) : Calls Try.prog 8 #[sval (-1) true (.slice none 0 0) (.slice none 0 0), .int .i64 x] W (GivesS ⟨-1, true, [], []⟩ 165 none 0 none 0 W) :=
  known_urge W ⟨-1, true, [], []⟩ none 0 0 none 0 0 (Is.none W) (Is.none W) x 165 _ (Scrubs.not_stripe h _)
theorem nu_take (W : World) (C : Option Addr) (q e : Nat) (l : List Int) (hl : Is W C q e l) (h : ¬ Il.rising 0 Scrubs.great l) : Calls Try.prog 9 #[sval (-1) true (.slice none 0 0) (.slice none 0 0), .slice C q e] W (GivesN ⟨-1, true, [], []⟩ 0 2 none 0 none 0 W) :=
  bad_take W ⟨-1, true, [], []⟩ none 0 0 none 0 0 C q e l (Is.none W) (Is.none W) hl 2 (Scrubs.not_strs Scrubs.new_right h)
theorem nu_idle (W : World) : Calls Try.prog 9 #[sval (-1) true (.slice none 0 0) (.slice none 0 0), .slice none 0 0] W (GivesN ⟨-1, true, [], []⟩ 0 166 none 0 none 0 W) :=
  bad_take W ⟨-1, true, [], []⟩ none 0 0 none 0 0 none 0 0 [] (Is.none W) (Is.none W) (Is.none W) 166 Scrubs.new_idle
theorem nu_over (W : World) : Calls Try.prog 10 #[sval (-1) true (.slice none 0 0) (.slice none 0 0), .int .i64 1] W (GivesS ⟨-1, true, [], []⟩ 165 none 0 none 0 W) :=
  bad_over W ⟨-1, true, [], []⟩ none 0 0 none 0 0 (Is.none W) (Is.none W) 1 (Scrubs.new_over 1)
theorem rise22 : ¬ Il.rising 0 Scrubs.great [2, 2] := by decide
theorem rise01 : ¬ Il.rising 0 Scrubs.great [-1] := by decide
/-- A table of nine scrubbings that are not right. -/
def Bad (w : World) (g : Nat) : Prop := ∀ i, i < 9 → ∃ (s : Scrubs.S) (A : Option Addr) (n c : Nat) (B : Option Addr) (m d : Nat), ¬ Scrubs.right s ∧ w.cell? ⟨g, i * 4, none⟩ = some (.int .i64 s.cur) ∧ w.cell? ⟨g, i * 4 + 1, none⟩ = some (.bool s.queue) ∧ w.cell? ⟨g, i * 4 + 2, none⟩ = some (.slice A n c) ∧ w.cell? ⟨g, i * 4 + 3, none⟩ = some (.slice B m d) ∧ Is w A n c s.urged ∧ Is w B m d s.busy
def table16 (h : Nat) : Array Value := #[.int .i64 (-2), .bool false, .slice none 0 0, .slice none 0 0, .int .i64 1099511627777, .bool false, .slice none 0 0, .slice none 0 0,
  .int .i64 0, .bool false, .slice (some ⟨h, 0, none⟩) 2 2, .slice none 0 0, .int .i64 0, .bool false, .slice (some ⟨h + 1, 0, none⟩) 1 1, .slice none 0 0, .int .i64 0, .bool false, .slice (some ⟨h + 1 + 1, 0, none⟩) 1 1, .slice none 0 0,
  .int .i64 0, .bool false, .slice none 0 0, .slice (some ⟨h + 1 + 1 + 1, 0, none⟩) 2 2, .int .i64 0, .bool false, .slice none 0 0, .slice (some ⟨h + 1 + 1 + 1 + 1, 0, none⟩) 2 2, .int .i64 0, .bool false, .slice none 0 0, .slice (some ⟨h + 1 + 1 + 1 + 1 + 1, 0, none⟩) 1 1,
  .int .i64 0, .bool false, .slice (some ⟨h + 1 + 1 + 1 + 1 + 1 + 1, 0, none⟩) 1001 1001, .slice none 0 0]
set_option maxRecDepth 100000 in
theorem bad_table (w W1 W2 W3 W4 W5 W6 W7 W8 : World) (h : Nat) (hh : w.heap.size = h) (e1 : w.alloc (.cells #[.int .i64 1, .int .i64 1] 3) = W1) (e2 : W1.alloc (.cells #[.int .i64 (-1)] 3) = W2) (e3 : W2.alloc (.cells #[.int .i64 1099511627777] 3) = W3)
    (e4 : W3.alloc (.cells #[.int .i64 2, .int .i64 1] 3) = W4) (e5 : W4.alloc (.cells #[.int .i64 1, .int .i64 1] 3) = W5) (e6 : W5.alloc (.cells #[.int .i64 (-1)] 3) = W6) (e7 : W6.alloc (.cells (made 1001 (.int .i64 0)) 3) = W7)
    (e8 : W7.alloc (.cells (table16 h) 24) = W8) : Bad W8 (h + 1 + 1 + 1 + 1 + 1 + 1 + 1) ∧ Ext w W8 := by
  have s1 : W1.heap.size = h + 1 := by rw [← e1]; simp [hh]
  have s2 : W2.heap.size = h + 1 + 1 := by rw [← e2]; simp [s1]
  have s3 : W3.heap.size = h + 1 + 1 + 1 := by rw [← e3]; simp [s2]
  have s4 : W4.heap.size = h + 1 + 1 + 1 + 1 := by rw [← e4]; simp [s3]
  have s5 : W5.heap.size = h + 1 + 1 + 1 + 1 + 1 := by rw [← e5]; simp [s4]
  have s6 : W6.heap.size = h + 1 + 1 + 1 + 1 + 1 + 1 := by rw [← e6]; simp [s5]
  have s7 : W7.heap.size = h + 1 + 1 + 1 + 1 + 1 + 1 + 1 := by rw [← e7]; simp [s6]
  have x1 : Ext w W1 := e1 ▸ Ext.alloc _ _
  have x8 : Ext W7 W8 := e8 ▸ Ext.alloc _ _
  have x7 : Ext W6 W8 := (e7 ▸ Ext.alloc _ _ : Ext W6 W7).trans x8
  have x6 : Ext W5 W8 := (e6 ▸ Ext.alloc _ _ : Ext W5 W6).trans x7
  have x5 : Ext W4 W8 := (e5 ▸ Ext.alloc _ _ : Ext W4 W5).trans x6
  have x4 : Ext W3 W8 := (e4 ▸ Ext.alloc _ _ : Ext W3 W4).trans x5
  have x3 : Ext W2 W8 := (e3 ▸ Ext.alloc _ _ : Ext W2 W3).trans x4
  have x2 : Ext W1 W8 := (e2 ▸ Ext.alloc _ _ : Ext W1 W2).trans x3
  have i1 : Is W8 (some ⟨h, 0, none⟩) 2 2 [1, 1] := (e1 ▸ Is.lit w h hh [1, 1] _ _ 2 rfl rfl (by omega) : Is W1 _ 2 2 [1, 1]).ext x2
  have i2 : Is W8 (some ⟨h + 1, 0, none⟩) 1 1 [-1] := (e2 ▸ Is.lit W1 _ s1 [-1] _ _ 1 rfl rfl (by omega) : Is W2 _ 1 1 [-1]).ext x3
  have i3 : Is W8 (some ⟨h + 1 + 1, 0, none⟩) 1 1 [1099511627777] := (e3 ▸ Is.lit W2 _ s2 [1099511627777] _ _ 1 rfl rfl (by omega) : Is W3 _ 1 1 [1099511627777]).ext x4
  have i4 : Is W8 (some ⟨h + 1 + 1 + 1, 0, none⟩) 2 2 [2, 1] := (e4 ▸ Is.lit W3 _ s3 [2, 1] _ _ 2 rfl rfl (by omega) : Is W4 _ 2 2 [2, 1]).ext x5
  have i5 : Is W8 (some ⟨h + 1 + 1 + 1 + 1, 0, none⟩) 2 2 [1, 1] := (e5 ▸ Is.lit W4 _ s4 [1, 1] _ _ 2 rfl rfl (by omega) : Is W5 _ 2 2 [1, 1]).ext x6
  have i6 : Is W8 (some ⟨h + 1 + 1 + 1 + 1 + 1, 0, none⟩) 1 1 [-1] := (e6 ▸ Is.lit W5 _ s5 [-1] _ _ 1 rfl rfl (by omega) : Is W6 _ 1 1 [-1]).ext x7
  have i7 : Is W8 (some ⟨h + 1 + 1 + 1 + 1 + 1 + 1, 0, none⟩) 1001 1001 (List.replicate 1001 0) := (e7 ▸ is_wide W6 s6 _ : Is W7 _ 1001 1001 (List.replicate 1001 0)).ext x8
  have i0 := Is.none W8
  have hc : ∀ j, W8.cell? ⟨h + 1 + 1 + 1 + 1 + 1 + 1 + 1, j, none⟩ = (table16 h)[j]? := fun j => by rw [← e8]; exact cell_lit16 W7 (table16 h) _ s7 j
  refine ⟨fun i hi => ?_, x1.trans x2⟩
  have hi' : i = 0 ∨ i = 1 ∨ i = 2 ∨ i = 3 ∨ i = 4 ∨ i = 5 ∨ i = 6 ∨ i = 7 ∨ i = 8 := by omega
  rcases hi' with rfl | rfl | rfl | rfl | rfl | rfl | rfl | rfl | rfl
  · exact ⟨⟨-2, false, [], []⟩, none, 0, 0, none, 0, 0, fun q => absurd (Scrubs.right_iff.1 q) (by decide), (hc 0).trans rfl, (hc 1).trans rfl, (hc 2).trans rfl, (hc 3).trans rfl, i0, i0⟩
  · exact ⟨⟨1099511627777, false, [], []⟩, none, 0, 0, none, 0, 0, fun q => absurd (Scrubs.right_iff.1 q) (by decide), (hc 4).trans rfl, (hc 5).trans rfl, (hc 6).trans rfl, (hc 7).trans rfl, i0, i0⟩
  · exact ⟨⟨0, false, [1, 1], []⟩, (some ⟨h, 0, none⟩), 2, 2, none, 0, 0, fun q => absurd (Scrubs.right_iff.1 q) (by decide), (hc 8).trans rfl, (hc 9).trans rfl, (hc 10).trans rfl, (hc 11).trans rfl, i1, i0⟩
  · exact ⟨⟨0, false, [-1], []⟩, (some ⟨h + 1, 0, none⟩), 1, 1, none, 0, 0, fun q => absurd (Scrubs.right_iff.1 q) (by decide), (hc 12).trans rfl, (hc 13).trans rfl, (hc 14).trans rfl, (hc 15).trans rfl, i2, i0⟩
  · exact ⟨⟨0, false, [1099511627777], []⟩, (some ⟨h + 1 + 1, 0, none⟩), 1, 1, none, 0, 0, fun q => absurd (Scrubs.right_iff.1 q) (by decide), (hc 16).trans rfl, (hc 17).trans rfl, (hc 18).trans rfl, (hc 19).trans rfl, i3, i0⟩
  · exact ⟨⟨0, false, [], [2, 1]⟩, none, 0, 0, (some ⟨h + 1 + 1 + 1, 0, none⟩), 2, 2, fun q => absurd (Scrubs.right_iff.1 q) (by decide), (hc 20).trans rfl, (hc 21).trans rfl, (hc 22).trans rfl, (hc 23).trans rfl, i0, i4⟩
  · exact ⟨⟨0, false, [], [1, 1]⟩, none, 0, 0, (some ⟨h + 1 + 1 + 1 + 1, 0, none⟩), 2, 2, fun q => absurd (Scrubs.right_iff.1 q) (by decide), (hc 24).trans rfl, (hc 25).trans rfl, (hc 26).trans rfl, (hc 27).trans rfl, i0, i5⟩
  · exact ⟨⟨0, false, [], [-1]⟩, none, 0, 0, (some ⟨h + 1 + 1 + 1 + 1 + 1, 0, none⟩), 1, 1, fun q => absurd (Scrubs.right_iff.1 q) (by decide), (hc 28).trans rfl, (hc 29).trans rfl, (hc 30).trans rfl, (hc 31).trans rfl, i0, i6⟩
  · exact ⟨⟨0, false, List.replicate 1001 0, []⟩, (some ⟨h + 1 + 1 + 1 + 1 + 1 + 1, 0, none⟩), 1001, 1001, none, 0, 0, fun q => by have := (Scrubs.right_iff.1 q).2.1; rw [List.length_replicate] at this; omega, (hc 32).trans rfl, (hc 33).trans rfl, (hc 34).trans rfl, (hc 35).trans rfl, i7, i0⟩
set_option maxRecDepth 100000 in
set_option maxHeartbeats 32000000 in
theorem scrubNumbers_any (w : World) : Calls Try.prog 3 #[] w fun e w' => e = .returned (.bool true) ∧ Ext w w' := by
  have hml := fun W => run_make_wide W
  obtain ⟨b0, hb0⟩ : ∃ b0, w.heap.size = b0 := ⟨_, rfl⟩
  have HB0 := Lib.hid hb0
  have hbt := fun W1 W2 W3 W4 W5 W6 W7 W8 => bad_table w W1 W2 W3 W4 W5 W6 W7 W8 b0 hb0
  unfold table16 at hbt
  have HBT := Lib.hid hbt
  clear hbt
  go_enter Try.func3, Try.ntmps3
  try dsimp only [List.append]
  go_upto_region 1 with (fail)
  go_cut [56, 57, 58] (fun s56 s57 s58 wx => ∃ wv : World, wv = wx ∧ ∃ g, s56 = .slice (some ⟨g, 0, none⟩) 9 9 ∧ s57 = .int .i64 9 ∧ s58 = .int .i64 0 ∧ RowKit.Hid (Bad wx g) ∧ RowKit.Hid (Ext w wx))
  case first =>
    go_wp2_with (fail)
    go_meet
    have hq := HBT.out _ _ _ _ _ _ _ _ rfl rfl rfl rfl rfl rfl rfl rfl
    exact ⟨_, rfl, _, rfl, rfl, rfl, Lib.hid hq.1, Lib.hid hq.2⟩
  case rest =>
  obtain ⟨w1, rfl, gt, rfl, rfl, rfl, HBD, HX1⟩ := hcut
  clear hb0 hml HBT
  go_upto_block 0 with (fail)
  go_cut [] (fun wx => ∃ wv : World, wv = wx ∧ RowKit.Hid (Ext w wx))
  case first =>
    as_aux_lemma =>
      go_wp2_with (fail)
      go_loopw [1, 2, 3, 4, 5, 6, 7, 8, 9, 58, 63, 68, 75] (fun _ _ _ _ _ _ _ _ _ s _ _ _ wr => ∃ i : Nat, i ≤ 9 ∧ s = .int .i64 (i : Int) ∧ RowKit.Hid (Ext w1 wr)) (fun _ _ _ _ _ _ _ _ _ s _ _ _ _ => 9 - (intOf s).toNat)
      case atStart => exact ⟨0, by omega, rfl, Lib.hid (Ext.refl _)⟩
      case round =>
        obtain ⟨i, hi, rfl, HXr⟩ := hrel
        by_cases hlt : i < 9
        · have r1 : (i : Int) < 9 := by omega
          obtain ⟨s, A, n, c, B, m, d, hbad, e0, e1, e2, e3, hu, hb⟩ := HBD.out i hlt
          have k0 := HXr.out.cell e0
          have k1 := HXr.out.cell e1
          have k2 := HXr.out.cell e2
          have k3 := HXr.out.cell e3
          have q7 := hu.max
          have q8 := hu.le
          have q9 := hb.max
          have q10 := hb.le
          have hba := Scrubs.bad_all hbad 1 [1]
          have HU := Lib.hid (fun (W : World) (hW : Ext w1 W) => bad_urge W s A n c B m d (hu.ext hW) (hb.ext hW) hbad)
          have HT := Lib.hid (fun (W : World) (hW : Ext w1 W) (C : Option Addr) (q e : Nat) (hl : Is W C q e [1]) => bad_take W s A n c B m d C q e [1] (hu.ext hW) (hb.ext hW) hl 165 hba.2.1)
          have HO := Lib.hid (fun (W : World) (hW : Ext w1 W) => bad_over W s A n c B m d (hu.ext hW) (hb.ext hW) 1 hba.2.2)
          have HR := Lib.hid (fun (W : World) (hW : Ext w1 W) => bad_right W s A n c B m d (hu.ext hW) (hb.ext hW) hbad)
          clear hbad e0 e1 e2 e3 hu hb hba
          obtain ⟨wo, rfl⟩ : ∃ wo : World, wo = wr := ⟨_, rfl⟩
          go_upto_region 3 with (fail)
          go_cut [1, 2] (fun s1 s2 wx => ∃ wv : World, wv = wx ∧ s1 = .int .i64 (i : Int) ∧ ∃ g2, s2 = .pointer (some ⟨g2, 0, none⟩) ∧ RowKit.Hid (Sb wx g2 s.cur s.queue (.slice A n c) (.slice B m d)) ∧ RowKit.Hid (Ext w1 wx))
          case first =>
            go_wp2_with (fail)
            go_meet
            exact ⟨_, rfl, rfl, _, rfl, Lib.hid (Sb.new _ _ _ _ _ rfl), Lib.hid (HXr.out.thenAlloc _)⟩
          case rest =>
            obtain ⟨w2, rfl, rfl, g2, rfl, HS2, HX2⟩ := hcut
            clear k0 k1 k2 k3
            have k0 := HS2.out.c0
            have k1 := HS2.out.c1
            have k2 := HS2.out.c2
            have k3 := HS2.out.c3
            go_upto_region 4 with (fail)
            go_cut [3, 4, 63] (fun _ s4 _ wx => ∃ wv : World, wv = wx ∧ s4 = .int .i64 165 ∧ RowKit.Hid (Ext w2 wx))
            case first =>
              go_wp2_with (fail)
              refine (HU.out _ HX2.out).mono ?_
              intro e w3 hn
              obtain ⟨A2, n2, c2, B2, m2, d2, rfl, _, _, x2, _, _⟩ := hn
              go_wp2_with (fail)
              go_meet
              exact ⟨_, rfl, rfl, Lib.hid ((x2.thenAlloc _))⟩
            case rest =>
              obtain ⟨w3, rfl, rfl, HX3⟩ := hcut
              clear k0 k1 k2 k3
              have HS3 := Lib.hid (HS2.out.ext HX3.out)
              have HX4 := Lib.hid (HX2.out.trans HX3.out)
              clear HS2 HX2 HX3
              obtain ⟨w2, rfl⟩ : ∃ w2 : World, w2 = w3 := ⟨_, rfl⟩
              have HS2 := HS3
              have HX2 := HX4
              clear HS3 HX4
              have k0 := HS2.out.c0
              have k1 := HS2.out.c1
              have k2 := HS2.out.c2
              have k3 := HS2.out.c3
              go_upto_region 5 with (fail)
              go_cut [5, 6, 7, 68] (fun _ _ s7 _ wx => ∃ wv : World, wv = wx ∧ s7 = .int .i64 165 ∧ RowKit.Hid (Ext w2 wx))
              case first =>
                go_wp2_with (fail)
                refine (HT.out _ (HX2.out.thenAlloc _) _ _ _ (Is.lit w2 _ rfl [1] _ _ 1 rfl rfl (by omega))).mono ?_
                intro e w3 hn
                obtain ⟨A2, n2, c2, B2, m2, d2, rfl, _, _, x2, _, _⟩ := hn
                go_wp2_with (fail)
                go_meet
                exact ⟨_, rfl, rfl, Lib.hid (((Ext.alloc _ _).trans x2).thenAlloc _)⟩
              case rest =>
                obtain ⟨w3, rfl, rfl, HX3⟩ := hcut
                clear k0 k1 k2 k3
                have HS3 := Lib.hid (HS2.out.ext HX3.out)
                have HX4 := Lib.hid (HX2.out.trans HX3.out)
                clear HS2 HX2 HX3
                obtain ⟨w2, rfl⟩ : ∃ w2 : World, w2 = w3 := ⟨_, rfl⟩
                have HS2 := HS3
                have HX2 := HX4
                clear HS3 HX4
                have k0 := HS2.out.c0
                have k1 := HS2.out.c1
                have k2 := HS2.out.c2
                have k3 := HS2.out.c3
                go_upto_region 6 with (fail)
                go_cut [8, 9, 75] (fun _ s9 _ wx => ∃ wv : World, wv = wx ∧ s9 = .int .i64 165 ∧ RowKit.Hid (Ext w2 wx))
                case first =>
                  go_wp2_with (fail)
                  refine (HO.out _ HX2.out).mono ?_
                  intro e w3 hn
                  obtain ⟨A2, n2, c2, B2, m2, d2, rfl, _, _, x2, _, _⟩ := hn
                  go_wp2_with (fail)
                  go_meet
                  exact ⟨_, rfl, rfl, Lib.hid ((x2.thenAlloc _))⟩
                case rest =>
                  obtain ⟨w3, rfl, rfl, HX3⟩ := hcut
                  clear k0 k1 k2 k3
                  have HS3 := Lib.hid (HS2.out.ext HX3.out)
                  have HX4 := Lib.hid (HX2.out.trans HX3.out)
                  clear HS2 HX2 HX3
                  obtain ⟨w2, rfl⟩ : ∃ w2 : World, w2 = w3 := ⟨_, rfl⟩
                  have HS2 := HS3
                  have HX2 := HX4
                  clear HS3 HX4
                  have k0 := HS2.out.c0
                  have k1 := HS2.out.c1
                  have k2 := HS2.out.c2
                  have k3 := HS2.out.c3
                  go_wp2_with (fail)
                  refine (HR.out _ HX2.out).mono ?_
                  rintro e w5 ⟨rfl, x5⟩
                  have X5 := Lib.hid (HX2.out.trans x5)
                  clear x5
                  go_wp2_with (fail)
                  exact ⟨⟨i + 1, by omega, by go_num, X5⟩, by simp [intOf]; omega⟩
        · have r1 : ¬ (i : Int) < 9 := by omega
          go_wp2_with (fail)
          go_meet
          exact ⟨_, rfl, Lib.hid (HX1.out.trans HXr.out)⟩
  case rest =>
  obtain ⟨w2, rfl, HX2⟩ := hcut
  clear HBD HX1
  go_upto_region 10 with (fail)
  go_cut [10] (fun s wx => ∃ wv : World, wv = wx ∧ ∃ g, s = .pointer (some ⟨g, 0, none⟩) ∧ RowKit.Hid (Sb wx g (-1) true (.slice none 0 0) (.slice none 0 0)) ∧ RowKit.Hid (b0 ≤ g) ∧ RowKit.Hid (Ext w wx))
  case first =>
    as_aux_lemma =>
      go_wp2_with (fail)
      refine (scNew_any _).mono ?_
      rintro e w3 ⟨rfl, x3⟩
      go_wp2_with (fail)
      go_meet
      exact ⟨_, rfl, _, rfl, Lib.hid (Sb.new _ _ _ _ _ rfl), Lib.hid (by have := x3.size; have := HX2.out.size; have := HB0.out; omega), Lib.hid ((HX2.out.trans x3).thenAlloc _)⟩
  case rest =>
  obtain ⟨w3, rfl, g, rfl, HS3, HG, HX3⟩ := hcut
  clear HX2
  have k0 := HS3.out.c0
  have k1 := HS3.out.c1
  have k2 := HS3.out.c2
  have k3 := HS3.out.c3
  go_upto_region 11 with (fail)
  go_cut [11, 12, 98] (fun _ s12 _ wx => ∃ wv : World, wv = wx ∧ s12 = .int .i64 165 ∧ RowKit.Hid (Ext w3 wx))
  case first =>
    as_aux_lemma =>
      skip
      go_wp2_with (fail)
      refine (nu_urge _ _ (by decide)).mono ?_
      intro e w4 hn
      obtain ⟨A2, n2, c2, B2, m2, d2, rfl, _, _, x2, _, _⟩ := hn
      go_wp2_with (fail)
      go_meet
      exact ⟨_, rfl, rfl, Lib.hid (x2.thenAlloc _)⟩
  case rest =>
  obtain ⟨w4, rfl, rfl, HX4⟩ := hcut
  clear k0 k1 k2 k3
  have HS4 := Lib.hid (HS3.out.ext HX4.out)
  have HX5 := Lib.hid (HX3.out.trans HX4.out)
  clear HS3 HX3 HX4
  obtain ⟨w3, rfl⟩ : ∃ w3 : World, w3 = w4 := ⟨_, rfl⟩
  have HS3 := HS4
  have HX3 := HX5
  clear HS4 HX5
  have k0 := HS3.out.c0
  have k1 := HS3.out.c1
  have k2 := HS3.out.c2
  have k3 := HS3.out.c3
  go_upto_region 12 with (fail)
  go_cut [13, 14, 103] (fun _ s14 _ wx => ∃ wv : World, wv = wx ∧ s14 = .int .i64 165 ∧ RowKit.Hid (Ext w3 wx))
  case first =>
    as_aux_lemma =>
      skip
      go_wp2_with (fail)
      refine (nu_urge _ _ (by decide)).mono ?_
      intro e w4 hn
      obtain ⟨A2, n2, c2, B2, m2, d2, rfl, _, _, x2, _, _⟩ := hn
      go_wp2_with (fail)
      go_meet
      exact ⟨_, rfl, rfl, Lib.hid (x2.thenAlloc _)⟩
  case rest =>
  obtain ⟨w4, rfl, rfl, HX4⟩ := hcut
  clear k0 k1 k2 k3
  have HS4 := Lib.hid (HS3.out.ext HX4.out)
  have HX5 := Lib.hid (HX3.out.trans HX4.out)
  clear HS3 HX3 HX4
  obtain ⟨w3, rfl⟩ : ∃ w3 : World, w3 = w4 := ⟨_, rfl⟩
  have HS3 := HS4
  have HX3 := HX5
  clear HS4 HX5
  have k0 := HS3.out.c0
  have k1 := HS3.out.c1
  have k2 := HS3.out.c2
  have k3 := HS3.out.c3
  go_upto_region 13 with (fail)
  go_cut [15, 16, 17, 108] (fun _ _ s17 _ wx => ∃ wv : World, wv = wx ∧ s17 = .int .i64 2 ∧ RowKit.Hid (Ext w3 wx))
  case first =>
    as_aux_lemma =>
      skip
      go_wp2_with (fail)
      refine (nu_take _ _ _ _ [2, 2] (Is.lit w3 _ rfl [2, 2] _ _ 2 rfl rfl (by omega)) rise22).mono ?_
      intro e w4 hn
      obtain ⟨A2, n2, c2, B2, m2, d2, rfl, _, _, x2, _, _⟩ := hn
      go_wp2_with (fail)
      go_meet
      exact ⟨_, rfl, rfl, Lib.hid (((Ext.alloc _ _).trans x2).thenAlloc _)⟩
  case rest =>
  obtain ⟨w4, rfl, rfl, HX4⟩ := hcut
  clear k0 k1 k2 k3
  have HS4 := Lib.hid (HS3.out.ext HX4.out)
  have HX5 := Lib.hid (HX3.out.trans HX4.out)
  clear HS3 HX3 HX4
  obtain ⟨w3, rfl⟩ : ∃ w3 : World, w3 = w4 := ⟨_, rfl⟩
  have HS3 := HS4
  have HX3 := HX5
  clear HS4 HX5
  have k0 := HS3.out.c0
  have k1 := HS3.out.c1
  have k2 := HS3.out.c2
  have k3 := HS3.out.c3
  go_upto_region 14 with (fail)
  go_cut [18, 19, 20, 115] (fun _ _ s20 _ wx => ∃ wv : World, wv = wx ∧ s20 = .int .i64 2 ∧ RowKit.Hid (Ext w3 wx))
  case first =>
    as_aux_lemma =>
      skip
      go_wp2_with (fail)
      refine (nu_take _ _ _ _ [-1] (Is.lit w3 _ rfl [-1] _ _ 1 rfl rfl (by omega)) rise01).mono ?_
      intro e w4 hn
      obtain ⟨A2, n2, c2, B2, m2, d2, rfl, _, _, x2, _, _⟩ := hn
      go_wp2_with (fail)
      go_meet
      exact ⟨_, rfl, rfl, Lib.hid (((Ext.alloc _ _).trans x2).thenAlloc _)⟩
  case rest =>
  obtain ⟨w4, rfl, rfl, HX4⟩ := hcut
  clear k0 k1 k2 k3
  have HS4 := Lib.hid (HS3.out.ext HX4.out)
  have HX5 := Lib.hid (HX3.out.trans HX4.out)
  clear HS3 HX3 HX4
  obtain ⟨w3, rfl⟩ : ∃ w3 : World, w3 = w4 := ⟨_, rfl⟩
  have HS3 := HS4
  have HX3 := HX5
  clear HS4 HX5
  have k0 := HS3.out.c0
  have k1 := HS3.out.c1
  have k2 := HS3.out.c2
  have k3 := HS3.out.c3
  go_upto_region 15 with (fail)
  go_cut [21, 22, 23, 122] (fun _ _ s23 _ wx => ∃ wv : World, wv = wx ∧ s23 = .int .i64 166 ∧ RowKit.Hid (Ext w3 wx))
  case first =>
    as_aux_lemma =>
      skip
      go_wp2_with (fail)
      refine (nu_idle _).mono ?_
      intro e w4 hn
      obtain ⟨A2, n2, c2, B2, m2, d2, rfl, _, _, x2, _, _⟩ := hn
      go_wp2_with (fail)
      go_meet
      exact ⟨_, rfl, rfl, Lib.hid (x2.thenAlloc _)⟩
  case rest =>
  obtain ⟨w4, rfl, rfl, HX4⟩ := hcut
  clear k0 k1 k2 k3
  have HS4 := Lib.hid (HS3.out.ext HX4.out)
  have HX5 := Lib.hid (HX3.out.trans HX4.out)
  clear HS3 HX3 HX4
  obtain ⟨w3, rfl⟩ : ∃ w3 : World, w3 = w4 := ⟨_, rfl⟩
  have HS3 := HS4
  have HX3 := HX5
  clear HS4 HX5
  have k0 := HS3.out.c0
  have k1 := HS3.out.c1
  have k2 := HS3.out.c2
  have k3 := HS3.out.c3
  go_upto_region 16 with (fail)
  go_cut [24, 25, 128] (fun _ s25 _ wx => ∃ wv : World, wv = wx ∧ s25 = .int .i64 165 ∧ RowKit.Hid (Ext w3 wx))
  case first =>
    as_aux_lemma =>
      skip
      go_wp2_with (fail)
      refine (nu_over _).mono ?_
      intro e w4 hn
      obtain ⟨A2, n2, c2, B2, m2, d2, rfl, _, _, x2, _, _⟩ := hn
      go_wp2_with (fail)
      go_meet
      exact ⟨_, rfl, rfl, Lib.hid (x2.thenAlloc _)⟩
  case rest =>
  obtain ⟨w4, rfl, rfl, HX4⟩ := hcut
  clear k0 k1 k2 k3
  have HS4 := Lib.hid (HS3.out.ext HX4.out)
  have HX5 := Lib.hid (HX3.out.trans HX4.out)
  clear HS3 HX3 HX4
  obtain ⟨w3, rfl⟩ : ∃ w3 : World, w3 = w4 := ⟨_, rfl⟩
  have HS3 := HS4
  have HX3 := HX5
  clear HS4 HX5
  go_upto_block 2 with (fail)
  go_cut [] (fun wx => ∃ wv : World, wv = wx ∧ ∃ N : Nat, RowKit.Hid (N = 1000) ∧ RowKit.Hid (Hs b0 wx g ⟨-1, true, Scrubs.urg N, []⟩) ∧ RowKit.Hid (Ext w wx))
  case first =>
    as_aux_lemma =>
      go_wp2_with (fail)
      go_loopw [26, 27, 28, 137] (fun s _ _ _ wr => ∃ i : Nat, i ≤ 1000 ∧ s = .int .i64 (i : Int) ∧ RowKit.Hid (Hs b0 wr g ⟨-1, true, Scrubs.urg i, []⟩) ∧ RowKit.Hid (Ext w wr)) (fun s _ _ _ _ => 1000 - (intOf s).toNat)
      case atStart => exact ⟨0, by omega, rfl, Lib.hid ⟨none, 0, 0, none, 0, 0, HS3.out, Ls.none b0 w3 (-1) true⟩, HX3⟩
      case round =>
        obtain ⟨i, hi, rfl, HH, HXr⟩ := hrel
        by_cases hlt : i < 1000
        · have r1 : (i : Int) < 1000 := by omega
          obtain ⟨wo, rfl⟩ : ∃ wo : World, wo = wr := ⟨_, rfl⟩
          obtain ⟨A, n, c, B, m, d, sb, ls⟩ := HH.out
          have k0 := sb.c0
          have k1 := sb.c1
          have k2 := sb.c2
          have k3 := sb.c3
          have q7 := ls.u.max
          have q8 := ls.u.le
          have q9 := ls.b.max
          have q10 := ls.b.le
          have SB := Lib.hid sb
          have LS := Lib.hid ls
          clear sb ls
          have HU := Lib.hid (known_urge wo ⟨-1, true, Scrubs.urg i, []⟩ A n c B m d LS.out.u LS.out.b (1099511627776 - (i : Int)) 0 ⟨-1, true, Scrubs.urg (i + 1), []⟩ (Scrubs.urg_step hlt))
          obtain ⟨U, hU⟩ : ∃ U, Scrubs.urg (i + 1) = U := ⟨_, rfl⟩
          have HUU := Lib.hid hU
          rw [hU] at HU
          clear hU
          go_upto_region 20 with (fail)
          go_cut [27, 28, 137] (fun s27 s28 _ wx => ∃ wv : World, wv = wx ∧ ∃ g9, s27 = .pointer (some ⟨g9, 0, none⟩) ∧ s28 = .int .i64 0 ∧ RowKit.Hid (Hs b0 wx g9 ⟨-1, true, U, []⟩) ∧ RowKit.Hid (Ext wo wx))
          case first =>
            go_wp2_with (fail)
            refine HU.out.mono ?_
            intro e w6 hn
            obtain ⟨A2, n2, c2, B2, m2, d2, rfl, ls2, x2⟩ := hn.ls (b0 := b0) LS.out.lu LS.out.lb
            have LS2 := Lib.hid ls2
            have X2 := Lib.hid x2
            clear hn ls2 x2
            go_wp2_with (fail)
            go_meet
            exact ⟨_, rfl, _, rfl, rfl, Lib.hid ⟨A2, n2, c2, B2, m2, d2, Sb.new _ _ _ _ _ rfl, LS2.out.ext (Ext.alloc _ _)⟩, Lib.hid (X2.out.thenAlloc _)⟩
          case rest =>
            obtain ⟨w6, rfl, g9, rfl, rfl, HS6, HX6⟩ := hcut
            clear k0 k1 k2 k3
            obtain ⟨A', n', c', B', m', d', sb9, ls9⟩ := HS6.out
            have j0 := sb9.c0
            have j1 := sb9.c1
            have j2 := sb9.c2
            have j3 := sb9.c3
            have q11 := ls9.u.max
            have q12 := ls9.u.le
            have q13 := ls9.b.max
            have q14 := ls9.b.le
            have s8 := SB.out.ext HX6.out
            have i0 := s8.c0
            have i1 := s8.c1
            have i2 := s8.c2
            have i3 := s8.c3
            have i4 := s8.fz
            have S8 := Lib.hid s8
            have LS9 := Lib.hid ls9
            clear s8 sb9 ls9
            go_wp2_with (fail)
            exact ⟨⟨i + 1, by omega, by go_num, Lib.hid (by rw [HUU.out]; exact ⟨A', n', c', B', m', d', S8.out.whole _ _ _ _, LS9.out.put S8.out HG.out _ _ _ _⟩), Lib.hid ((HXr.out.trans HX6.out).four (by have := HG.out; have := HB0.out; omega) _ _ _ _)⟩, by simp [intOf]; omega⟩
        · have r1 : ¬ (i : Int) < 1000 := by omega
          have h1000 := Lib.hid (show i = 1000 by omega)
          go_wp2_with (fail)
          go_meet
          exact ⟨_, rfl, i, h1000, HH, HXr⟩
  case rest =>
  obtain ⟨w5, rfl, N, HN, HS5, HX5⟩ := hcut
  clear HS3 HX3
  obtain ⟨A, n, c, B, m, d, sb, ls⟩ := HS5.out
  have k0 := sb.c0
  have k1 := sb.c1
  have k2 := sb.c2
  have k3 := sb.c3
  have q7 := ls.u.max
  have q8 := ls.u.le
  have q9 := ls.b.max
  have q10 := ls.b.le
  have SB := Lib.hid sb
  have LS := Lib.hid ls
  clear sb ls
  have HFU := Lib.hid (known_urge w5 ⟨-1, true, Scrubs.urg N, []⟩ A n c B m d LS.out.u LS.out.b 5 5 ⟨-1, true, Scrubs.urg N, []⟩ (Scrubs.urg_full HN.out))
  have HLN := Lib.hid (show n = 1000 by have := LS.out.u.len; rw [show (⟨-1, true, Scrubs.urg N, []⟩ : Scrubs.S).urged = Scrubs.urg N from rfl, Scrubs.urg_length, HN.out] at this; omega)
  go_upto_region 24 with (fail)
  go_cut [29, 30, 147] (fun _ s30 _ wx => ∃ wv : World, wv = wx ∧ s30 = .int .i64 5 ∧ RowKit.Hid (Ext w5 wx))
  case first =>
    as_aux_lemma =>
      go_wp2_with (fail)
      refine HFU.out.mono ?_
      intro e w6 hn
      obtain ⟨A2, n2, c2, B2, m2, d2, rfl, _, _, x2, _, _⟩ := hn
      go_wp2_with (fail)
      go_meet
      exact ⟨_, rfl, rfl, Lib.hid (x2.thenAlloc _)⟩
  case rest =>
  obtain ⟨w6, rfl, rfl, HX6⟩ := hcut
  have HTH := Lib.hid (known_urge w6 ⟨-1, true, Scrubs.urg N, []⟩ A n c B m d (LS.out.u.ext HX6.out) (LS.out.b.ext HX6.out) 1099511627776 0 ⟨-1, true, Scrubs.urg N, []⟩ (Scrubs.urg_there HN.out))
  clear k0 k1 k2 k3
  have SB6 := Lib.hid (SB.out.ext HX6.out)
  have k0 := SB6.out.c0
  have k1 := SB6.out.c1
  have k2 := SB6.out.c2
  have k3 := SB6.out.c3
  go_upto_region 25 with (fail)
  go_cut [31, 32, 152] (fun s31 s32 _ wx => ∃ wv : World, wv = wx ∧ ∃ g31, s31 = .pointer (some ⟨g31, 0, none⟩) ∧ s32 = .int .i64 0 ∧ RowKit.Hid (∃ C e V, e ≤ 9223372036854775807 ∧ 1000 ≤ e ∧ Sb wx g31 (-1) true (.slice C 1000 e) V) ∧ RowKit.Hid (w5.heap.size ≤ g31) ∧ RowKit.Hid (Ext w5 wx))
  case first =>
    as_aux_lemma =>
      go_wp2_with (fail)
      refine HTH.out.mono ?_
      intro e w7 hn
      obtain ⟨A2, n2, c2, B2, m2, d2, rfl, hu2, _, x2, _, _⟩ := hn
      have hn2 : n2 = 1000 := by have := hu2.len; rw [show (⟨-1, true, Scrubs.urg N, []⟩ : Scrubs.S).urged = Scrubs.urg N from rfl, Scrubs.urg_length, HN.out] at this; omega
      subst hn2
      have q11 := hu2.max
      have q12 := hu2.le
      go_wp2_with (fail)
      go_meet
      exact ⟨_, rfl, _, rfl, rfl, Lib.hid ⟨A2, c2, _, q11, q12, Sb.new _ _ _ _ _ rfl⟩, Lib.hid ((HX6.out.trans x2).size), Lib.hid ((HX6.out.trans x2).thenAlloc _)⟩
  case rest =>
  obtain ⟨w7, rfl, g31, rfl, rfl, HS31, HG5, HX7⟩ := hcut
  have HS7 := Lib.hid (HS5.out.ext HX7.out)
  have HX8 := Lib.hid (HX5.out.trans HX7.out)
  have HG31 := Lib.hid (show g31 < w7.heap.size by obtain ⟨C, e, V, _, _, h⟩ := HS31.out; exact h.lt)
  have HGN := Lib.hid (show g31 ≠ g by have := HG5.out; have := SB.out.lt; omega)
  clear k0 k1 k2 k3 SB SB6 LS HS5 HX5 HFU HTH HX6 HLN
  go_upto_block 4 with (fail)
  go_cut [] (fun wx => ∃ wv : World, wv = wx ∧ ∃ s : Scrubs.S, RowKit.Hid (Scrubs.Tk N N s) ∧ RowKit.Hid (Hs b0 wx g s) ∧ RowKit.Hid (∃ C e V, e ≤ 9223372036854775807 ∧ 1000 ≤ e ∧ Sb wx g31 (-1) true (.slice C 1000 e) V) ∧ RowKit.Hid (Ext w wx))
  case first =>
    as_aux_lemma =>
      go_wp2_with (fail)
      go_loopw [33, 34, 35, 36, 161] (fun s33 _ _ _ _ wr => ∃ (i : Nat) (s : Scrubs.S), i ≤ 1000 ∧ s33 = .int .i64 (i : Int) ∧ RowKit.Hid (Hs b0 wr g s) ∧ RowKit.Hid (Scrubs.Tk N i s) ∧ RowKit.Hid (∃ C e V, e ≤ 9223372036854775807 ∧ 1000 ≤ e ∧ Sb wr g31 (-1) true (.slice C 1000 e) V) ∧ RowKit.Hid (Ext w wr)) (fun s _ _ _ _ _ => 1000 - (intOf s).toNat)
      case atStart => exact ⟨0, _, by omega, rfl, HS7, Lib.hid (Scrubs.Tk.start HN.out), HS31, HX8⟩
      case round =>
        obtain ⟨i, s, hi, rfl, HH, HTK, HQ, HXr⟩ := hrel
        by_cases hlt : i < 1000
        · have r1 : (i : Int) < 1000 := by omega
          obtain ⟨wo, rfl⟩ : ∃ wo : World, wo = wr := ⟨_, rfl⟩
          obtain ⟨A, n, c, B, m, d, sb, ls⟩ := HH.out
          have k0 := sb.c0
          have k1 := sb.c1
          have k2 := sb.c2
          have k3 := sb.c3
          have q7 := ls.u.max
          have q8 := ls.u.le
          have q9 := ls.b.max
          have q10 := ls.b.le
          have SB := Lib.hid sb
          have LS := Lib.hid ls
          clear sb ls
          have hst := HTK.out.step (by rw [HN.out]; exact hlt)
          obtain ⟨S', hS'⟩ : ∃ S', Scrubs.takeS s [] = S' := ⟨_, rfl⟩
          have HT := Lib.hid (known_take wo s A n c B m d none 0 0 [] LS.out.u LS.out.b (Is.none _) (1099511627776 - (i : Int)) 0 S' hst.1 hst.2.1 hS')
          have HTK2 := Lib.hid (show Scrubs.Tk N (i + 1) S' by rewrite [← hS']; exact hst.2.2)
          clear hst hS'
          go_upto_region 29 with (fail)
          go_cut [34, 35, 36, 161] (fun s34 s35 s36 _ wx => ∃ wv : World, wv = wx ∧ ∃ g9, s34 = .pointer (some ⟨g9, 0, none⟩) ∧ s35 = .int .i64 (1099511627776 - (i : Int)) ∧ s36 = .int .i64 0 ∧ RowKit.Hid (Hs b0 wx g9 S') ∧ RowKit.Hid (Ext wo wx))
          case first =>
            go_wp2_with (fail)
            refine HT.out.mono ?_
            intro e w6 hn
            obtain ⟨A2, n2, c2, B2, m2, d2, rfl, ls2, x2⟩ := hn.ls (b0 := b0) LS.out.lu LS.out.lb
            have LS2 := Lib.hid ls2
            have X2 := Lib.hid x2
            clear hn ls2 x2
            go_wp2_with (fail)
            go_meet
            exact ⟨_, rfl, _, rfl, rfl, rfl, Lib.hid ⟨A2, n2, c2, B2, m2, d2, Sb.new _ _ _ _ _ rfl, LS2.out.ext (Ext.alloc _ _)⟩, Lib.hid (X2.out.thenAlloc _)⟩
          case rest =>
            obtain ⟨w6, rfl, g9, rfl, rfl, rfl, HS6, HX6⟩ := hcut
            clear k0 k1 k2 k3
            obtain ⟨A', n', c', B', m', d', sb9, ls9⟩ := HS6.out
            have j0 := sb9.c0
            have j1 := sb9.c1
            have j2 := sb9.c2
            have j3 := sb9.c3
            have q11 := ls9.u.max
            have q12 := ls9.u.le
            have q13 := ls9.b.max
            have q14 := ls9.b.le
            have s8 := SB.out.ext HX6.out
            have i0 := s8.c0
            have i1 := s8.c1
            have i2 := s8.c2
            have i3 := s8.c3
            have i4 := s8.fz
            have S8 := Lib.hid s8
            have LS9 := Lib.hid ls9
            have HQ6 := Lib.hid (show ∃ C e V, e ≤ 9223372036854775807 ∧ 1000 ≤ e ∧ Sb w6 g31 (-1) true (.slice C 1000 e) V by
              obtain ⟨C, e, V, h1, h2, h3⟩ := HQ.out
              exact ⟨C, e, V, h1, h2, h3.ext HX6.out⟩)
            clear s8 sb9 ls9
            have e9 : ((1099511627776 - (i : Int)) != (1099511627776 - (i : Int))) = false := by simp
            go_wp2_with (fail)
            exact ⟨⟨i + 1, S', by omega, by go_num, Lib.hid ⟨A', n', c', B', m', d', S8.out.whole _ _ _ _, LS9.out.put S8.out HG.out _ _ _ _⟩, HTK2, Lib.hid (by
              obtain ⟨C, e, V, h1, h2, h3⟩ := HQ6.out
              exact ⟨C, e, V, h1, h2, h3.put HGN.out _ _ _ _⟩), Lib.hid ((HXr.out.trans HX6.out).four (by have := HG.out; have := HB0.out; omega) _ _ _ _)⟩, by simp [intOf]; omega⟩
        · have r1 : ¬ (i : Int) < 1000 := by omega
          have hiN : i = N := by have := HN.out; omega
          subst hiN
          go_wp2_with (fail)
          go_meet
          exact ⟨_, rfl, s, HTK, HH, HQ, HXr⟩
  case rest =>
  obtain ⟨w8, rfl, s, HTK, HS8, HQ, HX9⟩ := hcut
  clear HS31 HS7 HX8 HX7 HG31
  obtain ⟨A, n, c, B, m, d, sb, ls⟩ := HS8.out
  have k0 := sb.c0
  have k1 := sb.c1
  have k2 := sb.c2
  have k3 := sb.c3
  have q7 := ls.u.max
  have q8 := ls.u.le
  have q9 := ls.b.max
  have q10 := ls.b.le
  have SB := Lib.hid sb
  have LS := Lib.hid ls
  clear sb ls
  have HFT := Lib.hid (fun (W : World) (hW : Ext w8 W) (C : Option Addr) (q e : Nat) (hl : Is W C q e [1]) => bad_take W s A n c B m d C q e [1] (LS.out.u.ext hW) (LS.out.b.ext hW) hl 5 HTK.out.full)
  go_upto_region 33 with (fail)
  go_cut [37, 38, 39, 176] (fun _ _ s39 _ wx => ∃ wv : World, wv = wx ∧ s39 = .int .i64 5 ∧ RowKit.Hid (Ext w8 wx))
  case first =>
    as_aux_lemma =>
      go_wp2_with (fail)
      refine (HFT.out _ (Ext.alloc _ _) _ _ _ (Is.lit w8 _ rfl [1] _ _ 1 rfl rfl (by omega))).mono ?_
      intro e w9 hn
      obtain ⟨A2, n2, c2, B2, m2, d2, rfl, _, _, x2, _, _⟩ := hn
      go_wp2_with (fail)
      go_meet
      exact ⟨_, rfl, rfl, Lib.hid (((Ext.alloc _ _).trans x2).thenAlloc _)⟩
  case rest =>
  obtain ⟨w9, rfl, rfl, HX10⟩ := hcut
  clear k0 k1 k2 k3
  have HR := Lib.hid (good_right w9 s A n c B m d (LS.out.u.ext HX10.out) (LS.out.b.ext HX10.out) HTK.out.r)
  have SB9 := Lib.hid (SB.out.ext HX10.out)
  have k0 := SB9.out.c0
  have k1 := SB9.out.c1
  have k2 := SB9.out.c2
  have k3 := SB9.out.c3
  go_wp2_with (fail)
  refine HR.out.mono ?_
  rintro e w10 ⟨rfl, x10⟩
  obtain ⟨C, e, V, qa, qb, sb31⟩ := HQ.out
  have u2 := (sb31.ext (HX10.out.trans x10)).c2
  have X10 := Lib.hid ((HX9.out.trans HX10.out).trans x10)
  clear sb31 x10 k0 k1 k2 k3
  go_wp2_with (fail)
  refine (awake_any16 _).mono ?_
  rintro e w11 ⟨rfl, x11⟩
  go_wp2_with (fail)
  go_ret
  exact ⟨rfl, X10.out.trans x11⟩
namespace scrubNumbers
theorem walk (w : World) : Calls Try.prog 3 #[] w fun e w' => e = .returned (.bool true) ∧ Ext w w' := scrubNumbers_any w
end scrubNumbers
end Go.Proofs.Ytkclimblcipmlaa
