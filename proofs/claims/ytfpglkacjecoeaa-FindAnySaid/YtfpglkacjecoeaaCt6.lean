/- Several texts in one: Slices of slices of bytes: how they read, and how they are written. No statement of the seat is proved here. A find in its box of seven cells; the contracts of find.named, of and fits. -/
import Derived.Test.YtfpglkacjecoeaaCt4
import Derived.Test.YtfpglkacjecoeaaCt5
import Derived.Test.YtfpglkacjecoeaaCt3
import Derived.Laws.ResultCell
namespace Go.Proofs.Ytfpglkacjecoeaa
open Go.RowKit

/-- Cells that are slices, each of which reads as a row. -/
structure Rows (w : World) (cs : List Value) (m : Gm.L) : Prop where
  len : cs.length = m.length
  at_ : ∀ i, i < m.length → ∃ A n c, cs[i]? = some (.slice A n c) ∧ Bs w A n c (Gm.row m i)
theorem Rows.ext {w w' : World} {cs : List Value} {m : Gm.L} (h : Rows w cs m) (hx : Ext w w') : Rows w' cs m :=
  ⟨h.len, fun i hi => by obtain ⟨A, n, c, e, hb⟩ := h.at_ i hi; exact ⟨A, n, c, e, hb.ext hx⟩⟩
theorem Rows.nil (w : World) : Rows w [] [] := ⟨rfl, fun _ h => absurd h (Nat.not_lt_zero _)⟩
theorem row_append_last (m : Gm.L) (r : List UInt8) : Gm.row (m ++ [r]) m.length = r := by simp [Gm.row]
theorem row_append_lt {m : Gm.L} {i : Nat} (r : List UInt8) (h : i < m.length) : Gm.row (m ++ [r]) i = Gm.row m i := by simp [Gm.row, List.getD_eq_getElem?_getD, List.getElem?_append_left h]
theorem Rows.snoc {w : World} {cs : List Value} {m : Gm.L} (h : Rows w cs m) {A : Option Addr} {n c : Nat} {r : List UInt8} (hb : Bs w A n c r) : Rows w (cs ++ [.slice A n c]) (m ++ [r]) := by
  refine ⟨by simp [h.len], fun i hi => ?_⟩
  rw [List.length_append] at hi
  by_cases e : i < m.length
  · obtain ⟨A', n', c', e', hb'⟩ := h.at_ i e
    refine ⟨A', n', c', ?_, by rw [row_append_lt _ e]; exact hb'⟩
    rw [List.getElem?_append_left (by rw [h.len]; exact e)]
    exact e'
  · have hi' : i = m.length := by simp at hi; omega
    subst hi'
    refine ⟨A, n, c, ?_, by rw [row_append_last]; exact hb⟩
    rw [← h.len, List.getElem?_append_right (Nat.le_refl _)]
    simp
theorem Rows.one {w : World} {cs : List Value} {m : Gm.L} (h : Rows w cs m) : ∀ u ∈ cs, u.oneCell' = true := by
  intro u hu
  obtain ⟨i, hi, e⟩ := List.mem_iff_getElem.1 hu
  obtain ⟨A, n, c, e', _⟩ := h.at_ i (by rw [← h.len]; exact hi)
  rw [List.getElem?_eq_getElem hi] at e'
  injection e' with e'
  rw [← e, e']
  rfl
theorem Rows.set {w : World} {cs : List Value} {m : Gm.L} (h : Rows w cs m) (i : Nat) {A : Option Addr} {n c : Nat} {r : List UInt8} (hb : Bs w A n c r) : Rows w (cs.set i (.slice A n c)) (m.set i r) := by
  refine ⟨by simp [h.len], fun j hj => ?_⟩
  rw [List.length_set] at hj
  by_cases e : i = j
  · subst e
    exact ⟨A, n, c, by rw [List.getElem?_set, if_pos rfl, if_pos (by rw [h.len]; exact hj)], by rw [Gm.row_set _ hj, if_pos rfl]; exact hb⟩
  · obtain ⟨A', n', c', e', hb'⟩ := h.at_ j hj
    refine ⟨A', n', c', by rw [List.getElem?_set, if_neg e]; exact e', ?_⟩
    have : Gm.row (m.set i r) j = Gm.row m j := by
      unfold Gm.row
      rw [List.getD_eq_getElem?_getD, List.getD_eq_getElem?_getD, List.getElem?_set, if_neg e]
    rw [this]; exact hb'
/-- A slice of slices of bytes. -/
structure Mx (w : World) (A : Option Addr) (n c : Nat) (m : Gm.L) : Prop where
  len : m.length = n
  le : n ≤ c
  max : c ≤ 9223372036854775807
  rd : ∃ cs, Rd w 1 A n cs ∧ Rows w cs m
theorem Mx.ext {w w' : World} {A : Option Addr} {n c : Nat} {m : Gm.L} (h : Mx w A n c m) (hx : Ext w w') : Mx w' A n c m := by
  obtain ⟨cs, h1, h2⟩ := h.rd
  exact ⟨h.len, h.le, h.max, cs, h1.ext hx, h2.ext hx⟩
theorem Mx.at_ {w : World} {A : Option Addr} {n c : Nat} {m : Gm.L} (h : Mx w A n c m) {i : Nat} (hi : i < n) :
    ∃ b off Ai ni ci, A = some ⟨b, off, .none⟩ ∧ w.cell? ⟨b, off + i, .none⟩ = some (.slice Ai ni ci) ∧ Bs w Ai ni ci (Gm.row m i) := by
  obtain ⟨cs, h1, h2⟩ := h.rd
  obtain ⟨Ai, ni, ci, e, hb⟩ := h2.at_ i (by rw [h.len]; exact hi)
  obtain ⟨b, off, u, hA, hu, hc⟩ := h1.at_ hi
  rw [e] at hu
  injection hu with hu
  subst hu
  exact ⟨b, off, Ai, ni, ci, hA, hc, hb⟩
theorem Mx.none (w : World) : Mx w none 0 0 [] := ⟨rfl, Nat.le_refl _, by omega, [], Rd.nil _ _ _, Rows.nil _⟩
theorem Mx.own {w : World} {base : Nat} {e : TypeId} {v : Value} {m : Gm.L} {cs : List Value} (h : w.ownsRow base e 1 v m.length cs) (hr : Rows w cs m) : ∃ A c, v = .slice A m.length c ∧ Mx w A m.length c m := by
  obtain ⟨A, c, rfl, h1, h2⟩ := ownsRow_slice h
  exact ⟨A, c, rfl, rfl, h1, h2, cs, Rd.of_own h, hr⟩
theorem bytes_info : (Try.prog.info? 35).map (fun i => (i.zero, i.size, i.bytes)) = some (some (.slice none 0 0), 1, 24) := by kernel_rfl
/-- A matrix is handed back. -/
def GivesM (m : Gm.L) (w : World) (e : Ending) (w' : World) : Prop := ∃ A c, e = .returned (.slice A m.length c) ∧ Mx w' A m.length c m ∧ Ext w w'
/-- A matrix is handed back, with an error. -/
def GivesME (m : Gm.L) (err : Int) (w : World) (e : Ending) (w' : World) : Prop := ∃ A c, e = .returned (.tuple #[.slice A m.length c, .int .i64 err]) ∧ Mx w' A m.length c m ∧ Ext w w'
theorem GivesME.of {m m' : Gm.L} {e e' : Int} {w : World} {x : Ending} {w' : World} (h : GivesME m e w x w') (hm : m = m') (he : e = e') : GivesME m' e' w x w' := by rw [← hm, ← he]; exact h

/-- A matrix whose outer row is block g, whole; its rows are in no block of a kind. -/
structure Mo (w : World) (g n : Nat) (P : Nat → Prop) (m : Gm.L) : Prop where
  len : m.length = n
  blk : ∃ cs : Array Value, w.heap[g]? = some (.cells cs 35 (0, 0)) ∧ cs.size = n ∧ Rows w cs.toList m ∧ ∀ (i : Nat) (A : Option Addr) (k c : Nat), cs[i]? = some (.slice A k c) → 0 < k → ∀ b, A.map (·.block) = some b → ¬ P b
section
variable {w w' : World} {g n : Nat} {P : Nat → Prop} {m : Gm.L}
theorem Mo.lt (h : Mo w g n P m) : g < w.heap.size := by
  obtain ⟨cs, h1, _⟩ := h.blk
  exact (Array.getElem?_eq_some_iff.1 h1).1
theorem Mo.ext (h : Mo w g n P m) (hx : Ext w w') : Mo w' g n P m := by
  obtain ⟨cs, h1, h2, h3, h4⟩ := h.blk
  exact ⟨h.len, cs, (hx.block g h.lt).trans h1, h2, h3.ext hx, h4⟩
theorem Mo.at_ (h : Mo w g n P m) {i : Nat} (hi : i < n) : ∃ A k c, w.cell? ⟨g, i, none⟩ = some (.slice A k c) ∧ Bs w A k c (Gm.row m i) ∧ (0 < k → ∀ b, A.map (·.block) = some b → ¬ P b) := by
  obtain ⟨cs, h1, h2, h3, h4⟩ := h.blk
  obtain ⟨A, k, c, e, hb⟩ := h3.at_ i (by rw [h.len]; exact hi)
  have e' : cs[i]? = some (.slice A k c) := by simpa using e
  exact ⟨A, k, c, by rw [cell_of_row w _ _ _ _ _ h1]; simpa using e', hb, h4 i A k c e'⟩
theorem Mo.fz (h : Mo w g n P m) (j : Nat) : w.frozen? ⟨g, j, none⟩ = false := by
  obtain ⟨cs, h1, _⟩ := h.blk
  exact frozen_of_row w _ _ _ _ h1
theorem Mo.mx (h : Mo w g n P m) (hn : n ≤ 1000000) : Mx w (some ⟨g, 0, none⟩) n n m := by
  obtain ⟨cs, h1, h2, h3, _⟩ := h.blk
  refine ⟨h.len, Nat.le_refl _, by omega, cs.toList, ⟨by simp [h2], fun _ => ⟨g, 0, rfl, fun j u hu => ?_⟩⟩, h3⟩
  rw [Nat.zero_add, cell_of_row w _ _ _ _ _ h1]
  simpa using hu
theorem Bs.far {A : Option Addr} {k c : Nat} {r : List UInt8} (h : Bs w A k c r) {q : Addr} (hq : 0 < k → ∀ b, A.map (·.block) = some b → q.block ≠ b) (u : Value) : Bs (w.setCell q u) A k c r := by
  refine ⟨h.len, h.le, h.max, h.rd.1, fun hk => ?_⟩
  obtain ⟨b, o, e, hc⟩ := h.rd.2 hk
  subst e
  refine ⟨b, o, rfl, fun j x hx => ?_⟩
  rw [World.cell?_setCell_other _ _ _ _ (fun e => hq hk b rfl (by rw [e]))]
  exact hc j x hx
theorem Rows.far {cs : List Value} (h : Rows w cs m) {q : Addr} (hq : ∀ (i : Nat) (A : Option Addr) (k c : Nat), cs[i]? = some (.slice A k c) → 0 < k → ∀ b, A.map (·.block) = some b → q.block ≠ b) (u : Value) : Rows (w.setCell q u) cs m :=
  ⟨h.len, fun i hi => by obtain ⟨A, k, c, e, hb⟩ := h.at_ i hi; exact ⟨A, k, c, e, hb.far (hq i A k c e) u⟩⟩
/-- A store into another block of the kind. -/
theorem Mo.far (h : Mo w g n P m) {q : Addr} (hq : P q.block) (hg : q.block ≠ g) (u : Value) : Mo (w.setCell q u) g n P m := by
  obtain ⟨cs, h1, h2, h3, h4⟩ := h.blk
  refine ⟨h.len, cs, (heap_setCell_other w q g u (fun e => hg e.symm)).trans h1, h2, h3.far (fun i A k c e hk b hb e' => ?_) u, h4⟩
  exact h4 i A k c (by simpa using e) hk b hb (e' ▸ hq)
/-- A row is stored. -/
theorem Mo.set (h : Mo w g n P m) (hg : P g) {i : Nat} {A : Option Addr} {k c : Nat} {r : List UInt8} (hb : Bs w A k c r) (hp : 0 < k → ∀ b, A.map (·.block) = some b → ¬ P b) : Mo (w.setCell ⟨g, i, none⟩ (.slice A k c)) g n P (m.set i r) := by
  obtain ⟨cs, h1, h2, h3, h4⟩ := h.blk
  have hb' := hb.far (q := ⟨g, i, .none⟩) (fun hk b e e' => hp hk b e (by show P b; rw [← e']; exact hg)) (.slice A k c)
  have hr := h3.far (q := ⟨g, i, .none⟩) (fun j A k c e hk b hb e' => h4 j A k c (by simpa using e) hk b hb (by show P b; rw [← e']; exact hg)) (.slice A k c)
  refine ⟨by rw [List.length_set]; exact h.len, cs.setIfInBounds i (.slice A k c), heap_setCell_same w g i _ _ _ h1, by simp [h2], ?_, ?_⟩
  · have := hr.set i hb'
    simpa using this
  · intro j A' k' c' e hk b hb2
    rw [Array.getElem?_setIfInBounds] at e
    split at e
    · split at e
      · injection e with e
        injection e with e1 e2 e3
        subst e1 e2
        exact hp hk b hb2
      · cases e
    · exact h4 j A' k' c' e hk b hb2
theorem Mo.mono {P' : Nat → Prop} (h : Mo w g n P m) (hp : ∀ b, b < w.heap.size → P' b → P b) : Mo w g n P' m := by
  obtain ⟨cs, h1, h2, h3, h4⟩ := h.blk
  refine ⟨h.len, cs, h1, h2, h3, fun i A k c e hk b hb hP => h4 i A k c e hk b hb (hp b ?_ hP)⟩
  obtain ⟨A', k', c', e', hb'⟩ := h3.at_ i (by have := (Array.getElem?_eq_some_iff.1 e).1; rw [h.len, ← h2]; exact this)
  rw [show cs.toList[i]? = cs[i]? by simp, e] at e'
  injection e' with e'
  injection e' with e1 e2 e3
  subst e1 e2 e3
  obtain ⟨b', o, eA, hc⟩ := hb'.rd.2 hk
  subst eA
  injection hb with hb
  obtain ⟨_, o2, e3, hc2⟩ := hb'.rd.byte hk
  injection e3 with e3
  injection e3 with e3 e4
  have := World.block_lt_of_cell? _ _ hc2
  rw [← hb]
  have h9 : b' < w.heap.size := by rw [e3]; exact this
  exact h9
end
end Go.Proofs.Ytfpglkacjecoeaa
namespace Go.Proofs.Ytfpglkacjecoeaa
open Go.RowKit

/-- A find as a value. -/
abbrev fval (st ve ne ph : Int) (U V S : Value) : Value := .agg #[.int .i64 st, .int .i64 ve, .int .i64 ne, .int .i64 ph, U, V, S]
/-- Block g holds a find. -/
structure Fb (w : World) (g : Nat) (st ve ne ph : Int) (U V S : Value) : Prop where
  blk : w.heap[g]? = some (.cells #[.int .i64 st, .int .i64 ve, .int .i64 ne, .int .i64 ph, U, V, S] 27 (0, 0))
section
variable {w : World} {g : Nat} {st ve ne ph : Int} {U V S : Value}
theorem Fb.lt (h : Fb w g st ve ne ph U V S) : g < w.heap.size := (Array.getElem?_eq_some_iff.1 h.blk).1
theorem Fb.c0 (h : Fb w g st ve ne ph U V S) : w.cell? ⟨g, 0, none⟩ = some (.int .i64 st) := by rw [cell_of_row w _ _ _ _ _ h.blk]; rfl
theorem Fb.c1 (h : Fb w g st ve ne ph U V S) : w.cell? ⟨g, 1, none⟩ = some (.int .i64 ve) := by rw [cell_of_row w _ _ _ _ _ h.blk]; rfl
theorem Fb.c2 (h : Fb w g st ve ne ph U V S) : w.cell? ⟨g, 2, none⟩ = some (.int .i64 ne) := by rw [cell_of_row w _ _ _ _ _ h.blk]; rfl
theorem Fb.c3 (h : Fb w g st ve ne ph U V S) : w.cell? ⟨g, 3, none⟩ = some (.int .i64 ph) := by rw [cell_of_row w _ _ _ _ _ h.blk]; rfl
theorem Fb.c4 (h : Fb w g st ve ne ph U V S) : w.cell? ⟨g, 4, none⟩ = some U := by rw [cell_of_row w _ _ _ _ _ h.blk]; rfl
theorem Fb.c5 (h : Fb w g st ve ne ph U V S) : w.cell? ⟨g, 5, none⟩ = some V := by rw [cell_of_row w _ _ _ _ _ h.blk]; rfl
theorem Fb.c6 (h : Fb w g st ve ne ph U V S) : w.cell? ⟨g, 6, none⟩ = some S := by rw [cell_of_row w _ _ _ _ _ h.blk]; rfl
theorem Fb.fz (h : Fb w g st ve ne ph U V S) (j : Nat) : w.frozen? ⟨g, j, none⟩ = false := frozen_of_row w _ _ _ _ h.blk
theorem Fb.ext {w' : World} (h : Fb w g st ve ne ph U V S) (hx : Ext w w') : Fb w' g st ve ne ph U V S := ⟨(hx.block g h.lt).trans h.blk⟩
theorem Fb.kept {w' : World} {row : Option Nat} (h : Fb w g st ve ne ph U V S) (hg : w.grownBy w' row) (hr : row ≠ some g) : Fb w' g st ve ne ph U V S := ⟨(hg.block g h.lt (fun e => hr e.symm)).trans h.blk⟩
theorem Fb.set0 (h : Fb w g st ve ne ph U V S) (x : Int) : Fb (w.setCell ⟨g, 0, none⟩ (.int .i64 x)) g x ve ne ph U V S := ⟨heap_setCell_same w g 0 _ _ (.int .i64 x) h.blk⟩
theorem Fb.set1 (h : Fb w g st ve ne ph U V S) (x : Int) : Fb (w.setCell ⟨g, 1, none⟩ (.int .i64 x)) g st x ne ph U V S := ⟨heap_setCell_same w g 1 _ _ (.int .i64 x) h.blk⟩
theorem Fb.set2 (h : Fb w g st ve ne ph U V S) (x : Int) : Fb (w.setCell ⟨g, 2, none⟩ (.int .i64 x)) g st ve x ph U V S := ⟨heap_setCell_same w g 2 _ _ (.int .i64 x) h.blk⟩
theorem Fb.set3 (h : Fb w g st ve ne ph U V S) (x : Int) : Fb (w.setCell ⟨g, 3, none⟩ (.int .i64 x)) g st ve ne x U V S := ⟨heap_setCell_same w g 3 _ _ (.int .i64 x) h.blk⟩
theorem Fb.set4 (h : Fb w g st ve ne ph U V S) (x : Value) : Fb (w.setCell ⟨g, 4, none⟩ x) g st ve ne ph x V S := ⟨heap_setCell_same w g 4 _ _ x h.blk⟩
theorem Fb.set5 (h : Fb w g st ve ne ph U V S) (x : Value) : Fb (w.setCell ⟨g, 5, none⟩ x) g st ve ne ph U x S := ⟨heap_setCell_same w g 5 _ _ x h.blk⟩
theorem Fb.set6 (h : Fb w g st ve ne ph U V S) (x : Value) : Fb (w.setCell ⟨g, 6, none⟩ x) g st ve ne ph U V x := ⟨heap_setCell_same w g 6 _ _ x h.blk⟩
theorem Fb.far (h : Fb w g st ve ne ph U V S) {p : Addr} (hp : p.block ≠ g) (u : Value) : Fb (w.setCell p u) g st ve ne ph U V S := ⟨(heap_setCell_other w p g u (fun e => hp e.symm)).trans h.blk⟩
/-- The world, the whole find laid into box g. -/
abbrev seven (w : World) (g : Nat) (st ve ne ph : Int) (U V S : Value) : World :=
  ((((((w.setCell ⟨g, 0, none⟩ (.int .i64 st)).setCell ⟨g, 1, none⟩ (.int .i64 ve)).setCell ⟨g, 2, none⟩ (.int .i64 ne)).setCell ⟨g, 3, none⟩ (.int .i64 ph)).setCell ⟨g, 4, none⟩ U).setCell ⟨g, 5, none⟩ V).setCell ⟨g, 6, none⟩ S
theorem Fb.whole (h : Fb w g st ve ne ph U V S) (st' ve' ne' ph' : Int) (U' V' S' : Value) : Fb (seven w g st' ve' ne' ph' U' V' S') g st' ve' ne' ph' U' V' S' := ((((((h.set0 st').set1 ve').set2 ne').set3 ph').set4 U').set5 V').set6 S'
theorem Fb.res (h : Fb w g st ve ne ph U V S) : (loadVar 27 ⟨g, 0, none⟩).run Try.prog w = .ok (fval st ve ne ph U V S) w := by
  simp [go_sem, h.c0, h.c1, h.c2, h.c3, h.c4, h.c5, h.c6]
end
theorem Fb.new (w : World) (st ve ne ph : Int) (U V S : Value) {g : Nat} (hg : w.heap.size = g) : Fb (w.alloc (.cells #[.int .i64 st, .int .i64 ve, .int .i64 ne, .int .i64 ph, U, V, S] 27)) g st ve ne ph U V S := ⟨by rw [← hg]; exact heap_alloc_new w _⟩
theorem Ext.seven {w W : World} {g : Nat} (h : Ext w W) (hg : w.heap.size ≤ g) (st ve ne ph : Int) (U V S : Value) : Ext w (seven W g st ve ne ph U V S) :=
  ((((((h.set_ (p := ⟨g, 0, none⟩) hg _).set_ (p := ⟨g, 1, none⟩) hg _).set_ (p := ⟨g, 2, none⟩) hg _).set_ (p := ⟨g, 3, none⟩) hg _).set_ (p := ⟨g, 4, none⟩) hg _).set_ (p := ⟨g, 5, none⟩) hg _).set_ (p := ⟨g, 6, none⟩) hg _
/-- The lists of a find. -/
structure Fd (w : World) (f : Finds.F) (A : Option Addr) (n c : Nat) (B : Option Addr) (m d : Nat) (C : Option Addr) (k e : Nat) : Prop where
  u : Is w A n c f.marks
  v : Is w B m d f.which
  s : Mx w C k e f.shards
theorem Fd.ext {w w' : World} {f : Finds.F} {A : Option Addr} {n c : Nat} {B : Option Addr} {m d : Nat} {C : Option Addr} {k e : Nat} (h : Fd w f A n c B m d C k e) (hx : Ext w w') : Fd w' f A n c B m d C k e := ⟨h.u.ext hx, h.v.ext hx, h.s.ext hx⟩

theorem named_any13 (w : World) (s v n need : Int) : Calls Try.prog 30 #[.int .i64 s, .int .i64 v, .int .i64 n, .int .i64 need] w fun e w' => e = .returned (.bool (decide (Finds.named s v n need))) ∧ w = w' := by
  go_enter Try.func30, Try.ntmps30
  go_wp2
  all_goals
    go_ret
    first
      | exact ⟨ret_bool (decide_eq_false (by unfold Finds.named; omega)).symm, rfl⟩
      | exact ⟨ret_bool (decide_eq_decide.2 (by unfold Finds.named; omega)), rfl⟩
/-- fits: may a shard come to those that are there? -/
theorem fits_any13 (w : World) (f : Finds.F) (U V : Value) (C : Option Addr) (k e : Nat) (D : Option Addr) (n c : Nat) (b : List UInt8) (hs : Mx w C k e f.shards) (hb : Bs w D n c b) :
    Calls Try.prog 35 #[fval f.stripe f.version f.need f.phase U V (.slice C k e), .slice D n c] w fun r w' => r = .returned (.bool (Finds.fitsL f.shards b)) ∧ Ext w w' := by
  have q1 := hs.max
  have q2 := hs.le
  have q3 := hb.max
  have q4 := hb.le
  have s1 := Fb.new w f.stripe f.version f.need f.phase U V (.slice C k e) rfl
  have k6 := s1.c6
  have xA := Ext.alloc w (.cells #[.int .i64 f.stripe, .int .i64 f.version, .int .i64 f.need, .int .i64 f.phase, U, V, .slice C k e] 27)
  have XA := Lib.hid xA
  obtain ⟨R, hR⟩ : ∃ R, Finds.fitsL f.shards b = R := ⟨_, rfl⟩
  have hi : R = (decide (n ≤ 65536) && (decide (k = 0) || decide (n = (Gm.row f.shards 0).length))) := by
    rw [← hR]
    unfold Finds.fitsL
    rw [hb.len, hs.len]
    rfl
  rw [hR]
  have HI := Lib.hid hi
  have HS := Lib.hid (hs.ext xA)
  clear hR hi hs hb s1 xA
  by_cases h1 : n ≤ 65536
  · have g1 : (n : Int) ≤ 65536 := by omega
    by_cases h2 : k = 0
    · have g2 : ((k : Int) == 0) = true := by rw [beq_iff_eq]; omega
      have HR := Lib.hid (show R = true by rw [HI.out]; simp [h1, h2])
      clear h1 h2
      go_enter Try.func35, Try.ntmps35
      go_wp2_with (fail)
      go_ret
      exact ⟨ret_bool HR.out.symm, XA.out⟩
    · have g2 : ((k : Int) == 0) = false := by rw [beq_eq_false_iff_ne]; omega
      obtain ⟨x, o, A0, n0, c0, rfl, hc0, hb0⟩ := HS.out.at_ (i := 0) (by omega)
      rw [Nat.add_zero] at hc0
      have r1 : (0 : Int) < k := by omega
      have q5 := hb0.max
      have q6 := hb0.le
      have HR := Lib.hid (show R = decide (n = n0) by rw [HI.out, hb0.len]; simp [h1, h2])
      clear h1 h2 hb0
      go_enter Try.func35, Try.ntmps35
      go_wp2_with (fail)
      go_ret
      exact ⟨ret_bool (by rw [HR.out, Bool.eq_iff_iff, beq_iff_eq, decide_eq_true_eq]; omega), XA.out⟩
  · have g1 : ¬ (n : Int) ≤ 65536 := by omega
    have HR := Lib.hid (show R = false by rw [HI.out]; simp [h1])
    clear h1
    go_enter Try.func35, Try.ntmps35
    go_wp2_with (fail)
    go_ret
    exact ⟨ret_bool HR.out.symm, XA.out⟩
/-- A variable of a list of one's own. -/
structure Lv (w : World) (g base : Nat) (l : List Int) (v : Value) : Prop where
  blk : w.heap[g]? = some (.cells #[v] 24 (0, 0))
  own : w.ownsRow base 3 1 v l.length (icells l)
  lt : g < base
section
variable {w w' : World} {g base : Nat} {l : List Int} {v : Value}
theorem Lv.size (h : Lv w g base l v) : g < w.heap.size := (Array.getElem?_eq_some_iff.1 h.blk).1
theorem Lv.c (h : Lv w g base l v) : w.cell? ⟨g, 0, none⟩ = some v := by rw [cell_of_row w _ _ _ _ _ h.blk]; rfl
theorem Lv.fz (h : Lv w g base l v) (j : Nat) : w.frozen? ⟨g, j, none⟩ = false := frozen_of_row w _ _ _ _ h.blk
theorem Lv.ext (h : Lv w g base l v) (hx : Ext w w') : Lv w' g base l v := ⟨(hx.block g h.size).trans h.blk, ownsRow_ext h.own hx, h.lt⟩
end
/-- The laws of a push: the list in the variable grows; nothing else of what was there has turned. -/
def Pushes (g base : Nat) (l : List Int) (w : World) (e : Ending) (w' : World) : Prop := e = .returned (.tuple #[]) ∧ ∃ v, Lv w' g base l v ∧ ∀ w0, Ext w0 w → w0.heap.size ≤ g → Ext w0 w'
set_option maxRecDepth 100000 in
set_option maxHeartbeats 1000000 in
theorem each_any13 (w : World) (i m mark : Int) (gm g base : Nat) (l : List Int) (v : Value) (hm : w.cell? ⟨gm, 0, none⟩ = some (.int .i64 mark)) (h : Lv w g base l v) (hb : base ≤ w.heap.size) (hl : l.length ≤ 1000) :
    Calls Try.prog 46 #[.int .i64 i, .int .i64 m, .pointer (some ⟨gm, 0, none⟩), .pointer (some ⟨g, 0, none⟩)] w (Pushes g base (if m = mark then l ++ [i] else l) w) := by
  obtain ⟨i0, hi0, hz0, hz1, hz2⟩ := info_parts int_info
  by_cases hk : m = mark
  · rw [if_pos hk]
    have e1 : (m == mark) = true := by rw [beq_iff_eq]; exact hk
    have H := Lib.hid h
    have xal := Ext.alloc w (.cells #[.int .i64 i] 3)
    have k0 := xal.cell h.c
    have kc := h.c
    have HX := Lib.hid xal
    have H2 := Lib.hid (h.ext xal)
    clear hk h xal
    go_enter Try.func46, Try.ntmps46
    go_wp2_with (at_builtin; refine wpList_append_rd _ rfl (.tmp 9) (.tmp 11) 24 rfl base 3 i0 _ 1 8 Try.underlying24 hi0 hz0 hz1 hz2 rfl (by omega) v l.length (icells l) rfl H2.out.own (some ⟨w.heap.size, 0, none⟩) 1 1 [.int .i64 i] rfl (Rd.lit w #[_] _) (by simp [Value.oneCell']) (by omega) (by unfold maxLen; omega) (by simp; omega) ?_; intro v1 w1 hown hgr hat; obtain ⟨A1, c1, rfl, _, _⟩ := ownsRow_slice hown; have hne : v.ownBlock ≠ some g := fun e => (by have := (H.out.own.lt g e).1; have := H.out.lt; omega); have hb1 := (hgr.block g H2.out.size (fun e => hne e.symm)).trans H2.out.blk; have kc1 : w1.cell? ⟨g, 0, none⟩ = some v := (by rw [cell_of_row w1 _ _ _ _ _ hb1]; rfl); have kf : w1.frozen? ⟨g, 0, none⟩ = false := frozen_of_row w1 _ _ _ _ hb1)
    go_end0
    refine ⟨rfl, _, ⟨heap_setCell_same w1 g 0 _ _ _ hb1, ?_, H.out.lt⟩, fun w0 hx hs => ((hx.trans HX.out).ofGrown hgr (fun k hk => by have := (H.out.own.lt k hk).1; have := H.out.lt; omega)).set_ (p := ⟨g, 0, none⟩) hs _⟩
    refine ownsRow_far ?_ H.out.lt _
    rw [icells_append, List.length_append]
    exact hown
  · rw [if_neg hk]
    have e1 : (m == mark) = false := by rw [beq_eq_false_iff_ne]; exact hk
    have kc := h.c
    have H := Lib.hid h
    clear hk h
    go_enter Try.func46, Try.ntmps46
    go_wp2_with (fail)
    go_end0
    exact ⟨rfl, v, H.out, fun _ hx _ => hx⟩
end Go.Proofs.Ytfpglkacjecoeaa
