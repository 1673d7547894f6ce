/- The contract of the document's New (chapter 04). -/
import Derived.Test.YtfpcldkfmcnjkaaCodeBox
import Derived.Test.YtfpcldkfmcnjkaaCt6
namespace Go.Proofs.Ytfpcldkfmcnjkaa
open Go.RowKit

/-- The value of a code of the document. -/
abbrev cval (k n : Int) (A : Option Addr) (m c : Nat) : Value := .agg #[.int .i64 k, .int .i64 n, .slice A m c]
theorem ref4New_res (w : World) (b : Nat) (k n : Int) (A : Option Addr) (m c : Nat) (h0 : w.cell? ⟨b, 0, none⟩ = some (.int .i64 k)) (h1 : w.cell? ⟨b, 1, none⟩ = some (.int .i64 n)) (h2 : w.cell? ⟨b, 2, none⟩ = some (.slice A m c)) :
    (loadVar 62 ⟨b, 0, none⟩).run Try.prog w = .ok (cval k n A m c) w := by
  simp [go_sem, h0, h1, h2]
/-- The box of a document's code: three cells. -/
structure Bd (w : World) (g : Nat) (k n : Int) (S : Value) : Prop where
  blk : w.heap[g]? = some (.cells #[.int .i64 k, .int .i64 n, S] 62 (0, 0))
section
variable {w : World} {g : Nat} {k n : Int} {S : Value}
theorem Bd.lt (h : Bd w g k n S) : g < w.heap.size := (Array.getElem?_eq_some_iff.1 h.blk).1
theorem Bd.c0 (h : Bd w g k n S) : w.cell? ⟨g, 0, none⟩ = some (.int .i64 k) := by rw [cell_of_row w _ _ _ _ _ h.blk]; rfl
theorem Bd.c1 (h : Bd w g k n S) : w.cell? ⟨g, 1, none⟩ = some (.int .i64 n) := by rw [cell_of_row w _ _ _ _ _ h.blk]; rfl
theorem Bd.c2 (h : Bd w g k n S) : w.cell? ⟨g, 2, none⟩ = some S := by rw [cell_of_row w _ _ _ _ _ h.blk]; rfl
theorem Bd.fz (h : Bd w g k n S) (j : Nat) : w.frozen? ⟨g, j, none⟩ = false := frozen_of_row w _ _ _ _ h.blk
theorem Bd.ext {w' : World} (h : Bd w g k n S) (hx : Ext w w') : Bd w' g k n S := ⟨(hx.block g h.lt).trans h.blk⟩
theorem Bd.all (h : Bd w g k n S) (k' n' : Int) (S' : Value) :
    Bd (((w.setCell ⟨g, 0, none⟩ (.int .i64 k')).setCell ⟨g, 1, none⟩ (.int .i64 n')).setCell ⟨g, 2, none⟩ S') g k' n' S' :=
  ⟨heap_setCell_same _ g 2 _ _ S' (heap_setCell_same _ g 1 _ _ (.int .i64 n') (heap_setCell_same w g 0 _ _ (.int .i64 k') h.blk))⟩
theorem Ext.three {W : World} {q : Nat} (h : Ext w W) (hq : w.heap.size ≤ q) (a0 a1 a2 : Value) :
    Ext w (((W.setCell ⟨q, 0, none⟩ a0).setCell ⟨q, 1, none⟩ a1).setCell ⟨q, 2, none⟩ a2) :=
  ((h.set_ (p := ⟨q, 0, none⟩) hq _).set_ (p := ⟨q, 1, none⟩) hq _).set_ (p := ⟨q, 2, none⟩) hq _
theorem own_three {base m : Nat} {t : TypeId} {z : Nat} {v : Value} {cs : List Value} (h : w.ownsRow base t z v m cs) {q : Nat} (hq : q < base) (a0 a1 a2 : Value) :
    (((w.setCell ⟨q, 0, none⟩ a0).setCell ⟨q, 1, none⟩ a1).setCell ⟨q, 2, none⟩ a2).ownsRow base t z v m cs :=
  ownsRow_far (ownsRow_far (ownsRow_far h (p := ⟨q, 0, .none⟩) hq _) (p := ⟨q, 1, .none⟩) hq _) (p := ⟨q, 2, .none⟩) hq _
theorem Mq.rows_grown3 {w' : World} {base m : Nat} {P : Nat → Prop} {v : Value} {cs : List Value} {M : Gm.L} {row : Option Nat} (h : Mq w base P v m cs M) (hg : w.grownBy w' row) (hr : ∀ (i : Nat) (u : Value) (b : Nat), cs[i]? = some u → u.ownBlock = some b → row ≠ some b) {q : Nat} (hq : q < base) (a0 a1 a2 : Value) :
    Rows (((w'.setCell ⟨q, 0, none⟩ a0).setCell ⟨q, 1, none⟩ a1).setCell ⟨q, 2, none⟩ a2) cs M :=
  ⟨by rw [h.clen, h.len], fun i hi => by
    obtain ⟨A, c, e, ho⟩ := h.row i (by rw [← h.len]; exact hi)
    refine ⟨A, _, c, e, (Own.mk (base := base) (e := 5) (own_three (ownsRow_grown ho hg ?_) hq a0 a1 a2)).bs⟩
    cases hb : (Value.slice A (Gm.row M i).length c).ownBlock with
    | none => exact .inl rfl
    | some b => exact .inr (fun e2 => hr i _ b e hb e2.symm)⟩
end
/-- A new code of the document is handed back. -/
def GivesD (k n : Nat) (w : World) (e : Ending) (w' : World) : Prop := ∃ A c, e = .returned (.tuple #[cval k n A n c, .int .i64 0]) ∧ Mx w' A n c (Gm.gen k n) ∧ Ext w w'
theorem ref4New_arg (w : World) (k n : Int) (h : k < 1 ∨ n < k ∨ 255 < n) :
    Calls Try.prog 30 #[.int .i64 k, .int .i64 n] w fun e w' => e = .returned (.tuple #[cval 0 0 none 0 0, .int .i64 2]) ∧ Ext w w' := by
  have hr := ref4New_res (w.alloc (.cells #[.int .i64 0, .int .i64 0, .slice none 0 0] 62)) w.heap.size 0 0 none 0 0 ((World.cell?_alloc_new _ _ _ _).trans rfl) ((World.cell?_alloc_new _ _ _ _).trans rfl) ((World.cell?_alloc_new _ _ _ _).trans rfl)
  have HR := Lib.hid hr
  clear hr
  go_enter Try.func30, Try.ntmps30
  by_cases h1 : k < 1
  · go_wp2_with (fail)
    refine bodyPost_ret (v := .tuple #[cval 0 0 none 0 0, .int .i64 2]) ?_ rfl ⟨rfl, Ext.alloc _ _⟩
    rw [results_cell_tmp rfl]
    simp [asAddr, Result.andThen, HR.out]
  · by_cases h2 : n < k
    · go_wp2_with (fail)
      refine bodyPost_ret (v := .tuple #[cval 0 0 none 0 0, .int .i64 2]) ?_ rfl ⟨rfl, Ext.alloc _ _⟩
      rw [results_cell_tmp rfl]
      simp [asAddr, Result.andThen, HR.out]
    · have h3 : 255 < n := by omega
      go_wp2_with (fail)
      refine bodyPost_ret (v := .tuple #[cval 0 0 none 0 0, .int .i64 2]) ?_ rfl ⟨rfl, Ext.alloc _ _⟩
      rw [results_cell_tmp rfl]
      simp [asAddr, Result.andThen, HR.out]
set_option maxRecDepth 100000 in
set_option maxHeartbeats 2000000 in
theorem ref4New_ok (w : World) (k n : Nat) (h1 : 1 ≤ k) (h2 : k ≤ n) (h3 : n ≤ 255) :
    Calls Try.prog 30 #[.int .i64 (k : Int), .int .i64 (n : Int)] w (GivesD k n w) := by
  obtain ⟨i0, hi0, hz0, hz1, hz2⟩ := info_parts bytes_info
  have hB0 : Bd (w.alloc (.cells #[.int .i64 0, .int .i64 0, .slice none 0 0] 62)) w.heap.size 0 0 (.slice none 0 0) := ⟨heap_alloc_new _ _⟩
  have xA : Ext w (w.alloc (.cells #[.int .i64 0, .int .i64 0, .slice none 0 0] 62)) := Ext.alloc _ _
  have hU := ref3Unit_ok (w.alloc (.cells #[.int .i64 0, .int .i64 0, .slice none 0 0] 62)) k h1 (by omega)
  have hsA : (w.alloc (.cells #[.int .i64 0, .int .i64 0, .slice none 0 0] 62)).heap.size = w.heap.size + 1 := by simp
  have g1 : ¬ (k : Int) < 1 := by omega
  have g2 : ¬ (n : Int) < k := by omega
  have g3 : ¬ (255 : Int) < n := by omega
  have HB0 := Lib.hid hB0
  have HU := Lib.hid hU
  have HSA := Lib.hid hsA
  clear hB0 hU hsA
  by_cases e : k < n
  · have g4 : (k : Int) < n := by omega
    have HC := Lib.hid (fun W => ref3Cauchy_ok W (n - k) k (by omega) h1 (by omega))
    have e1 : ((n - k : Nat) : Int) = (n : Int) - k := by omega
    rw [e1] at HC
    clear e1
    go_enter Try.func30, Try.ntmps30
    go_wp2_with (fail)
    refine HU.out.mono ?_
    rintro e w1 ⟨v1, cs1, rfl, m1, x1⟩
    rw [(Gm.unit_rect k).len] at m1
    rw [HSA.out] at m1
    go_wp2_with (fail)
    refine (HC.out w1).mono ?_
    rintro e w2 ⟨v2, cs2, rfl, m2, x2⟩
    rw [(Gm.cauchy_rect _ k).len] at m2
    obtain ⟨A2, c2, rfl, q1, q2⟩ := ownsRow_slice m2.own
    have HO := Lib.hid (ownsRow_ext m1.own x2)
    have HR2 := Lib.hid (Rd.of_own m2.own)
    have HB := Lib.hid (own_row m1.own)
    have H1 := Lib.hid m2.rows.one
    have M1 := Lib.hid m1
    have M2 := Lib.hid m2
    have x12 := x1.trans x2
    have hsz := x12.size
    have hs0 : w.heap.size + 1 ≤ w2.heap.size := by rw [← HSA.out]; exact hsz
    clear m1 m2
    go_wp2_with (at_builtin; refine wpList_append_rd _ rfl (.tmp 38) (.tmp 39) 60 rfl (w.heap.size + 1) 22 i0 _ 1 24 Try.underlying60 hi0 hz0 hz1 hz2 rfl (by omega) v1 k cs1 rfl HO.out A2 (n - k) c2 cs2 rfl HR2.out H1.out (by omega) (by unfold maxLen; omega) (by omega) ?_; intro v5 w5 hown hgr hat; rw [show k + (n - k) = n by omega] at hown; obtain ⟨A5, c5, rfl, q5, q6⟩ := ownsRow_slice hown; have x5 := x12.ofGrown hgr (by rw [HSA.out]; exact HB.out); have b5 := HB0.out.ext x5; have f0 := b5.c0; have f1 := b5.c1; have f2 := b5.c2; have f3 := b5.fz; have B5 := Lib.hid b5; have OW := Lib.hid hown; clear b5 hown)
    have r1 := M1.out.ext x2
    have r2 := Mq.rows_grown3 r1 hgr (fun i u q hu hq e => (M1.out.cool i u q hu hq) (.inl e)) (Nat.lt_succ_self w.heap.size) (.int .i64 k) (.int .i64 n) (.slice A5 n c5)
    have r3 := Mq.rows_grown3 M2.out hgr (fun i u q hu hq e => by
      have h1 := (M1.out.own.lt q e).2
      have h2 := (M2.out.block hu hq).1
      omega) (q := w.heap.size) (by have := HSA.out; have := x1.size; omega) (.int .i64 k) (.int .i64 n) (.slice A5 n c5)
    have hmx : Mx _ A5 n c5 (Gm.gen k n) := ⟨Gm.gen_length h2, q5, q6, cs1 ++ cs2, Rd.of_own (own_three OW.out (Nat.lt_succ_self w.heap.size) (.int .i64 k) (.int .i64 n) (.slice A5 n c5)), r2.append r3⟩
    have hb := B5.out.all k n (.slice A5 n c5)
    have hr := ref4New_res _ _ _ _ _ _ _ hb.c0 hb.c1 hb.c2
    refine bodyPost_ret (v := .tuple #[cval k n A5 n c5, .int .i64 0]) ?_ rfl ⟨A5, c5, rfl, hmx, (xA.trans x5).three (Nat.le_refl _) _ _ _⟩
    rw [results_cell_tmp rfl]
    simp [asAddr, Result.andThen, hr]
  · obtain rfl : n = k := by omega
    go_enter Try.func30, Try.ntmps30
    go_wp2_with (fail)
    refine HU.out.mono ?_
    rintro e w1 ⟨v1, cs1, rfl, m1, x1⟩
    rw [(Gm.unit_rect n).len] at m1
    rw [HSA.out] at m1
    obtain ⟨A1, c1, rfl, q1, q2⟩ := ownsRow_slice m1.own
    have b1 := HB0.out.ext x1
    have f0 := b1.c0
    have f1 := b1.c1
    have f2 := b1.c2
    have f3 := b1.fz
    have B1 := Lib.hid b1
    have M1 := Lib.hid m1
    clear b1 m1
    go_wp2_with (fail)
    have hm := ((M1.out.below (q := ⟨w.heap.size, 0, none⟩) (Nat.lt_succ_self _) (.int .i64 n)).below (q := ⟨w.heap.size, 1, none⟩) (Nat.lt_succ_self _) (.int .i64 n)).below (q := ⟨w.heap.size, 2, none⟩) (Nat.lt_succ_self _) (.slice A1 n c1)
    have hb := B1.out.all n n (.slice A1 n c1)
    have hr := ref4New_res _ _ _ _ _ _ _ hb.c0 hb.c1 hb.c2
    obtain ⟨A9, c9, e9, hmx⟩ := hm.mx
    injection e9 with e9 _ e8
    subst e9 e8
    refine bodyPost_ret (v := .tuple #[cval n n A1 n c1, .int .i64 0]) ?_ rfl ⟨A1, c1, rfl, by rw [gen_all]; exact hmx, (xA.trans x1).three (Nat.le_refl _) _ _ _⟩
    rw [results_cell_tmp rfl]
    simp [asAddr, Result.andThen, hr]
end Go.Proofs.Ytfpcldkfmcnjkaa
