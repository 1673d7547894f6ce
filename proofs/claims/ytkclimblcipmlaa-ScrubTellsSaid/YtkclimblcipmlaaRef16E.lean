/- The contracts of the document's queue and cursor (chapter 16). -/
import Derived.Test.YtkclimblcipmlaaRef16A
namespace Scrubs
open Il
/-- The cursor's next one; -1: none. -/
def cursorN (s : S) (l : List Int) : Int := if fromC s l < 0 then -1 else get l (fromC s l).toNat
theorem cursorN_ahead {s : S} {l : List Int} {k : Nat} (hk : k < l.length) (h1 : s.cur < get l k) (h2 : free s (get l k) = true) (hno : ∀ j, j < k → ¬ (s.cur < get l j ∧ free s (get l j) = true)) : cursorN s l = get l k := by
  have h : ahead s l = (k : Int) := idxf_found hk (by simp [h1, h2]) (fun j hj => by
    have := hno j hj
    by_cases h3 : s.cur < get l j
    · rcases h4 : free s (get l j) with _ | _
      · simp
      · exact absurd ⟨h3, h4⟩ this
    · simp [h3])
  have h3 : fromC s l = (k : Int) := by unfold fromC; rw [if_neg (by omega), h]
  unfold cursorN
  rw [h3, if_neg (by omega)]
  rfl
theorem cursorN_rest {s : S} {l : List Int} (hno : ∀ j, j < l.length → ¬ (s.cur < get l j ∧ free s (get l j) = true)) {x : Int} (hx : (x = -1 ∧ ∀ j, j < l.length → free s (get l j) = false) ∨ ∃ k, k < l.length ∧ x = get l k ∧ free s (get l k) = true ∧ ∀ j, j < k → free s (get l j) = false) : cursorN s l = x := by
  have h : ahead s l = -1 := idxf_none (fun j hj => by
    have := hno j hj
    by_cases h3 : s.cur < get l j
    · rcases h4 : free s (get l j) with _ | _
      · simp
      · exact absurd ⟨h3, h4⟩ this
    · simp [h3])
  have h3 : fromC s l = idxf l (free s) := by unfold fromC; rw [if_pos (by omega)]
  unfold cursorN
  rw [h3]
  rcases hx with ⟨rfl, hx⟩ | ⟨k, hk, rfl, h4, h5⟩
  · rw [idxf_none hx]; rfl
  · rw [idxf_found hk h4 h5, if_neg (by omega)]; rfl
end Scrubs
namespace Go.Proofs.Ytkclimblcipmlaa
open Go.RowKit

set_option maxRecDepth 100000 in
set_option maxHeartbeats 2000000 in
theorem queue_any (w : World) (s : Scrubs.S) (A : Option Addr) (n c : Nat) (B : Option Addr) (m d : Nat) (hu : Is w A n c s.urged) (hb : Is w B m d s.busy) :
    Calls Try.prog 36 #[sval s.cur s.queue (.slice A n c) (.slice B m d)] w fun e w' => e = .returned (.int .i64 (Scrubs.fromQ s)) ∧ Ext w w' := by
  have q1 := hu.max
  have q2 := hu.le
  have q3 := hb.max
  have q4 := hb.le
  have xA : Ext w (w.alloc (.cells #[.int .i64 s.cur, .bool s.queue, .slice A n c, .slice B m d] 24)) := Ext.alloc _ _
  obtain ⟨w1, hw1⟩ : ∃ w1, w.alloc (.cells #[.int .i64 s.cur, .bool s.queue, .slice A n c, .slice B m d] 24) = w1 := ⟨_, rfl⟩
  have s1 := Sb.new w s.cur s.queue (.slice A n c) (.slice B m d) rfl
  rw [hw1] at s1 xA
  have HW := Lib.hid hw1
  have j2 := s1.c2
  have j3 := s1.c3
  have LU := Lib.hid hu.len
  have HU := Lib.hid (hu.ext xA)
  have HB := Lib.hid (hb.ext xA)
  have XA := Lib.hid xA
  clear hu hb s1 xA hw1
  go_enter Try.func36, Try.ntmps36
  go_wp2_with (fail)
  go_loopw [3] (fun t wr => ∃ k : Nat, k ≤ n ∧ t = .int .i64 k ∧ Ext w1 wr ∧ RowKit.Hid (∀ j, j < k → Scrubs.free s (Il.get s.urged j) = false)) (fun t _ => n - (intOf t).toNat)
  case atStart => exact ⟨0, by omega, rfl, (by rw [← HW.out]; exact Ext.refl _), Lib.hid fun j hj => absurd hj (Nat.not_lt_zero _)⟩
  case round =>
    obtain ⟨k, hk, rfl, hx, H⟩ := hrel
    have i2 := hx.cell j2
    have i3 := hx.cell j3
    by_cases hlt : k < n
    · have i1 : (k : Int) < n := by omega
      obtain ⟨bb, o, rfl, hc⟩ := (HU.out.ext hx).rd.intAt hlt
      have hfr : Scrubs.free s (Il.get s.urged k) = !decide (Il.get s.urged k ∈ s.busy) := rfl
      have hg0 : ∀ y, Il.get s.urged k = y → True := fun _ _ => trivial
      obtain ⟨x, hxx⟩ : ∃ x, Il.get s.urged k = x := ⟨_, rfl⟩
      have HX := Lib.hid hxx
      rw [hxx] at hc hfr
      have HHAS := Lib.hid (fun (W : World) (hW : Ext wr W) => has_any W B m d s.busy x ((HB.out.ext hx).ext hW))
      obtain ⟨fb, hfb⟩ : ∃ fb, decide (x ∈ s.busy) = fb := ⟨_, rfl⟩
      rw [hfb] at HHAS hfr
      have HFR := Lib.hid hfr
      clear hxx hfr hfb hg0
      cases fb with
      | true =>
        go_wp2_with (fail)
        go_region_with (((with_reducible refine (HHAS.out _ (Ext.drew _)).mono ?_); (rintro e w9 ⟨rfl, rfl⟩)))
        all_goals
          go_wp2_with (fail)
          exact ⟨⟨k + 1, by omega, by go_num, hx.thenDrew, Lib.hid fun j hj => by
            by_cases e : j = k
            · rw [e, HX.out, HFR.out]; rfl
            · exact H.out j (by omega)⟩, by simp [intOf]; omega⟩
      | false =>
        go_wp2_with (fail)
        go_region_with (((with_reducible refine (HHAS.out _ (Ext.drew _)).mono ?_); (rintro e w9 ⟨rfl, rfl⟩)))
        all_goals
          go_wp2_with (fail)
          go_ret
          refine ⟨ret_int ?_, (XA.out.trans hx).thenDrew⟩
          exact (Il.idxf_found (by rw [LU.out]; exact hlt) (by rw [HX.out, HFR.out]; rfl) H.out).symm
    · have i1 : ¬ (k : Int) < n := by omega
      obtain rfl : k = n := by omega
      go_wp2_with (fail)
      go_ret
      refine ⟨ret_int ?_, XA.out.trans hx⟩
      exact (Il.idxf_none (fun j hj => H.out j (by rw [LU.out] at hj; exact hj))).symm
set_option maxRecDepth 100000 in
set_option maxHeartbeats 2000000 in
theorem cursor_any (w : World) (s : Scrubs.S) (A : Option Addr) (n c : Nat) (B : Option Addr) (m d : Nat) (C : Option Addr) (q e0 : Nat) (l : List Int) (hb : Is w B m d s.busy) (hl : Is w C q e0 l) (hr : Il.rising 0 Scrubs.great l) :
    Calls Try.prog 37 #[sval s.cur s.queue (.slice A n c) (.slice B m d), .slice C q e0] w fun e w' => e = .returned (.int .i64 (Scrubs.cursorN s l)) ∧ Ext w w' := by
  have q3 := hb.max
  have q4 := hb.le
  have q5 := hl.max
  have q6 := hl.le
  have xA : Ext w (w.alloc (.cells #[.int .i64 s.cur, .bool s.queue, .slice A n c, .slice B m d] 24)) := Ext.alloc _ _
  obtain ⟨w1, hw1⟩ : ∃ w1, w.alloc (.cells #[.int .i64 s.cur, .bool s.queue, .slice A n c, .slice B m d] 24) = w1 := ⟨_, rfl⟩
  have s1 := Sb.new w s.cur s.queue (.slice A n c) (.slice B m d) rfl
  rw [hw1] at s1 xA
  have HW := Lib.hid hw1
  have j0 := s1.c0
  have j3 := s1.c3
  have LL := Lib.hid hl.len
  have HL := Lib.hid (hl.ext xA)
  have HB := Lib.hid (hb.ext xA)
  have XA := Lib.hid xA
  have HR := Lib.hid hr
  clear hb hl s1 xA hw1 hr
  go_enter Try.func37, Try.ntmps37
  go_wp2_with (fail)
  go_loopw [5, 6] (fun t5 t6 wr => ∃ (k : Nat) (x : Int), k ≤ q ∧ t6 = .int .i64 k ∧ t5 = .int .i64 x ∧ Ext w1 wr ∧ RowKit.Hid (∀ j, j < k → ¬ (s.cur < Il.get l j ∧ Scrubs.free s (Il.get l j) = true)) ∧ RowKit.Hid ((x = -1 ∧ ∀ j, j < k → Scrubs.free s (Il.get l j) = false) ∨ ∃ i, i < k ∧ x = Il.get l i ∧ Scrubs.free s (Il.get l i) = true ∧ ∀ j, j < i → Scrubs.free s (Il.get l j) = false)) (fun _ t6 _ => q - (intOf t6).toNat)
  case atStart => exact ⟨0, -1, by omega, rfl, rfl, (by rw [← HW.out]; exact Ext.refl _), Lib.hid fun j hj => absurd hj (Nat.not_lt_zero _), Lib.hid (.inl ⟨rfl, fun j hj => absurd hj (Nat.not_lt_zero _)⟩)⟩
  case round =>
    obtain ⟨k, x, hk, rfl, rfl, hx, H, HX⟩ := hrel
    have i0 := hx.cell j0
    have i3 := hx.cell j3
    by_cases hlt : k < q
    · have i1 : (k : Int) < q := by omega
      obtain ⟨bb, o, rfl, hc⟩ := (HL.out.ext hx).rd.intAt hlt
      have hfr : Scrubs.free s (Il.get l k) = !decide (Il.get l k ∈ s.busy) := rfl
      have hy0 := (HR.out k (by rw [LL.out]; exact hlt)).1.1
      obtain ⟨y, hyy⟩ : ∃ y, Il.get l k = y := ⟨_, rfl⟩
      have HY := Lib.hid hyy
      rw [hyy] at hc hfr hy0
      have HHAS := Lib.hid (fun (W : World) (hW : Ext wr W) => has_any W B m d s.busy y ((HB.out.ext hx).ext hW))
      obtain ⟨fb, hfb⟩ : ∃ fb, decide (y ∈ s.busy) = fb := ⟨_, rfl⟩
      rw [hfb] at HHAS hfr
      have HFR := Lib.hid hfr
      clear hyy hfr hfb
      cases fb with
      | true =>
        go_wp2_with (fail)
        go_region_with (((with_reducible refine (HHAS.out _ (Ext.drew _)).mono ?_); (rintro e w9 ⟨rfl, rfl⟩)))
        all_goals
          go_wp2_with (fail)
          refine ⟨⟨k + 1, x, by omega, by go_num, rfl, hx.thenDrew, Lib.hid fun j hj => ?_, Lib.hid ?_⟩, by simp [intOf]; omega⟩
          · by_cases e : j = k
            · rw [e, HY.out, HFR.out]; exact fun h => by cases h.2
            · exact H.out j (by omega)
          · rcases HX.out with ⟨h1, h2⟩ | ⟨i, hi, h2, h3, h4⟩
            · exact .inl ⟨h1, fun j hj => by
                by_cases e : j = k
                · rw [e, HY.out, HFR.out]; rfl
                · exact h2 j (by omega)⟩
            · exact .inr ⟨i, by omega, h2, h3, h4⟩
      | false =>
        by_cases hgt : s.cur < y
        · go_wp2_with (fail)
          go_region_with (((with_reducible refine (HHAS.out _ (Ext.drew _)).mono ?_); (rintro e w9 ⟨rfl, rfl⟩)))
          all_goals
            go_wp2_with (fail)
            go_region
            all_goals
              go_wp2_with (fail)
              go_ret
              refine ⟨ret_int ?_, ((XA.out.trans hx).thenDrew).thenDrew⟩
              rw [Scrubs.cursorN_ahead (by rw [LL.out]; exact hlt) (by rw [HY.out]; exact hgt) (by rw [HY.out, HFR.out]; rfl) H.out, HY.out]
        · by_cases hx0 : x < 0
          · go_wp2_with (fail)
            go_region_with (((with_reducible refine (HHAS.out _ (Ext.drew _)).mono ?_); (rintro e w9 ⟨rfl, rfl⟩)))
            all_goals
              go_wp2_with (fail)
              go_region
              all_goals
                go_wp2_with (fail)
                refine ⟨⟨k + 1, y, by omega, by go_num, rfl, (hx.thenDrew).thenDrew, Lib.hid fun j hj => ?_, Lib.hid (.inr ⟨k, by omega, HY.out.symm, by rw [HY.out, HFR.out]; rfl, ?_⟩)⟩, by simp [intOf]; omega⟩
                · by_cases e : j = k
                  · rw [e, HY.out]; exact fun h => by have := h.1; omega
                  · exact H.out j (by omega)
                · rcases HX.out with ⟨h1, h2⟩ | ⟨i, hi, h2, h3, h4⟩
                  · exact h2
                  · have := (HR.out i (by rw [LL.out]; omega)).1.1
                    omega
          · go_wp2_with (fail)
            go_region_with (((with_reducible refine (HHAS.out _ (Ext.drew _)).mono ?_); (rintro e w9 ⟨rfl, rfl⟩)))
            all_goals
              go_wp2_with (fail)
              go_region
              all_goals
                go_wp2_with (fail)
                refine ⟨⟨k + 1, x, by omega, by go_num, rfl, (hx.thenDrew).thenDrew, Lib.hid fun j hj => ?_, Lib.hid ?_⟩, by simp [intOf]; omega⟩
                · by_cases e : j = k
                  · rw [e, HY.out]; exact fun h => by have := h.1; omega
                  · exact H.out j (by omega)
                · rcases HX.out with ⟨h1, h2⟩ | ⟨i, hi, h2, h3, h4⟩
                  · omega
                  · exact .inr ⟨i, by omega, h2, h3, h4⟩
    · have i1 : ¬ (k : Int) < q := by omega
      obtain rfl : k = q := by omega
      go_wp2_with (fail)
      go_ret
      refine ⟨ret_int ?_, XA.out.trans hx⟩
      rw [Scrubs.cursorN_rest (x := x) (fun j hj => H.out j (by rw [LL.out] at hj; exact hj)) (by
        rcases HX.out with ⟨h1, h2⟩ | ⟨i, hi, h2, h3, h4⟩
        · exact .inl ⟨h1, fun j hj => h2 j (by rw [LL.out] at hj; exact hj)⟩
        · exact .inr ⟨i, by rw [LL.out]; exact hi, h2, h3, h4⟩)]
end Go.Proofs.Ytkclimblcipmlaa
