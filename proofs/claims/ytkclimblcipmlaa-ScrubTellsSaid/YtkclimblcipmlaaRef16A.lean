/- The contracts of the document's has, Stripes and without (chapter 16). -/
import Derived.Test.YtkclimblcipmlaaScRight
import Derived.Deep.RegionHeld3
namespace Go.Proofs.Ytkclimblcipmlaa
open Go.RowKit

theorem has_any (w : World) (A : Option Addr) (n c : Nat) (l : List Int) (x : Int) (hl : Is w A n c l) :
    Calls Try.prog 34 #[.slice A n c, .int .i64 x] w fun e w' => e = .returned (.bool (decide (x ∈ l))) ∧ w = w' := by
  have hm := hl.max
  have hle := hl.le
  have L := Lib.hid hl.len
  obtain ⟨R, hR⟩ : ∃ R, decide (x ∈ l) = R := ⟨_, rfl⟩
  have HR := Lib.hid hR
  rw [hR]
  clear hR
  go_enter Try.func34, Try.ntmps34
  go_wp2_with (fail)
  go_loopw [5] (fun s wr => ∃ k : Nat, k ≤ n ∧ s = .int .i64 k ∧ w = wr ∧ RowKit.Hid (∀ j, j < k → Il.get l j ≠ x)) (fun s _ => n - (intOf s).toNat)
  case atStart => exact ⟨0, by omega, rfl, rfl, Lib.hid fun j hj => absurd hj (Nat.not_lt_zero _)⟩
  case round =>
    obtain ⟨k, hk, rfl, rfl, H⟩ := hrel
    by_cases hlt : k < n
    · have i1 : (k : Int) < n := by omega
      obtain ⟨b, o, rfl, hc⟩ := hl.rd.intAt hlt
      obtain ⟨y, hy⟩ : ∃ y, Il.get l k = y := ⟨_, rfl⟩
      have HY := Lib.hid hy
      rw [hy] at hc
      clear hy
      by_cases he : y = x
      · have e1 : (y == x) = true := by rw [he]; simp
        have hR : R = true := by rw [← HR.out, decide_eq_true_eq, ← he, ← HY.out]; exact Il.get_mem (by rw [L.out]; exact hlt)
        subst hR
        clear he
        go_wp2_with (fail)
        go_ret
        exact ⟨rfl, rfl⟩
      · have e1 : (y == x) = false := by rw [beq_eq_false_iff_ne]; exact he
        have HE := Lib.hid he
        clear he
        go_wp2_with (fail)
        refine ⟨⟨k + 1, by omega, by go_num, by trivial, Lib.hid fun j hj => ?_⟩, by simp [intOf]; omega⟩
        by_cases e : j = k
        · rw [e, HY.out]; exact HE.out
        · exact H.out j (by omega)
    · have i1 : ¬ (k : Int) < n := by omega
      obtain rfl : k = n := by omega
      have hR : R = false := by
        rw [← HR.out, decide_eq_false_iff_not]
        intro hm
        obtain ⟨j, hj, e⟩ := Il.mem_get hm
        exact H.out j (by rw [L.out] at hj; exact hj) e
      subst hR
      go_wp2_with (fail)
      go_ret
      exact ⟨rfl, rfl⟩
set_option maxHeartbeats 1000000 in
theorem stripes_any (w : World) (A : Option Addr) (n c : Nat) (l : List Int) (hl : Is w A n c l) :
    Calls Try.prog 35 #[.slice A n c] w fun e w' => e = .returned (.bool (decide (Il.rising 0 Scrubs.great l))) ∧ Ext w w' := by
  have hm := hl.max
  have hle := hl.le
  have L := Lib.hid hl.len
  have HLL := Lib.hid hl
  obtain ⟨R, hR⟩ : ∃ R, decide (Il.rising 0 Scrubs.great l) = R := ⟨_, rfl⟩
  have HR := Lib.hid hR
  rw [hR]
  have hbad : ∀ k, k < n → (¬ Scrubs.stripe (Il.get l k) ∨ (0 < k ∧ Il.get l k ≤ Il.get l (k - 1))) → R = false := fun k hk hb => by
    rw [← HR.out, decide_eq_false_iff_not]
    intro h
    have := h k (by rw [L.out]; exact hk)
    rcases hb with hb | ⟨hb, hb2⟩
    · exact hb this.1
    · have := this.2 hb; omega
  have HBAD := Lib.hid hbad
  clear hbad hR hl
  go_enter Try.func35, Try.ntmps35
  go_wp2_with (fail)
  go_loopw [3] (fun s wr => ∃ k : Nat, k ≤ n ∧ s = .int .i64 k ∧ Ext w wr ∧ RowKit.Hid (∀ j, j < k → Scrubs.stripe (Il.get l j) ∧ (0 < j → Il.get l (j - 1) < Il.get l j))) (fun s _ => n - (intOf s).toNat)
  case atStart => exact ⟨0, by omega, rfl, Ext.refl w, Lib.hid fun j hj => absurd hj (Nat.not_lt_zero _)⟩
  case round =>
    obtain ⟨k, hk, rfl, hx, H⟩ := hrel
    by_cases hlt : k < n
    · have i1 : (k : Int) < n := by omega
      obtain ⟨b, o, rfl, hc⟩ := (HLL.out.ext hx).rd.intAt hlt
      obtain ⟨x, hxx⟩ : ∃ x, Il.get l k = x := ⟨_, rfl⟩
      have HX := Lib.hid hxx
      rw [hxx] at hc
      clear hxx
      by_cases h1 : x < 0
      · have e1 : decide (x < 0) = true := decide_eq_true h1
        obtain rfl := HBAD.out k hlt (.inl (by rw [HX.out]; exact fun h => by have := h.1; omega))
        go_wp2_with (fail)
        go_region
        all_goals
          go_wp2_with (fail)
          go_ret
          exact ⟨rfl, hx.thenDrew⟩
      · have e1 : decide (x < 0) = false := decide_eq_false h1
        by_cases h2 : 1099511627776 < x
        · have e2 : decide (1099511627776 < x) = true := decide_eq_true h2
          obtain rfl := HBAD.out k hlt (.inl (by rw [HX.out]; exact fun h => by have : x ≤ 1099511627776 := h.2; omega))
          go_wp2_with (fail)
          go_region
          all_goals
            go_wp2_with (fail)
            go_ret
            exact ⟨rfl, hx.thenDrew⟩
        · have e2 : decide (1099511627776 < x) = false := decide_eq_false h2
          have HST := Lib.hid (show Scrubs.stripe x from ⟨by omega, by show x ≤ 1099511627776; omega⟩)
          by_cases h0 : k = 0
          · subst h0
            rw [Nat.add_zero] at hc
            go_wp2_with (fail)
            go_region
            all_goals
              go_wp2_with (fail)
              exact ⟨⟨1, by omega, by go_num, hx.thenDrew, Lib.hid fun j hj => by
                obtain rfl : j = 0 := by omega
                exact ⟨by rw [HX.out]; exact HST.out, fun h => absurd h (Nat.lt_irrefl 0)⟩⟩, by simp [intOf]; omega⟩
          · obtain ⟨j, rfl⟩ : ∃ j, k = j + 1 := ⟨k - 1, by omega⟩
            obtain ⟨b', o', e3, hc'⟩ := (HLL.out.ext hx).rd.intAt (show j < n by omega)
            injection e3 with e3
            injection e3 with e4 e5
            subst e4 e5
            obtain ⟨y, hy⟩ : ∃ y, Il.get l j = y := ⟨_, rfl⟩
            have HY := Lib.hid hy
            rw [hy] at hc'
            clear hy
            have e6 : decide ((0 : Int) < ((j + 1 : Nat) : Int)) = true := decide_eq_true (by omega)
            have e7 : ((j + 1 : Nat) : Int) - 1 = (j : Int) := by omega
            have e8 : (0 : Int) < ((j + 1 : Nat) : Int) := by omega
            by_cases hyx : x ≤ y
            · obtain rfl := HBAD.out (j + 1) hlt (.inr ⟨by omega, by rw [Nat.add_sub_cancel, HX.out, HY.out]; exact hyx⟩)
              have e9 : decide (x ≤ y) = true := decide_eq_true hyx
              go_wp2_with (fail)
              go_region
              all_goals
                go_wp2_with (fail)
                go_ret
                exact ⟨rfl, hx.thenDrew⟩
            · have e9 : decide (x ≤ y) = false := decide_eq_false hyx
              go_wp2_with (fail)
              go_region
              all_goals
                go_wp2_with (fail)
                exact ⟨⟨j + 1 + 1, by omega, by go_num, hx.thenDrew, Lib.hid fun i hi => by
                  by_cases e : i = j + 1
                  · rw [e, HX.out]
                    exact ⟨HST.out, fun _ => by rw [Nat.add_sub_cancel, HY.out]; omega⟩
                  · exact H.out i (by omega)⟩, by simp [intOf]; omega⟩
    · have i1 : ¬ (k : Int) < n := by omega
      obtain rfl : k = n := by omega
      have hR : R = true := by
        rw [← HR.out, decide_eq_true_eq]
        intro i hi
        exact H.out i (by rw [L.out] at hi; exact hi)
      subst hR
      go_wp2_with (fail)
      go_ret
      exact ⟨rfl, hx⟩
end Go.Proofs.Ytkclimblcipmlaa
