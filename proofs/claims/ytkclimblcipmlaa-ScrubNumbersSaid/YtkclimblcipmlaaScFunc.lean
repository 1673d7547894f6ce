/- The contracts of scrub.stripe and rising; of slices.IndexFunc at []int (where the first one is that is so), and scrub.next. -/
import Derived.Test.YtkclimblcipmlaaIntsContains
import Derived.Test.YtkclimblcipmlaaIntsClone
import Derived.Test.YtkclimblcipmlaaDeleteInts
import Derived.Test.YtkclimblcipmlaaScrubs
import Derived.Shelf.Abstract
namespace Go.Proofs.Ytkclimblcipmlaa
open Go.RowKit

theorem scStripe_any (w : World) (n : Int) : Calls Try.prog 22 #[.int .i64 n] w fun e w' => e = .returned (.bool (decide (Scrubs.stripe n))) ∧ w = w' := by
  by_cases h1 : 0 ≤ n
  · by_cases h2 : n ≤ 1099511627776
    · have e : decide (Scrubs.stripe n) = true := decide_eq_true ⟨h1, h2⟩
      rw [e]
      clear e
      go_enter Try.func22, Try.ntmps22
      go_wp2_with (fail)
      all_goals (go_ret; exact ⟨rfl, rfl⟩)
    · have e : decide (Scrubs.stripe n) = false := decide_eq_false (fun h => h2 h.2)
      rw [e]
      clear e
      go_enter Try.func22, Try.ntmps22
      go_wp2_with (fail)
      all_goals (go_ret; exact ⟨rfl, rfl⟩)
  · have e : decide (Scrubs.stripe n) = false := decide_eq_false (fun h => h1 h.1)
    rw [e]
    clear e
    go_enter Try.func22, Try.ntmps22
    go_wp2_with (fail)
    all_goals (go_ret; exact ⟨rfl, rfl⟩)
theorem scRising_any (w : World) (A : Option Addr) (n c : Nat) (l : List Int) (hl : Is w A n c l) :
    Calls Try.prog 25 #[.slice A n c] w fun e w' => e = .returned (.bool (decide (Il.rising 0 Scrubs.great l))) ∧ w = w' := by
  have hm := hl.max
  have hle := hl.le
  have L := Lib.hid hl.len
  obtain ⟨R, hR⟩ : ∃ R, decide (Il.rising 0 Scrubs.great l) = R := ⟨_, rfl⟩
  have HR := Lib.hid hR
  rw [hR]
  clear hR
  have hbad : ∀ k, k < n → (¬ Scrubs.stripe (Il.get l k) ∨ (0 < k ∧ Il.get l k ≤ Il.get l (k - 1))) → R = false := fun k hk hb => by
    rw [← HR.out, decide_eq_false_iff_not]
    intro h
    have := h k (by rw [L.out]; exact hk)
    rcases hb with hb | ⟨hb, hb2⟩
    · exact hb this.1
    · have := this.2 hb; omega
  have HBAD := Lib.hid hbad
  clear hbad
  go_enter Try.func25, Try.ntmps25
  go_wp2_with (fail)
  go_loopw [3, 4, 7] (fun _ _ s wr => ∃ k : Nat, k ≤ n ∧ s = .int .i64 k ∧ w = wr ∧ RowKit.Hid (∀ j, j < k → Scrubs.stripe (Il.get l j) ∧ (0 < j → Il.get l (j - 1) < Il.get l j))) (fun _ _ s _ => n - (intOf s).toNat)
  case atStart => exact ⟨0, by omega, rfl, rfl, Lib.hid fun j hj => absurd hj (Nat.not_lt_zero _)⟩
  case round =>
    obtain ⟨k, hk, rfl, rfl, H⟩ := hrel
    by_cases hlt : k < n
    · have i1 : (k : Int) < n := by omega
      obtain ⟨b, o, rfl, hc⟩ := hl.rd.intAt hlt
      obtain ⟨x, hx⟩ : ∃ x, Il.get l k = x := ⟨_, rfl⟩
      have HX := Lib.hid hx
      rw [hx] at hc
      clear hx
      by_cases hs : Scrubs.stripe x
      · have hS := scStripe_any w x
        rw [decide_eq_true hs] at hS
        have HS := Lib.hid hS
        have HST := Lib.hid hs
        clear hS hs
        by_cases h0 : k = 0
        · subst h0
          rw [Nat.add_zero] at hc
          go_wp2_with (fail)
          refine HS.out.mono ?_
          rintro e w' ⟨rfl, rfl⟩
          go_wp2_with (fail)
          exact ⟨⟨1, by omega, by go_num, by trivial, Lib.hid fun j hj => by
            obtain rfl : j = 0 := by omega
            exact ⟨by rw [HX.out]; exact HST.out, fun h => absurd h (Nat.lt_irrefl 0)⟩⟩, by simp [intOf]; omega⟩
        · obtain ⟨j, rfl⟩ : ∃ j, k = j + 1 := ⟨k - 1, by omega⟩
          have h0' : (0 : Int) < ((j + 1 : Nat) : Int) := by omega
          obtain ⟨b', o', e1, hc'⟩ := hl.rd.intAt (show j < n by omega)
          injection e1 with e1
          injection e1 with e1 e2
          subst e1 e2
          obtain ⟨y, hy⟩ : ∃ y, Il.get l j = y := ⟨_, rfl⟩
          have HY := Lib.hid hy
          rw [hy] at hc'
          clear hy
          have e3 : ((j + 1 : Nat) : Int) - 1 = (j : Int) := by omega
          by_cases hyx : y < x
          · have g1 : ¬ x ≤ y := by omega
            go_wp2_with (fail)
            refine HS.out.mono ?_
            rintro e w' ⟨rfl, rfl⟩
            go_wp2_with (fail)
            exact ⟨⟨j + 1 + 1, by omega, by go_num, by trivial, Lib.hid fun i hi => by
              by_cases e : i = j + 1
              · rw [e, HX.out]
                exact ⟨HST.out, fun _ => by rw [Nat.add_sub_cancel, HY.out]; exact hyx⟩
              · exact H.out i (by omega)⟩, by simp [intOf]; omega⟩
          · have g1 : x ≤ y := by omega
            obtain rfl := HBAD.out (j + 1) hlt (.inr ⟨by omega, by rw [Nat.add_sub_cancel, HX.out, HY.out]; exact g1⟩)
            go_wp2_with (fail)
            refine HS.out.mono ?_
            rintro e w' ⟨rfl, rfl⟩
            go_wp2_with (fail)
            go_ret
            exact ⟨rfl, rfl⟩
      · have hS := scStripe_any w x
        rw [decide_eq_false hs] at hS
        have HS := Lib.hid hS
        obtain rfl := HBAD.out k hlt (.inl (by rw [HX.out]; exact hs))
        clear hS hs
        go_wp2_with (fail)
        refine HS.out.mono ?_
        rintro e w' ⟨rfl, rfl⟩
        go_wp2_with (fail)
        go_ret
        exact ⟨rfl, rfl⟩
    · have i1 : ¬ (k : Int) < n := by omega
      obtain rfl : k = n := by omega
      have hR : R = true := by
        rw [← HR.out, decide_eq_true_eq]
        intro i hi
        exact H.out i (by rw [L.out] at hi; exact hi)
      subst hR
      go_wp2_with (fail)
      go_ret
      exact ⟨rfl, rfl⟩
/-- What is asked of a predicate: of every number, in every world that has grown, it answers as 'q' does. -/
def AsksNum (w : World) (g : Nat) (lb : Array Value) (q : Int → Bool) : Prop :=
  ∀ (W : World) (x : Int), Ext w W → Calls Try.prog g (#[.int .i64 x] ++ lb) W fun e w' => e = .returned (.bool (q x)) ∧ W = w'
theorem AsksNum.ext {w w' : World} {g : Nat} {lb : Array Value} {q : Int → Bool} (h : AsksNum w g lb q) (hx : Ext w w') : AsksNum w' g lb q := fun W x hW => h W x (hx.trans hW)
set_option maxRecDepth 100000 in
set_option maxHeartbeats 1000000 in
theorem indexF_any (w : World) (A : Option Addr) (n c : Nat) (l : List Int) (hl : Is w A n c l) (g : Nat) (lb : Array Value) (q : Int → Bool)
    (eg : ∀ args w, (callFunc g args).run Try.prog w = .ok (.enter g args) w) (hq : AsksNum w g lb q) :
    Calls Try.prog 42 #[.slice A n c, .func (.func g) #[] lb] w fun r w' => r = .returned (.int .i64 (Il.idxf l q)) ∧ w = w' := by
  have hmax := hl.max
  have hle := hl.le
  have HQ := Lib.hid hq
  have HL := Lib.hid hl
  clear hq hl
  go_enter Try.func42, Try.ntmps42
  go_wp2
  go_loopw [5, 8] (fun _ s8 wr => ∃ k : Nat, k ≤ n ∧ s8 = .int .i64 k ∧ w = wr ∧ RowKit.Hid (∀ j, j < k → q (Il.get l j) = false)) (fun _ s8 _ => n - (intOf s8).toNat)
  case atStart => exact ⟨0, Nat.zero_le _, rfl, rfl, Lib.hid fun j hj => absurd hj (Nat.not_lt_zero _)⟩
  case round =>
    obtain ⟨k, hk, rfl, rfl, H⟩ := hrel
    by_cases hlt : k < n
    · have i1 : (k : Int) < n := by omega
      obtain ⟨b, off, rfl, q1⟩ := HL.out.rd.intAt hlt
      have hcall := HQ.out w (Il.get l k) (Ext.refl w)
      generalize hy : q (Il.get l k) = y at hcall
      have Y := Lib.hid hy
      clear hy
      cases y with
      | true =>
        go_wp2_with (fail)
        refine hcall.mono ?_
        rintro r w' ⟨rfl, rfl⟩
        go_wp2_with (fail)
        go_ret
        exact ⟨ret_int (Il.idxf_found (by rw [HL.out.len]; exact hlt) Y.out H.out).symm, rfl⟩
      | false =>
        go_wp2_with (fail)
        refine hcall.mono ?_
        rintro r w' ⟨rfl, rfl⟩
        go_wp2_with (fail)
        refine ⟨⟨k + 1, by omega, by go_num, by trivial, Lib.hid fun j hj => ?_⟩, by simp [intOf]; omega⟩
        by_cases e : j = k
        · subst e; exact Y.out
        · exact H.out j (by omega)
    · have i1 : ¬ (k : Int) < n := by omega
      obtain rfl : k = n := by omega
      go_wp2
      go_ret
      exact ⟨ret_int (Il.idxf_none (fun j hj => H.out j (by rw [HL.out.len] at hj; exact hj))).symm, rfl⟩
theorem scNext_any (w : World) (A : Option Addr) (n c : Nat) (l : List Int) (hl : Is w A n c l) (g : Nat) (lb : Array Value) (q : Int → Bool)
    (eg : ∀ args w, (callFunc g args).run Try.prog w = .ok (.enter g args) w) (hq : AsksNum w g lb q) :
    Calls Try.prog 27 #[.slice A n c, .func (.func g) #[] lb] w fun r w' => r = .returned (.int .i64 (Il.idxf l q)) ∧ w = w' := by
  go_enter Try.func27, Try.ntmps27
  go_wp2_with (fail)
  refine (indexF_any w A n c l hl g lb q eg hq).mono ?_
  rintro r w' ⟨rfl, rfl⟩
  go_wp2_with (fail)
  go_ret
  exact ⟨rfl, rfl⟩
end Go.Proofs.Ytkclimblcipmlaa
