/- The contracts of slices.ContainsFunc at matrices, for whatever predicate; of matrix.none, matrix.Right, and of the document's Right. -/
import Derived.Test.YtiianhlppkocgaaMx
import Derived.Test.YtiianhlppkocgaaGc
import Derived.Test.YtiianhlppkocgaaFieldLists
import Derived.Shelf.Abstract
namespace Go.Proofs.Ytiianhlppkocgaa
open Go.RowKit

/-- Is there such a row? -/
def anyRow (n : Nat) (m : Gm.L) (q : List UInt8 → Bool) : Bool := decide (∃ k, k < n ∧ q (Gm.row m k) = true)
/-- What is asked of a predicate: at every row, in every world that has grown, it answers as 'q' does. -/
def AsksRow (w : World) (g : Nat) (lb : Array Value) (q : List UInt8 → Bool) : Prop :=
  ∀ (W : World) (A : Option Addr) (n c : Nat) (r : List UInt8), Ext w W → Bs W A n c r → Calls Try.prog g (#[.slice A n c] ++ lb) W fun e w' => e = .returned (.bool (q r)) ∧ Ext W w'

set_option maxRecDepth 100000 in
set_option maxHeartbeats 1000000 in
theorem indexRow_any (w : World) (A : Option Addr) (n c : Nat) (m : Gm.L) (hm : Mx w A n c m) (g : Nat) (lb : Array Value) (q : List UInt8 → Bool)
    (eg : ∀ args w, (callFunc g args).run Try.prog w = .ok (.enter g args) w) (hq : AsksRow w g lb q) :
    Calls Try.prog 59 #[.slice A n c, .func (.func g) #[] lb] w fun r w' =>
      ∃ i : Int, r = .returned (.int .i64 i) ∧ decide (0 ≤ i) = anyRow n m q ∧ Ext w w' := by
  have hmax := hm.max
  have hle := hm.le
  have HQ := Lib.hid hq
  have HM := Lib.hid hm
  clear hq hm
  go_enter Try.func59, Try.ntmps59
  go_wp2
  go_loopw [5, 8] (fun _ s8 wr => ∃ k : Nat, k ≤ n ∧ s8 = .int .i64 k ∧ Ext w wr ∧ RowKit.Hid (∀ j, j < k → q (Gm.row m j) = false)) (fun _ s8 _ => n - (intOf s8).toNat)
  case atStart => exact ⟨0, Nat.zero_le _, rfl, Ext.refl w, Lib.hid fun j hj => absurd hj (Nat.not_lt_zero _)⟩
  case round =>
    obtain ⟨k, hk, rfl, hx, H⟩ := hrel
    by_cases hlt : k < n
    · have i1 : (k : Int) < n := by omega
      obtain ⟨b, off, A', n', c', rfl, q1, hb⟩ := (HM.out.ext hx).at_ hlt
      have hcall := HQ.out wr A' n' c' (Gm.row m k) hx hb
      generalize hy : q (Gm.row m k) = y at hcall
      have Y := Lib.hid hy
      clear hy hb
      cases y with
      | true =>
        go_wp2_with (fail)
        refine hcall.mono ?_
        rintro r w' ⟨rfl, hx'⟩
        go_wp2_with (fail)
        go_ret
        refine ⟨_, rfl, ?_, hx.trans hx'⟩
        unfold anyRow
        rw [decide_eq_true (by omega), eq_comm, decide_eq_true_eq]
        exact ⟨k, hlt, Y.out⟩
      | false =>
        go_wp2_with (fail)
        refine hcall.mono ?_
        rintro r w' ⟨rfl, hx'⟩
        go_wp2_with (fail)
        refine ⟨⟨k + 1, by omega, by go_num, hx.trans hx', Lib.hid fun j hj => ?_⟩, by simp [intOf]; omega⟩
        by_cases e : j = k
        · subst e; exact Y.out
        · exact H.out j (by omega)
    · have i1 : ¬ (k : Int) < n := by omega
      obtain rfl : k = n := by omega
      go_wp2
      go_ret
      refine ⟨_, rfl, show decide ((0 : Int) ≤ -1) = anyRow k m q from ?_, hx⟩
      unfold anyRow
      rw [decide_eq_false (by omega), eq_comm, decide_eq_false_iff_not]
      rintro ⟨j, hj, e⟩
      rw [H.out j hj] at e
      cases e
theorem containsRow_any (w : World) (A : Option Addr) (n c : Nat) (m : Gm.L) (hm : Mx w A n c m) (g : Nat) (lb : Array Value) (q : List UInt8 → Bool)
    (eg : ∀ args w, (callFunc g args).run Try.prog w = .ok (.enter g args) w) (hq : AsksRow w g lb q) :
    Calls Try.prog 48 #[.slice A n c, .func (.func g) #[] lb] w fun r w' =>
      r = .returned (.bool (anyRow n m q)) ∧ Ext w w' := by
  go_enter Try.func48, Try.ntmps48
  go_wp2_with (fail)
  refine (indexRow_any w A n c m hm g lb q eg hq).mono ?_
  rintro r w' ⟨i, rfl, e, hx⟩
  have E := Lib.hid e
  clear e
  go_wp2_with (fail)
  go_ret
  exact ⟨ret_bool E.out, hx⟩

theorem none_any (b : Nat) (w : World) (hf : FieldAt w b) :
    Calls Try.prog 34 #[.pointer (some ⟨b, 0, none⟩)] w fun e w' => e = .returned (.bool false) ∧ w = w' := by
  have hA : Calls Try.prog 36 #[.pointer (some ⟨b, 0, none⟩), .int .u8 0, .int .u8 1] w fun e w' => e = .returned (.int .u8 1) ∧ w = w' := add_any b w 0 1 hf
  have HA := Lib.hid hA
  clear hA
  go_enter Try.func34, Try.ntmps34
  go_wp2_with (fail)
  refine HA.out.mono ?_
  rintro e w' ⟨rfl, rfl⟩
  go_wp2_with (fail)
  go_ret
  exact ⟨rfl, rfl⟩

theorem right1_asks (w : World) (g k : Nat) (hc : w.cell? ⟨g, 0, none⟩ = some (.int .i64 (k : Int))) : AsksRow w 49 #[.pointer (some ⟨g, 0, none⟩)] (fun r => r.length != k) := by
  intro W A n c r hx hb
  have c0 := hx.cell hc
  have h1 := hb.len
  show Calls Try.prog 49 #[.slice A n c, .pointer (some ⟨g, 0, none⟩)] W _
  have H1 := Lib.hid h1
  clear h1 hb
  go_enter Try.func49, Try.ntmps49
  go_wp2_with (fail)
  go_ret
  refine ⟨ret_bool ?_, Ext.refl _⟩
  rw [H1.out, Bool.eq_iff_iff, bne_iff_ne, bne_iff_ne]
  omega
theorem right_iff {m : Gm.L} {n : Nat} (hl : m.length = n) (h1 : 1 ≤ n) (h2 : n ≤ 255) : Gm.right m ↔ (1 ≤ (Gm.row m 0).length ∧ (Gm.row m 0).length ≤ 255) ∧ ¬ ∃ k, k < n ∧ ((Gm.row m k).length != (Gm.row m 0).length) = true := by
  unfold Gm.right Gm.cols
  rw [hl]
  constructor
  · rintro ⟨_, _, h3, h4, h5⟩
    refine ⟨⟨h3, h4⟩, ?_⟩
    rintro ⟨k, hk, e⟩
    rw [h5 k hk] at e
    simp at e
  · rintro ⟨⟨h3, h4⟩, h5⟩
    refine ⟨h1, h2, h3, h4, fun i hi => ?_⟩
    rcases Classical.em ((Gm.row m i).length = (Gm.row m 0).length) with h | h
    · exact h
    · exact absurd ⟨i, hi, by rw [bne_iff_ne]; exact h⟩ h5
set_option maxRecDepth 100000 in
set_option maxHeartbeats 1000000 in
theorem matRight_any (w : World) (A : Option Addr) (n c : Nat) (m : Gm.L) (hm : Mx w A n c m) :
    Calls Try.prog 25 #[.slice A n c] w fun e w' => e = .returned (.bool (decide (Gm.right m))) ∧ Ext w w' := by
  have hmax := hm.max
  have hle := hm.le
  have L := Lib.hid hm.len
  by_cases h1 : 1 ≤ n
  · have g1 : ¬ (n : Int) < 1 := by omega
    by_cases h2 : n ≤ 255
    · have g2 : ¬ (255 : Int) < (n : Int) := by omega
      obtain ⟨b, off, A0, n0, c0, rfl, hc0, hb0⟩ := hm.at_ (show 0 < n by omega)
      rw [Nat.add_zero] at hc0
      have hx : Ext w (w.alloc (.cells #[.int .i64 (n0 : Int)] 3)) := Ext.alloc _ _
      have hcn : (w.alloc (.cells #[.int .i64 (n0 : Int)] 3)).cell? ⟨w.heap.size, 0, none⟩ = some (.int .i64 (n0 : Int)) := by rw [World.cell?_alloc_new]; rfl
      have hC := containsRow_any _ (some ⟨b, off, none⟩) n c m (hm.ext hx) 49 #[.pointer (some ⟨w.heap.size, 0, none⟩)] _ (enters_of Try.func49 (by kernel_rfl) rfl) (right1_asks _ _ n0 hcn)
      have hri := right_iff L.out h1 h2
      rw [hb0.len] at hri
      have HC := Lib.hid hC
      have HX := Lib.hid hx
      have HRI := Lib.hid hri
      have hm0 := hb0.max
      have hl0 := hb0.le
      clear hC hx hcn hri hb0 hm
      have q0 : (0 : Int) < (n : Int) := by omega
      by_cases h3 : 1 ≤ n0
      · have g3 : 1 ≤ (n0 : Int) := by omega
        by_cases h4 : n0 ≤ 255
        · have g4 : (n0 : Int) ≤ 255 := by omega
          go_enter Try.func25, Try.ntmps25
          go_wp2_with (fail)
          refine HC.out.mono ?_
          rintro r w' ⟨rfl, hx'⟩
          go_wp2_with (fail)
          go_ret
          refine ⟨ret_bool ?_, HX.out.trans hx'⟩
          unfold anyRow
          rw [Bool.eq_iff_iff, decide_eq_true_eq, HRI.out, Bool.not_eq_true', decide_eq_false_iff_not]
          exact ⟨fun h => ⟨⟨h3, h4⟩, h⟩, fun h => h.2⟩
        · have g4 : ¬ (n0 : Int) ≤ 255 := by omega
          go_enter Try.func25, Try.ntmps25
          go_wp2_with (fail)
          go_ret
          refine ⟨ret_bool ?_, HX.out⟩
          rw [eq_comm, decide_eq_false_iff_not, HRI.out]
          exact fun h => h4 h.1.2
      · have g3 : ¬ 1 ≤ (n0 : Int) := by omega
        go_enter Try.func25, Try.ntmps25
        go_wp2_with (fail)
        go_ret
        refine ⟨ret_bool ?_, HX.out⟩
        rw [eq_comm, decide_eq_false_iff_not, HRI.out]
        exact fun h => h3 h.1.1
    · have g2 : (255 : Int) < (n : Int) := by omega
      clear hm
      go_enter Try.func25, Try.ntmps25
      go_wp2_with (fail)
      go_ret
      refine ⟨ret_bool ?_, Ext.refl _⟩
      rw [eq_comm, decide_eq_false_iff_not]
      exact fun h => h2 (by have := h.2.1; rwa [L.out] at this)
  · have g1 : (n : Int) < 1 := by omega
    clear hm
    go_enter Try.func25, Try.ntmps25
    go_wp2_with (fail)
    go_ret
    refine ⟨ret_bool ?_, Ext.refl _⟩
    rw [eq_comm, decide_eq_false_iff_not]
    exact fun h => h1 (by have := h.1; rwa [L.out] at this)
end Go.Proofs.Ytiianhlppkocgaa
