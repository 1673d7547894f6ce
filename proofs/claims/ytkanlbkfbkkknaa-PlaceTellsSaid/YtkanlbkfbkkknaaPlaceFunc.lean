/- The contracts of slices.IndexFunc and slices.ContainsFunc at lists of placements, for whatever predicate; of place.all. -/
import Derived.Test.YtkanlbkfbkkknaaPlace
import Derived.Shelf.Abstract
namespace Go.Proofs.Ytkanlbkfbkkknaa
open Go.RowKit

/-- What is asked of a predicate: at every placement, in every world that has grown, it answers as 'q' does. -/
def Asks (w : World) (g : Nat) (lb : Array Value) (q : Pl.P → Bool) : Prop :=
  ∀ (W : World) (e : Int) (A : Option Addr) (n c : Nat) (nodes : List Int), Ext w W → Is W A n c nodes →
    Calls Try.prog g (#[.agg #[.int .i64 e, .slice A n c]] ++ lb) W fun r w' => r = .returned (.bool (q (e, nodes))) ∧ Ext W w'
theorem Asks.ext {w w' : World} {g : Nat} {lb : Array Value} {q : Pl.P → Bool} (h : Asks w g lb q) (hx : Ext w w') : Asks w' g lb q :=
  fun W e A n c nodes hW hi => h W e A n c nodes (hx.trans hW) hi

set_option maxRecDepth 100000 in
set_option maxHeartbeats 1000000 in
theorem indexFunc_any (w : World) (A : Option Addr) (n c : Nat) (l : List Pl.P) (hl : Ps w A n c l) (g : Nat) (lb : Array Value) (q : Pl.P → Bool)
    (eg : ∀ args w, (callFunc g args).run Try.prog w = .ok (.enter g args) w) (hq : Asks w g lb q) :
    Calls Try.prog 49 #[.slice A n c, .func (.func g) #[] lb] w fun r w' =>
      ∃ i : Int, r = .returned (.int .i64 i) ∧ decide (0 ≤ i) = l.any q ∧ Ext w w' := by
  have hmax := hl.max
  have hle := hl.le
  have HQ := Lib.hid hq
  have HL := Lib.hid hl
  clear hq hl
  go_enter Try.func49, Try.ntmps49
  go_wp2
  go_loopw [5, 8] (fun _ s8 wr => ∃ k : Nat, k ≤ n ∧ s8 = .int .i64 k ∧ Ext w wr ∧ RowKit.Hid (∀ j, j < k → q (Pl.pget l j) = false)) (fun _ s8 _ => n - (intOf s8).toNat)
  case atStart => exact ⟨0, Nat.zero_le _, rfl, Ext.refl w, Lib.hid fun j hj => absurd hj (Nat.not_lt_zero _)⟩
  case round =>
    obtain ⟨k, hk, rfl, hx, H⟩ := hrel
    by_cases hlt : k < n
    · have i1 : (k : Int) < n := by omega
      obtain ⟨b, off, A', n', c', rfl, q1, q2, hi⟩ := (HL.out.ext hx).rd k hlt
      have hcall := HQ.out wr (Pl.pget l k).1 A' n' c' (Pl.pget l k).2 hx hi
      generalize hy : q ((Pl.pget l k).1, (Pl.pget l k).2) = y at hcall
      have Y := Lib.hid hy
      clear hy
      cases y with
      | true =>
        go_wp2_with (fail)
        refine hcall.mono ?_
        rintro r w' ⟨rfl, hx'⟩
        go_wp2_with (fail)
        go_ret
        refine ⟨_, rfl, ?_, hx.trans hx'⟩
        rw [decide_eq_true (by omega), eq_comm, List.any_eq_true]
        exact ⟨Pl.pget l k, Pl.pget_mem (by rw [HL.out.len]; exact hlt), Y.out⟩
      | false =>
        go_wp2_with (fail)
        refine hcall.mono ?_
        rintro r w' ⟨rfl, hx'⟩
        go_wp2_with (fail)
        refine ⟨⟨k + 1, by omega, by go_num, hx.trans hx', Lib.hid fun j hj => ?_⟩, by simp [intOf]; omega⟩
        by_cases e : j = k
        · subst e; exact Y.out
        · exact H.out j (by omega)
    · have i1 : ¬ (k : Int) < n := by omega
      obtain rfl : k = n := by omega
      go_wp2
      go_ret
      refine ⟨_, rfl, ?_, hx⟩
      rw [decide_eq_false (by omega), eq_comm, List.any_eq_false]
      intro x hxm
      obtain ⟨j, hj, rfl⟩ := Pl.mem_pget hxm
      rw [H.out j (by have := HL.out.len; omega)]
      decide
theorem containsFunc_any (w : World) (A : Option Addr) (n c : Nat) (l : List Pl.P) (hl : Ps w A n c l) (g : Nat) (lb : Array Value) (q : Pl.P → Bool)
    (eg : ∀ args w, (callFunc g args).run Try.prog w = .ok (.enter g args) w) (hq : Asks w g lb q) :
    Calls Try.prog 37 #[.slice A n c, .func (.func g) #[] lb] w fun r w' =>
      r = .returned (.bool (l.any q)) ∧ Ext w w' := by
  go_enter Try.func37, Try.ntmps37
  go_wp2_with (fail)
  refine (indexFunc_any w A n c l hl g lb q eg hq).mono ?_
  rintro r w' ⟨i, rfl, e, hx⟩
  go_wp2_with (fail)
  go_ret
  exact ⟨rfl, hx⟩

theorem all1_any (w : World) (e : Int) (A : Option Addr) (n c : Nat) (nodes : List Int) (hi : Is w A n c nodes) :
    Calls Try.prog 48 #[.agg #[.int .i64 e, .slice A n c]] w fun r w' => r = .returned (.bool (!decide (Pl.Right (e, nodes) 256))) ∧ Ext w w' := by
  go_enter Try.func48, Try.ntmps48
  go_wp2_with (fail)
  refine (right_any _ e A n c nodes 256 (hi.ext (Ext.alloc _ _))).mono ?_
  rintro r w' ⟨rfl, hx⟩
  go_wp2_with (fail)
  go_ret
  exact ⟨rfl, (Ext.alloc _ _).trans hx⟩
theorem all1_asks (w : World) : Asks w 48 #[] (fun p => !decide (Pl.Right p 256)) :=
  fun W e A n c nodes _ hi => all1_any W e A n c nodes hi
set_option maxHeartbeats 1000000 in
theorem all_any (w : World) (A : Option Addr) (n c : Nat) (l : List Pl.P) (hl : Ps w A n c l) :
    Calls Try.prog 36 #[.slice A n c] w fun r w' => r = .returned (.bool (decide (Pl.All l))) ∧ Ext w w' := by
  have hm := hl.max
  have hle := hl.le
  have hc := containsFunc_any w A n c l hl 48 #[] _ (enters_of Try.func48 (by kernel_rfl) rfl) (all1_asks w)
  have L := Lib.hid hl.len
  clear hl
  by_cases h1 : (n : Int) < 1
  · have h2 : ¬ 1 ≤ (n : Int) := by omega
    clear hc
    go_enter Try.func36, Try.ntmps36
    go_wp2
    go_ret
    refine ⟨ret_bool ?_, Ext.refl _⟩
    rw [eq_comm, decide_eq_false_iff_not]
    intro h
    have := h.1
    rw [L.out] at this
    omega
  · by_cases h2 : 1000 < (n : Int)
    · have h3 : ¬ (n : Int) ≤ 1000 := by omega
      have h4 : 1 ≤ (n : Int) := by omega
      clear hc
      go_enter Try.func36, Try.ntmps36
      go_wp2
      go_ret
      refine ⟨ret_bool ?_, Ext.refl _⟩
      rw [eq_comm, decide_eq_false_iff_not]
      intro h
      have := h.2.1
      rw [L.out] at this
      omega
    · have h3 : (n : Int) ≤ 1000 := by omega
      have h4 : 1 ≤ (n : Int) := by omega
      go_enter Try.func36, Try.ntmps36
      go_wp2_with (fail)
      refine hc.mono ?_
      rintro r w' ⟨rfl, hx⟩
      go_wp2_with (fail)
      go_ret
      refine ⟨ret_bool ?_, hx⟩
      rw [← Pl.any_right l (by rw [L.out]; omega) (by rw [L.out]; omega)]
end Go.Proofs.Ytkanlbkfbkkknaa
