/- Several texts in one: The contracts of slices.ContainsFunc at matrices, for whatever predicate; of matrix.none, matrix.Right, and of the document's Right. The contracts of slices.ContainsFunc at lists of shards, for whatever predicate; of code.even. A region that draws its order and ends in a store of what it loads: what is known of the world is asked up to the store alone. No program in sight. -/
import Derived.Test.YtfpglkacjecoeaaGreatCt4
import Derived.Test.YtfpglkacjecoeaaGreatCt6
import Derived.Test.YtfpglkacjecoeaaGreatCt8
import Derived.Shelf.Abstract
import Derived.Test.YtfpglkacjecoeaaGreatCt7
import Derived.Test.YtfpglkacjecoeaaGreatChecked
import Derived.StillTail
import Derived.Deep.RegionHeld
namespace Go.Proofs.YtfpglkacjecoeaaGreat
open Go.RowKit

/-- Is there such a row? -/
def anyRow (n : Nat) (m : Gm.L) (q : List UInt8 → Bool) : Bool := decide (∃ k, k < n ∧ q (Gm.row m k) = true)
/-- What is asked of a predicate: at every row, in every world that has grown, it answers as 'q' does. -/
def AsksRow (w : World) (g : Nat) (lb : Array Value) (q : List UInt8 → Bool) : Prop :=
  ∀ (W : World) (A : Option Addr) (n c : Nat) (r : List UInt8), Ext w W → Bs W A n c r → Calls Tryz.prog g (#[.slice A n c] ++ lb) W fun e w' => e = .returned (.bool (q r)) ∧ Ext W w'

set_option maxRecDepth 100000 in
set_option maxHeartbeats 1000000 in
theorem indexRow_any (w : World) (A : Option Addr) (n c : Nat) (m : Gm.L) (hm : Mx w A n c m) (g : Nat) (lb : Array Value) (q : List UInt8 → Bool)
    (eg : ∀ args w, (callFunc g args).run Tryz.prog w = .ok (.enter g args) w) (hq : AsksRow w g lb q) :
    Calls Tryz.prog 109 #[.slice A n c, .func (.func g) #[] lb] w fun r w' =>
      ∃ i : Int, r = .returned (.int .i64 i) ∧ decide (0 ≤ i) = anyRow n m q ∧ Ext w w' := by
  have hmax := hm.max
  have hle := hm.le
  have HQ := Lib.hid hq
  have HM := Lib.hid hm
  clear hq hm
  go_enter Tryz.func109, Tryz.ntmps109
  go_wp2
  go_loopw [5, 8] (fun _ s8 wr => ∃ k : Nat, k ≤ n ∧ s8 = .int .i64 k ∧ Ext w wr ∧ RowKit.Hid (∀ j, j < k → q (Gm.row m j) = false)) (fun _ s8 _ => n - (intOf s8).toNat)
  case atStart => exact ⟨0, Nat.zero_le _, rfl, Ext.refl w, Lib.hid fun j hj => absurd hj (Nat.not_lt_zero _)⟩
  case round =>
    obtain ⟨k, hk, rfl, hx, H⟩ := hrel
    by_cases hlt : k < n
    · have i1 : (k : Int) < n := by omega
      obtain ⟨b, off, A', n', c', rfl, q1, hb⟩ := (HM.out.ext hx).at_ hlt
      have hcall := HQ.out wr A' n' c' (Gm.row m k) hx hb
      generalize hy : q (Gm.row m k) = y at hcall
      have Y := Lib.hid hy
      clear hy hb
      cases y with
      | true =>
        go_wp2_with (fail)
        refine hcall.mono ?_
        rintro r w' ⟨rfl, hx'⟩
        go_wp2_with (fail)
        go_ret
        refine ⟨_, rfl, ?_, hx.trans hx'⟩
        unfold anyRow
        rw [decide_eq_true (by omega), eq_comm, decide_eq_true_eq]
        exact ⟨k, hlt, Y.out⟩
      | false =>
        go_wp2_with (fail)
        refine hcall.mono ?_
        rintro r w' ⟨rfl, hx'⟩
        go_wp2_with (fail)
        refine ⟨⟨k + 1, by omega, by go_num, hx.trans hx', Lib.hid fun j hj => ?_⟩, by simp [intOf]; omega⟩
        by_cases e : j = k
        · subst e; exact Y.out
        · exact H.out j (by omega)
    · have i1 : ¬ (k : Int) < n := by omega
      obtain rfl : k = n := by omega
      go_wp2
      go_ret
      refine ⟨_, rfl, show decide ((0 : Int) ≤ -1) = anyRow k m q from ?_, hx⟩
      unfold anyRow
      rw [decide_eq_false (by omega), eq_comm, decide_eq_false_iff_not]
      rintro ⟨j, hj, e⟩
      rw [H.out j hj] at e
      cases e
theorem containsRow_any (w : World) (A : Option Addr) (n c : Nat) (m : Gm.L) (hm : Mx w A n c m) (g : Nat) (lb : Array Value) (q : List UInt8 → Bool)
    (eg : ∀ args w, (callFunc g args).run Tryz.prog w = .ok (.enter g args) w) (hq : AsksRow w g lb q) :
    Calls Tryz.prog 100 #[.slice A n c, .func (.func g) #[] lb] w fun r w' =>
      r = .returned (.bool (anyRow n m q)) ∧ Ext w w' := by
  go_enter Tryz.func100, Tryz.ntmps100
  go_wp2_with (fail)
  refine (indexRow_any w A n c m hm g lb q eg hq).mono ?_
  rintro r w' ⟨i, rfl, e, hx⟩
  have E := Lib.hid e
  clear e
  go_wp2_with (fail)
  go_ret
  exact ⟨ret_bool E.out, hx⟩

theorem none_any (b : Nat) (w : World) (hf : FieldAt w b) :
    Calls Tryz.prog 53 #[.pointer (some ⟨b, 0, none⟩)] w fun e w' => e = .returned (.bool false) ∧ w = w' := by
  have hA : Calls Tryz.prog 31 #[.pointer (some ⟨b, 0, none⟩), .int .u8 0, .int .u8 1] w fun e w' => e = .returned (.int .u8 1) ∧ w = w' := add_any b w 0 1 hf
  have HA := Lib.hid hA
  clear hA
  go_enter Tryz.func53, Tryz.ntmps53
  go_wp2_with (fail)
  refine HA.out.mono ?_
  rintro e w' ⟨rfl, rfl⟩
  go_wp2_with (fail)
  go_ret
  exact ⟨rfl, rfl⟩

theorem right1_asks (w : World) (g k : Nat) (hc : w.cell? ⟨g, 0, none⟩ = some (.int .i64 (k : Int))) : AsksRow w 101 #[.pointer (some ⟨g, 0, none⟩)] (fun r => r.length != k) := by
  intro W A n c r hx hb
  have c0 := hx.cell hc
  have h1 := hb.len
  show Calls Tryz.prog 101 #[.slice A n c, .pointer (some ⟨g, 0, none⟩)] W _
  have H1 := Lib.hid h1
  clear h1 hb
  go_enter Tryz.func101, Tryz.ntmps101
  go_wp2_with (fail)
  go_ret
  refine ⟨ret_bool ?_, Ext.refl _⟩
  rw [H1.out, Bool.eq_iff_iff, bne_iff_ne, bne_iff_ne]
  omega
theorem right_iff {m : Gm.L} {n : Nat} (hl : m.length = n) (h1 : 1 ≤ n) (h2 : n ≤ 255) : Gm.right m ↔ (1 ≤ (Gm.row m 0).length ∧ (Gm.row m 0).length ≤ 255) ∧ ¬ ∃ k, k < n ∧ ((Gm.row m k).length != (Gm.row m 0).length) = true := by
  unfold Gm.right Gm.cols
  rw [hl]
  constructor
  · rintro ⟨_, _, h3, h4, h5⟩
    refine ⟨⟨h3, h4⟩, ?_⟩
    rintro ⟨k, hk, e⟩
    rw [h5 k hk] at e
    simp at e
  · rintro ⟨⟨h3, h4⟩, h5⟩
    refine ⟨h1, h2, h3, h4, fun i hi => ?_⟩
    rcases Classical.em ((Gm.row m i).length = (Gm.row m 0).length) with h | h
    · exact h
    · exact absurd ⟨i, hi, by rw [bne_iff_ne]; exact h⟩ h5
set_option maxRecDepth 100000 in
set_option maxHeartbeats 1000000 in
theorem matRight_any (w : World) (A : Option Addr) (n c : Nat) (m : Gm.L) (hm : Mx w A n c m) :
    Calls Tryz.prog 85 #[.slice A n c] w fun e w' => e = .returned (.bool (decide (Gm.right m))) ∧ Ext w w' := by
  have hmax := hm.max
  have hle := hm.le
  have L := Lib.hid hm.len
  by_cases h1 : 1 ≤ n
  · have g1 : ¬ (n : Int) < 1 := by omega
    by_cases h2 : n ≤ 255
    · have g2 : ¬ (255 : Int) < (n : Int) := by omega
      obtain ⟨b, off, A0, n0, c0, rfl, hc0, hb0⟩ := hm.at_ (show 0 < n by omega)
      rw [Nat.add_zero] at hc0
      have hx : Ext w (w.alloc (.cells #[.int .i64 (n0 : Int)] 3)) := Ext.alloc _ _
      have hcn : (w.alloc (.cells #[.int .i64 (n0 : Int)] 3)).cell? ⟨w.heap.size, 0, none⟩ = some (.int .i64 (n0 : Int)) := by rw [World.cell?_alloc_new]; rfl
      have hC := containsRow_any _ (some ⟨b, off, none⟩) n c m (hm.ext hx) 101 #[.pointer (some ⟨w.heap.size, 0, none⟩)] _ (enters_of Tryz.func101 (by kernel_rfl) rfl) (right1_asks _ _ n0 hcn)
      have hri := right_iff L.out h1 h2
      rw [hb0.len] at hri
      have HC := Lib.hid hC
      have HX := Lib.hid hx
      have HRI := Lib.hid hri
      have hm0 := hb0.max
      have hl0 := hb0.le
      clear hC hx hcn hri hb0 hm
      have q0 : (0 : Int) < (n : Int) := by omega
      by_cases h3 : 1 ≤ n0
      · have g3 : 1 ≤ (n0 : Int) := by omega
        by_cases h4 : n0 ≤ 255
        · have g4 : (n0 : Int) ≤ 255 := by omega
          go_enter Tryz.func85, Tryz.ntmps85
          go_wp2_with (fail)
          refine HC.out.mono ?_
          rintro r w' ⟨rfl, hx'⟩
          go_wp2_with (fail)
          go_ret
          refine ⟨ret_bool ?_, HX.out.trans hx'⟩
          unfold anyRow
          rw [Bool.eq_iff_iff, decide_eq_true_eq, HRI.out, Bool.not_eq_true', decide_eq_false_iff_not]
          exact ⟨fun h => ⟨⟨h3, h4⟩, h⟩, fun h => h.2⟩
        · have g4 : ¬ (n0 : Int) ≤ 255 := by omega
          go_enter Tryz.func85, Tryz.ntmps85
          go_wp2_with (fail)
          go_ret
          refine ⟨ret_bool ?_, HX.out⟩
          rw [eq_comm, decide_eq_false_iff_not, HRI.out]
          exact fun h => h4 h.1.2
      · have g3 : ¬ 1 ≤ (n0 : Int) := by omega
        go_enter Tryz.func85, Tryz.ntmps85
        go_wp2_with (fail)
        go_ret
        refine ⟨ret_bool ?_, HX.out⟩
        rw [eq_comm, decide_eq_false_iff_not, HRI.out]
        exact fun h => h3 h.1.1
    · have g2 : (255 : Int) < (n : Int) := by omega
      clear hm
      go_enter Tryz.func85, Tryz.ntmps85
      go_wp2_with (fail)
      go_ret
      refine ⟨ret_bool ?_, Ext.refl _⟩
      rw [eq_comm, decide_eq_false_iff_not]
      exact fun h => h2 (by have := h.2.1; rwa [L.out] at this)
  · have g1 : (n : Int) < 1 := by omega
    clear hm
    go_enter Tryz.func85, Tryz.ntmps85
    go_wp2_with (fail)
    go_ret
    refine ⟨ret_bool ?_, Ext.refl _⟩
    rw [eq_comm, decide_eq_false_iff_not]
    exact fun h => h1 (by have := h.1; rwa [L.out] at this)
end Go.Proofs.YtfpglkacjecoeaaGreat
namespace Go.Proofs.YtfpglkacjecoeaaGreat
open Go.RowKit

set_option maxRecDepth 100000 in
set_option maxHeartbeats 1000000 in
theorem indexRows_any (w : World) (A : Option Addr) (n c : Nat) (m : Gm.L) (hm : Mx w A n c m) (g : Nat) (lb : Array Value) (q : List UInt8 → Bool)
    (eg : ∀ args w, (callFunc g args).run Tryz.prog w = .ok (.enter g args) w) (hq : AsksRow w g lb q) :
    Calls Tryz.prog 59 #[.slice A n c, .func (.func g) #[] lb] w fun r w' =>
      ∃ i : Int, r = .returned (.int .i64 i) ∧ decide (0 ≤ i) = anyRow n m q ∧ Ext w w' := by
  have hmax := hm.max
  have hle := hm.le
  have HQ := Lib.hid hq
  have HM := Lib.hid hm
  clear hq hm
  go_enter Tryz.func59, Tryz.ntmps59
  go_wp2
  go_loopw [5, 8] (fun _ s8 wr => ∃ k : Nat, k ≤ n ∧ s8 = .int .i64 k ∧ Ext w wr ∧ RowKit.Hid (∀ j, j < k → q (Gm.row m j) = false)) (fun _ s8 _ => n - (intOf s8).toNat)
  case atStart => exact ⟨0, Nat.zero_le _, rfl, Ext.refl w, Lib.hid fun j hj => absurd hj (Nat.not_lt_zero _)⟩
  case round =>
    obtain ⟨k, hk, rfl, hx, H⟩ := hrel
    by_cases hlt : k < n
    · have i1 : (k : Int) < n := by omega
      obtain ⟨b, off, A', n', c', rfl, q1, hb⟩ := (HM.out.ext hx).at_ hlt
      have hcall := HQ.out wr A' n' c' (Gm.row m k) hx hb
      generalize hy : q (Gm.row m k) = y at hcall
      have Y := Lib.hid hy
      clear hy hb
      cases y with
      | true =>
        go_wp2_with (fail)
        refine hcall.mono ?_
        rintro r w' ⟨rfl, hx'⟩
        go_wp2_with (fail)
        go_ret
        refine ⟨_, rfl, ?_, hx.trans hx'⟩
        unfold anyRow
        rw [decide_eq_true (by omega), eq_comm, decide_eq_true_eq]
        exact ⟨k, hlt, Y.out⟩
      | false =>
        go_wp2_with (fail)
        refine hcall.mono ?_
        rintro r w' ⟨rfl, hx'⟩
        go_wp2_with (fail)
        refine ⟨⟨k + 1, by omega, by go_num, hx.trans hx', Lib.hid fun j hj => ?_⟩, by simp [intOf]; omega⟩
        by_cases e : j = k
        · subst e; exact Y.out
        · exact H.out j (by omega)
    · have i1 : ¬ (k : Int) < n := by omega
      obtain rfl : k = n := by omega
      go_wp2
      go_ret
      refine ⟨_, rfl, show decide ((0 : Int) ≤ -1) = anyRow k m q from ?_, hx⟩
      unfold anyRow
      rw [decide_eq_false (by omega), eq_comm, decide_eq_false_iff_not]
      rintro ⟨j, hj, e⟩
      rw [H.out j hj] at e
      cases e
theorem containsRows_any (w : World) (A : Option Addr) (n c : Nat) (m : Gm.L) (hm : Mx w A n c m) (g : Nat) (lb : Array Value) (q : List UInt8 → Bool)
    (eg : ∀ args w, (callFunc g args).run Tryz.prog w = .ok (.enter g args) w) (hq : AsksRow w g lb q) :
    Calls Tryz.prog 45 #[.slice A n c, .func (.func g) #[] lb] w fun r w' =>
      r = .returned (.bool (anyRow n m q)) ∧ Ext w w' := by
  go_enter Tryz.func45, Tryz.ntmps45
  go_wp2_with (fail)
  refine (indexRows_any w A n c m hm g lb q eg hq).mono ?_
  rintro r w' ⟨i, rfl, e, hx⟩
  have E := Lib.hid e
  clear e
  go_wp2_with (fail)
  go_ret
  exact ⟨ret_bool E.out, hx⟩

instance (s : Gm.L) (n : Nat) : Decidable (Gm.even s n) := by unfold Gm.even; infer_instance
theorem even1_asks (w : World) (g : Nat) (b off n c n0 c0 : Nat) (A0 : Option Addr) (hc : w.cell? ⟨g, 0, none⟩ = some (.slice (some ⟨b, off, none⟩) n c)) (h1 : 0 < n) (h2 : n ≤ c) (h3 : c ≤ 9223372036854775807) (h0 : w.cell? ⟨b, off, none⟩ = some (.slice A0 n0 c0)) (h4 : n0 ≤ c0) (h5 : c0 ≤ 9223372036854775807) :
    AsksRow w 99 #[.pointer (some ⟨g, 0, none⟩)] (fun r => r.length != n0) := by
  intro W A n' c' r hx hb
  have k0 := hx.cell hc
  have k1 := hx.cell h0
  have q0 : (0 : Int) < n := by omega
  have h1 := hb.len
  show Calls Tryz.prog 99 #[.slice A n' c', .pointer (some ⟨g, 0, none⟩)] W _
  have H1 := Lib.hid h1
  clear h1 hb
  go_enter Tryz.func99, Tryz.ntmps99
  go_wp2_with (fail)
  go_ret
  refine ⟨ret_bool ?_, Ext.refl _⟩
  rw [H1.out, Bool.eq_iff_iff, bne_iff_ne, bne_iff_ne]
  omega
theorem even_iff {s : Gm.L} {n n0 : Nat} (hl : s.length = n) (h1 : 1 ≤ n) (h0 : (Gm.row s 0).length = n0) : Gm.even s n ↔ n0 ≤ 65536 ∧ ¬ ∃ k, k < n ∧ ((Gm.row s k).length != n0) = true := by
  unfold Gm.even Gm.cols
  rw [h0]
  constructor
  · rintro ⟨_, _, h3, h5⟩
    refine ⟨h3, ?_⟩
    rintro ⟨k, hk, e⟩
    rw [h5 k hk] at e
    simp at e
  · rintro ⟨h3, h5⟩
    refine ⟨hl, h1, h3, fun i hi => ?_⟩
    rcases Classical.em ((Gm.row s i).length = n0) with h | h
    · exact h
    · exact absurd ⟨i, hi, by rw [bne_iff_ne]; exact h⟩ h5
set_option maxRecDepth 100000 in
set_option maxHeartbeats 1000000 in
theorem even_any (w : World) (A : Option Addr) (m c : Nat) (s : Gm.L) (n : Nat) (hm : Mx w A m c s) :
    Calls Tryz.prog 83 #[.slice A m c, .int .i64 (n : Int)] w fun e w' => e = .returned (.bool (decide (Gm.even s n))) ∧ Ext w w' := by
  have hmax := hm.max
  have hle := hm.le
  have L := Lib.hid hm.len
  have hx : Ext w (w.alloc (.cells #[.slice A m c] 23)) := Ext.alloc _ _
  have hcb : (w.alloc (.cells #[.slice A m c] 23)).cell? ⟨w.heap.size, 0, none⟩ = some (.slice A m c) := by rw [World.cell?_alloc_new]; rfl
  by_cases h1 : m = n
  · subst h1
    have e1 : ((m : Int) == (m : Int)) = true := by simp
    by_cases h2 : 0 < m
    · have g2 : (0 : Int) < m := by omega
      obtain ⟨b, off, A0, n0, c0, rfl, hc0, hb0⟩ := hm.at_ h2
      rw [Nat.add_zero] at hc0
      have hC := containsRows_any _ (some ⟨b, off, none⟩) m c s (hm.ext hx) 99 #[.pointer (some ⟨w.heap.size, 0, none⟩)] _ (enters_of Tryz.func99 (by kernel_rfl) rfl) (even1_asks _ _ b off m c n0 c0 A0 hcb h2 hle hmax (hx.cell hc0) hb0.le hb0.max)
      have hri := even_iff L.out h2 hb0.len
      have hc0' := hx.cell hc0
      have HC := Lib.hid hC
      have HX := Lib.hid hx
      have HRI := Lib.hid hri
      have hm0 := hb0.max
      have hl0 := hb0.le
      clear hC hx hri hb0 hm
      by_cases h4 : n0 ≤ 65536
      · have g4 : (n0 : Int) ≤ 65536 := by omega
        go_enter Tryz.func83, Tryz.ntmps83
        go_wp2_with (fail)
        refine HC.out.mono ?_
        rintro r w' ⟨rfl, hx'⟩
        go_wp2_with (fail)
        go_ret
        refine ⟨ret_bool ?_, HX.out.trans hx'⟩
        unfold anyRow
        rw [Bool.eq_iff_iff, decide_eq_true_eq, HRI.out, Bool.not_eq_true', decide_eq_false_iff_not]
        exact ⟨fun h => ⟨h4, h⟩, fun h => h.2⟩
      · have g4 : ¬ (n0 : Int) ≤ 65536 := by omega
        go_enter Tryz.func83, Tryz.ntmps83
        go_wp2_with (fail)
        go_ret
        refine ⟨ret_bool ?_, HX.out⟩
        rw [eq_comm, decide_eq_false_iff_not, HRI.out]
        exact fun h => h4 h.1
    · obtain rfl : m = 0 := by omega
      have HX := Lib.hid hx
      clear hm hx
      go_enter Tryz.func83, Tryz.ntmps83
      go_wp2_with (fail)
      go_ret
      refine ⟨ret_bool ?_, HX.out⟩
      rw [eq_comm, decide_eq_false_iff_not]
      exact fun h => absurd h.2.1 (Nat.lt_irrefl _)
  · have e1 : ((m : Int) == (n : Int)) = false := by rw [beq_eq_false_iff_ne]; omega
    have HX := Lib.hid hx
    clear hm hx
    go_enter Tryz.func83, Tryz.ntmps83
    go_wp2_with (fail)
    go_ret
    refine ⟨ret_bool ?_, HX.out⟩
    rw [eq_comm, decide_eq_false_iff_not]
    exact fun h => h1 (by rw [← L.out]; exact h.1)
end Go.Proofs.YtfpglkacjecoeaaGreat
namespace Go.Proofs.YtfpglkacjecoeaaGreat
open Go
section
variable {P : Program} {ops : Array Oper} {Q : Exit → Act → World → Prop} {md : Region.Mode} {S : World → Prop} {t : Nat}

/-- All orders from here on; S holds behind every operation, as long as number t has not come up. -/
def wpAnyT (P : Program) (md : Region.Mode) (ops : Array Oper) (Q : Exit → Act → World → Prop) (S : World → Prop) (t : Nat) : Nat → Array Bool → Act → World → Prop
  | 0, listed, a, w => Region.ready md ops listed = [] ∧ Q .normal a w
  | f + 1, listed, a, w =>
    (Region.ready md ops listed = [] → Q .normal a w) ∧
    ∀ i ∈ Region.ready md ops listed, wpOp P ops Q i (fun a' w' => ((listed.setIfInBounds i true).getD t true = false → S w') ∧ wpAnyT P md ops Q S t f (listed.setIfInBounds i true) a' w') a w
theorem wpAny_of_T : ∀ (f : Nat) (listed : Array Bool) (a : Act) (w : World), wpAnyT P md ops Q S t f listed a w → wpAny P md ops Q f listed a w
  | 0, _, _, _, h => h
  | f + 1, _, _, _, h => ⟨h.1, fun i hi => wpOp_mono (fun a' w' h' => wpAny_of_T f _ a' w' h'.2) (h.2 i hi)⟩
/-- Number i first: it yields its value in every world that meets S', which is known here and wherever i has not come up. -/
theorem firstT {S' : World → Prop} {I : Array Bool → Prop} {i : Nat} {oi : Oper} {v : Value} (hi : ops[i]? = some oi) (hsel : ∀ (j : Nat) (o : Oper) cs b, ops[j]? = some o → o.op ≠ .select cs b)
    (hQ : ∀ c a w, Q (.panic c) (a.put oi.dst v) w → Q (.panic c) a w)
    (hI : ∀ (listed : Array Bool) (j : Nat), I listed → i ∈ Region.ready md ops listed → j ∈ Region.ready md ops listed → j ≠ i → I (listed.setIfInBounds j true))
    (hS' : ∀ (listed : Array Bool) (j : Nat) (w : World), I listed → i ∈ Region.ready md ops listed → j ∈ Region.ready md ops listed → j ≠ i → (((listed.setIfInBounds i true).setIfInBounds j true).getD t true = false → S w) → S' w ∧ ((listed.setIfInBounds j true).getD t true = false → S w)) :
    ∀ (f : Nat) (listed : Array Bool) (a : Act) (w : World), I listed →
      (∀ j oj, ops[j]? = some oj → j ≠ i → listed.getD j true = false → (∀ e ∈ oj.after, Region.binds md e = true → e.on ≠ i) → oi.apart ops oj = true) →
      i ∈ Region.ready md ops listed → YieldsIf P ops S' oi v a → S' w → ((listed.setIfInBounds i true).getD t true = false → S w) →
      wpAnyT P md ops Q S t f (listed.setIfInBounds i true) (a.put oi.dst v) w → wpAnyT P md ops Q S t (f + 1) listed a w := by
  intro f
  induction f with
  | zero =>
    intro listed a w hIl _ hr hy hw hSw H
    refine ⟨fun h => (by rw [h] at hr; cases hr), fun j hj => ?_⟩
    by_cases hji : j = i
    · subst hji
      exact hy.wpOp hi hw ⟨hSw, H⟩
    · have h0 := ready_mono hj hji
      rw [H.1] at h0
      cases h0
  | succ f ih =>
    intro listed a w hIl hfree hr hy hw hSw H
    refine ⟨fun h => (by rw [h] at hr; cases hr), fun j hj => ?_⟩
    by_cases hji : j = i
    · subst hji
      exact hy.wpOp hi hw ⟨hSw, H⟩
    · have h1 := H.2 j (ready_mono hj hji)
      obtain ⟨hjun, oj, hoj, hall⟩ := mem_ready.1 hj
      have hnot : ∀ e ∈ oj.after, Region.binds md e = true → e.on ≠ i := fun e he hb heq => by
        have h2 := hall e he hb
        rw [heq, getD_both (mem_ready.1 hr).1] at h2
        cases h2
      have h2 := wpOp_putIf hoj (hfree j oj hoj hji hjun hnot) (fun cs b => hsel i oi cs b hi) (fun cs b => hsel j oj cs b hoj) hQ hy h1
      have hfree' : ∀ k ok, ops[k]? = some ok → k ≠ i → (listed.setIfInBounds j true).getD k true = false →
          (∀ e ∈ ok.after, Region.binds md e = true → e.on ≠ i) → oi.apart ops ok = true := fun k ok hk hki hun hno => by
        refine hfree k ok hk hki ?_ hno
        by_cases hjk : j = k
        · subst hjk; exact hjun
        · rw [getD_set_ne true hjk] at hun; exact hun
      have hcomm : (listed.setIfInBounds i true).setIfInBounds j true = (listed.setIfInBounds j true).setIfInBounds i true := Array.setIfInBounds_comm _ _ (Ne.symm hji)
      refine wpOp_mono (fun a' w' h3 => ?_) h2
      refine ⟨(hS' listed j w' hIl hr hj hji h3.2.1).2, ih (listed.setIfInBounds j true) a' w' (hI listed j hIl hr hj hji) hfree' (ready_mono hr (Ne.symm hji)) h3.1 (hS' listed j w' hIl hr hj hji h3.2.1).1 (fun h => h3.2.1 (by rw [hcomm]; exact h)) ?_⟩
      rw [← hcomm]
      exact h3.2.2
theorem getD_set_in {listed : Array Bool} {i j : Nat} (h : listed.getD i true = false) (hne : j ≠ i) : (listed.setIfInBounds j true).getD i true = false := by rw [getD_set_ne true hne]; exact h
/-- While number i has not come up, number t, which waits for it, cannot come up. -/
theorem late_ne {i j : Nat} {listed : Array Bool} (hw : Region.waitsFor md ops t i = true) (hr : i ∈ Region.ready md ops listed) (hj : j ∈ Region.ready md ops listed) : j ≠ t := by
  rintro rfl
  obtain ⟨_, oj, hoj, hall⟩ := mem_ready.1 hj
  obtain ⟨o', ho', e, he, hb, hon⟩ := Region.waitsFor_spec hw
  have : o' = oj := Option.some.inj (ho'.symm.trans hoj)
  subst this
  have h2 := hall e he hb
  rw [hon, getD_both (mem_ready.1 hr).1] at h2
  cases h2
/-- Take number i, which number t waits for, first. -/
theorem takeT {i : Nat} {oi : Oper} {v : Value} {f : Nat} {listed : Array Bool} {a : Act} {w : World} (hi : ops[i]? = some oi)
    (hs : Region.noSelect ops = true) (hf : Region.free md ops listed i = true) (hr : (Region.ready md ops listed).contains i = true) (hw : Region.waitsFor md ops t i = true) (hti : t ≠ i)
    (hQ : ∀ c a w, Q (.panic c) (a.put oi.dst v) w → Q (.panic c) a w) (ht : listed.getD t true = false) (hy : YieldsIf P ops S oi v a) (hS : S w)
    (h : wpAnyT P md ops Q S t f (listed.setIfInBounds i true) (a.put oi.dst v) w) : wpAnyT P md ops Q S t (f + 1) listed a w :=
  firstT (S' := S) (I := fun listed => listed.getD t true = false) hi (Region.noSelect_spec hs) hQ
    (fun _ j hl hr hj _ => getD_set_in hl (late_ne hw hr hj))
    (fun _ j w' hl hr hj hji h1 => by
      have hjt := late_ne hw hr hj
      have h2 := h1 (getD_set_in (getD_set_in hl (Ne.symm hti)) hjt)
      exact ⟨h2, fun _ => h2⟩)
    f listed a w ht (Region.free_spec hi hf) (by simpa using hr) hy hS (fun _ => hS) h
/-- Take number i, which yields in whatever world, first. -/
theorem pureT {i : Nat} {oi : Oper} {v : Value} {f : Nat} {listed : Array Bool} {a : Act} {w : World} (hi : ops[i]? = some oi)
    (hs : Region.noSelect ops = true) (hf : Region.free md ops listed i = true) (hr : (Region.ready md ops listed).contains i = true) (hti : t ≠ i)
    (hQ : ∀ c a w, Q (.panic c) (a.put oi.dst v) w → Q (.panic c) a w) (hy : YieldsIf P ops (fun _ => True) oi v a) (hS : listed.getD t true = false → S w)
    (h : wpAnyT P md ops Q S t f (listed.setIfInBounds i true) (a.put oi.dst v) w) : wpAnyT P md ops Q S t (f + 1) listed a w :=
  firstT (S' := fun _ => True) (I := fun _ => True) hi (Region.noSelect_spec hs) hQ
    (fun _ _ _ _ _ _ => trivial)
    (fun l j w' _ _ _ hji h1 => ⟨trivial, fun h2 => h1 (by
      rw [Array.setIfInBounds_comm _ _ (Ne.symm hji)]
      exact getD_set_in h2 (Ne.symm hti))⟩)
    f listed a w trivial (Region.free_spec hi hf) (by simpa using hr) hy trivial (fun h2 => hS (by rwa [getD_set_ne true (Ne.symm hti)] at h2)) h
/-- Number i, alone, comes up. -/
theorem oneT {i : Nat} {o : Oper} {f : Nat} {listed : Array Bool} {a : Act} {w : World} (hi : ops[i]? = some o) (hr : Region.ready md ops listed = [i])
    (h : ∀ K' : Act → World → Prop, Shut (∀ a w, ((listed.setIfInBounds i true).getD t true = false → S w) → wpAnyT P md ops Q S t f (listed.setIfInBounds i true) a w → K' a w) → if Region.wanted o (yielded ops a.tmps) = true then Oper.wp P o a w K' Q else K' (a.put o.dst undef) w) :
    wpAnyT P md ops Q S t (f + 1) listed a w := by
  refine ⟨fun h0 => (by rw [h0] at hr; cases hr), fun j hj => ?_⟩
  rw [hr] at hj
  have e : j = i := by simpa using hj
  subst e
  exact wpOp_step hi (fun K' hK => h K' (fun a w hS hW => hK a w ⟨hS, hW⟩))
/-- All have come up. -/
theorem doneT {listed : Array Bool} {a : Act} {w : World} (hr : Region.ready md ops listed = []) (h : Q .normal a w) : ∀ f, wpAnyT P md ops Q S t f listed a w
  | 0 => ⟨hr, h⟩
  | _ + 1 => ⟨fun _ => h, by rw [hr]; simp⟩
theorem wp_region_T (t : Nat) {id n : Nat} {a : Act} {w : World} (hn : ops.size = n) (hm : P.follows .mixedOrders = true) (h : wpAnyT P .any ops Q S t n (Array.replicate n false) a w.drew) : (Code.region id ops true).wp P Q a w := by
  subst hn
  exact wp_region_any hm (wpAny_of_T _ _ _ _ h)
end
end Go.Proofs.YtfpglkacjecoeaaGreat
