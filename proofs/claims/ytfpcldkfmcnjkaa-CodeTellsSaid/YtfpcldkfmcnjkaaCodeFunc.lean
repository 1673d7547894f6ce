/- The contracts of slices.ContainsFunc at lists of shards, for whatever predicate; of code.even. -/
import Derived.Test.YtfpcldkfmcnjkaaCt1
import Derived.Test.YtfpcldkfmcnjkaaCt4
namespace Go.Proofs.Ytfpcldkfmcnjkaa
open Go.RowKit

set_option maxRecDepth 100000 in
set_option maxHeartbeats 1000000 in
theorem indexRows_any (w : World) (A : Option Addr) (n c : Nat) (m : Gm.L) (hm : Mx w A n c m) (g : Nat) (lb : Array Value) (q : List UInt8 → Bool)
    (eg : ∀ args w, (callFunc g args).run Try.prog w = .ok (.enter g args) w) (hq : AsksRow w g lb q) :
    Calls Try.prog 79 #[.slice A n c, .func (.func g) #[] lb] w fun r w' =>
      ∃ i : Int, r = .returned (.int .i64 i) ∧ decide (0 ≤ i) = anyRow n m q ∧ Ext w w' := by
  have hmax := hm.max
  have hle := hm.le
  have HQ := Lib.hid hq
  have HM := Lib.hid hm
  clear hq hm
  go_enter Try.func79, Try.ntmps79
  go_wp2
  go_loopw [5, 8] (fun _ s8 wr => ∃ k : Nat, k ≤ n ∧ s8 = .int .i64 k ∧ Ext w wr ∧ RowKit.Hid (∀ j, j < k → q (Gm.row m j) = false)) (fun _ s8 _ => n - (intOf s8).toNat)
  case atStart => exact ⟨0, Nat.zero_le _, rfl, Ext.refl w, Lib.hid fun j hj => absurd hj (Nat.not_lt_zero _)⟩
  case round =>
    obtain ⟨k, hk, rfl, hx, H⟩ := hrel
    by_cases hlt : k < n
    · have i1 : (k : Int) < n := by omega
      obtain ⟨b, off, A', n', c', rfl, q1, hb⟩ := (HM.out.ext hx).at_ hlt
      have hcall := HQ.out wr A' n' c' (Gm.row m k) hx hb
      generalize hy : q (Gm.row m k) = y at hcall
      have Y := Lib.hid hy
      clear hy hb
      cases y with
      | true =>
        go_wp2_with (fail)
        refine hcall.mono ?_
        rintro r w' ⟨rfl, hx'⟩
        go_wp2_with (fail)
        go_ret
        refine ⟨_, rfl, ?_, hx.trans hx'⟩
        unfold anyRow
        rw [decide_eq_true (by omega), eq_comm, decide_eq_true_eq]
        exact ⟨k, hlt, Y.out⟩
      | false =>
        go_wp2_with (fail)
        refine hcall.mono ?_
        rintro r w' ⟨rfl, hx'⟩
        go_wp2_with (fail)
        refine ⟨⟨k + 1, by omega, by go_num, hx.trans hx', Lib.hid fun j hj => ?_⟩, by simp [intOf]; omega⟩
        by_cases e : j = k
        · subst e; exact Y.out
        · exact H.out j (by omega)
    · have i1 : ¬ (k : Int) < n := by omega
      obtain rfl : k = n := by omega
      go_wp2
      go_ret
      refine ⟨_, rfl, show decide ((0 : Int) ≤ -1) = anyRow k m q from ?_, hx⟩
      unfold anyRow
      rw [decide_eq_false (by omega), eq_comm, decide_eq_false_iff_not]
      rintro ⟨j, hj, e⟩
      rw [H.out j hj] at e
      cases e
theorem containsRows_any (w : World) (A : Option Addr) (n c : Nat) (m : Gm.L) (hm : Mx w A n c m) (g : Nat) (lb : Array Value) (q : List UInt8 → Bool)
    (eg : ∀ args w, (callFunc g args).run Try.prog w = .ok (.enter g args) w) (hq : AsksRow w g lb q) :
    Calls Try.prog 64 #[.slice A n c, .func (.func g) #[] lb] w fun r w' =>
      r = .returned (.bool (anyRow n m q)) ∧ Ext w w' := by
  go_enter Try.func64, Try.ntmps64
  go_wp2_with (fail)
  refine (indexRows_any w A n c m hm g lb q eg hq).mono ?_
  rintro r w' ⟨i, rfl, e, hx⟩
  have E := Lib.hid e
  clear e
  go_wp2_with (fail)
  go_ret
  exact ⟨ret_bool E.out, hx⟩

instance (s : Gm.L) (n : Nat) : Decidable (Gm.even s n) := by unfold Gm.even; infer_instance
theorem even1_asks (w : World) (g : Nat) (b off n c n0 c0 : Nat) (A0 : Option Addr) (hc : w.cell? ⟨g, 0, none⟩ = some (.slice (some ⟨b, off, none⟩) n c)) (h1 : 0 < n) (h2 : n ≤ c) (h3 : c ≤ 9223372036854775807) (h0 : w.cell? ⟨b, off, none⟩ = some (.slice A0 n0 c0)) (h4 : n0 ≤ c0) (h5 : c0 ≤ 9223372036854775807) :
    AsksRow w 65 #[.pointer (some ⟨g, 0, none⟩)] (fun r => r.length != n0) := by
  intro W A n' c' r hx hb
  have k0 := hx.cell hc
  have k1 := hx.cell h0
  have q0 : (0 : Int) < n := by omega
  have h1 := hb.len
  show Calls Try.prog 65 #[.slice A n' c', .pointer (some ⟨g, 0, none⟩)] W _
  have H1 := Lib.hid h1
  clear h1 hb
  go_enter Try.func65, Try.ntmps65
  go_wp2_with (fail)
  go_ret
  refine ⟨ret_bool ?_, Ext.refl _⟩
  rw [H1.out, Bool.eq_iff_iff, bne_iff_ne, bne_iff_ne]
  omega
theorem even_iff {s : Gm.L} {n n0 : Nat} (hl : s.length = n) (h1 : 1 ≤ n) (h0 : (Gm.row s 0).length = n0) : Gm.even s n ↔ n0 ≤ 65536 ∧ ¬ ∃ k, k < n ∧ ((Gm.row s k).length != n0) = true := by
  unfold Gm.even Gm.cols
  rw [h0]
  constructor
  · rintro ⟨_, _, h3, h5⟩
    refine ⟨h3, ?_⟩
    rintro ⟨k, hk, e⟩
    rw [h5 k hk] at e
    simp at e
  · rintro ⟨h3, h5⟩
    refine ⟨hl, h1, h3, fun i hi => ?_⟩
    rcases Classical.em ((Gm.row s i).length = n0) with h | h
    · exact h
    · exact absurd ⟨i, hi, by rw [bne_iff_ne]; exact h⟩ h5
set_option maxRecDepth 100000 in
set_option maxHeartbeats 1000000 in
theorem even_any (w : World) (A : Option Addr) (m c : Nat) (s : Gm.L) (n : Nat) (hm : Mx w A m c s) :
    Calls Try.prog 44 #[.slice A m c, .int .i64 (n : Int)] w fun e w' => e = .returned (.bool (decide (Gm.even s n))) ∧ Ext w w' := by
  have hmax := hm.max
  have hle := hm.le
  have L := Lib.hid hm.len
  have hx : Ext w (w.alloc (.cells #[.slice A m c] 28)) := Ext.alloc _ _
  have hcb : (w.alloc (.cells #[.slice A m c] 28)).cell? ⟨w.heap.size, 0, none⟩ = some (.slice A m c) := by rw [World.cell?_alloc_new]; rfl
  by_cases h1 : m = n
  · subst h1
    have e1 : ((m : Int) == (m : Int)) = true := by simp
    by_cases h2 : 0 < m
    · have g2 : (0 : Int) < m := by omega
      obtain ⟨b, off, A0, n0, c0, rfl, hc0, hb0⟩ := hm.at_ h2
      rw [Nat.add_zero] at hc0
      have hC := containsRows_any _ (some ⟨b, off, none⟩) m c s (hm.ext hx) 65 #[.pointer (some ⟨w.heap.size, 0, none⟩)] _ (enters_of Try.func65 (by kernel_rfl) rfl) (even1_asks _ _ b off m c n0 c0 A0 hcb h2 hle hmax (hx.cell hc0) hb0.le hb0.max)
      have hri := even_iff L.out h2 hb0.len
      have hc0' := hx.cell hc0
      have HC := Lib.hid hC
      have HX := Lib.hid hx
      have HRI := Lib.hid hri
      have hm0 := hb0.max
      have hl0 := hb0.le
      clear hC hx hri hb0 hm
      by_cases h4 : n0 ≤ 65536
      · have g4 : (n0 : Int) ≤ 65536 := by omega
        go_enter Try.func44, Try.ntmps44
        go_wp2_with (fail)
        refine HC.out.mono ?_
        rintro r w' ⟨rfl, hx'⟩
        go_wp2_with (fail)
        go_ret
        refine ⟨ret_bool ?_, HX.out.trans hx'⟩
        unfold anyRow
        rw [Bool.eq_iff_iff, decide_eq_true_eq, HRI.out, Bool.not_eq_true', decide_eq_false_iff_not]
        exact ⟨fun h => ⟨h4, h⟩, fun h => h.2⟩
      · have g4 : ¬ (n0 : Int) ≤ 65536 := by omega
        go_enter Try.func44, Try.ntmps44
        go_wp2_with (fail)
        go_ret
        refine ⟨ret_bool ?_, HX.out⟩
        rw [eq_comm, decide_eq_false_iff_not, HRI.out]
        exact fun h => h4 h.1
    · obtain rfl : m = 0 := by omega
      have HX := Lib.hid hx
      clear hm hx
      go_enter Try.func44, Try.ntmps44
      go_wp2_with (fail)
      go_ret
      refine ⟨ret_bool ?_, HX.out⟩
      rw [eq_comm, decide_eq_false_iff_not]
      exact fun h => absurd h.2.1 (Nat.lt_irrefl _)
  · have e1 : ((m : Int) == (n : Int)) = false := by rw [beq_eq_false_iff_ne]; omega
    have HX := Lib.hid hx
    clear hm hx
    go_enter Try.func44, Try.ntmps44
    go_wp2_with (fail)
    go_ret
    refine ⟨ret_bool ?_, HX.out⟩
    rw [eq_comm, decide_eq_false_iff_not]
    exact fun h => h1 (by rw [← L.out]; exact h.1)
end Go.Proofs.Ytfpcldkfmcnjkaa
