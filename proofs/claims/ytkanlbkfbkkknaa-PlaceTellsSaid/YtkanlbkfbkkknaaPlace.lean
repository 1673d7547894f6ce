/- Slices of placements: how they read; the contracts of place.Index and place.Right. -/
import Derived.Test.YtkanlbkfbkkknaaIntsContains
import Derived.Test.YtkanlbkfbkkknaaPl
namespace Go.Proofs.Ytkanlbkfbkkknaa
open Go.RowKit

/-- A slice of placements. -/
structure Ps (w : World) (A : Option Addr) (n c : Nat) (l : List Pl.P) : Prop where
  len : l.length = n
  le : n ≤ c
  max : c ≤ 9223372036854775807
  rd : ∀ k, k < n → ∃ b off A' n' c', A = some ⟨b, off, none⟩ ∧ w.cell? ⟨b, off + k * 2, none⟩ = some (.int .i64 (Pl.pget l k).1) ∧ w.cell? ⟨b, off + k * 2 + 1, none⟩ = some (.slice A' n' c') ∧ Is w A' n' c' (Pl.pget l k).2
theorem Ps.ext {w w' : World} {A : Option Addr} {n c : Nat} {l : List Pl.P} (h : Ps w A n c l) (hx : Ext w w') : Ps w' A n c l :=
  ⟨h.len, h.le, h.max, fun k hk => by
    obtain ⟨b, off, A', n', c', e, h1, h2, h3⟩ := h.rd k hk
    exact ⟨b, off, A', n', c', e, hx.cell h1, hx.cell h2, h3.ext hx⟩⟩

theorem pIndex_any (w : World) (e : Int) (A : Option Addr) (n c : Nat) (l : List Int) (v : Int) (hl : Is w A n c l) :
    Calls Try.prog 13 #[.agg #[.int .i64 e, .slice A n c], .int .i64 v] w fun r w' => r = .returned (.int .i64 (Il.idx l v)) ∧ Ext w w' := by
  go_enter Try.func13, Try.ntmps13
  go_wp2_with (fail)
  refine (index_any _ A n c l v (hl.ext (Ext.alloc _ _))).mono ?_
  rintro r w' ⟨rfl, rfl⟩
  go_wp2_with (fail)
  go_ret
  exact ⟨rfl, Ext.alloc _ _⟩

set_option maxRecDepth 100000 in
set_option maxHeartbeats 1000000 in
theorem right_bad (w : World) (e : Int) (A : Option Addr) (n c : Nat) (l : List Int) (m : Int) (hl : Is w A n c l) (h : ¬ (1 ≤ m ∧ m ≤ 256 ∧ 1 ≤ e ∧ e ≤ 1099511627776 ∧ 1 ≤ n ∧ n ≤ 255)) :
    Calls Try.prog 16 #[.agg #[.int .i64 e, .slice A n c], .int .i64 m] w fun r w' => r = .returned (.bool false) ∧ Ext w w' := by
  have hm := hl.max
  have hle := hl.le
  clear hl
  by_cases h1 : m < 1
  · clear h
    go_enter Try.func16, Try.ntmps16
    go_wp2
    go_ret
    exact ⟨rfl, Ext.alloc _ _⟩
  · by_cases h2 : 256 < m
    · clear h
      go_enter Try.func16, Try.ntmps16
      go_wp2
      go_ret
      exact ⟨rfl, Ext.alloc _ _⟩
    · by_cases h3 : e < 1
      · clear h
        go_enter Try.func16, Try.ntmps16
        go_wp2
        go_ret
        exact ⟨rfl, Ext.alloc _ _⟩
      · by_cases h4 : 1099511627776 < e
        · clear h
          go_enter Try.func16, Try.ntmps16
          go_wp2
          go_ret
          exact ⟨rfl, Ext.alloc _ _⟩
        · by_cases h5 : n < 1
          · have h5' : (n : Int) < 1 := by omega
            clear h
            go_enter Try.func16, Try.ntmps16
            go_wp2
            go_ret
            exact ⟨rfl, Ext.alloc _ _⟩
          · have h6 : 255 < (n : Int) := by omega
            clear h
            go_enter Try.func16, Try.ntmps16
            go_wp2
            go_ret
            exact ⟨rfl, Ext.alloc _ _⟩

set_option maxRecDepth 100000 in
set_option maxHeartbeats 1000000 in
theorem right_loop (w : World) (e : Int) (A : Option Addr) (n c : Nat) (l : List Int) (m : Int) (hl : Is w A n c l) (h : 1 ≤ m ∧ m ≤ 256 ∧ 1 ≤ e ∧ e ≤ 1099511627776 ∧ 1 ≤ n ∧ n ≤ 255) :
    Calls Try.prog 16 #[.agg #[.int .i64 e, .slice A n c], .int .i64 m] w fun r w' => r = .returned (.bool (decide (Pl.Right (e, l) m))) ∧ Ext w w' := by
  have hm := hl.max
  have hle := hl.le
  have L := Lib.hid hl.len
  have hR : Pl.Right (e, l) m ↔ ∀ i, i < n → 0 ≤ Il.get l i ∧ Il.get l i < m ∧ Il.get l i ∉ l.take i := by
    unfold Pl.Right
    simp only [L.out]
    exact ⟨fun h => h.2, fun h' => ⟨h, h'⟩⟩
  have HR := Lib.hid hR
  clear hR
  obtain ⟨h1, h2, h3, h4, h5, h6⟩ := h
  have h5' : 1 ≤ (n : Int) := by omega
  have h6' : (n : Int) ≤ 255 := by omega
  go_enter Try.func16, Try.ntmps16
  go_wp2
  have hw : Ext w (w.alloc (.cells #[.int .i64 e, .slice A n c] 33)) := Ext.alloc _ _
  have hcell : (w.alloc (.cells #[.int .i64 e, .slice A n c] 33)).cell? ⟨w.heap.size, 1, none⟩ = some (.slice A n c) := by rw [World.cell?_alloc_new]; rfl
  have hl1 := hl.ext hw
  generalize w.alloc (.cells #[.int .i64 e, .slice A n c] 33) = W at *
  generalize hg : w.heap.size = g at *
  clear hg
  go_loop [38] (fun i => ∃ k : Nat, k ≤ n ∧ i = .int .i64 k ∧ (∀ j, j < k → 0 ≤ Il.get l j ∧ Il.get l j < m ∧ Il.get l j ∉ l.take j)) (fun i => n - (intOf i).toNat)
  case atStart => exact ⟨0, by omega, rfl, fun j hj => by omega⟩
  case round =>
    obtain ⟨k, hk, rfl, hno⟩ := hrel
    have H := Lib.hid hno
    clear hno
    by_cases hlt : k < n
    · have hT := hl1.take (k := k) (by omega)
      obtain ⟨b, o, rfl, hc⟩ := hl1.rd.intAt hlt
      have i1 : (k : Int) < n := by omega
      have i2 : (k : Int) ≤ c := by omega
      have bad : (¬ (0 ≤ Il.get l k ∧ Il.get l k < m ∧ Il.get l k ∉ l.take k)) → false = decide (Pl.Right (e, l) m) := fun hb => by
        rw [eq_comm, decide_eq_false_iff_not, HR.out]
        exact fun h => hb (h k hlt)
      have Bad := Lib.hid bad
      clear bad
      by_cases c1 : Il.get l k < 0
      · go_wp2_with (fail)
        go_ret
        exact ⟨ret_bool (Bad.out (by omega)), hw⟩
      · by_cases c2 : m ≤ Il.get l k
        · go_wp2_with (fail)
          go_ret
          exact ⟨ret_bool (Bad.out (by omega)), hw⟩
        · by_cases c3 : Il.get l k ∈ l.take k
          · have d3 : decide (Il.get l k ∈ l.take k) = true := decide_eq_true c3
            have hcon := contains_any W (some ⟨b, o, none⟩) k c (l.take k) (Il.get l k) hT
            rw [d3] at hcon
            have C := Lib.hid hcon
            have C3 := Lib.hid c3
            clear d3 c3 hcon hT
            go_wp2_with (fail)
            refine C.out.mono ?_
            rintro r w' ⟨rfl, rfl⟩
            go_wp2_with (fail)
            go_ret
            exact ⟨ret_bool (Bad.out (fun h => h.2.2 C3.out)), hw⟩
          · have d3 : decide (Il.get l k ∈ l.take k) = false := decide_eq_false c3
            have hcon := contains_any W (some ⟨b, o, none⟩) k c (l.take k) (Il.get l k) hT
            rw [d3] at hcon
            have C := Lib.hid hcon
            have C3 := Lib.hid c3
            clear d3 c3 hcon hT
            go_wp2_with (fail)
            refine C.out.mono ?_
            rintro r w' ⟨rfl, rfl⟩
            go_wp2_with (fail)
            refine ⟨⟨k + 1, by omega, by go_num, fun j hj => ?_⟩, by simp [intOf]; omega⟩
            by_cases hj' : j = k
            · rw [hj']; exact ⟨by omega, by omega, C3.out⟩
            · exact H.out j (by omega)
    · have i1 : ¬ (k : Int) < n := by omega
      go_wp2_with (fail)
      go_ret
      refine ⟨ret_bool (show true = decide (Pl.Right (e, l) m) from ?_), hw⟩
      rw [eq_comm, decide_eq_true_eq, HR.out]
      exact fun i hi => H.out i (by omega)
theorem right_any (w : World) (e : Int) (A : Option Addr) (n c : Nat) (l : List Int) (m : Int) (hl : Is w A n c l) :
    Calls Try.prog 16 #[.agg #[.int .i64 e, .slice A n c], .int .i64 m] w fun r w' => r = .returned (.bool (decide (Pl.Right (e, l) m))) ∧ Ext w w' := by
  by_cases h : 1 ≤ m ∧ m ≤ 256 ∧ 1 ≤ e ∧ e ≤ 1099511627776 ∧ 1 ≤ n ∧ n ≤ 255
  · exact right_loop w e A n c l m hl h
  · refine (right_bad w e A n c l m hl h).mono ?_
    rintro r w' ⟨rfl, hx⟩
    refine ⟨ret_bool ?_, hx⟩
    rw [eq_comm, decide_eq_false_iff_not]
    unfold Pl.Right
    simp only [hl.len]
    exact fun h' => h h'.1
end Go.Proofs.Ytkanlbkfbkkknaa
