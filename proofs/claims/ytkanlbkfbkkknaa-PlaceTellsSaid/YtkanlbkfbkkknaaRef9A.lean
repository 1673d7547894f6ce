/- The contracts of the document's Index, Right, All and Of (chapter 09). -/
import Derived.Test.YtkanlbkfbkkknaaPlaceOf
import Derived.Test.YtkanlbkfbkkknaaPlaceFunc
namespace Go.Proofs.Ytkanlbkfbkkknaa
open Go.RowKit

theorem rIndex_any (w : World) (e : Int) (A : Option Addr) (n c : Nat) (l : List Int) (v : Int) (hl : Is w A n c l) :
    Calls Try.prog 32 #[.agg #[.int .i64 e, .slice A n c], .int .i64 v] w fun r w' => r = .returned (.int .i64 (Il.idx l v)) ∧ Ext w w' := by
  have hm := hl.max
  have hle := hl.le
  have L := Lib.hid hl.len
  go_enter Try.func32, Try.ntmps32
  go_wp2
  have hw : Ext w (w.alloc (.cells #[.int .i64 e, .slice A n c] 33)) := Ext.alloc _ _
  have hcell : (w.alloc (.cells #[.int .i64 e, .slice A n c] 33)).cell? ⟨w.heap.size, 1, none⟩ = some (.slice A n c) := by rw [World.cell?_alloc_new]; rfl
  have hl1 := hl.ext hw
  generalize w.alloc (.cells #[.int .i64 e, .slice A n c] 33) = W at *
  generalize hg : w.heap.size = g at *
  clear hg
  go_loop [5] (fun i => ∃ k : Nat, k ≤ n ∧ i = .int .i64 k ∧ RowKit.Hid (∀ j, j < k → Il.get l j ≠ v)) (fun i => n - (intOf i).toNat)
  case atStart => exact ⟨0, by omega, rfl, Lib.hid fun j hj => by omega⟩
  case round =>
    obtain ⟨k, hk, rfl, H⟩ := hrel
    by_cases hlt : k < n
    · obtain ⟨b, o, rfl, hc⟩ := hl1.rd.intAt hlt
      have i1 : (k : Int) < n := by omega
      by_cases he : Il.get l k = v
      · have e1 : (Il.get l k == v) = true := by rw [he]; simp
        have E := Lib.hid he
        clear he
        go_wp2
        go_ret
        exact ⟨ret_int (show (k : Int) = Il.idx l v by rw [Il.idx_found (by rw [L.out]; exact hlt) E.out H.out]), hw⟩
      · have e1 : (Il.get l k == v) = false := by rw [beq_eq_false_iff_ne]; exact he
        have E := Lib.hid he
        clear he
        go_wp2
        refine ⟨⟨k + 1, by omega, by go_num, Lib.hid fun j hj => ?_⟩, by simp [intOf]; omega⟩
        by_cases hj' : j = k
        · rw [hj']; exact E.out
        · exact H.out j (by omega)
    · have i1 : ¬ (k : Int) < n := by omega
      go_wp2
      go_ret
      exact ⟨ret_int (show (-1 : Int) = Il.idx l v by rw [Il.idx_none fun j hj => H.out j (by rw [L.out] at hj; omega)]), hw⟩

set_option maxRecDepth 100000 in
set_option maxHeartbeats 1000000 in
theorem rRight_bad (w : World) (e : Int) (A : Option Addr) (n c : Nat) (l : List Int) (m : Int) (hl : Is w A n c l) (h : ¬ (1 ≤ m ∧ m ≤ 256 ∧ 1 ≤ e ∧ e ≤ 1099511627776 ∧ 1 ≤ n ∧ n ≤ 255)) :
    Calls Try.prog 31 #[.agg #[.int .i64 e, .slice A n c], .int .i64 m] w fun r w' => r = .returned (.bool false) ∧ Ext w w' := by
  have hm := hl.max
  have hle := hl.le
  clear hl
  by_cases h1 : m < 1
  · clear h
    go_enter Try.func31, Try.ntmps31
    go_wp2
    go_ret
    exact ⟨rfl, Ext.alloc _ _⟩
  · by_cases h2 : 256 < m
    · clear h
      go_enter Try.func31, Try.ntmps31
      go_wp2
      go_ret
      exact ⟨rfl, Ext.alloc _ _⟩
    · by_cases h3 : e < 1
      · clear h
        go_enter Try.func31, Try.ntmps31
        go_wp2
        go_ret
        exact ⟨rfl, Ext.alloc _ _⟩
      · by_cases h4 : 1099511627776 < e
        · clear h
          go_enter Try.func31, Try.ntmps31
          go_wp2
          go_ret
          exact ⟨rfl, Ext.alloc _ _⟩
        · by_cases h5 : n < 1
          · have h5' : (n : Int) < 1 := by omega
            clear h
            go_enter Try.func31, Try.ntmps31
            go_wp2
            go_ret
            exact ⟨rfl, Ext.alloc _ _⟩
          · have h6 : 255 < (n : Int) := by omega
            clear h
            go_enter Try.func31, Try.ntmps31
            go_wp2
            go_ret
            exact ⟨rfl, Ext.alloc _ _⟩

set_option maxRecDepth 100000 in
set_option maxHeartbeats 1000000 in
theorem rRight_loop (w : World) (e : Int) (A : Option Addr) (n c : Nat) (l : List Int) (m : Int) (hl : Is w A n c l) (h : 1 ≤ m ∧ m ≤ 256 ∧ 1 ≤ e ∧ e ≤ 1099511627776 ∧ 1 ≤ n ∧ n ≤ 255) :
    Calls Try.prog 31 #[.agg #[.int .i64 e, .slice A n c], .int .i64 m] w fun r w' => r = .returned (.bool (decide (Pl.Right (e, l) m))) ∧ Ext w w' := by
  have hm := hl.max
  have hle := hl.le
  have L := Lib.hid hl.len
  have hR : Pl.Right (e, l) m ↔ ∀ i, i < n → 0 ≤ Il.get l i ∧ Il.get l i < m ∧ Il.get l i ∉ l.take i := by
    unfold Pl.Right
    simp only [L.out]
    exact ⟨fun h => h.2, fun h' => ⟨h, h'⟩⟩
  have HR := Lib.hid hR
  clear hR
  obtain ⟨h1, h2, h3, h4, h5, h6⟩ := h
  have h5' : 1 ≤ (n : Int) := by omega
  have h6' : (n : Int) ≤ 255 := by omega
  go_enter Try.func31, Try.ntmps31
  go_wp2
  have hw : Ext w (w.alloc (.cells #[.int .i64 e, .slice A n c] 33)) := Ext.alloc _ _
  have hcell : (w.alloc (.cells #[.int .i64 e, .slice A n c] 33)).cell? ⟨w.heap.size, 1, none⟩ = some (.slice A n c) := by rw [World.cell?_alloc_new]; rfl
  have hl1 := hl.ext hw
  generalize w.alloc (.cells #[.int .i64 e, .slice A n c] 33) = W at *
  generalize hg : w.heap.size = g at *
  clear hg
  have HC := Lib.hid hcell
  have HL := Lib.hid hl1
  clear hcell hl1 hl
  go_loopw [5] (fun i wr => ∃ k : Nat, k ≤ n ∧ i = .int .i64 k ∧ RowKit.Hid (∀ j, j < k → 0 ≤ Il.get l j ∧ Il.get l j < m ∧ Il.get l j ∉ l.take j) ∧ RowKit.Hid (Ext W wr)) (fun i _ => n - (intOf i).toNat)
  case atStart => exact ⟨0, by omega, rfl, Lib.hid fun j hj => absurd hj (Nat.not_lt_zero _), Lib.hid (Ext.refl W)⟩
  case round =>
    obtain ⟨k, hk, rfl, H, HX⟩ := hrel
    have hcell := HX.out.cell HC.out
    by_cases hlt : k < n
    · obtain ⟨b, o, rfl, hc⟩ := (HL.out.ext HX.out).rd.intAt hlt
      have i1 : (k : Int) < n := by omega
      have i2 : (k : Int) ≤ c := by omega
      have bad : (¬ (0 ≤ Il.get l k ∧ Il.get l k < m ∧ Il.get l k ∉ l.take k)) → false = decide (Pl.Right (e, l) m) := fun hb => by
        rw [eq_comm, decide_eq_false_iff_not, HR.out]
        exact fun h => hb (h k hlt)
      have Bad := Lib.hid bad
      clear bad
      by_cases c1 : Il.get l k < 0
      · go_wp2_with (fail)
        go_ret
        exact ⟨ret_bool (Bad.out (by omega)), hw.trans HX.out⟩
      · by_cases c2 : m ≤ Il.get l k
        · go_wp2_with (fail)
          go_ret
          exact ⟨ret_bool (Bad.out (by omega)), hw.trans HX.out⟩
        · go_wp2_with (fail)
          go_loopw [6] (fun s6 wr => ∃ j : Nat, j ≤ k ∧ s6 = .int .i64 j ∧ RowKit.Hid (∀ q, q < j → Il.get l q ≠ Il.get l k) ∧ RowKit.Hid (Ext W wr)) (fun s6 _ => k - (intOf s6).toNat)
          case atStart => exact ⟨0, Nat.zero_le _, rfl, Lib.hid fun q hq => absurd hq (Nat.not_lt_zero _), HX⟩
          case round =>
            obtain ⟨j, hj, rfl, H2, HX2⟩ := hrel
            have hcell2 := HX2.out.cell HC.out
            clear hc hcell
            by_cases hlt2 : j < k
            · have k1 : (j : Int) < k := by omega
              have k2 : (j : Int) < n := by omega
              obtain ⟨b', o', ebo, hc2⟩ := (HL.out.ext HX2.out).rd.intAt (k := j) (by omega)
              obtain ⟨b'', o'', ebo', hc3⟩ := (HL.out.ext HX2.out).rd.intAt (k := k) hlt
              injection ebo with ebo
              injection ebo' with ebo'
              injection ebo with eb1 eb2
              injection ebo' with eb3 eb4
              subst eb1 eb2 eb3 eb4
              by_cases he : Il.get l j = Il.get l k
              · have e1 : (Il.get l j == Il.get l k) = true := by rw [he]; simp
                have E := Lib.hid he
                clear he
                go_wp2
                go_quiet (fail)
                go_wp2
                go_ret
                refine ⟨ret_bool (Bad.out fun h => h.2.2 ?_), hw.trans (HX2.out.trans (Ext.drewN _ _))⟩
                rw [← E.out]
                exact Pl.get_mem_take hlt2 (by rw [L.out]; omega)
              · have e1 : (Il.get l j == Il.get l k) = false := by rw [beq_eq_false_iff_ne]; exact he
                have E := Lib.hid he
                clear he
                go_wp2
                go_quiet (fail)
                go_wp2
                refine ⟨⟨j + 1, by omega, by go_num, Lib.hid fun q hq => ?_, Lib.hid (HX2.out.trans (Ext.drewN _ _))⟩, by simp [intOf]; omega⟩
                by_cases hq' : q = j
                · rw [hq']; exact E.out
                · exact H2.out q (by omega)
            · have k1 : ¬ (j : Int) < k := by omega
              obtain rfl : j = k := by omega
              go_wp2
              refine ⟨⟨j + 1, by omega, by go_num, Lib.hid fun q hq => ?_, HX2⟩, by simp [intOf]; omega⟩
              by_cases hq' : q = j
              · rw [hq']
                refine ⟨by omega, by omega, fun hm => ?_⟩
                obtain ⟨t, ht, _, e⟩ := Pl.mem_take_get hm
                exact H2.out t ht e
              · exact H.out q (by omega)
    · have i1 : ¬ (k : Int) < n := by omega
      go_wp2_with (fail)
      go_ret
      refine ⟨ret_bool (show true = decide (Pl.Right (e, l) m) from ?_), hw.trans HX.out⟩
      rw [eq_comm, decide_eq_true_eq, HR.out]
      exact fun i hi => H.out i (by omega)
theorem rRight_any (w : World) (e : Int) (A : Option Addr) (n c : Nat) (l : List Int) (m : Int) (hl : Is w A n c l) :
    Calls Try.prog 31 #[.agg #[.int .i64 e, .slice A n c], .int .i64 m] w fun r w' => r = .returned (.bool (decide (Pl.Right (e, l) m))) ∧ Ext w w' := by
  by_cases h : 1 ≤ m ∧ m ≤ 256 ∧ 1 ≤ e ∧ e ≤ 1099511627776 ∧ 1 ≤ n ∧ n ≤ 255
  · exact rRight_loop w e A n c l m hl h
  · refine (rRight_bad w e A n c l m hl h).mono ?_
    rintro r w' ⟨rfl, hx⟩
    refine ⟨ret_bool ?_, hx⟩
    rw [eq_comm, decide_eq_false_iff_not]
    unfold Pl.Right
    simp only [hl.len]
    exact fun h' => h h'.1

set_option maxHeartbeats 1000000 in
theorem rAll_any (w : World) (A : Option Addr) (n c : Nat) (l : List Pl.P) (hl : Ps w A n c l) :
    Calls Try.prog 44 #[.slice A n c] w fun r w' => r = .returned (.bool (decide (Pl.All l))) ∧ Ext w w' := by
  have hm := hl.max
  have hle := hl.le
  have L := Lib.hid hl.len
  have HL := Lib.hid hl
  clear hl
  by_cases h1 : (n : Int) < 1
  · go_enter Try.func44, Try.ntmps44
    go_wp2
    go_ret
    refine ⟨ret_bool ?_, Ext.refl _⟩
    rw [eq_comm, decide_eq_false_iff_not]
    intro h
    have := h.1
    rw [L.out] at this
    omega
  · by_cases h2 : 1000 < (n : Int)
    · go_enter Try.func44, Try.ntmps44
      go_wp2
      go_ret
      refine ⟨ret_bool ?_, Ext.refl _⟩
      rw [eq_comm, decide_eq_false_iff_not]
      intro h
      have := h.2.1
      rw [L.out] at this
      omega
    · have h3 : n ≤ 1000 := by omega
      go_enter Try.func44, Try.ntmps44
      go_wp2_with (fail)
      go_loopw [3] (fun i wr => ∃ k : Nat, k ≤ n ∧ i = .int .i64 k ∧ RowKit.Hid (∀ j, j < k → Pl.Right (Pl.pget l j) 256) ∧ RowKit.Hid (Ext w wr)) (fun i _ => n - (intOf i).toNat)
      case atStart => exact ⟨0, by omega, rfl, Lib.hid fun j hj => absurd hj (Nat.not_lt_zero _), Lib.hid (Ext.refl w)⟩
      case round =>
        obtain ⟨k, hk, rfl, H, HX⟩ := hrel
        by_cases hlt : k < n
        · have i1 : (k : Int) < n := by omega
          obtain ⟨b, off, A', n', c', rfl, q1, q2, hi⟩ := (HL.out.ext HX.out).rd k hlt
          have hcall := rRight_any wr (Pl.pget l k).1 A' n' c' (Pl.pget l k).2 256 hi
          clear hi
          by_cases hr : Pl.Right (Pl.pget l k) 256
          · rw [decide_eq_true (show Pl.Right ((Pl.pget l k).1, (Pl.pget l k).2) 256 from hr)] at hcall
            have HRR := Lib.hid hr
            clear hr
            go_wp2_with (fail)
            with_reducible refine hcall.mono ?_
            rintro r w' ⟨rfl, hx'⟩
            go_wp2_with (fail)
            refine ⟨⟨k + 1, by omega, by go_num, Lib.hid fun j hj => ?_, Lib.hid (HX.out.trans hx')⟩, by simp [intOf]; omega⟩
            by_cases e : j = k
            · subst e; exact HRR.out
            · exact H.out j (by omega)
          · rw [decide_eq_false (show ¬ Pl.Right ((Pl.pget l k).1, (Pl.pget l k).2) 256 from hr)] at hcall
            have HRR := Lib.hid hr
            clear hr
            go_wp2_with (fail)
            with_reducible refine hcall.mono ?_
            rintro r w' ⟨rfl, hx'⟩
            go_wp2_with (fail)
            go_ret
            refine ⟨ret_bool ?_, HX.out.trans hx'⟩
            rw [eq_comm, decide_eq_false_iff_not]
            exact fun h => HRR.out (h.2.2 _ (Pl.pget_mem (by rw [L.out]; exact hlt)))
        · have i1 : ¬ (k : Int) < n := by omega
          go_wp2_with (fail)
          go_ret
          refine ⟨ret_bool ?_, HX.out⟩
          rw [eq_comm, decide_eq_true_eq]
          refine ⟨by rw [L.out]; omega, by rw [L.out]; omega, fun p hp => ?_⟩
          obtain ⟨j, hj, rfl⟩ := Pl.mem_pget hp
          exact H.out j (by rw [L.out] at hj; omega)

set_option maxRecDepth 100000 in
set_option maxHeartbeats 1000000 in
theorem rOf_bad (w : World) (A : Option Addr) (n c : Nat) (s : Int) (h : n = 0 ∨ s < 0) (hn : n ≤ 9223372036854775807) :
    Calls Try.prog 30 #[.slice A n c, .int .i64 s] w fun r w' => r = .returned (.tuple #[.agg #[.int .i64 0, .slice none 0 0], .bool false]) ∧ Ext w w' := by
  by_cases h0 : n = 0
  · subst h0
    clear h
    go_enter Try.func30, Try.ntmps30
    go_wp2
    refine bodyPost_ret (v := .tuple #[.agg #[.int .i64 0, .slice none 0 0], .bool false]) (by simp [results, Try.results30, go_sem]) rfl ⟨rfl, ?_⟩
    exact Ext.alloc _ _
  · have h1 : s < 0 := by omega
    have h2 : ((n : Int) == 0) = false := by rw [beq_eq_false_iff_ne]; omega
    clear h h0
    go_enter Try.func30, Try.ntmps30
    go_wp2
    refine bodyPost_ret (v := .tuple #[.agg #[.int .i64 0, .slice none 0 0], .bool false]) (by simp [results, Try.results30, go_sem]) rfl ⟨rfl, ?_⟩
    exact Ext.alloc _ _
set_option maxRecDepth 100000 in
set_option maxHeartbeats 1000000 in
theorem rOf_ok (w : World) (A : Option Addr) (n c : Nat) (l : List Pl.P) (s : Nat) (hl : Ps w A n c l) (hn : 0 < n) (hn' : n ≤ 17592186044416) (hs : s ≤ 9223372036854775807) :
    Calls Try.prog 30 #[.slice A n c, .int .i64 (s : Int)] w fun r w' => ∃ A' n' c', r = .returned (.tuple #[.agg #[.int .i64 (Pl.pget l (s % n)).1, .slice A' n' c'], .bool true]) ∧ Is w' A' n' c' (Pl.pget l (s % n)).2 ∧ Ext w w' := by
  have hlt : s % n < n := Nat.mod_lt _ hn
  have h2 : ((n : Int) == 0) = false := by rw [beq_eq_false_iff_ne]; omega
  have h3 : ¬ (s : Int) < 0 := by omega
  have hmod := tmod_nat s n
  obtain ⟨b, off, A', n', c', rfl, q1, q2, hi⟩ := hl.rd _ hlt
  generalize s % n = k at *
  have i1 : (k : Int) < n := by omega
  have hb := World.block_lt_of_cell? _ _ q1
  have hb' : b < w.heap.size := hb
  have hi1 := Lib.hid hi
  clear hl hb hi
  go_enter Try.func30, Try.ntmps30
  go_wp2_with (fail)
  refine bodyPost_ret (v := .tuple #[.agg #[.int .i64 (Pl.pget l k).1, .slice A' n' c'], .bool true]) (by simp [results, Try.results30, go_sem]) rfl ⟨_, _, _, rfl, hi1.out.ext ?_, ?_⟩
  · first | exact Ext.alloc _ _ | exact ((Ext.alloc _ _).set_ (Nat.le_refl _) _).set_ (Nat.le_refl _) _
  · first | exact Ext.alloc _ _ | exact ((Ext.alloc _ _).set_ (Nat.le_refl _) _).set_ (Nat.le_refl _) _
end Go.Proofs.Ytkanlbkfbkkknaa
