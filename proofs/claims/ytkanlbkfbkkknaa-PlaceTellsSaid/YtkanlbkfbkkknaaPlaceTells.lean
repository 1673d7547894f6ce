/- PlaceTells' walk. -/
import Derived.Test.YtkanlbkfbkkknaaPlacesOpen
import Derived.Test.YtkanlbkfbkkknaaPlaceAwake
import Derived.Test.YtkanlbkfbkkknaaIntsCopy
import Derived.Test.YtkanlbkfbkkknaaPlBytes
import Derived.Test.YtkanlbkfbkkknaaPlRead
import Derived.Test.YtkanlbkfbkkknaaRef9B
import Derived.Test.YtkanlbkfbkkknaaRef9M
import Derived.Test.YtkanlbkfbkkknaaRef9R
namespace Go.Proofs.Ytkanlbkfbkkknaa
open Go.ChangeShapes Go.WideShapes Go.ChangeAt Go.RowKit
set_option linter.unusedSimpArgs false

namespace placeTells
/-- First, and the document's, whatever is asked. -/
def GivesF (w : World) (a b c : Int) (r : Ending) (w' : World) : Prop := ∃ A n d l E, r = .returned (.tuple #[.slice A n d, .int .i64 E]) ∧ Ps w' A n d l ∧ Ext w w' ∧ l = (if Pl.FirstOk a b c then Pl.first a.toNat b.toNat c.toNat else []) ∧ E = (if Pl.FirstOk a b c then 0 else 2)
theorem firstG (w : World) (a b c : Int) : Calls Try.prog 15 #[.int .i64 a, .int .i64 b, .int .i64 c] w (GivesF w a b c) := by
  by_cases h : Pl.FirstOk a b c
  · obtain ⟨x, rfl⟩ : ∃ x : Nat, a = x := ⟨a.toNat, by have := h.1; omega⟩
    obtain ⟨y, rfl⟩ : ∃ x : Nat, b = x := ⟨b.toNat, by have := h.2.2.1; omega⟩
    obtain ⟨z, rfl⟩ : ∃ x : Nat, c = x := ⟨c.toNat, by have := h.2.2.2.2.2.1; omega⟩
    refine (first_ok w x y z h).mono ?_
    rintro r w' ⟨v, rfl, hv⟩
    obtain ⟨A, d, rfl, hp⟩ := hv.ps
    exact ⟨_, _, _, _, _, rfl, hp, hv.ext, by rw [if_pos h]; simp, by rw [if_pos h]⟩
  · refine (first_bad w a b c h).mono ?_
    rintro r w' ⟨rfl, rfl⟩
    exact ⟨_, _, _, _, _, rfl, Ps.none0 w, Ext.refl w, by rw [if_neg h], by rw [if_neg h]⟩
theorem rFirstG (w : World) (a b c : Int) : Calls Try.prog 25 #[.int .i64 a, .int .i64 b, .int .i64 c] w (GivesF w a b c) := by
  by_cases h : Pl.FirstOk a b c
  · obtain ⟨x, rfl⟩ : ∃ x : Nat, a = x := ⟨a.toNat, by have := h.1; omega⟩
    obtain ⟨y, rfl⟩ : ∃ x : Nat, b = x := ⟨b.toNat, by have := h.2.2.1; omega⟩
    obtain ⟨z, rfl⟩ : ∃ x : Nat, c = x := ⟨c.toNat, by have := h.2.2.2.2.2.1; omega⟩
    refine (rFirst_ok w x y z h).mono ?_
    rintro r w' ⟨v, rfl, hv⟩
    obtain ⟨A, d, rfl, hp⟩ := hv.ps
    exact ⟨_, _, _, _, _, rfl, hp, hv.ext, by rw [if_pos h]; simp, by rw [if_pos h]⟩
  · refine (rFirst_bad w a b c h).mono ?_
    rintro r w' ⟨rfl, rfl⟩
    exact ⟨_, _, _, _, _, rfl, Ps.none0 w, Ext.refl w, by rw [if_neg h], by rw [if_neg h]⟩
/-- Bytes, and the document's. -/
def GivesB (w : World) (l : List Pl.P) (r : Ending) (w' : World) : Prop := ∃ A n d b E, r = .returned (.tuple #[.slice A n d, .int .i64 E]) ∧ Bs w' A n d b ∧ Ext w w' ∧ b = (if Pl.All l then Pl.encL l else []) ∧ E = (if Pl.All l then 0 else 100)
theorem bytesG (w : World) (A : Option Addr) (n c : Nat) (l : List Pl.P) (hl : Ps w A n c l) : Calls Try.prog 20 #[.slice A n c] w (GivesB w l) := by
  by_cases h : Pl.All l
  · refine (plBytes_ok w A n c l hl h).mono ?_
    rintro r w' ⟨v, rfl, hv⟩
    obtain ⟨B, d, rfl, hb⟩ := hv.bs
    exact ⟨_, _, _, _, _, rfl, hb, hv.ext, by rw [if_pos h], by rw [if_pos h]⟩
  · refine (plBytes_no w A n c l hl h).mono ?_
    rintro r w' ⟨rfl, hx⟩
    exact ⟨_, _, _, [], _, rfl, ⟨rfl, Nat.le_refl _, by omega, Rd.nil _ _ _⟩, hx, by rw [if_neg h], by rw [if_neg h]⟩
theorem rBytesG (w : World) (A : Option Addr) (n c : Nat) (l : List Pl.P) (hl : Ps w A n c l) : Calls Try.prog 27 #[.slice A n c] w (GivesB w l) := by
  by_cases h : Pl.All l
  · refine (rBytes_ok w A n c l hl h).mono ?_
    rintro r w' ⟨B, m, d, rfl, hb, hx⟩
    exact ⟨_, _, _, _, _, rfl, hb, hx, by rw [if_pos h], by rw [if_pos h]⟩
  · refine (rBytes_no w A n c l hl h).mono ?_
    rintro r w' ⟨rfl, hx⟩
    exact ⟨_, _, _, [], _, rfl, ⟨rfl, Nat.le_refl _, by omega, Rd.nil _ _ _⟩, hx, by rw [if_neg h], by rw [if_neg h]⟩
/-- Read, and the document's. -/
def GivesR (w : World) (l : List UInt8) (r : Ending) (w' : World) : Prop := ∃ A n d, r = .returned (.tuple #[.slice A n d, .int .i64 (Pl.readE l)]) ∧ Ps w' A n d (Pl.readL l) ∧ Ext w w'
theorem readG (w : World) (A : Option Addr) (n c : Nat) (l : List UInt8) (hl : Bs w A n c l) : Calls Try.prog 21 #[.slice A n c] w (GivesR w l) := by
  refine (plRead_any w A n c l hl).mono ?_
  rintro r w' ⟨v, rfl, hv⟩
  obtain ⟨B, d, rfl, hp⟩ := hv.ps
  exact ⟨_, _, _, rfl, hp, hv.ext⟩
theorem rReadG (w : World) (A : Option Addr) (n c : Nat) (l : List UInt8) (hl : Bs w A n c l) : Calls Try.prog 28 #[.slice A n c] w (GivesR w l) := by
  refine (rRead_any w A n c l hl).mono ?_
  rintro r w' ⟨v, rfl, ho, hx⟩
  obtain ⟨B, d, rfl, hp⟩ := ho.ps
  exact ⟨_, _, _, rfl, hp, hx⟩
/-- Move, and the document's. -/
theorem moveG (w : World) (A : Option Addr) (n c : Nat) (l : List Pl.P) (hl : Ps w A n c l) (a b : Int) : Calls Try.prog 12 #[.slice A n c, .int .i64 a, .int .i64 b] w (GivesMv w l a b) := by
  refine (move_any w A n c l hl a b).mono ?_
  rintro r w' ⟨v, s, rfl, hv, hs⟩
  obtain ⟨B, d, rfl, hp⟩ := hv.ps
  obtain ⟨C, e, rfl, hi⟩ := hs.is
  exact ⟨_, _, _, _, rfl, hp, hi, hv.ext⟩
/-- Of, and the document's. -/
def GivesO (w : World) (l : List Pl.P) (s : Int) (r : Ending) (w' : World) : Prop := ∃ A n d p ok, r = .returned (.tuple #[.agg #[.int .i64 p.1, .slice A n d], .bool ok]) ∧ Is w' A n d p.2 ∧ Ext w w' ∧ p = (if l.length = 0 ∨ s < 0 then ((0 : Int), []) else Pl.pget l (s.toNat % l.length)) ∧ ok = !decide (l.length = 0 ∨ s < 0)
theorem ofG (w : World) (A : Option Addr) (n c : Nat) (l : List Pl.P) (hl : Ps w A n c l) (s : Int) (hs : s ≤ 9223372036854775807) (h20 : n ≤ 20) (h30 : ∀ k, k < n → (Pl.pget l k).2.length ≤ 30) : Calls Try.prog 17 #[.slice A n c, .int .i64 s] w (GivesO w l s) := by
  have L := hl.len
  by_cases h : n = 0 ∨ s < 0
  · refine (of_bad w A n c s h (by omega)).mono ?_
    rintro r w' ⟨rfl, hx⟩
    exact ⟨none, 0, 0, (0, []), false, rfl, Is.none w', hx, by rw [L, if_pos h], by rw [L, decide_eq_true h]; rfl⟩
  · obtain ⟨x, rfl⟩ : ∃ x : Nat, s = x := ⟨s.toNat, by omega⟩
    have hlt : x % n < n := Nat.mod_lt _ (by omega)
    refine (of_ok w A n c l x hl (by omega) (by omega) (by omega) (by have := h30 _ hlt; omega)).mono ?_
    rintro r w' ⟨v, rfl, hv⟩
    obtain ⟨B, d, rfl, hi⟩ := hv.is
    exact ⟨_, _, _, Pl.pget l (x % n), true, rfl, hi, hv.ext, by rw [L, if_neg h, Int.toNat_natCast], by rw [L, decide_eq_false h]; rfl⟩
theorem rOfG (w : World) (A : Option Addr) (n c : Nat) (l : List Pl.P) (hl : Ps w A n c l) (s : Int) (hs : s ≤ 9223372036854775807) (h20 : n ≤ 20) : Calls Try.prog 30 #[.slice A n c, .int .i64 s] w (GivesO w l s) := by
  have L := hl.len
  by_cases h : n = 0 ∨ s < 0
  · refine (rOf_bad w A n c s h (by omega)).mono ?_
    rintro r w' ⟨rfl, hx⟩
    exact ⟨none, 0, 0, (0, []), false, rfl, Is.none w', hx, by rw [L, if_pos h], by rw [L, decide_eq_true h]; rfl⟩
  · obtain ⟨x, rfl⟩ : ∃ x : Nat, s = x := ⟨s.toNat, by omega⟩
    refine (rOf_ok w A n c l x hl (by omega) (by omega) (by omega)).mono ?_
    rintro r w' ⟨B, m, d, rfl, hi, hx⟩
    exact ⟨_, _, _, Pl.pget l (x % n), true, rfl, hi, hx, by rw [L, if_neg h, Int.toNat_natCast], by rw [L, decide_eq_false h]; rfl⟩
theorem ps_one (w : World) (e : Int) (A : Option Addr) (n c : Nat) (l : List Int) (hi : Is w A n c l) : Ps (w.alloc (.cells #[.int .i64 e, .slice A n c] 33)) (some ⟨w.heap.size, 0, none⟩) 1 1 [(e, l)] := by
  refine ⟨rfl, Nat.le_refl _, by omega, fun k hk => ?_⟩
  obtain rfl : k = 0 := by omega
  have hb := heap_alloc_new w (.cells #[.int .i64 e, .slice A n c] 33)
  exact ⟨w.heap.size, 0, A, n, c, rfl, (cell_of_row _ _ _ _ _ _ hb).trans rfl, (cell_of_row _ _ _ _ _ _ hb).trans rfl, hi.ext (Ext.alloc _ _)⟩

set_option maxRecDepth 100000 in
set_option maxHeartbeats 8000000 in
theorem tells_any (w0 : World) (A : Option Addr) (n c : Nat) (l : List Pl.P) (hl : Ps w0 A n c l) (B : Option Addr) (nb cb : Nat) (lb : List UInt8) (hb : Bs w0 B nb cb lb) (x0 x1 x2 fr to_ : Int) (hfr : fr ≤ 9223372036854775807) :
    Calls Try.prog 8 #[.slice A n c, .slice B nb cb, .agg #[.int .i64 x0, .int .i64 x1, .int .i64 x2], .int .i64 fr, .int .i64 to_] w0 fun e w' => e = .returned (.bool true) ∧ Ext w0 w' := by
  obtain ⟨i1, hi1, hy0, hy1, hy2⟩ := info_parts place_info
  have HL0 := Lib.hid hl
  have HB0 := Lib.hid hb
  have L := Lib.hid hl.len
  have m1 := hl.le
  have m2 := hl.max
  have m3 := hb.le
  have m4 := hb.max
  have hX0 : Ext w0 (w0.alloc (.cells #[.int .i64 x0, .int .i64 x1, .int .i64 x2] 48)) := Ext.alloc _ _
  have hbx := heap_alloc_new w0 (.cells #[.int .i64 x0, .int .i64 x1, .int .i64 x2] 48)
  have hsm := smallPlaces_any (w0.alloc (.cells #[.int .i64 x0, .int .i64 x1, .int .i64 x2] 48)) A n c l 20 30 (hl.ext hX0)
  clear hl hb
  go_enter Try.func8, Try.ntmps8
  try dsimp only [List.append]
  go_wp2_with (fail)
  obtain ⟨g, hg⟩ : ∃ g, w0.heap.size = g := ⟨_, rfl⟩
  rw [hg] at hbx
  rw [hg]
  generalize w0.alloc (.cells #[.int .i64 x0, .int .i64 x1, .int .i64 x2] 48) = w at *
  have HX0 := Lib.hid hX0
  have BX := Lib.hid hbx
  have HL := Lib.hid (HL0.out.ext hX0)
  have HB := Lib.hid (HB0.out.ext hX0)
  clear hX0 hg
  with_reducible refine hsm.mono ?_
  rintro e w1 ⟨y, rfl, hy, rfl⟩
  clear hsm
  have k0 : w.cell? ⟨g, 0, none⟩ = some (.int .i64 x0) := by rw [cell_of_row w _ _ _ _ _ hbx]; rfl
  have k1 : w.cell? ⟨g, 1, none⟩ = some (.int .i64 x1) := by rw [cell_of_row w _ _ _ _ _ hbx]; rfl
  have k2 : w.cell? ⟨g, 2, none⟩ = some (.int .i64 x2) := by rw [cell_of_row w _ _ _ _ _ hbx]; rfl
  clear hbx
  have early : ∀ W : World, Ext w W → Calls Try.prog 14 #[] W fun e w' => e = .returned (.bool true) ∧ Ext w0 w' := fun W hW => (awake_any W).mono fun e w' h => ⟨h.1, HX0.out.trans (hW.trans h.2)⟩
  have EARLY := Lib.hid early
  clear early
  by_cases hgo : y = true ∧ ¬ (1000 : Int) < (nb : Int) ∧ ¬ (30 : Int) < x1 ∧ ¬ (60 : Int) < x2
  · obtain ⟨rfl, g1, g2, g3⟩ := hgo
    obtain ⟨hl20, hl30⟩ := hy rfl
    have hn20 : n ≤ 20 := by rw [← L.out]; omega
    have H30 := Lib.hid (show ∀ k, k < n → (Pl.pget l k).2.length ≤ 30 from fun k hk => by have := hl30 k (by rw [L.out]; exact hk); omega)
    clear hl20 hl30 hy
    go_wp2_with (fail)
    clear k0 k1 k2 g1 g2 g3
    go_loopw [11, 12] (fun s11 s12 wr => ∃ k : Nat, k ≤ n ∧ s12 = .int .i64 (k : Int) ∧ RowKit.Hid (OwnPs False w.heap.size wr s11 (.slice none 0 0) (l.take k)) ∧ RowKit.Hid (Ext w wr)) (fun _ s12 _ => n - (intOf s12).toNat)
    case atStart => exact ⟨0, Nat.zero_le _, rfl, Lib.hid (OwnPs.nil _ _ _ _), Lib.hid (Ext.refl w)⟩
    case round =>
      obtain ⟨k, hk, rfl, HW, HX⟩ := hrel
      obtain ⟨wo, hwo⟩ : ∃ wo, wo = wr := ⟨_, rfl⟩
      subst hwo
      by_cases hlt : k < n
      · have t1 : (k : Int) < n := by omega
        have hlk : k < l.length := by rw [L.out]; exact hlt
        obtain ⟨b0, off, A1, m1, c1, rfl, q1, q2, hi⟩ := HL.out.rd k hlt
        have Q1 := Lib.hid q1
        have Q2 := Lib.hid q2
        have HI := Lib.hid hi
        have hm30 : m1 ≤ 30 := by have := H30.out k hlt; have := hi.len; omega
        obtain ⟨cs, o1, o2⟩ := HW.out.cells
        have hlen := Lib.hid o1.1
        rw [List.length_take, Nat.min_eq_left (by omega)] at o1
        have OC := Lib.hid o1
        have O2 := Lib.hid o2
        clear q1 q2 hi o1 o2
        go_wp2_with (fail)
        have hS0 : (fun W : World => Hid (Ext w W)) wo.drew := Lib.hid (HX.out.thenDrew)
        refine wp_region_T (S := (fun W : World => Hid (Ext w W))) 14 rfl rfl ?_
        refine takeC [] (i := 0) (v := ?_) rfl (by kernel_rfl) (by kernel_rfl) (by kernel_rfl) (by kernel_rfl) (by decide) (fun _ _ _ h => h) (by kernel_rfl) (Or.inl ⟨by kernel_rfl, ?_⟩) (by assumption) ?_
        rotate_left
        · (intro W9 hSw; go_simp; (try with_reducible rfl))
        try simp only [Act.put, List.setIfInBounds_toArray, List.set_cons_zero, List.set_cons_succ]
        refine takeC [13,12,5,4,3] (i := 1) (v := ?_) rfl (by kernel_rfl) (by kernel_rfl) (by kernel_rfl) (by kernel_rfl) (by decide) (fun _ _ _ h => h) (by kernel_rfl) (Or.inl ⟨by kernel_rfl, ?_⟩) (by assumption) ?_
        rotate_left
        · (intro W9 hSw; go_simp; (try with_reducible rfl))
        try simp only [Act.put, List.setIfInBounds_toArray, List.set_cons_zero, List.set_cons_succ]
        refine takeC [13,12,5,4,3] (i := 2) (v := ?_) rfl (by kernel_rfl) (by kernel_rfl) (by kernel_rfl) (by kernel_rfl) (by decide) (fun _ _ _ h => h) (by kernel_rfl) (Or.inl ⟨by kernel_rfl, ?_⟩) (by assumption) ?_
        rotate_left
        · (intro W9 hSw; go_simp; (try with_reducible rfl))
        try simp only [Act.put, List.setIfInBounds_toArray, List.set_cons_zero, List.set_cons_succ]
        refine takeC [13,12,5,4] (i := 3) (v := ?_) rfl (by kernel_rfl) (by kernel_rfl) (by kernel_rfl) (by kernel_rfl) (by decide) (fun _ _ _ h => h) (by kernel_rfl) (Or.inl ⟨by kernel_rfl, ?_⟩) (by assumption) ?_
        rotate_left
        · (intro W9 hSw; go_simp; (try with_reducible rfl))
        try simp only [Act.put, List.setIfInBounds_toArray, List.set_cons_zero, List.set_cons_succ]
        refine takeC [13,12,5] (i := 4) (v := ?_) rfl (by kernel_rfl) (by kernel_rfl) (by kernel_rfl) (by kernel_rfl) (by decide) (fun _ _ _ h => h) (by kernel_rfl) (Or.inl ⟨by kernel_rfl, ?_⟩) (by assumption) ?_
        rotate_left
        · (intro W9 hSw; go_simp; (try with_reducible rfl))
        try simp only [Act.put, List.setIfInBounds_toArray, List.set_cons_zero, List.set_cons_succ]
        refine takeC [13,12] (i := 5) (v := ?_) rfl (by kernel_rfl) (by kernel_rfl) (by kernel_rfl) (by kernel_rfl) (by decide) (fun _ _ _ h => h) (by kernel_rfl) (Or.inl ⟨by kernel_rfl, ?_⟩) (by assumption) ?_
        rotate_left
        · (intro W9 hSw; (have k0 := hSw.out.cell Q1.out; have k1 := hSw.out.cell Q2.out; clear hSw; skip); go_simp; (try with_reducible rfl))
        try simp only [Act.put, List.setIfInBounds_toArray, List.set_cons_zero, List.set_cons_succ]
        refine takeC [11,10,9,8] (i := 6) (v := ?_) rfl (by kernel_rfl) (by kernel_rfl) (by kernel_rfl) (by kernel_rfl) (by decide) (fun _ _ _ h => h) (by kernel_rfl) (Or.inl ⟨by kernel_rfl, ?_⟩) (by assumption) ?_
        rotate_left
        · (intro W9 hSw; go_simp; (try with_reducible rfl))
        try simp only [Act.put, List.setIfInBounds_toArray, List.set_cons_zero, List.set_cons_succ]
        refine takeC [11,10,9,8] (i := 7) (v := ?_) rfl (by kernel_rfl) (by kernel_rfl) (by kernel_rfl) (by kernel_rfl) (by decide) (fun _ _ _ h => h) (by kernel_rfl) (Or.inl ⟨by kernel_rfl, ?_⟩) (by assumption) ?_
        rotate_left
        · (intro W9 hSw; go_simp; (try with_reducible rfl))
        try simp only [Act.put, List.setIfInBounds_toArray, List.set_cons_zero, List.set_cons_succ]
        refine takeC [11,10,9] (i := 8) (v := ?_) rfl (by kernel_rfl) (by kernel_rfl) (by kernel_rfl) (by kernel_rfl) (by decide) (fun _ _ _ h => h) (by kernel_rfl) (Or.inl ⟨by kernel_rfl, ?_⟩) (by assumption) ?_
        rotate_left
        · (intro W9 hSw; go_simp; (try with_reducible rfl))
        try simp only [Act.put, List.setIfInBounds_toArray, List.set_cons_zero, List.set_cons_succ]
        refine takeC [11,10] (i := 9) (v := ?_) rfl (by kernel_rfl) (by kernel_rfl) (by kernel_rfl) (by kernel_rfl) (by decide) (fun _ _ _ h => h) (by kernel_rfl) (Or.inl ⟨by kernel_rfl, ?_⟩) (by assumption) ?_
        rotate_left
        · (intro W9 hSw; go_simp; (try with_reducible rfl))
        try simp only [Act.put, List.setIfInBounds_toArray, List.set_cons_zero, List.set_cons_succ]
        refine takeC [11] (i := 10) (v := ?_) rfl (by kernel_rfl) (by kernel_rfl) (by kernel_rfl) (by kernel_rfl) (by decide) (fun _ _ _ h => h) (by kernel_rfl) (Or.inl ⟨by kernel_rfl, ?_⟩) (by assumption) ?_
        rotate_left
        · (intro W9 hSw; (have k0 := hSw.out.cell Q1.out; have k1 := hSw.out.cell Q2.out; clear hSw; skip); go_simp; (try with_reducible rfl))
        try simp only [Act.put, List.setIfInBounds_toArray, List.set_cons_zero, List.set_cons_succ]
        refine oneT (i := 11) rfl (by kernel_rfl) (fun K hK => ?_)
        rw [if_pos (by kernel_rfl)]
        go_wp2_with (fail)
        with_reducible refine (copyInts_any wo.drew A1 m1 c1 (Pl.pget l k).2 (HI.out.ext hS0.out) (by omega)).mono ?_
        rintro e w5 ⟨v5, rfl, hv5⟩
        have O5 := Lib.hid hv5.own
        have Y5 := Lib.hid (show Ext wo w5 from (Ext.drew wo).trans hv5.ext)
        have hS5 : (fun W : World => Hid (Ext w W)) w5 := Lib.hid (hS0.out.trans hv5.ext)
        have SZD := Lib.hid (show wo.heap.size ≤ wo.drew.heap.size from Nat.le_refl _)
        have hlen5 := HI.out.len
        rw [hlen5] at O5
        obtain ⟨DD, dd, rfl, _, _⟩ := ownsRow_slice O5.out
        clear hv5 hlen5
        go_wp2_with (fail)
        refine hK.out _ _ (fun _ => hS5) ?_
        clear hK K
        try simp only [Act.put, List.setIfInBounds_toArray, List.set_cons_zero, List.set_cons_succ]
        refine takeC [13] (i := 12) (v := ?_) rfl (by kernel_rfl) (by kernel_rfl) (by kernel_rfl) (by kernel_rfl) (by decide) (fun _ _ _ h => h) (by kernel_rfl) (Or.inl ⟨by kernel_rfl, ?_⟩) (by assumption) ?_
        rotate_left
        · (intro W9 hSw; go_simp; (try with_reducible rfl))
        try simp only [Act.put, List.setIfInBounds_toArray, List.set_cons_zero, List.set_cons_succ]
        refine oneT (i := 13) rfl (by kernel_rfl) (fun K hK => ?_)
        rw [if_pos (by kernel_rfl)]
        go_wp2_with (fail)
        have hS6 : (fun W : World => Hid (Ext w W)) (w5.alloc (.cells #[.int .i64 (Pl.pget l k).1, .slice DD m1 dd] 33)) := Lib.hid (hS5.out.thenAlloc _)
        refine hK.out _ _ (fun _ => hS6) ?_
        clear hK K
        try simp only [Act.put, List.setIfInBounds_toArray, List.set_cons_zero, List.set_cons_succ]
        refine oneT (i := 14) rfl (by kernel_rfl) (fun K hK => ?_)
        refine step_append_rd _ rfl (.tmp 61) (.tmp 74) 24 rfl w.heap.size 33 i1 _ 2 32 Try.underlying24 hi1 hy0 hy1 hy2 rfl (by omega) u11 k cs (by simp [Act.eval]) (ownsRow_ext OC.out (Y5.out.thenAlloc _)) (some ⟨w5.heap.size, 0, none⟩) 1 1 [.int .i64 (Pl.pget l k).1, .slice DD m1 dd] (by simp [Act.eval]) (Rd.lit2 _ _ _ _) (by simp [Value.oneCell']) (by omega) (by unfold maxLen; omega) (by have := hS6.out.size; exact this) ?_
        intro v7 w7 o7 g7 at7
        have hS7 : (fun W : World => Hid (Ext w W)) w7 := Lib.hid (Ext.ofGrown (hS5.out.thenAlloc (.cells #[.int .i64 (Pl.pget l k).1, .slice DD m1 dd] 33)) g7 (fun q hq => own_row OC.out q hq))
        refine hK.out _ _ (fun h => absurd (show true = false from h) (by decide)) ?_
        clear hK K
        try simp only [Act.put, List.setIfInBounds_toArray, List.set_cons_zero, List.set_cons_succ]
        refine oneT (i := 15) rfl (by kernel_rfl) (fun K hK => ?_)
        rw [if_pos (by kernel_rfl)]
        go_wp2_with (fail)
        refine hK.out _ _ (fun h => absurd (show true = false from h) (by decide)) ?_
        clear hK K
        try simp only [Act.put, List.setIfInBounds_toArray, List.set_cons_zero, List.set_cons_succ]
        refine doneT (by kernel_rfl) ?_ _
        clear hS0 hS5 hS6
        have hI : Is (w5.alloc (.cells #[.int .i64 (Pl.pget l k).1, .slice DD m1 dd] 33)) DD m1 dd (Pl.pget l k).2 := (Own.mk (base := wo.drew.heap.size) (e := 3) O5.out).ints.ext (Ext.alloc _ _)
        have hoff : Off (w5.alloc (.cells #[.int .i64 (Pl.pget l k).1, .slice DD m1 dd] 33)) u11 DD m1 := by
          intro hn q hq
          obtain ⟨gd, rfl, e1, e2⟩ := own_addr O5.out hn
          injection hq with hq
          have hq' : gd = q := hq
          refine ⟨by simp; omega, fun e => ?_⟩
          have := (OC.out.lt q e).2
          have := SZD.out
          omega
        have hpush := OwnPs.push (fr := False) (g := .slice none 0 0) (e := (Pl.pget l k).1) (nodes := (Pl.pget l k).2) (l := l.take k) (fun j hj => by
          obtain ⟨A2, n2, c2, a1, a2, a3, a4, a5, a6⟩ := O2.out j hj
          exact ⟨A2, n2, c2, a1, a2, a3.ext (Y5.out.thenAlloc _), a4.ext (Y5.out.thenAlloc _), a5.ext (Y5.out.thenAlloc _), fun f => f.elim⟩) hlen.out hI hoff hoff.none (fun f => f.elim) (by rw [List.length_take, Nat.min_eq_left (by omega)]; exact o7) g7 at7
        have HPU := Lib.hid hpush
        clear o7 g7 at7 hI hoff hpush
        go_wp2_with (fail)
        refine ⟨⟨k + 1, by omega, by go_num, Lib.hid ?_, hS7⟩, by simp [intOf]; omega⟩
        rw [List.take_add_one, List.getElem?_eq_getElem hlk, ← Pl.pget_of_lt hlk]
        exact HPU.out
      · have t1 : ¬ (k : Int) < n := by omega
        obtain rfl : k = n := by omega
        obtain ⟨IA, ic, rfl, hin⟩ := HW.out.ps
        rw [List.take_of_length_le (by rw [L.out]; exact Nat.le_refl _)] at hin
        have eN : (l.take k).length = k := by rw [List.length_take, L.out]; omega
        rw [eN]
        have HIN := Lib.hid (show Ps wo IA k ic l from L.out ▸ hin)
        have k0 := HX.out.cell (show w.cell? ⟨g, 0, none⟩ = some (.int .i64 x0) by rw [cell_of_row w _ _ _ _ _ BX.out]; rfl)
        have k1 := HX.out.cell (show w.cell? ⟨g, 1, none⟩ = some (.int .i64 x1) by rw [cell_of_row w _ _ _ _ _ BX.out]; rfl)
        have k2 := HX.out.cell (show w.cell? ⟨g, 2, none⟩ = some (.int .i64 x2) by rw [cell_of_row w _ _ _ _ _ BX.out]; rfl)
        clear hin eN
        have HLw := Lib.hid (HL.out.ext HX.out)
        have HBw := Lib.hid (HB.out.ext HX.out)
        go_wp2_with (fail)
        with_reducible refine (firstG wo x0 x1 x2).mono ?_
        rintro e wn ⟨FA, fn, fd, fl, fE, rfl, fp, fx, fe1, fe2⟩
        replace HX := Lib.hid (HX.out.trans fx)
        replace HIN := Lib.hid (HIN.out.ext fx)
        replace HLw := Lib.hid (HLw.out.ext fx)
        replace HBw := Lib.hid (HBw.out.ext fx)
        have FE := Lib.hid (And.intro fe1 fe2)
        clear fe1 fe2
        have FP := Lib.hid fp
        replace k0 := fx.cell k0
        replace k1 := fx.cell k1
        replace k2 := fx.cell k2
        clear fp fx
        go_wp2_with (fail)
        with_reducible refine (rFirstG wn x0 x1 x2).mono ?_
        rintro e wm ⟨GA, gn, gd, gl, gE, rfl, gp, gx, ge1, ge2⟩
        replace HX := Lib.hid (HX.out.trans gx)
        replace HIN := Lib.hid (HIN.out.ext gx)
        replace HLw := Lib.hid (HLw.out.ext gx)
        replace HBw := Lib.hid (HBw.out.ext gx)
        replace FP := Lib.hid (FP.out.ext gx)
        have ee1 := ge1.trans FE.out.1.symm
        have ee2 := ge2.trans FE.out.2.symm
        clear FE
        subst ee1 ee2
        have GP := Lib.hid gp
        have q1 : (gE != gE) = false := by simp
        clear gp gx ge1 ge2 k0 k1 k2
        obtain ⟨mE, hmE⟩ : ∃ mE, Pl.moveE l fr to_ = mE := ⟨_, rfl⟩
        obtain ⟨mL, hmL⟩ : ∃ mL, Pl.moveL l fr to_ = mL := ⟨_, rfl⟩
        obtain ⟨mG, hmG⟩ : ∃ mG, Pl.moveG l fr to_ = mG := ⟨_, rfl⟩
        have q2 : (mE != mE) = false := by simp
        have hmv := moveG wm IA k ic l HIN.out fr to_
        have hrm := fun (W : World) (A : Option Addr) (n c : Nat) (h : Ps W A n c l) => rMove_any W A n c l h fr to_
        unfold GivesMv at hmv hrm
        rw [hmE, hmL, hmG] at hmv hrm
        clear hmE hmL hmG
        have HRM := Lib.hid hrm
        clear hrm
        go_wp2_with (fail)
        with_reducible refine (hmv).mono ?_
        rintro e wp ⟨MA, mc, MB, md, rfl, mp, mi, mx⟩
        replace HX := Lib.hid (HX.out.trans mx)
        replace HIN := Lib.hid (HIN.out.ext mx)
        replace HLw := Lib.hid (HLw.out.ext mx)
        replace HBw := Lib.hid (HBw.out.ext mx)
        replace FP := Lib.hid (FP.out.ext mx)
        replace GP := Lib.hid (GP.out.ext mx)
        have MP := Lib.hid mp
        have MI := Lib.hid mi
        clear mp mi mx hmv
        go_wp2_with (fail)
        with_reducible refine (HRM.out wp _ _ _ HLw.out).mono ?_
        rintro e wq ⟨NA, nc, NB, nd, rfl, np, ni, nx⟩
        replace HX := Lib.hid (HX.out.trans nx)
        replace HIN := Lib.hid (HIN.out.ext nx)
        replace HLw := Lib.hid (HLw.out.ext nx)
        replace HBw := Lib.hid (HBw.out.ext nx)
        replace FP := Lib.hid (FP.out.ext nx)
        replace GP := Lib.hid (GP.out.ext nx)
        replace MP := Lib.hid (MP.out.ext nx)
        replace MI := Lib.hid (MI.out.ext nx)
        have NP := Lib.hid np
        have NI := Lib.hid ni
        clear np ni nx
        go_wp2_with (fail)
        with_reducible refine (bytesG wq IA k ic l HIN.out).mono ?_
        rintro e wr1 ⟨BA, bn, bd, bb, bE, rfl, bp, bx, be1, be2⟩
        replace HX := Lib.hid (HX.out.trans bx)
        replace HIN := Lib.hid (HIN.out.ext bx)
        replace HLw := Lib.hid (HLw.out.ext bx)
        replace HBw := Lib.hid (HBw.out.ext bx)
        replace FP := Lib.hid (FP.out.ext bx)
        replace GP := Lib.hid (GP.out.ext bx)
        replace MP := Lib.hid (MP.out.ext bx)
        replace MI := Lib.hid (MI.out.ext bx)
        replace NP := Lib.hid (NP.out.ext bx)
        replace NI := Lib.hid (NI.out.ext bx)
        have BE := Lib.hid (And.intro be1 be2)
        clear be1 be2
        have BP := Lib.hid bp
        clear bp bx
        go_wp2_with (fail)
        with_reducible refine (rBytesG wr1 _ _ _ l HLw.out).mono ?_
        rintro e wr2 ⟨CA, cn, cd, cbb, cE, rfl, cp, cx, ce1, ce2⟩
        replace HX := Lib.hid (HX.out.trans cx)
        replace HIN := Lib.hid (HIN.out.ext cx)
        replace HLw := Lib.hid (HLw.out.ext cx)
        replace HBw := Lib.hid (HBw.out.ext cx)
        replace FP := Lib.hid (FP.out.ext cx)
        replace GP := Lib.hid (GP.out.ext cx)
        replace MP := Lib.hid (MP.out.ext cx)
        replace MI := Lib.hid (MI.out.ext cx)
        replace NP := Lib.hid (NP.out.ext cx)
        replace NI := Lib.hid (NI.out.ext cx)
        replace BP := Lib.hid (BP.out.ext cx)
        have ee1 := ce1.trans BE.out.1.symm
        have ee2 := ce2.trans BE.out.2.symm
        clear BE
        subst ee1 ee2
        have CP := Lib.hid cp
        have q3 : (cE != cE) = false := by simp
        clear cp cx ce1 ce2
        obtain ⟨rE, hrE⟩ : ∃ rE, Pl.readE lb = rE := ⟨_, rfl⟩
        obtain ⟨rL, hrL⟩ : ∃ rL, Pl.readL lb = rL := ⟨_, rfl⟩
        have q4 : (rE != rE) = false := by simp
        have hr1 := readG wr2 B nb cb lb HBw.out
        have hr2 := fun (W : World) (h : Bs W B nb cb lb) => rReadG W B nb cb lb h
        unfold GivesR at hr1 hr2
        rw [hrE, hrL] at hr1 hr2
        have HR2 := Lib.hid hr2
        clear hr2 hrE hrL
        go_wp2_with (fail)
        with_reducible refine (hr1).mono ?_
        rintro e wr3 ⟨RA, rn, rd, rfl, rp, rx⟩
        replace HX := Lib.hid (HX.out.trans rx)
        replace HIN := Lib.hid (HIN.out.ext rx)
        replace HLw := Lib.hid (HLw.out.ext rx)
        replace HBw := Lib.hid (HBw.out.ext rx)
        replace FP := Lib.hid (FP.out.ext rx)
        replace GP := Lib.hid (GP.out.ext rx)
        replace MP := Lib.hid (MP.out.ext rx)
        replace MI := Lib.hid (MI.out.ext rx)
        replace NP := Lib.hid (NP.out.ext rx)
        replace NI := Lib.hid (NI.out.ext rx)
        replace BP := Lib.hid (BP.out.ext rx)
        replace CP := Lib.hid (CP.out.ext rx)
        have RP := Lib.hid rp
        clear rp rx hr1
        go_wp2_with (fail)
        with_reducible refine (HR2.out wr3 HBw.out).mono ?_
        rintro e wr4 ⟨SA, sn, sd, rfl, sp, sx⟩
        replace HX := Lib.hid (HX.out.trans sx)
        replace HIN := Lib.hid (HIN.out.ext sx)
        replace HLw := Lib.hid (HLw.out.ext sx)
        replace HBw := Lib.hid (HBw.out.ext sx)
        replace FP := Lib.hid (FP.out.ext sx)
        replace GP := Lib.hid (GP.out.ext sx)
        replace MP := Lib.hid (MP.out.ext sx)
        replace MI := Lib.hid (MI.out.ext sx)
        replace NP := Lib.hid (NP.out.ext sx)
        replace NI := Lib.hid (NI.out.ext sx)
        replace BP := Lib.hid (BP.out.ext sx)
        replace CP := Lib.hid (CP.out.ext sx)
        replace RP := Lib.hid (RP.out.ext sx)
        have SP := Lib.hid sp
        clear sp sx
        have hs1 := samePlaces_any wr4 _ _ _ _ _ _ _ _ FP.out GP.out
        rw [decide_eq_true rfl] at hs1
        go_wp2_with (fail)
        with_reducible refine (hs1).mono ?_
        rintro e ws1 ⟨rfl, xd⟩
        replace HX := Lib.hid (HX.out.trans xd.ext)
        replace HIN := Lib.hid (HIN.out.ext xd.ext)
        replace HLw := Lib.hid (HLw.out.ext xd.ext)
        replace HBw := Lib.hid (HBw.out.ext xd.ext)
        replace FP := Lib.hid (FP.out.ext xd.ext)
        replace GP := Lib.hid (GP.out.ext xd.ext)
        replace MP := Lib.hid (MP.out.ext xd.ext)
        replace MI := Lib.hid (MI.out.ext xd.ext)
        replace NP := Lib.hid (NP.out.ext xd.ext)
        replace NI := Lib.hid (NI.out.ext xd.ext)
        replace BP := Lib.hid (BP.out.ext xd.ext)
        replace CP := Lib.hid (CP.out.ext xd.ext)
        replace RP := Lib.hid (RP.out.ext xd.ext)
        replace SP := Lib.hid (SP.out.ext xd.ext)
        clear xd hs1
        have hs2 := samePlaces_any ws1 _ _ _ _ _ _ _ _ MP.out NP.out
        rw [decide_eq_true rfl] at hs2
        go_wp2_with (fail)
        with_reducible refine (hs2).mono ?_
        rintro e ws2 ⟨rfl, xd⟩
        replace HX := Lib.hid (HX.out.trans xd.ext)
        replace HIN := Lib.hid (HIN.out.ext xd.ext)
        replace HLw := Lib.hid (HLw.out.ext xd.ext)
        replace HBw := Lib.hid (HBw.out.ext xd.ext)
        replace FP := Lib.hid (FP.out.ext xd.ext)
        replace GP := Lib.hid (GP.out.ext xd.ext)
        replace MP := Lib.hid (MP.out.ext xd.ext)
        replace MI := Lib.hid (MI.out.ext xd.ext)
        replace NP := Lib.hid (NP.out.ext xd.ext)
        replace NI := Lib.hid (NI.out.ext xd.ext)
        replace BP := Lib.hid (BP.out.ext xd.ext)
        replace CP := Lib.hid (CP.out.ext xd.ext)
        replace RP := Lib.hid (RP.out.ext xd.ext)
        replace SP := Lib.hid (SP.out.ext xd.ext)
        clear xd hs2
        have hs3 := sameInts_any ws2 _ _ _ _ _ _ _ _ MI.out NI.out
        rw [decide_eq_true rfl] at hs3
        go_wp2_with (fail)
        with_reducible refine (hs3).mono ?_
        rintro e ws3 ⟨rfl, xd⟩
        replace HX := Lib.hid (HX.out.trans xd.ext)
        replace HIN := Lib.hid (HIN.out.ext xd.ext)
        replace HLw := Lib.hid (HLw.out.ext xd.ext)
        replace HBw := Lib.hid (HBw.out.ext xd.ext)
        replace FP := Lib.hid (FP.out.ext xd.ext)
        replace GP := Lib.hid (GP.out.ext xd.ext)
        replace MP := Lib.hid (MP.out.ext xd.ext)
        replace MI := Lib.hid (MI.out.ext xd.ext)
        replace NP := Lib.hid (NP.out.ext xd.ext)
        replace NI := Lib.hid (NI.out.ext xd.ext)
        replace BP := Lib.hid (BP.out.ext xd.ext)
        replace CP := Lib.hid (CP.out.ext xd.ext)
        replace RP := Lib.hid (RP.out.ext xd.ext)
        replace SP := Lib.hid (SP.out.ext xd.ext)
        clear xd hs3
        have hs4 := sameBytesB ws3 _ _ _ _ _ _ _ _ BP.out CP.out
        rw [beq_self_eq_true] at hs4
        go_wp2_with (fail)
        with_reducible refine hs4.mono ?_
        rintro e ws4 ⟨rfl, rfl⟩
        clear hs4
        have hs5 := samePlaces_any ws3 _ _ _ _ _ _ _ _ RP.out SP.out
        rw [decide_eq_true rfl] at hs5
        go_wp2_with (fail)
        with_reducible refine (hs5).mono ?_
        rintro e ws5 ⟨rfl, xd⟩
        replace HX := Lib.hid (HX.out.trans xd.ext)
        replace HIN := Lib.hid (HIN.out.ext xd.ext)
        replace HLw := Lib.hid (HLw.out.ext xd.ext)
        replace HBw := Lib.hid (HBw.out.ext xd.ext)
        replace FP := Lib.hid (FP.out.ext xd.ext)
        replace GP := Lib.hid (GP.out.ext xd.ext)
        replace MP := Lib.hid (MP.out.ext xd.ext)
        replace MI := Lib.hid (MI.out.ext xd.ext)
        replace NP := Lib.hid (NP.out.ext xd.ext)
        replace NI := Lib.hid (NI.out.ext xd.ext)
        replace BP := Lib.hid (BP.out.ext xd.ext)
        replace CP := Lib.hid (CP.out.ext xd.ext)
        replace RP := Lib.hid (RP.out.ext xd.ext)
        replace SP := Lib.hid (SP.out.ext xd.ext)
        clear xd hs5
        have hs6 := samePlaces_any ws5 _ _ _ _ _ _ _ _ HIN.out HLw.out
        rw [decide_eq_true rfl] at hs6
        go_wp2_with (fail)
        with_reducible refine (hs6).mono ?_
        rintro e ws6 ⟨rfl, xd⟩
        replace HX := Lib.hid (HX.out.trans xd.ext)
        replace HIN := Lib.hid (HIN.out.ext xd.ext)
        replace HLw := Lib.hid (HLw.out.ext xd.ext)
        replace HBw := Lib.hid (HBw.out.ext xd.ext)
        replace FP := Lib.hid (FP.out.ext xd.ext)
        replace GP := Lib.hid (GP.out.ext xd.ext)
        replace MP := Lib.hid (MP.out.ext xd.ext)
        replace MI := Lib.hid (MI.out.ext xd.ext)
        replace NP := Lib.hid (NP.out.ext xd.ext)
        replace NI := Lib.hid (NI.out.ext xd.ext)
        replace BP := Lib.hid (BP.out.ext xd.ext)
        replace CP := Lib.hid (CP.out.ext xd.ext)
        replace RP := Lib.hid (RP.out.ext xd.ext)
        replace SP := Lib.hid (SP.out.ext xd.ext)
        clear xd hs6
        clear q1 q2 q3 q4 FP GP MP NP MI NI BP CP RP SP HIN HRM HR2
        go_wp2_with (fail)
        with_reducible refine (ofG ws6 _ _ _ l HLw.out fr hfr hn20 H30.out).mono ?_
        rintro e wt ⟨OA, on_, od, op, ok, rfl, oi, ox, oe1, oe2⟩
        replace HX := Lib.hid (HX.out.trans ox)
        replace HLw := Lib.hid (HLw.out.ext ox)
        have OI := Lib.hid oi
        have OE := Lib.hid (And.intro oe1 oe2)
        clear oi ox oe1 oe2
        obtain ⟨pe, pn⟩ := op
        go_wp2_with (fail)
        obtain ⟨p1, hp1⟩ : ∃ p1, wt.heap.size = p1 := ⟨_, rfl⟩
        have b1 := heap_alloc_new wt (.cells #[.int .i64 pe, .slice OA on_ od] 33)
        have xb := Ext.alloc wt (.cells #[.int .i64 pe, .slice OA on_ od] 33)
        rw [hp1] at b1
        try rw [hp1]
        generalize wt.alloc (.cells #[.int .i64 pe, .slice OA on_ od] 33) = wu at *
        replace HX := Lib.hid (HX.out.trans xb)
        replace HLw := Lib.hid (HLw.out.ext xb)
        replace OI := Lib.hid (OI.out.ext xb)
        have B1 := Lib.hid b1
        clear b1 xb hp1
        with_reducible refine (rOfG wu _ _ _ l HLw.out fr hfr hn20).mono ?_
        rintro e wv ⟨QA, qn, qd, qp, qok, rfl, qi, qx, qe1, qe2⟩
        obtain ⟨qpe, qpn⟩ := qp
        have ee1 := qe1.trans OE.out.1.symm
        have ee2 := qe2.trans OE.out.2.symm
        clear OE qe1 qe2
        injection ee1 with ee3 ee4
        subst ee3 ee4 ee2
        have QI := Lib.hid qi
        replace HX := Lib.hid (HX.out.trans qx)
        replace HLw := Lib.hid (HLw.out.ext qx)
        replace OI := Lib.hid (OI.out.ext qx)
        replace B1 := Lib.hid ((qx.block p1 (Array.getElem?_eq_some_iff.1 B1.out).1).trans B1.out)
        clear qi qx
        go_wp2_with (fail)
        obtain ⟨p2, hp2⟩ : ∃ p2, wv.heap.size = p2 := ⟨_, rfl⟩
        have b2 := heap_alloc_new wv (.cells #[.int .i64 qpe, .slice QA qn qd] 33)
        have xb := Ext.alloc wv (.cells #[.int .i64 qpe, .slice QA qn qd] 33)
        rw [hp2] at b2
        try rw [hp2]
        generalize wv.alloc (.cells #[.int .i64 qpe, .slice QA qn qd] 33) = wx at *
        replace HX := Lib.hid (HX.out.trans xb)
        replace OI := Lib.hid (OI.out.ext xb)
        replace QI := Lib.hid (QI.out.ext xb)
        replace B1 := Lib.hid ((xb.block p1 (Array.getElem?_eq_some_iff.1 B1.out).1).trans B1.out)
        have B2 := Lib.hid b2
        clear b2 xb hp2 HLw
        go_loopw [35] (fun s35 wr => ∃ t : Nat, t ≤ k ∧ s35 = .int .i64 (t : Int) ∧ RowKit.Hid (Ext wx wr)) (fun s35 _ => k - (intOf s35).toNat)
        case atStart => exact ⟨0, Nat.zero_le _, rfl, Lib.hid (Ext.refl wx)⟩
        case round =>
          obtain ⟨t, ht, rfl, HXX⟩ := hrel
          have HX9 := Lib.hid (HX.out.trans HXX.out)
          obtain ⟨wq, hwq⟩ : ∃ wq, wq = wr := ⟨_, rfl⟩
          subst hwq
          by_cases hlt2 : t < k
          · have t2 : (t : Int) < k := by omega
            obtain ⟨b0, off, A1, m1, c1, rfl, q1, q2, hi⟩ := HL.out.rd t hlt2
            have Q1 := Lib.hid q1
            have Q2 := Lib.hid q2
            have HI := Lib.hid hi
            clear q1 q2 hi
            go_wp2_with (fail)
            have hS0 : (fun W : World => Hid (Ext w W)) wq.drew := Lib.hid (HX9.out.thenDrew)
            refine wp_region_T (S := (fun W : World => Hid (Ext w W))) 25 rfl rfl ?_
            refine takeC [13,12,5,3,2] (i := 0) (v := ?_) rfl (by kernel_rfl) (by kernel_rfl) (by kernel_rfl) (by kernel_rfl) (by decide) (fun _ _ _ h => h) (by kernel_rfl) (Or.inl ⟨by kernel_rfl, ?_⟩) (by assumption) ?_
            rotate_left
            · (intro W9 hSw; go_simp; (try with_reducible rfl))
            try simp only [Act.put, List.setIfInBounds_toArray, List.set_cons_zero, List.set_cons_succ]
            refine takeC [13,12,5,3,2] (i := 1) (v := ?_) rfl (by kernel_rfl) (by kernel_rfl) (by kernel_rfl) (by kernel_rfl) (by decide) (fun _ _ _ h => h) (by kernel_rfl) (Or.inl ⟨by kernel_rfl, ?_⟩) (by assumption) ?_
            rotate_left
            · (intro W9 hSw; go_simp; (try with_reducible rfl))
            try simp only [Act.put, List.setIfInBounds_toArray, List.set_cons_zero, List.set_cons_succ]
            refine takeC [13,12,5,3] (i := 2) (v := ?_) rfl (by kernel_rfl) (by kernel_rfl) (by kernel_rfl) (by kernel_rfl) (by decide) (fun _ _ _ h => h) (by kernel_rfl) (Or.inl ⟨by kernel_rfl, ?_⟩) (by assumption) ?_
            rotate_left
            · (intro W9 hSw; go_simp; (try with_reducible rfl))
            try simp only [Act.put, List.setIfInBounds_toArray, List.set_cons_zero, List.set_cons_succ]
            refine takeC [13,12,5] (i := 3) (v := ?_) rfl (by kernel_rfl) (by kernel_rfl) (by kernel_rfl) (by kernel_rfl) (by decide) (fun _ _ _ h => h) (by kernel_rfl) (Or.inl ⟨by kernel_rfl, ?_⟩) (by assumption) ?_
            rotate_left
            · (intro W9 hSw; (have k0 := hSw.out.cell Q1.out; have k1 := hSw.out.cell Q2.out; clear hSw; skip); go_simp; (try with_reducible rfl))
            try simp only [Act.put, List.setIfInBounds_toArray, List.set_cons_zero, List.set_cons_succ]
            refine takeC [13,12,5] (i := 4) (v := ?_) rfl (by kernel_rfl) (by kernel_rfl) (by kernel_rfl) (by kernel_rfl) (by decide) (fun _ _ _ h => h) (by kernel_rfl) (Or.inl ⟨by kernel_rfl, ?_⟩) (by assumption) ?_
            rotate_left
            · (intro W9 hSw; go_simp; (try with_reducible rfl))
            try simp only [Act.put, List.setIfInBounds_toArray, List.set_cons_zero, List.set_cons_succ]
            refine takeC [13,11,9,8] (i := 6) (v := ?_) rfl (by kernel_rfl) (by kernel_rfl) (by kernel_rfl) (by kernel_rfl) (by decide) (fun _ _ _ h => h) (by kernel_rfl) (Or.inl ⟨by kernel_rfl, ?_⟩) (by assumption) ?_
            rotate_left
            · (intro W9 hSw; go_simp; (try with_reducible rfl))
            try simp only [Act.put, List.setIfInBounds_toArray, List.set_cons_zero, List.set_cons_succ]
            refine takeC [13,11,9,8] (i := 7) (v := ?_) rfl (by kernel_rfl) (by kernel_rfl) (by kernel_rfl) (by kernel_rfl) (by decide) (fun _ _ _ h => h) (by kernel_rfl) (Or.inl ⟨by kernel_rfl, ?_⟩) (by assumption) ?_
            rotate_left
            · (intro W9 hSw; go_simp; (try with_reducible rfl))
            try simp only [Act.put, List.setIfInBounds_toArray, List.set_cons_zero, List.set_cons_succ]
            refine takeC [13,11,9] (i := 8) (v := ?_) rfl (by kernel_rfl) (by kernel_rfl) (by kernel_rfl) (by kernel_rfl) (by decide) (fun _ _ _ h => h) (by kernel_rfl) (Or.inl ⟨by kernel_rfl, ?_⟩) (by assumption) ?_
            rotate_left
            · (intro W9 hSw; go_simp; (try with_reducible rfl))
            try simp only [Act.put, List.setIfInBounds_toArray, List.set_cons_zero, List.set_cons_succ]
            refine takeC [13,11] (i := 9) (v := ?_) rfl (by kernel_rfl) (by kernel_rfl) (by kernel_rfl) (by kernel_rfl) (by decide) (fun _ _ _ h => h) (by kernel_rfl) (Or.inl ⟨by kernel_rfl, ?_⟩) (by assumption) ?_
            rotate_left
            · (intro W9 hSw; (have k0 := hSw.out.cell Q1.out; have k1 := hSw.out.cell Q2.out; clear hSw; skip); go_simp; (try with_reducible rfl))
            try simp only [Act.put, List.setIfInBounds_toArray, List.set_cons_zero, List.set_cons_succ]
            refine takeC [13,11] (i := 10) (v := ?_) rfl (by kernel_rfl) (by kernel_rfl) (by kernel_rfl) (by kernel_rfl) (by decide) (fun _ _ _ h => h) (by kernel_rfl) (Or.inl ⟨by kernel_rfl, ?_⟩) (by assumption) ?_
            rotate_left
            · (intro W9 hSw; go_simp; (try with_reducible rfl))
            try simp only [Act.put, List.setIfInBounds_toArray, List.set_cons_zero, List.set_cons_succ]
            refine oneT (i := 5) rfl (by kernel_rfl) (fun K hK => ?_)
            rw [if_pos (by kernel_rfl)]
            go_wp2_with (fail)
            with_reducible refine (right_any wq.drew (Pl.pget l t).1 A1 m1 c1 (Pl.pget l t).2 to_ (HI.out.ext hS0.out)).mono ?_
            rintro e w1 ⟨rfl, x1⟩
            have XX1 := Lib.hid ((Ext.drew wq).trans x1)
            have hS1 : (fun W : World => Hid (Ext w W)) w1 := Lib.hid (hS0.out.trans x1)
            clear x1
            go_wp2_with (fail)
            refine hK.out _ _ (fun _ => hS1) ?_
            clear hK K
            try simp only [Act.put, List.setIfInBounds_toArray, List.set_cons_zero, List.set_cons_succ]
            refine oneT (i := 11) rfl (by kernel_rfl) (fun K hK => ?_)
            rw [if_pos (by kernel_rfl)]
            go_wp2_with (fail)
            with_reducible refine (rRight_any w1 (Pl.pget l t).1 A1 m1 c1 (Pl.pget l t).2 to_ (HI.out.ext hS1.out)).mono ?_
            rintro e w2 ⟨rfl, x2⟩
            have XX2 := Lib.hid (XX1.out.trans x2)
            have hS2 : (fun W : World => Hid (Ext w W)) w2 := Lib.hid (hS1.out.trans x2)
            clear x2
            go_wp2_with (fail)
            refine hK.out _ _ (fun _ => hS2) ?_
            clear hK K
            try simp only [Act.put, List.setIfInBounds_toArray, List.set_cons_zero, List.set_cons_succ]
            refine takeC [13] (i := 12) (v := ?_) rfl (by kernel_rfl) (by kernel_rfl) (by kernel_rfl) (by kernel_rfl) (by decide) (fun _ _ _ h => h) (by kernel_rfl) (Or.inl ⟨by kernel_rfl, ?_⟩) (by assumption) ?_
            rotate_left
            · (intro W9 hSw; go_simp; (try with_reducible rfl))
            try simp only [Act.put, List.setIfInBounds_toArray, List.set_cons_zero, List.set_cons_succ]
            refine takeC [] (i := 13) (v := ?_) rfl (by kernel_rfl) (by kernel_rfl) (by kernel_rfl) (by kernel_rfl) (by decide) (fun _ _ _ h => h) (by kernel_rfl) (Or.inl ⟨by kernel_rfl, ?_⟩) (by assumption) ?_
            rotate_left
            · (intro W9 hSw; go_simp; (try with_reducible rfl))
            try simp only [Act.put, List.setIfInBounds_toArray, List.set_cons_zero, List.set_cons_succ]
            refine takeC [19,17,16] (i := 14) (v := ?_) rfl (by kernel_rfl) (by kernel_rfl) (by kernel_rfl) (by kernel_rfl) (by decide) (fun _ _ _ h => h) (by kernel_rfl) (Or.inl ⟨by kernel_rfl, ?_⟩) (by assumption) ?_
            rotate_left
            · (intro W9 hSw; go_simp; (try with_reducible rfl))
            try simp only [Act.put, List.setIfInBounds_toArray, List.set_cons_zero, List.set_cons_succ]
            refine takeC [19,17,16] (i := 15) (v := ?_) rfl (by kernel_rfl) (by kernel_rfl) (by kernel_rfl) (by kernel_rfl) (by decide) (fun _ _ _ h => h) (by kernel_rfl) (Or.inl ⟨by kernel_rfl, ?_⟩) (by assumption) ?_
            rotate_left
            · (intro W9 hSw; go_simp; (try with_reducible rfl))
            try simp only [Act.put, List.setIfInBounds_toArray, List.set_cons_zero, List.set_cons_succ]
            refine takeC [19,17] (i := 16) (v := ?_) rfl (by kernel_rfl) (by kernel_rfl) (by kernel_rfl) (by kernel_rfl) (by decide) (fun _ _ _ h => h) (by kernel_rfl) (Or.inl ⟨by kernel_rfl, ?_⟩) (by assumption) ?_
            rotate_left
            · (intro W9 hSw; go_simp; (try with_reducible rfl))
            try simp only [Act.put, List.setIfInBounds_toArray, List.set_cons_zero, List.set_cons_succ]
            refine takeC [19] (i := 17) (v := ?_) rfl (by kernel_rfl) (by kernel_rfl) (by kernel_rfl) (by kernel_rfl) (by decide) (fun _ _ _ h => h) (by kernel_rfl) (Or.inl ⟨by kernel_rfl, ?_⟩) (by assumption) ?_
            rotate_left
            · (intro W9 hSw; (have k0 := hSw.out.cell Q1.out; have k1 := hSw.out.cell Q2.out; clear hSw; skip); go_simp; (try with_reducible rfl))
            try simp only [Act.put, List.setIfInBounds_toArray, List.set_cons_zero, List.set_cons_succ]
            refine takeC [19] (i := 18) (v := ?_) rfl (by kernel_rfl) (by kernel_rfl) (by kernel_rfl) (by kernel_rfl) (by decide) (fun _ _ _ h => h) (by kernel_rfl) (Or.inl ⟨by kernel_rfl, ?_⟩) (by assumption) ?_
            rotate_left
            · (intro W9 hSw; go_simp; (try with_reducible rfl))
            try simp only [Act.put, List.setIfInBounds_toArray, List.set_cons_zero, List.set_cons_succ]
            refine takeC [23,22] (i := 20) (v := ?_) rfl (by kernel_rfl) (by kernel_rfl) (by kernel_rfl) (by kernel_rfl) (by decide) (fun _ _ _ h => h) (by kernel_rfl) (Or.inl ⟨by kernel_rfl, ?_⟩) (by assumption) ?_
            rotate_left
            · (intro W9 hSw; go_simp; (try with_reducible rfl))
            try simp only [Act.put, List.setIfInBounds_toArray, List.set_cons_zero, List.set_cons_succ]
            refine takeC [23,22] (i := 21) (v := ?_) rfl (by kernel_rfl) (by kernel_rfl) (by kernel_rfl) (by kernel_rfl) (by decide) (fun _ _ _ h => h) (by kernel_rfl) (Or.inl ⟨by kernel_rfl, ?_⟩) (by assumption) ?_
            rotate_left
            · (intro W9 hSw; go_simp; (try with_reducible rfl))
            try simp only [Act.put, List.setIfInBounds_toArray, List.set_cons_zero, List.set_cons_succ]
            refine takeC [23] (i := 22) (v := ?_) rfl (by kernel_rfl) (by kernel_rfl) (by kernel_rfl) (by kernel_rfl) (by decide) (fun _ _ _ h => h) (by kernel_rfl) (Or.inl ⟨by kernel_rfl, ?_⟩) (by assumption) ?_
            rotate_left
            · (intro W9 hSw; go_simp; (try with_reducible rfl))
            try simp only [Act.put, List.setIfInBounds_toArray, List.set_cons_zero, List.set_cons_succ]
            refine takeC [] (i := 23) (v := ?_) rfl (by kernel_rfl) (by kernel_rfl) (by kernel_rfl) (by kernel_rfl) (by decide) (fun _ _ _ h => h) (by kernel_rfl) (Or.inl ⟨by kernel_rfl, ?_⟩) (by assumption) ?_
            rotate_left
            · (intro W9 hSw; (have k0 := hSw.out.cell Q1.out; have k1 := hSw.out.cell Q2.out; clear hSw; skip); go_simp; (try with_reducible rfl))
            try simp only [Act.put, List.setIfInBounds_toArray, List.set_cons_zero, List.set_cons_succ]
            refine takeC [] (i := 24) (v := ?_) rfl (by kernel_rfl) (by kernel_rfl) (by kernel_rfl) (by kernel_rfl) (by decide) (fun _ _ _ h => h) (by kernel_rfl) (Or.inl ⟨by kernel_rfl, ?_⟩) (by assumption) ?_
            rotate_left
            · (intro W9 hSw; go_simp; (try with_reducible rfl))
            try simp only [Act.put, List.setIfInBounds_toArray, List.set_cons_zero, List.set_cons_succ]
            refine oneT (i := 19) rfl (by kernel_rfl) (fun K hK => ?_)
            rw [if_pos (by kernel_rfl)]
            go_wp2_with (fail)
            with_reducible refine (pIndex_any w2 (Pl.pget l t).1 A1 m1 c1 (Pl.pget l t).2 fr (HI.out.ext hS2.out)).mono ?_
            rintro e w3 ⟨rfl, x3⟩
            have XX3 := Lib.hid (XX2.out.trans x3)
            have hS3 : (fun W : World => Hid (Ext w W)) w3 := Lib.hid (hS2.out.trans x3)
            clear x3
            go_wp2_with (fail)
            refine hK.out _ _ (fun _ => hS3) ?_
            clear hK K
            try simp only [Act.put, List.setIfInBounds_toArray, List.set_cons_zero, List.set_cons_succ]
            refine oneT (i := 25) rfl (by kernel_rfl) (fun K hK => ?_)
            rw [if_pos (by kernel_rfl)]
            go_wp2_with (fail)
            with_reducible refine (rIndex_any w3 (Pl.pget l t).1 A1 m1 c1 (Pl.pget l t).2 fr (HI.out.ext hS3.out)).mono ?_
            rintro e w4 ⟨rfl, x4⟩
            have XX4 := Lib.hid (XX3.out.trans x4)
            have hS4 : (fun W : World => Hid (Ext w W)) w4 := Lib.hid (hS3.out.trans x4)
            clear x4
            go_wp2_with (fail)
            refine hK.out _ _ (fun h => absurd (show true = false from h) (by decide)) ?_
            clear hK K
            try simp only [Act.put, List.setIfInBounds_toArray, List.set_cons_zero, List.set_cons_succ]
            refine oneT (i := 26) rfl (by kernel_rfl) (fun K hK => ?_)
            rw [if_pos (by kernel_rfl)]
            go_wp2_with (fail)
            refine hK.out _ _ (fun h => absurd (show true = false from h) (by decide)) ?_
            clear hK K
            try simp only [Act.put, List.setIfInBounds_toArray, List.set_cons_zero, List.set_cons_succ]
            refine oneT (i := 27) rfl (by kernel_rfl) (fun K hK => ?_)
            rw [if_pos (by kernel_rfl)]
            go_wp2_with (fail)
            refine hK.out _ _ (fun h => absurd (show true = false from h) (by decide)) ?_
            clear hK K
            try simp only [Act.put, List.setIfInBounds_toArray, List.set_cons_zero, List.set_cons_succ]
            refine doneT (by kernel_rfl) ?_ _
            have HXN := Lib.hid (show Ext wx w4 from HXX.out.trans XX4.out)
            clear hS0 hS1 hS2 hS3 hS4
            go_wp2_with (fail)
            exact ⟨⟨t + 1, by omega, by go_num, HXN⟩, by simp [intOf]; omega⟩
          · have t2 : ¬ (t : Int) < k := by omega
            obtain rfl : t = k := by omega
            have c10 : wq.cell? ⟨p1, 0, none⟩ = some (.int .i64 qpe) := HXX.out.cell (by rw [cell_of_row _ _ _ _ _ _ B1.out]; rfl)
            have c11 : wq.cell? ⟨p1, 1, none⟩ = some (.slice OA on_ od) := HXX.out.cell (by rw [cell_of_row _ _ _ _ _ _ B1.out]; rfl)
            have c20 : wq.cell? ⟨p2, 0, none⟩ = some (.int .i64 qpe) := HXX.out.cell (by rw [cell_of_row _ _ _ _ _ _ B2.out]; rfl)
            have c21 : wq.cell? ⟨p2, 1, none⟩ = some (.slice QA qn qd) := HXX.out.cell (by rw [cell_of_row _ _ _ _ _ _ B2.out]; rfl)
            have d20 := (Ext.alloc wq (.cells #[.int .i64 qpe, .slice OA on_ od] 33)).cell c20
            have d21 := (Ext.alloc wq (.cells #[.int .i64 qpe, .slice OA on_ od] 33)).cell c21
            have hpa := (ps_one wq qpe OA on_ od qpn (OI.out.ext HXX.out)).ext (Ext.alloc _ (.cells #[.int .i64 qpe, .slice QA qn qd] 33))
            have hpb := ps_one (wq.alloc (.cells #[.int .i64 qpe, .slice OA on_ od] 33)) qpe QA qn qd qpn ((QI.out.ext HXX.out).ext (Ext.alloc _ _))
            have hsp := samePlaces_any _ _ _ _ _ _ _ _ _ hpa hpb
            rw [decide_eq_true rfl] at hsp
            simp only [World.size_alloc] at hsp
            have HSP := Lib.hid hsp
            have XF := Lib.hid ((HX9.out.thenAlloc (.cells #[.int .i64 qpe, .slice OA on_ od] 33)).thenAlloc (.cells #[.int .i64 qpe, .slice QA qn qd] 33))
            clear hpa hpb hsp
            go_wp2_with (fail)
            with_reducible refine HSP.out.mono ?_
            rintro e wy ⟨rfl, xd⟩
            have XG := Lib.hid (XF.out.trans xd.ext)
            clear xd
            go_wp2_with (fail)
            with_reducible refine (EARLY.out wy XG.out).mono ?_
            rintro e wz ⟨rfl, hz⟩
            go_wp2_with (fail)
            go_ret
            exact ⟨rfl, hz⟩
  · have hgo' : y = false ∨ (y = true ∧ (1000 : Int) < (nb : Int)) ∨ (y = true ∧ ¬ (1000 : Int) < (nb : Int) ∧ (30 : Int) < x1) ∨ (y = true ∧ ¬ (1000 : Int) < (nb : Int) ∧ ¬ (30 : Int) < x1 ∧ (60 : Int) < x2) := by
      cases y with
      | false => exact .inl rfl
      | true =>
        refine .inr ?_
        by_cases a1 : (1000 : Int) < (nb : Int)
        · exact .inl ⟨rfl, a1⟩
        · by_cases a2 : (30 : Int) < x1
          · exact .inr (.inl ⟨rfl, a1, a2⟩)
          · by_cases a3 : (60 : Int) < x2
            · exact .inr (.inr ⟨rfl, a1, a2, a3⟩)
            · exact absurd ⟨rfl, a1, a2, a3⟩ hgo
    clear hgo hy
    rcases hgo' with rfl | ⟨rfl, h1⟩ | ⟨rfl, h1, h2⟩ | ⟨rfl, h1, h2, h3⟩
    all_goals
      go_wp2_with (fail)
      with_reducible refine (EARLY.out _ (Ext.refl _)).mono ?_
      rintro e wz ⟨rfl, hz⟩
      go_wp2_with (fail)
      go_ret
      exact ⟨rfl, hz⟩
theorem walk {H : Type} {enc : TypeId × Value → H} {base : Nat} (w : World) (v0 : Value) (d0 : DataW H) (p0 : List MemPlace) (a1 : Option Addr) (len1 cap1 : Nat) (z1 : List Int) (v2 : Value) (d2 : DataW H) (p2 : List MemPlace) (a3 a4 : Int)
    (o0 : Value.okWide Try.prog w .any base 24 v0) (h0 : DataW.Trod enc Try.prog w 0 (fun _ => true) true 24 v0 d0 p0) (w1 : IsRow .u8 w a1 len1 cap1 z1)
    (o2 : Value.okWide Try.prog w .any base 48 v2) (h2 : DataW.Trod enc Try.prog w 0 (fun _ => true) true 48 v2 d2 p2) (w3 : (Lit.int .i64 a3).wf = true) (_w4 : (Lit.int .i64 a4).wf = true) :
    Calls Try.prog 8 #[v0, .slice a1 len1 cap1, v2, .int .i64 a3, .int .i64 a4] w fun e w' => e = .returned (.bool true) ∧ Ext w w' := by
  obtain ⟨A, n, c, l, rfl, hl⟩ := places_open o0 h0
  obtain ⟨lb, hb⟩ := w1.bytes
  obtain ⟨x, y, z, rfl⟩ := open_i64x3 Try.underlying48 Try.underlying3 (by kernel_rfl) (by kernel_rfl) o2 h2
  have := bounds_i64 w3
  exact tells_any w A n c l hl a1 len1 cap1 lb hb x y z a3 a4 (by omega)
end placeTells
end Go.Proofs.Ytkanlbkfbkkknaa
