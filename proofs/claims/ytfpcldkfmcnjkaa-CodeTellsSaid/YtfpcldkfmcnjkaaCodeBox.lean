/- A code that New made, as it lies in memory; the contracts of made, Need, All, New. -/
import Derived.Test.YtfpcldkfmcnjkaaCt1
import Derived.Test.YtfpcldkfmcnjkaaCt4
import Derived.Test.YtfpcldkfmcnjkaaMatCauchy
namespace Go.Proofs.Ytfpcldkfmcnjkaa
open Go.RowKit

theorem gives_mx {m : Gm.L} {er : Int} {w w' : World} {e : Ending} (h : GivesQE m er w e w') : ∃ A c, e = .returned (.tuple #[.slice A m.length c, .int .i64 er]) ∧ Mx w' A m.length c m ∧ Ext w w' := by
  obtain ⟨v, cs, rfl, hq, hx⟩ := h
  obtain ⟨A, c, rfl, hm⟩ := hq.mx
  exact ⟨A, c, rfl, hm, hx⟩
theorem Rows.append {w : World} {cs cs' : List Value} {m m' : Gm.L} (h : Rows w cs m) (h' : Rows w cs' m') : Rows w (cs ++ cs') (m ++ m') := by
  refine ⟨by rw [List.length_append, List.length_append, h.len, h'.len], fun i hi => ?_⟩
  rw [Gm.row_append]
  by_cases e : i < m.length
  · obtain ⟨A, n, c, e1, e2⟩ := h.at_ i e
    refine ⟨A, n, c, ?_, ?_⟩
    · rw [List.getElem?_append_left (by rw [h.len]; exact e)]; exact e1
    · rw [if_pos e]; exact e2
  · rw [List.length_append] at hi
    obtain ⟨A, n, c, e1, e2⟩ := h'.at_ (i - m.length) (by omega)
    refine ⟨A, n, c, ?_, ?_⟩
    · rw [List.getElem?_append_right (by rw [h.len]; omega), h.len]; exact e1
    · rw [if_neg e]; exact e2
theorem Mq.rows_grown {w w' : World} {base n : Nat} {P : Nat → Prop} {v : Value} {cs : List Value} {m : Gm.L} {row : Option Nat} (h : Mq w base P v n cs m) (hg : w.grownBy w' row) (hr : ∀ (i : Nat) (u : Value) (b : Nat), cs[i]? = some u → u.ownBlock = some b → row ≠ some b) : Rows w' cs m :=
  ⟨by rw [h.clen, h.len], fun i hi => by
    obtain ⟨A, c, e, ho⟩ := h.row i (by rw [← h.len]; exact hi)
    refine ⟨A, _, c, e, (Own.mk (base := base) (e := 5) (ownsRow_grown ho hg ?_)).bs⟩
    cases hq : (Value.slice A (Gm.row m i).length c).ownBlock with
    | none => exact .inl rfl
    | some b => exact .inr (fun e2 => hr i _ b e hq e2.symm)⟩
/-- The box of a code: its field, its need, its matrix. -/
structure Cd (w : World) (b fb k n : Nat) : Prop where
  f : FieldAt w fb
  c0 : w.cell? ⟨b, 0, none⟩ = some (.pointer (some ⟨fb, 0, none⟩))
  c1 : w.cell? ⟨b, 1, none⟩ = some (.int .i64 (k : Int))
  mx : ∃ A c, w.cell? ⟨b, 2, none⟩ = some (.slice A n c) ∧ Mx w A n c (Gm.gen k n)
  k1 : 1 ≤ k
  kn : k ≤ n
  n2 : n ≤ 255
theorem Cd.ext {w w' : World} {b fb k n : Nat} (h : Cd w b fb k n) (hx : Ext w w') : Cd w' b fb k n := by
  obtain ⟨A, c, h1, h2⟩ := h.mx
  exact ⟨h.f.ext hx, hx.cell h.c0, hx.cell h.c1, ⟨A, c, hx.cell h1, h2.ext hx⟩, h.k1, h.kn, h.n2⟩
abbrev cptr (b : Nat) : Value := .pointer (some ⟨b, 0, none⟩)
theorem made_any (w : World) (b fb k n : Nat) (h : Cd w b fb k n) : Calls Try.prog 43 #[cptr b] w fun e w' => e = .returned (.bool true) ∧ w = w' := by
  have c0 := h.c0
  clear h
  go_enter Try.func43, Try.ntmps43
  go_wp2
  go_ret
  exact ⟨rfl, rfl⟩
theorem need_any (w : World) (b fb k n : Nat) (h : Cd w b fb k n) : Calls Try.prog 20 #[cptr b] w fun e w' => e = .returned (.int .i64 (k : Int)) ∧ w = w' := by
  have c1 := h.c1
  have H := Lib.hid (made_any w b fb k n h)
  clear h
  go_enter Try.func20, Try.ntmps20
  go_wp2_with (fail)
  refine H.out.mono ?_
  rintro e w' ⟨rfl, rfl⟩
  go_wp2_with (fail)
  go_ret
  exact ⟨rfl, rfl⟩
theorem all_any (w : World) (b fb k n : Nat) (h : Cd w b fb k n) : Calls Try.prog 14 #[cptr b] w fun e w' => e = .returned (.int .i64 (n : Int)) ∧ w = w' := by
  obtain ⟨A, c, c2, hm⟩ := h.mx
  have hm1 := hm.max
  have hm2 := hm.le
  have H := Lib.hid (made_any w b fb k n h)
  clear h hm
  go_enter Try.func14, Try.ntmps14
  go_wp2_with (fail)
  refine H.out.mono ?_
  rintro e w' ⟨rfl, rfl⟩
  go_wp2_with (fail)
  go_ret
  exact ⟨rfl, rfl⟩
set_option maxRecDepth 100000 in
set_option maxHeartbeats 1000000 in
theorem codeNew_arg (fb : Nat) (w : World) (k n : Int) (hf : FieldAt w fb) (h : k < 1 ∨ n < k ∨ 255 < n) :
    Calls Try.prog 24 #[.pointer (some ⟨fb, 0, none⟩), .int .i64 k, .int .i64 n] w fun e w' => e = .returned (.tuple #[.pointer none, .int .i64 2]) ∧ w = w' := by
  have hA : Calls Try.prog 53 #[.pointer (some ⟨fb, 0, none⟩), .int .u8 0, .int .u8 1] w fun e w' => e = .returned (.int .u8 1) ∧ w = w' := add_any fb w 0 1 hf
  have HA := Lib.hid hA
  clear hA hf
  by_cases h1 : k < 1
  · go_enter Try.func24, Try.ntmps24
    go_wp2_with (fail)
    refine HA.out.mono ?_
    rintro e w' ⟨rfl, rfl⟩
    go_wp2_with (fail)
    go_ret2
    exact ⟨rfl, rfl⟩
  · by_cases h2 : n < k
    · go_enter Try.func24, Try.ntmps24
      go_wp2_with (fail)
      refine HA.out.mono ?_
      rintro e w' ⟨rfl, rfl⟩
      go_wp2_with (fail)
      go_ret2
      exact ⟨rfl, rfl⟩
    · have h3 : 255 < n := by omega
      clear h
      go_enter Try.func24, Try.ntmps24
      go_wp2_with (fail)
      refine HA.out.mono ?_
      rintro e w' ⟨rfl, rfl⟩
      go_wp2_with (fail)
      go_ret2
      exact ⟨rfl, rfl⟩
theorem gen_all (n : Nat) : Gm.gen n n = Gm.unit n := by
  unfold Gm.gen
  rw [Nat.sub_self]
  show Gm.unit n ++ [] = _
  rw [List.append_nil]
theorem Cd.new {W : World} {fb k n : Nat} {A : Option Addr} {c : Nat} (hf : FieldAt W fb) (hm : Mx W A n c (Gm.gen k n)) (h1 : 1 ≤ k) (h2 : k ≤ n) (h3 : n ≤ 255) (t : TypeId) :
    Cd (W.alloc (.cells #[.pointer (some ⟨fb, 0, none⟩), .int .i64 (k : Int), .slice A n c] t)) W.heap.size fb k n := by
  have hc := fun j => World.cell?_alloc_new W #[.pointer (some ⟨fb, 0, none⟩), .int .i64 (k : Int), .slice A n c] t j
  exact ⟨hf.ext (Ext.alloc _ _), (hc 0).trans rfl, (hc 1).trans rfl, ⟨A, c, (hc 2).trans rfl, hm.ext (Ext.alloc _ _)⟩, h1, h2, h3⟩
/-- A new code is handed back. -/
def GivesC (fb k n : Nat) (w : World) (e : Ending) (w' : World) : Prop := ∃ b, e = .returned (.tuple #[cptr b, .int .i64 0]) ∧ Cd w' b fb k n ∧ Ext w w'
set_option maxRecDepth 100000 in
set_option maxHeartbeats 2000000 in
theorem codeNew_ok (fb : Nat) (w : World) (k n : Nat) (hf : FieldAt w fb) (h1 : 1 ≤ k) (h2 : k ≤ n) (h3 : n ≤ 255) :
    Calls Try.prog 24 #[.pointer (some ⟨fb, 0, none⟩), .int .i64 (k : Int), .int .i64 (n : Int)] w (GivesC fb k n w) := by
  obtain ⟨i0, hi0, hz0, hz1, hz2⟩ := info_parts bytes_info
  have hA : Calls Try.prog 53 #[.pointer (some ⟨fb, 0, none⟩), .int .u8 0, .int .u8 1] w fun e w' => e = .returned (.int .u8 1) ∧ w = w' := add_any fb w 0 1 hf
  have HA := Lib.hid hA
  have HF := Lib.hid hf
  have HU := Lib.hid (unit_ok w k h1 (by omega))
  have g1 : ¬ (k : Int) < 1 := by omega
  have g2 : ¬ (n : Int) < k := by omega
  have g3 : ¬ (255 : Int) < n := by omega
  clear hA hf
  by_cases e : k < n
  · have g4 : (k : Int) < n := by omega
    have HC := Lib.hid (fun W (hW : FieldAt W fb) => cauchy_ok fb W (n - k) k hW (by omega) h1 (by omega))
    have e1 : ((n - k : Nat) : Int) = (n : Int) - k := by omega
    rw [e1] at HC
    clear e1
    go_enter Try.func24, Try.ntmps24
    go_wp2_with (fail)
    refine HA.out.mono ?_
    rintro e w' ⟨rfl, rfl⟩
    go_wp2_with (fail)
    refine HU.out.mono ?_
    rintro e w1 ⟨v1, cs1, rfl, m1, x1⟩
    rw [(Gm.unit_rect k).len] at m1
    go_wp2_with (fail)
    refine (HC.out w1 (HF.out.ext x1)).mono ?_
    rintro e w2 ⟨v2, cs2, rfl, m2, x2⟩
    rw [(Gm.cauchy_rect _ k).len] at m2
    obtain ⟨A2, c2, rfl, q1, q2⟩ := ownsRow_slice m2.own
    have HO := Lib.hid (ownsRow_ext m1.own x2)
    have HR2 := Lib.hid (Rd.of_own m2.own)
    have HB := Lib.hid (own_row m1.own)
    have H1 := Lib.hid m2.rows.one
    have M1 := Lib.hid m1
    have M2 := Lib.hid m2
    have x12 := x1.trans x2
    have hsz := x12.size
    clear m1 m2
    go_wp2_with (at_builtin; refine wpList_append_rd _ rfl (.tmp 45) (.tmp 46) 60 rfl w.heap.size 22 i0 _ 1 24 Try.underlying60 hi0 hz0 hz1 hz2 rfl (by omega) v1 k cs1 rfl HO.out A2 (n - k) c2 cs2 rfl HR2.out H1.out (by omega) (by unfold maxLen; omega) (by omega) ?_; intro v5 w5 hown hgr hat; rw [show k + (n - k) = n by omega] at hown; obtain ⟨A5, c5, rfl, q5, q6⟩ := ownsRow_slice hown)
    go_ret2
    have x5 : Ext w w5 := x12.ofGrown hgr HB.out
    have r1 : Rows w5 cs1 (Gm.unit k) := (M1.out.ext x2).rows_grown hgr (fun i u q hu hq e => (M1.out.cool i u q hu hq) (.inl e))
    have r2 : Rows w5 cs2 (Gm.cauchy (n - k) k) := M2.out.rows_grown hgr (fun i u q hu hq e => by
      have h1 := (M1.out.own.lt q e).2
      have h2 := (M2.out.block hu hq).1
      omega)
    have hmx : Mx w5 A5 n c5 (Gm.gen k n) := ⟨Gm.gen_length h2, q5, q6, cs1 ++ cs2, Rd.of_own hown, r1.append r2⟩
    exact ⟨_, rfl, Cd.new (HF.out.ext x5) hmx h1 h2 h3 _, x5.thenAlloc _⟩
  · obtain rfl : n = k := by omega
    go_enter Try.func24, Try.ntmps24
    go_wp2_with (fail)
    refine HA.out.mono ?_
    rintro e w' ⟨rfl, rfl⟩
    go_wp2_with (fail)
    refine HU.out.mono ?_
    intro e w1 hg
    obtain ⟨A1, c1, rfl, m1, x1⟩ := gives_mx hg
    clear hg
    rw [(Gm.unit_rect n).len] at m1
    rw [(Gm.unit_rect n).len]
    go_wp2_with (fail)
    go_ret2
    exact ⟨_, rfl, Cd.new (HF.out.ext x1) (by rw [gen_all]; exact m1) h1 h2 h3 _, x1.thenAlloc _⟩
end Go.Proofs.Ytfpcldkfmcnjkaa
