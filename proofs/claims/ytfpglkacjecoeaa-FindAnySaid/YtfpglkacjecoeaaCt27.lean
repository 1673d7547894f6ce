/- Several texts in one: The contract of what matrix.cleared does to a list of rows: a row is cleared by the leading one. What matrix.cleared does to both of its lists of rows. -/
import Derived.Test.YtfpglkacjecoeaaCt26
import Derived.Test.YtfpglkacjecoeaaCt23
import Derived.Deep.DrawnRows
import Derived.Shelf.Abstract
namespace Go.Proofs.Ytfpglkacjecoeaa
open Go.RowKit
attribute [local go_sem ↓] Go.wp_at_zero Go.wp_at_succ

set_option maxRecDepth 100000 in
set_option maxHeartbeats 4000000 in
theorem clear3_any (fb : Nat) (w : World) (base : Nat) (P : Nat → Prop) (g c0 n : Nat) (cs : List Value) (m : Gm.L) (bl bk bf bc l k : Nat) (x : UInt8)
    (hQ : Mq w base P (.slice (some ⟨g, 0, none⟩) n c0) n cs m) (hP : ∀ b, P b → b < w.heap.size) (hbs : base ≤ w.heap.size) (hl : l < n) (hk : k < n) (hlk : l ≠ k) (n1 : bf ≠ g) (n2 : bk ≠ g) (n3 : bc ≠ g) (n4 : bl ≠ g) (hw : (Gm.row m k).length ≤ 1000)
    (k1 : w.cell? ⟨bf, 0, none⟩ = some (.pointer (some ⟨fb, 0, none⟩))) (k2 : w.cell? ⟨bk, 0, none⟩ = some (.int .i64 (k : Int))) (k3 : w.cell? ⟨bc, 0, none⟩ = some (.int .u8 (x.toNat : Int))) (k4 : w.cell? ⟨bl, 0, none⟩ = some (.int .i64 (l : Int)))
    (hf : FieldAt w fb) :
    Calls Try.prog 90 #[.slice (some ⟨g, 0, none⟩) n c0, .pointer (some ⟨bf, 0, none⟩), .pointer (some ⟨bk, 0, none⟩), .pointer (some ⟨bc, 0, none⟩), .pointer (some ⟨bl, 0, none⟩)] w fun e w' =>
      e = .returned (.tuple #[]) ∧ (∃ cs', Mq w' base P (.slice (some ⟨g, 0, none⟩) n c0) n cs' (m.set k (Gf.lay (Gm.row m k) x (Gm.row m l)))) ∧ w.grownBy w' (some g) := by
  obtain ⟨Al, cl, hcl, hcellL, _, hol⟩ := hQ.cellAt hl
  obtain ⟨Ak, ck, hck, hcellK, hfz, hok⟩ := hQ.cellAt hk
  have hn0 : n ≤ c0 ∧ c0 ≤ 9223372036854775807 := by
    obtain ⟨_, _, e, h1, h2⟩ := ownsRow_slice hQ.own
    injection e with _ _ e3
    omega
  have q1 : (l : Int) < n := by omega
  have q2 : (k : Int) < n := by omega
  have q3 : (0 : Int) ≤ (l : Int) := by omega
  have q4 : (0 : Int) ≤ (k : Int) := by omega
  have hlc := lay_any fb w.drew Ak Al _ ck _ cl (Gm.row m k) (Gm.row m l) x (hf.ext (Ext.drew _)) ((Own.mk (base := base) (e := 5) hok).bs.ext (Ext.drew _)) ((Own.mk (base := base) (e := 5) hol).bs.ext (Ext.drew _)) (by omega)
  obtain ⟨rl, hrl⟩ : ∃ rl, (Gm.row m l).length = rl := ⟨_, rfl⟩
  obtain ⟨rk, hrk⟩ : ∃ rk, (Gm.row m k).length = rk := ⟨_, rfl⟩
  rw [hrl] at hlc hcellL
  rw [hrk] at hlc hcellK
  have hsl : (Gf.lay (Gm.row m k) x (Gm.row m l)).length = rk := by rw [Gf.lay_length, hrk]
  have HL := Lib.hid hlc
  have HSL := Lib.hid hsl
  have HQ := Lib.hid hQ
  have HF := Lib.hid hf
  clear hlc hsl hcl hck hol hok hrl hrk hQ hf
  have hS : ∀ W : World, Ext w W → (W.cell? ⟨bf, 0, none⟩ = some (.pointer (some ⟨fb, 0, none⟩)) ∧ W.cell? ⟨bk, 0, none⟩ = some (.int .i64 (k : Int)) ∧ W.cell? ⟨bc, 0, none⟩ = some (.int .u8 (x.toNat : Int)) ∧ W.cell? ⟨bl, 0, none⟩ = some (.int .i64 (l : Int)) ∧ W.cell? ⟨g, l, none⟩ = some (.slice Al rl cl) ∧ W.cell? ⟨g, k, none⟩ = some (.slice Ak rk ck)) := fun W hW => ⟨hW.cell k1, hW.cell k2, hW.cell k3, hW.cell k4, hW.cell hcellL, hW.cell hcellK⟩
  have HS := Lib.hid hS
  clear hS
  go_enter Try.func90, Try.ntmps90
  go_wp2_with (fail)
  refine wp_region_last (S := (fun W => W.cell? ⟨bf, 0, none⟩ = some (.pointer (some ⟨fb, 0, none⟩)) ∧ W.cell? ⟨bk, 0, none⟩ = some (.int .i64 (k : Int)) ∧ W.cell? ⟨bc, 0, none⟩ = some (.int .u8 (x.toNat : Int)) ∧ W.cell? ⟨bl, 0, none⟩ = some (.int .i64 (l : Int)) ∧ W.cell? ⟨g, l, none⟩ = some (.slice Al rl cl) ∧ W.cell? ⟨g, k, none⟩ = some (.slice Ak rk ck))) (n := 14) (m := 15) (by simp only [List.dropLast]; rfl) (by simp only [List.getLast?, List.getLast]; rfl) rfl rfl (by kernel_rfl) (by kernel_rfl) (HS.out _ (Ext.drew _)) (fun hHeld => ?_)
  refine takeL (i := 0) (v := ?_) rfl (by kernel_rfl) (by kernel_rfl) (by kernel_rfl) (fun _ _ _ h => h) (Or.inl ⟨by rfl, ?_⟩) (by assumption) ?_
  rotate_left
  · (intro W9 hSw; (try dsimp only at hSw); go_simp; (try with_reducible rfl))
  try simp only [Act.put, List.setIfInBounds_toArray, List.set_cons_zero, List.set_cons_succ]
  refine takeL (i := 1) (v := ?_) rfl (by kernel_rfl) (by kernel_rfl) (by kernel_rfl) (fun _ _ _ h => h) (Or.inl ⟨by rfl, ?_⟩) (by assumption) ?_
  rotate_left
  · (intro W9 hSw; (try dsimp only at hSw); go_simp; (try with_reducible rfl))
  try simp only [Act.put, List.setIfInBounds_toArray, List.set_cons_zero, List.set_cons_succ]
  refine takeL (i := 2) (v := ?_) rfl (by kernel_rfl) (by kernel_rfl) (by kernel_rfl) (fun _ _ _ h => h) (Or.inl ⟨by rfl, ?_⟩) (by assumption) ?_
  rotate_left
  · (intro W9 hSw; (try dsimp only at hSw); go_simp; (try with_reducible rfl))
  try simp only [Act.put, List.setIfInBounds_toArray, List.set_cons_zero, List.set_cons_succ]
  refine takeL (i := 3) (v := ?_) rfl (by kernel_rfl) (by kernel_rfl) (by kernel_rfl) (fun _ _ _ h => h) (Or.inl ⟨by rfl, ?_⟩) (by assumption) ?_
  rotate_left
  · (intro W9 hSw; (try dsimp only at hSw); go_simp; (try with_reducible rfl))
  try simp only [Act.put, List.setIfInBounds_toArray, List.set_cons_zero, List.set_cons_succ]
  refine takeL (i := 4) (v := ?_) rfl (by kernel_rfl) (by kernel_rfl) (by kernel_rfl) (fun _ _ _ h => h) (Or.inl ⟨by rfl, ?_⟩) (by assumption) ?_
  rotate_left
  · (intro W9 hSw; (try dsimp only at hSw); go_simp; (try with_reducible rfl))
  try simp only [Act.put, List.setIfInBounds_toArray, List.set_cons_zero, List.set_cons_succ]
  refine takeL (i := 5) (v := ?_) rfl (by kernel_rfl) (by kernel_rfl) (by kernel_rfl) (fun _ _ _ h => h) (Or.inl ⟨by rfl, ?_⟩) (by assumption) ?_
  rotate_left
  · (intro W9 hSw; (try dsimp only at hSw); go_simp; (try with_reducible rfl))
  try simp only [Act.put, List.setIfInBounds_toArray, List.set_cons_zero, List.set_cons_succ]
  refine takeL (i := 6) (v := ?_) rfl (by kernel_rfl) (by kernel_rfl) (by kernel_rfl) (fun _ _ _ h => h) (Or.inl ⟨by rfl, ?_⟩) (by assumption) ?_
  rotate_left
  · (intro W9 hSw; (try dsimp only at hSw); go_simp; (try with_reducible rfl))
  try simp only [Act.put, List.setIfInBounds_toArray, List.set_cons_zero, List.set_cons_succ]
  refine takeL (i := 7) (v := ?_) rfl (by kernel_rfl) (by kernel_rfl) (by kernel_rfl) (fun _ _ _ h => h) (Or.inl ⟨by rfl, ?_⟩) (by assumption) ?_
  rotate_left
  · (intro W9 hSw; (try dsimp only at hSw); go_simp; (try with_reducible rfl))
  try simp only [Act.put, List.setIfInBounds_toArray, List.set_cons_zero, List.set_cons_succ]
  refine takeL (i := 8) (v := ?_) rfl (by kernel_rfl) (by kernel_rfl) (by kernel_rfl) (fun _ _ _ h => h) (Or.inl ⟨by rfl, ?_⟩) (by assumption) ?_
  rotate_left
  · (intro W9 hSw; (try dsimp only at hSw); go_simp; (try with_reducible rfl))
  try simp only [Act.put, List.setIfInBounds_toArray, List.set_cons_zero, List.set_cons_succ]
  refine takeL (i := 9) (v := ?_) rfl (by kernel_rfl) (by kernel_rfl) (by kernel_rfl) (fun _ _ _ h => h) (Or.inl ⟨by rfl, ?_⟩) (by assumption) ?_
  rotate_left
  · (intro W9 hSw; (try dsimp only at hSw); go_simp; (try with_reducible rfl))
  try simp only [Act.put, List.setIfInBounds_toArray, List.set_cons_zero, List.set_cons_succ]
  refine takeL (i := 10) (v := ?_) rfl (by kernel_rfl) (by kernel_rfl) (by kernel_rfl) (fun _ _ _ h => h) (Or.inl ⟨by rfl, ?_⟩) (by assumption) ?_
  rotate_left
  · (intro W9 hSw; (try dsimp only at hSw); go_simp; (try with_reducible rfl))
  try simp only [Act.put, List.setIfInBounds_toArray, List.set_cons_zero, List.set_cons_succ]
  refine takeL (i := 11) (v := ?_) rfl (by kernel_rfl) (by kernel_rfl) (by kernel_rfl) (fun _ _ _ h => h) (Or.inl ⟨by rfl, ?_⟩) (by assumption) ?_
  rotate_left
  · (intro W9 hSw; (try dsimp only at hSw); go_simp; (try with_reducible rfl))
  try simp only [Act.put, List.setIfInBounds_toArray, List.set_cons_zero, List.set_cons_succ]
  refine callL (i := 12) rfl (by kernel_rfl) (fun K hK => ?_)
  go_wp2_with (((with_reducible refine HL.out.mono ?_); (rintro e w4 ⟨v4, rfl, hv⟩; obtain ⟨A4, c4, rfl, _⟩ := hv.bs; have x4 : Ext w w4 := (Ext.drew w).trans hv.ext; have hco4 := x4.cell hcellK; have hfo4 : w4.frozen? ⟨g, k, none⟩ = false := (x4.frozen hcellK).trans hfz; rw [HSL.out])))
  refine hK.out _ _ (HS.out _ x4) (fun hHeld => ?_)
  clear hK K
  try simp only [Act.put, List.setIfInBounds_toArray, List.set_cons_zero, List.set_cons_succ]
  refine takeL (i := 13) (v := ?_) rfl (by kernel_rfl) (by kernel_rfl) (by kernel_rfl) (fun _ _ _ h => h) (Or.inl ⟨by rfl, ?_⟩) (by assumption) ?_
  rotate_left
  · (intro W9 hSw; (try dsimp only at hSw); go_simp; (try with_reducible rfl))
  try simp only [Act.put, List.setIfInBounds_toArray, List.set_cons_zero, List.set_cons_succ]
  refine wpAnyH_done (by kernel_rfl) ?_ _
  change wpList _ _ _ _ _ _
  go_wp2_with (fail)
  all_goals
    have hsd : w.heap.size ≤ w.drew.heap.size := (Ext.drew w).size
    have hput := (HQ.out.ext x4).put hk hv.own (by omega) (fun b hb => by
      have hf := HQ.out.fresh hv.own hsd hP b hb
      exact ⟨hf.1, fun j u _ hu => hf.2 j u hu⟩)
    rw [HSL.out] at hput
    have hg2 := gb_set (x4.gb (some g)) k (.slice A4 rk c4)
    have HP := Lib.hid hput
    have HG2 := Lib.hid hg2
    clear hput hg2 hv
    go_wp2_with (fail)
    go_end0
    exact ⟨rfl, ⟨_, HP.out⟩, HG2.out⟩
end Go.Proofs.Ytfpglkacjecoeaa
namespace Go.Proofs.Ytfpglkacjecoeaa
open Go.RowKit

/-- Nothing has turned but in some blocks, and what is new. -/
structure Ch (w w' : World) (H : Nat → Prop) : Prop where
  os : w'.os = w.os
  tape : w'.tape = w.tape
  output : w'.output = w.output
  size : w.heap.size ≤ w'.heap.size
  block : ∀ k, k < w.heap.size → ¬ H k → w'.heap[k]? = w.heap[k]?
section
variable {w w1 w' : World} {H : Nat → Prop}
theorem Ch.refl (w : World) (H : Nat → Prop) : Ch w w H := ⟨rfl, rfl, rfl, Nat.le_refl _, fun _ _ _ => rfl⟩
theorem Ch.trans (h : Ch w w1 H) (k : Ch w1 w' H) : Ch w w' H := ⟨k.os.trans h.os, k.tape.trans h.tape, k.output.trans h.output, Nat.le_trans h.size k.size, fun i hi hn => (k.block i (Nat.lt_of_lt_of_le hi h.size) hn).trans (h.block i hi hn)⟩
theorem Ch.of_ext (hx : Ext w w') (H : Nat → Prop) : Ch w w' H := ⟨hx.os, hx.tape, hx.output, hx.size, fun k hk _ => hx.block k hk⟩
theorem Ch.of_gb {g : Nat} (h : w.grownBy w' (some g)) (hg : H g) : Ch w w' H := ⟨h.os, h.tape, h.output, h.size, fun k hk hn => h.block k hk (fun e => hn (by injection e with e; rw [e]; exact hg))⟩
theorem Ch.mono {H' : Nat → Prop} (h : Ch w w' H) (hh : ∀ b, b < w.heap.size → H b → H' b) : Ch w w' H' := ⟨h.os, h.tape, h.output, h.size, fun k hk hn => h.block k hk (fun e => hn (hh k hk e))⟩
theorem Ch.cell (h : Ch w w' H) {a : Addr} {v : Value} (hc : w.cell? a = some v) (hn : ¬ H a.block) : w'.cell? a = some v := by
  rw [World.cell?_of_block (h.block a.block (World.block_lt_of_cell? _ _ hc) hn)]; exact hc
theorem Ch.frozen (h : Ch w w' H) {a : Addr} {v : Value} (hc : w.cell? a = some v) (hn : ¬ H a.block) : w'.frozen? a = w.frozen? a :=
  World.frozen?_of_block (h.block a.block (World.block_lt_of_cell? _ _ hc) hn)
theorem Ch.field {fb : Nat} (h : Ch w w' H) (hf : FieldAt w fb) (hn : ¬ H fb) : FieldAt w' fb :=
  ⟨h.cell hf.made hn, fun i hi => h.cell (hf.exp i hi) hn, fun x => h.cell (hf.log x) hn⟩
theorem Ch.below {base : Nat} (h : Ch w w' H) (hb : base ≤ w.heap.size) (hh : ∀ b, H b → base ≤ b) : Below base w w' :=
  ⟨h.os, h.tape, h.output, h.size, fun k hk => h.block k (by omega) (fun e => by have := hh k e; omega)⟩
theorem Ch.set (h : Ch w w' H) {q : Addr} (hq : H q.block) (u : Value) : Ch w (w'.setCell q u) H :=
  ⟨h.os, h.tape, h.output, by simpa using h.size, fun k hk hn => (heap_setCell_other w' q k u (fun e => hn (by rw [e]; exact hq))).trans (h.block k hk hn)⟩
theorem Mq.ch {base n : Nat} {P : Nat → Prop} {v : Value} {cs : List Value} {m : Gm.L} (h : Mq w base P v n cs m) (hc : Ch w w' H) (hv : ∀ b, v.ownBlock = some b → ¬ H b) (hP : ∀ b, H b → P b) : Mq w' base P v n cs m := by
  have row : ∀ {size : Nat} {e : TypeId} {u : Value} {k : Nat} {xs : List Value}, w.ownsRow base e size u k xs → (∀ b, u.ownBlock = some b → ¬ H b) → w'.ownsRow base e size u k xs := fun {size e u k xs} ho hu => by
    refine ⟨ho.1, ?_⟩
    rcases ho.2 with h1 | ⟨g, cap, cur, h1, h2, h3, h4⟩
    · exact .inl h1
    · refine .inr ⟨g, cap, cur, h1, h2, ?_, h4⟩
      rw [hc.block g (Array.getElem?_eq_some_iff.1 h3).1 (hu g (by rw [h1]; rfl))]
      exact h3
  exact ⟨h.len, row h.own hv, fun i hi => by obtain ⟨A, c, e, ho⟩ := h.row i hi; exact ⟨A, c, e, row ho (fun b hb hH => h.cool i _ b e hb (hP b hH))⟩, h.cool, h.hot, h.apart⟩
end
/-- The two outer rows. -/
def Two12 (g1 g2 : Nat) : Nat → Prop := fun b => b = g1 ∨ b = g2

theorem both_any (w : World) (k : Nat) (lb : Array Value) (b4 b5 : Nat) (v1 v2 : Value) (R : World → Prop) (eg : ∀ args w, (callFunc k args).run Try.prog w = .ok (.enter k args) w)
    (c4 : w.cell? ⟨b4, 0, none⟩ = some v1)
    (h : Calls Try.prog k (#[v1] ++ lb) w fun e w' => e = .returned (.tuple #[]) ∧ w'.cell? ⟨b5, 0, none⟩ = some v2 ∧ Calls Try.prog k (#[v2] ++ lb) w' fun e' w'' => e' = .returned (.tuple #[]) ∧ R w'') :
    Calls Try.prog 88 #[.func (.func k) #[] lb, .pointer (some ⟨b4, 0, none⟩), .pointer (some ⟨b5, 0, none⟩)] w fun e w' => e = .returned (.tuple #[]) ∧ R w' := by
  have H := Lib.hid h
  clear h
  go_enter Try.func88, Try.ntmps88
  go_wp2_with (fail)
  refine H.out.mono ?_
  rintro e w1 ⟨rfl, c5, h2⟩
  have H2 := Lib.hid h2
  clear h2 H
  go_wp2_with (fail)
  refine H2.out.mono ?_
  rintro e w2 ⟨rfl, hR⟩
  have HR := Lib.hid hR
  clear hR
  go_wp2_with (fail)
  go_end0
  exact ⟨rfl, HR.out⟩

/-- What is known of the boxes while rows are cleared. -/
structure Bxs (W : World) (fb g1 g2 c1 c2 n b3 b4 b5 b8 l : Nat) : Prop where
  f : FieldAt W fb
  k3 : W.cell? ⟨b3, 0, none⟩ = some (.pointer (some ⟨fb, 0, none⟩))
  k4 : W.cell? ⟨b4, 0, none⟩ = some (.slice (some ⟨g1, 0, none⟩) n c1)
  k5 : W.cell? ⟨b5, 0, none⟩ = some (.slice (some ⟨g2, 0, none⟩) n c2)
  k8 : W.heap[b8]? = some (.cells #[.int .i64 (l : Int)] 3 (0, 0))
/-- The blocks are all different. -/
structure Dif (fb g1 g2 b3 b4 b5 b8 : Nat) : Prop where
  g : g1 ≠ g2
  f1 : fb ≠ g1
  f2 : fb ≠ g2
  f8 : fb ≠ b8
  b31 : b3 ≠ g1
  b32 : b3 ≠ g2
  b38 : b3 ≠ b8
  b41 : b4 ≠ g1
  b42 : b4 ≠ g2
  b48 : b4 ≠ b8
  b51 : b5 ≠ g1
  b52 : b5 ≠ g2
  b58 : b5 ≠ b8
  b81 : b8 ≠ g1
  b82 : b8 ≠ g2
theorem Bxs.c8 {W : World} {fb g1 g2 c1 c2 n b3 b4 b5 b8 l : Nat} (h : Bxs W fb g1 g2 c1 c2 n b3 b4 b5 b8 l) : W.cell? ⟨b8, 0, none⟩ = some (.int .i64 (l : Int)) := by rw [cell_of_row W _ _ _ _ _ h.k8]; rfl
theorem Bxs.ch {W W' : World} {H : Nat → Prop} {fb g1 g2 c1 c2 n b3 b4 b5 b8 l : Nat} (h : Bxs W fb g1 g2 c1 c2 n b3 b4 b5 b8 l) (hc : Ch W W' H) (hf : ¬ H fb) (h3 : ¬ H b3) (h4 : ¬ H b4) (h5 : ¬ H b5) (h8 : ¬ H b8) : Bxs W' fb g1 g2 c1 c2 n b3 b4 b5 b8 l :=
  ⟨hc.field h.f hf, hc.cell h.k3 h3, hc.cell h.k4 h4, hc.cell h.k5 h5, (hc.block b8 (Array.getElem?_eq_some_iff.1 h.k8).1 h8).trans h.k8⟩
theorem Bxs.ext {W W' : World} {fb g1 g2 c1 c2 n b3 b4 b5 b8 l : Nat} (h : Bxs W fb g1 g2 c1 c2 n b3 b4 b5 b8 l) (hx : Ext W W') : Bxs W' fb g1 g2 c1 c2 n b3 b4 b5 b8 l :=
  h.ch (H := fun _ => False) (Ch.of_ext hx _) (fun e => e) (fun e => e) (fun e => e) (fun e => e) (fun e => e)
theorem Dif.no {fb g1 g2 b3 b4 b5 b8 : Nat} (d : Dif fb g1 g2 b3 b4 b5 b8) : ¬ Two12 g1 g2 fb ∧ ¬ Two12 g1 g2 b3 ∧ ¬ Two12 g1 g2 b4 ∧ ¬ Two12 g1 g2 b5 ∧ ¬ Two12 g1 g2 b8 :=
  ⟨fun e => e.elim d.f1 d.f2, fun e => e.elim d.b31 d.b32, fun e => e.elim d.b41 d.b42, fun e => e.elim d.b51 d.b52, fun e => e.elim d.b81 d.b82⟩
theorem Bxs.two {W W' : World} {fb g1 g2 c1 c2 n b3 b4 b5 b8 l : Nat} (h : Bxs W fb g1 g2 c1 c2 n b3 b4 b5 b8 l) (d : Dif fb g1 g2 b3 b4 b5 b8) (hc : Ch W W' (Two12 g1 g2)) : Bxs W' fb g1 g2 c1 c2 n b3 b4 b5 b8 l :=
  h.ch hc d.no.1 d.no.2.1 d.no.2.2.1 d.no.2.2.2.1 d.no.2.2.2.2

set_option maxRecDepth 100000 in
theorem both2_any (fb : Nat) (w : World) (base : Nat) (P : Nat → Prop) (g1 g2 c1 c2 n : Nat) (cs1 cs2 : List Value) (a b : Gm.L) (b3 b4 b5 b8 ba bi l t : Nat) (x : UInt8)
    (h1 : Mq w base P (.slice (some ⟨g1, 0, none⟩) n c1) n cs1 a) (h2 : Mq w base P (.slice (some ⟨g2, 0, none⟩) n c2) n cs2 b) (hb : Bxs w fb g1 g2 c1 c2 n b3 b4 b5 b8 l) (hd : Dif fb g1 g2 b3 b4 b5 b8)
    (hP : ∀ b, P b → b < w.heap.size) (hbs : base ≤ w.heap.size) (hl : l < n) (ht : t < n) (hw1 : (Gm.row a t).length ≤ 1000) (hw2 : (Gm.row b t).length ≤ 1000)
    (ka : w.cell? ⟨ba, 0, none⟩ = some (.int .i64 (t : Int))) (ki : w.cell? ⟨bi, 0, none⟩ = some (.int .u8 (x.toNat : Int))) (n1 : ba ≠ g1) (n2 : ba ≠ g2) (n3 : bi ≠ g1) (n4 : bi ≠ g2) :
    Calls Try.prog 88 #[.func (.func 89) #[] #[.pointer (some ⟨b8, 0, none⟩), .pointer (some ⟨ba, 0, none⟩), .pointer (some ⟨b3, 0, none⟩), .pointer (some ⟨bi, 0, none⟩)], .pointer (some ⟨b4, 0, none⟩), .pointer (some ⟨b5, 0, none⟩)] w fun e w' =>
      e = .returned (.tuple #[]) ∧ (∃ cs1' cs2', Mq w' base P (.slice (some ⟨g1, 0, none⟩) n c1) n cs1' (Gm.scaleL (Gm.swapL a t l) l x) ∧ Mq w' base P (.slice (some ⟨g2, 0, none⟩) n c2) n cs2' (Gm.scaleL (Gm.swapL b t l) l x)) ∧ Ch w w' (Two12 g1 g2) := by
  refine both_any w 89 _ b4 b5 _ (.slice (some ⟨g2, 0, none⟩) n c2) _ (enters_of Try.func89 (by kernel_rfl) rfl) hb.k4 ?_
  refine (clear2_any fb w base P g1 c1 n cs1 a b8 ba b3 bi l t x h1 hP hbs hl ht hw1 hb.c8 ka hb.k3 ki hb.f hd.b81 n1 hd.b31 n3 hd.f1).mono ?_
  rintro e w1 ⟨rfl, ⟨cs1', q1⟩, hg⟩
  have hc1 : Ch w w1 (fun b => b = g1) := Ch.of_gb hg rfl
  have h2' := h2.ch hc1 (fun b hb e => by have hb' : some g2 = some b := hb; injection hb' with hb'; exact hd.g (by omega)) (fun b e => by rw [e]; exact h1.hot g1 rfl)
  have hb1 := hb.ch hc1 hd.f1 hd.b31 hd.b41 hd.b51 hd.b81
  refine ⟨rfl, hb1.k5, ?_⟩
  refine (clear2_any fb w1 base P g2 c2 n cs2 b b8 ba b3 bi l t x h2' (fun b h => Nat.lt_of_lt_of_le (hP b h) hc1.size) (Nat.le_trans hbs hc1.size) hl ht hw2 hb1.c8 (hc1.cell ka n1) hb1.k3 (hc1.cell ki n3) hb1.f hd.b82 n2 hd.b32 n4 hd.f2).mono ?_
  rintro e w2 ⟨rfl, ⟨cs2', q2⟩, hg2⟩
  have hc2 : Ch w1 w2 (fun b => b = g2) := Ch.of_gb hg2 rfl
  have q1' := q1.ch hc2 (fun b hb e => by have hb' : some g1 = some b := hb; injection hb' with hb'; exact hd.g (by omega)) (fun b e => by rw [e]; exact h2.hot g2 rfl)
  exact ⟨rfl, ⟨cs1', cs2', q1', q2⟩, (hc1.mono (fun _ _ e => .inl e)).trans (hc2.mono (fun _ _ e => .inr e))⟩
set_option maxRecDepth 100000 in
theorem both3_any (fb : Nat) (w : World) (base : Nat) (P : Nat → Prop) (g1 g2 c1 c2 n : Nat) (cs1 cs2 : List Value) (a b : Gm.L) (b3 b4 b5 b8 bk bc l k : Nat) (x : UInt8)
    (h1 : Mq w base P (.slice (some ⟨g1, 0, none⟩) n c1) n cs1 a) (h2 : Mq w base P (.slice (some ⟨g2, 0, none⟩) n c2) n cs2 b) (hb : Bxs w fb g1 g2 c1 c2 n b3 b4 b5 b8 l) (hd : Dif fb g1 g2 b3 b4 b5 b8)
    (hP : ∀ b, P b → b < w.heap.size) (hbs : base ≤ w.heap.size) (hl : l < n) (hk : k < n) (hlk : l ≠ k) (hw1 : (Gm.row a k).length ≤ 1000) (hw2 : (Gm.row b k).length ≤ 1000)
    (kk : w.cell? ⟨bk, 0, none⟩ = some (.int .i64 (k : Int))) (kc : w.cell? ⟨bc, 0, none⟩ = some (.int .u8 (x.toNat : Int))) (n1 : bk ≠ g1) (n2 : bk ≠ g2) (n3 : bc ≠ g1) (n4 : bc ≠ g2) :
    Calls Try.prog 88 #[.func (.func 90) #[] #[.pointer (some ⟨b3, 0, none⟩), .pointer (some ⟨bk, 0, none⟩), .pointer (some ⟨bc, 0, none⟩), .pointer (some ⟨b8, 0, none⟩)], .pointer (some ⟨b4, 0, none⟩), .pointer (some ⟨b5, 0, none⟩)] w fun e w' =>
      e = .returned (.tuple #[]) ∧ (∃ cs1' cs2', Mq w' base P (.slice (some ⟨g1, 0, none⟩) n c1) n cs1' (a.set k (Gf.lay (Gm.row a k) x (Gm.row a l))) ∧ Mq w' base P (.slice (some ⟨g2, 0, none⟩) n c2) n cs2' (b.set k (Gf.lay (Gm.row b k) x (Gm.row b l)))) ∧ Ch w w' (Two12 g1 g2) := by
  refine both_any w 90 _ b4 b5 _ (.slice (some ⟨g2, 0, none⟩) n c2) _ (enters_of Try.func90 (by kernel_rfl) rfl) hb.k4 ?_
  refine (clear3_any fb w base P g1 c1 n cs1 a b8 bk b3 bc l k x h1 hP hbs hl hk hlk hd.b31 n1 n3 hd.b81 hw1 hb.k3 kk kc hb.c8 hb.f).mono ?_
  rintro e w1 ⟨rfl, ⟨cs1', q1⟩, hg⟩
  have hc1 : Ch w w1 (fun b => b = g1) := Ch.of_gb hg rfl
  have h2' := h2.ch hc1 (fun b hb e => by have hb' : some g2 = some b := hb; injection hb' with hb'; exact hd.g (by omega)) (fun b e => by rw [e]; exact h1.hot g1 rfl)
  have hb1 := hb.ch hc1 hd.f1 hd.b31 hd.b41 hd.b51 hd.b81
  refine ⟨rfl, hb1.k5, ?_⟩
  refine (clear3_any fb w1 base P g2 c2 n cs2 b b8 bk b3 bc l k x h2' (fun b h => Nat.lt_of_lt_of_le (hP b h) hc1.size) (Nat.le_trans hbs hc1.size) hl hk hlk hd.b32 n2 n4 hd.b82 hw2 hb1.k3 (hc1.cell kk n1) (hc1.cell kc n3) hb1.c8 hb1.f).mono ?_
  rintro e w2 ⟨rfl, ⟨cs2', q2⟩, hg2⟩
  have hc2 : Ch w1 w2 (fun b => b = g2) := Ch.of_gb hg2 rfl
  have q1' := q1.ch hc2 (fun b hb e => by have hb' : some g1 = some b := hb; injection hb' with hb'; exact hd.g (by omega)) (fun b e => by rw [e]; exact h2.hot g2 rfl)
  exact ⟨rfl, ⟨cs1', cs2', q1', q2⟩, (hc1.mono (fun _ _ e => .inl e)).trans (hc2.mono (fun _ _ e => .inr e))⟩
end Go.Proofs.Ytfpglkacjecoeaa
