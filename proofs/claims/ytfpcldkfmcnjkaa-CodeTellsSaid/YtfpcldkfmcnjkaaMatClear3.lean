/- The contract of what matrix.cleared does to a list of rows: a row is cleared by the leading one. -/
import Derived.Test.YtfpcldkfmcnjkaaRegLast
import Derived.Test.YtfpcldkfmcnjkaaCt4
import Derived.Deep.DrawnRows
namespace Go.Proofs.Ytfpcldkfmcnjkaa
open Go.RowKit
attribute [local go_sem ↓] Go.wp_at_zero Go.wp_at_succ

set_option maxRecDepth 100000 in
set_option maxHeartbeats 4000000 in
theorem clear3_any (fb : Nat) (w : World) (base : Nat) (P : Nat → Prop) (g c0 n : Nat) (cs : List Value) (m : Gm.L) (bl bk bf bc l k : Nat) (x : UInt8)
    (hQ : Mq w base P (.slice (some ⟨g, 0, none⟩) n c0) n cs m) (hP : ∀ b, P b → b < w.heap.size) (hbs : base ≤ w.heap.size) (hl : l < n) (hk : k < n) (hlk : l ≠ k) (n1 : bf ≠ g) (n2 : bk ≠ g) (n3 : bc ≠ g) (n4 : bl ≠ g) (hw : (Gm.row m k).length ≤ 1000)
    (k1 : w.cell? ⟨bf, 0, none⟩ = some (.pointer (some ⟨fb, 0, none⟩))) (k2 : w.cell? ⟨bk, 0, none⟩ = some (.int .i64 (k : Int))) (k3 : w.cell? ⟨bc, 0, none⟩ = some (.int .u8 (x.toNat : Int))) (k4 : w.cell? ⟨bl, 0, none⟩ = some (.int .i64 (l : Int)))
    (hf : FieldAt w fb) :
    Calls Try.prog 85 #[.slice (some ⟨g, 0, none⟩) n c0, .pointer (some ⟨bf, 0, none⟩), .pointer (some ⟨bk, 0, none⟩), .pointer (some ⟨bc, 0, none⟩), .pointer (some ⟨bl, 0, none⟩)] w fun e w' =>
      e = .returned (.tuple #[]) ∧ (∃ cs', Mq w' base P (.slice (some ⟨g, 0, none⟩) n c0) n cs' (m.set k (Gf.lay (Gm.row m k) x (Gm.row m l)))) ∧ w.grownBy w' (some g) := by
  obtain ⟨Al, cl, hcl, hcellL, _, hol⟩ := hQ.cellAt hl
  obtain ⟨Ak, ck, hck, hcellK, hfz, hok⟩ := hQ.cellAt hk
  have hn0 : n ≤ c0 ∧ c0 ≤ 9223372036854775807 := by
    obtain ⟨_, _, e, h1, h2⟩ := ownsRow_slice hQ.own
    injection e with _ _ e3
    omega
  have q1 : (l : Int) < n := by omega
  have q2 : (k : Int) < n := by omega
  have q3 : (0 : Int) ≤ (l : Int) := by omega
  have q4 : (0 : Int) ≤ (k : Int) := by omega
  have hlc := lay_any fb w.drew Ak Al _ ck _ cl (Gm.row m k) (Gm.row m l) x (hf.ext (Ext.drew _)) ((Own.mk (base := base) (e := 5) hok).bs.ext (Ext.drew _)) ((Own.mk (base := base) (e := 5) hol).bs.ext (Ext.drew _)) (by omega)
  obtain ⟨rl, hrl⟩ : ∃ rl, (Gm.row m l).length = rl := ⟨_, rfl⟩
  obtain ⟨rk, hrk⟩ : ∃ rk, (Gm.row m k).length = rk := ⟨_, rfl⟩
  rw [hrl] at hlc hcellL
  rw [hrk] at hlc hcellK
  have hsl : (Gf.lay (Gm.row m k) x (Gm.row m l)).length = rk := by rw [Gf.lay_length, hrk]
  have HL := Lib.hid hlc
  have HSL := Lib.hid hsl
  have HQ := Lib.hid hQ
  have HF := Lib.hid hf
  clear hlc hsl hcl hck hol hok hrl hrk hQ hf
  have hS : ∀ W : World, Ext w W → (W.cell? ⟨bf, 0, none⟩ = some (.pointer (some ⟨fb, 0, none⟩)) ∧ W.cell? ⟨bk, 0, none⟩ = some (.int .i64 (k : Int)) ∧ W.cell? ⟨bc, 0, none⟩ = some (.int .u8 (x.toNat : Int)) ∧ W.cell? ⟨bl, 0, none⟩ = some (.int .i64 (l : Int)) ∧ W.cell? ⟨g, l, none⟩ = some (.slice Al rl cl) ∧ W.cell? ⟨g, k, none⟩ = some (.slice Ak rk ck)) := fun W hW => ⟨hW.cell k1, hW.cell k2, hW.cell k3, hW.cell k4, hW.cell hcellL, hW.cell hcellK⟩
  have HS := Lib.hid hS
  clear hS
  go_enter Try.func85, Try.ntmps85
  go_wp2_with (fail)
  refine wp_region_last (S := (fun W => W.cell? ⟨bf, 0, none⟩ = some (.pointer (some ⟨fb, 0, none⟩)) ∧ W.cell? ⟨bk, 0, none⟩ = some (.int .i64 (k : Int)) ∧ W.cell? ⟨bc, 0, none⟩ = some (.int .u8 (x.toNat : Int)) ∧ W.cell? ⟨bl, 0, none⟩ = some (.int .i64 (l : Int)) ∧ W.cell? ⟨g, l, none⟩ = some (.slice Al rl cl) ∧ W.cell? ⟨g, k, none⟩ = some (.slice Ak rk ck))) (n := 14) (m := 15) (by simp only [List.dropLast]; rfl) (by simp only [List.getLast?, List.getLast]; rfl) rfl rfl (by kernel_rfl) (by kernel_rfl) (HS.out _ (Ext.drew _)) (fun hHeld => ?_)
  refine takeL (i := 0) (v := ?_) rfl (by kernel_rfl) (by kernel_rfl) (by kernel_rfl) (fun _ _ _ h => h) (Or.inl ⟨by rfl, ?_⟩) (by assumption) ?_
  rotate_left
  · (intro W9 hSw; (try dsimp only at hSw); go_simp; (try with_reducible rfl))
  try simp only [Act.put, List.setIfInBounds_toArray, List.set_cons_zero, List.set_cons_succ]
  refine takeL (i := 1) (v := ?_) rfl (by kernel_rfl) (by kernel_rfl) (by kernel_rfl) (fun _ _ _ h => h) (Or.inl ⟨by rfl, ?_⟩) (by assumption) ?_
  rotate_left
  · (intro W9 hSw; (try dsimp only at hSw); go_simp; (try with_reducible rfl))
  try simp only [Act.put, List.setIfInBounds_toArray, List.set_cons_zero, List.set_cons_succ]
  refine takeL (i := 2) (v := ?_) rfl (by kernel_rfl) (by kernel_rfl) (by kernel_rfl) (fun _ _ _ h => h) (Or.inl ⟨by rfl, ?_⟩) (by assumption) ?_
  rotate_left
  · (intro W9 hSw; (try dsimp only at hSw); go_simp; (try with_reducible rfl))
  try simp only [Act.put, List.setIfInBounds_toArray, List.set_cons_zero, List.set_cons_succ]
  refine takeL (i := 3) (v := ?_) rfl (by kernel_rfl) (by kernel_rfl) (by kernel_rfl) (fun _ _ _ h => h) (Or.inl ⟨by rfl, ?_⟩) (by assumption) ?_
  rotate_left
  · (intro W9 hSw; (try dsimp only at hSw); go_simp; (try with_reducible rfl))
  try simp only [Act.put, List.setIfInBounds_toArray, List.set_cons_zero, List.set_cons_succ]
  refine takeL (i := 4) (v := ?_) rfl (by kernel_rfl) (by kernel_rfl) (by kernel_rfl) (fun _ _ _ h => h) (Or.inl ⟨by rfl, ?_⟩) (by assumption) ?_
  rotate_left
  · (intro W9 hSw; (try dsimp only at hSw); go_simp; (try with_reducible rfl))
  try simp only [Act.put, List.setIfInBounds_toArray, List.set_cons_zero, List.set_cons_succ]
  refine takeL (i := 5) (v := ?_) rfl (by kernel_rfl) (by kernel_rfl) (by kernel_rfl) (fun _ _ _ h => h) (Or.inl ⟨by rfl, ?_⟩) (by assumption) ?_
  rotate_left
  · (intro W9 hSw; (try dsimp only at hSw); go_simp; (try with_reducible rfl))
  try simp only [Act.put, List.setIfInBounds_toArray, List.set_cons_zero, List.set_cons_succ]
  refine takeL (i := 6) (v := ?_) rfl (by kernel_rfl) (by kernel_rfl) (by kernel_rfl) (fun _ _ _ h => h) (Or.inl ⟨by rfl, ?_⟩) (by assumption) ?_
  rotate_left
  · (intro W9 hSw; (try dsimp only at hSw); go_simp; (try with_reducible rfl))
  try simp only [Act.put, List.setIfInBounds_toArray, List.set_cons_zero, List.set_cons_succ]
  refine takeL (i := 7) (v := ?_) rfl (by kernel_rfl) (by kernel_rfl) (by kernel_rfl) (fun _ _ _ h => h) (Or.inl ⟨by rfl, ?_⟩) (by assumption) ?_
  rotate_left
  · (intro W9 hSw; (try dsimp only at hSw); go_simp; (try with_reducible rfl))
  try simp only [Act.put, List.setIfInBounds_toArray, List.set_cons_zero, List.set_cons_succ]
  refine takeL (i := 8) (v := ?_) rfl (by kernel_rfl) (by kernel_rfl) (by kernel_rfl) (fun _ _ _ h => h) (Or.inl ⟨by rfl, ?_⟩) (by assumption) ?_
  rotate_left
  · (intro W9 hSw; (try dsimp only at hSw); go_simp; (try with_reducible rfl))
  try simp only [Act.put, List.setIfInBounds_toArray, List.set_cons_zero, List.set_cons_succ]
  refine takeL (i := 9) (v := ?_) rfl (by kernel_rfl) (by kernel_rfl) (by kernel_rfl) (fun _ _ _ h => h) (Or.inl ⟨by rfl, ?_⟩) (by assumption) ?_
  rotate_left
  · (intro W9 hSw; (try dsimp only at hSw); go_simp; (try with_reducible rfl))
  try simp only [Act.put, List.setIfInBounds_toArray, List.set_cons_zero, List.set_cons_succ]
  refine takeL (i := 10) (v := ?_) rfl (by kernel_rfl) (by kernel_rfl) (by kernel_rfl) (fun _ _ _ h => h) (Or.inl ⟨by rfl, ?_⟩) (by assumption) ?_
  rotate_left
  · (intro W9 hSw; (try dsimp only at hSw); go_simp; (try with_reducible rfl))
  try simp only [Act.put, List.setIfInBounds_toArray, List.set_cons_zero, List.set_cons_succ]
  refine takeL (i := 11) (v := ?_) rfl (by kernel_rfl) (by kernel_rfl) (by kernel_rfl) (fun _ _ _ h => h) (Or.inl ⟨by rfl, ?_⟩) (by assumption) ?_
  rotate_left
  · (intro W9 hSw; (try dsimp only at hSw); go_simp; (try with_reducible rfl))
  try simp only [Act.put, List.setIfInBounds_toArray, List.set_cons_zero, List.set_cons_succ]
  refine callL (i := 12) rfl (by kernel_rfl) (fun K hK => ?_)
  go_wp2_with (((with_reducible refine HL.out.mono ?_); (rintro e w4 ⟨v4, rfl, hv⟩; obtain ⟨A4, c4, rfl, _⟩ := hv.bs; have x4 : Ext w w4 := (Ext.drew w).trans hv.ext; have hco4 := x4.cell hcellK; have hfo4 : w4.frozen? ⟨g, k, none⟩ = false := (x4.frozen hcellK).trans hfz; rw [HSL.out])))
  refine hK.out _ _ (HS.out _ x4) (fun hHeld => ?_)
  clear hK K
  try simp only [Act.put, List.setIfInBounds_toArray, List.set_cons_zero, List.set_cons_succ]
  refine takeL (i := 13) (v := ?_) rfl (by kernel_rfl) (by kernel_rfl) (by kernel_rfl) (fun _ _ _ h => h) (Or.inl ⟨by rfl, ?_⟩) (by assumption) ?_
  rotate_left
  · (intro W9 hSw; (try dsimp only at hSw); go_simp; (try with_reducible rfl))
  try simp only [Act.put, List.setIfInBounds_toArray, List.set_cons_zero, List.set_cons_succ]
  refine wpAnyH_done (by kernel_rfl) ?_ _
  change wpList _ _ _ _ _ _
  go_wp2_with (fail)
  all_goals
    have hsd : w.heap.size ≤ w.drew.heap.size := (Ext.drew w).size
    have hput := (HQ.out.ext x4).put hk hv.own (by omega) (fun b hb => by
      have hf := HQ.out.fresh hv.own hsd hP b hb
      exact ⟨hf.1, fun j u _ hu => hf.2 j u hu⟩)
    rw [HSL.out] at hput
    have hg2 := gb_set (x4.gb (some g)) k (.slice A4 rk c4)
    have HP := Lib.hid hput
    have HG2 := Lib.hid hg2
    clear hput hg2 hv
    go_wp2_with (fail)
    go_end0
    exact ⟨rfl, ⟨_, HP.out⟩, HG2.out⟩
end Go.Proofs.Ytfpcldkfmcnjkaa
