/- The contract of what matrix.cleared does to a list of rows: changed about and scaled. -/
import Derived.Test.YtfpcldkfmcnjkaaRegLast
import Derived.Test.YtfpcldkfmcnjkaaCt4
import Derived.Deep.DrawnRows
import Derived.Deep.DeepCutAuto
namespace Go.Proofs.Ytfpcldkfmcnjkaa
open Go.RowKit
attribute [local go_sem ↓] Go.wp_at_zero Go.wp_at_succ

set_option maxRecDepth 100000 in
set_option maxHeartbeats 4000000 in
theorem clear2_any (fb : Nat) (w : World) (base : Nat) (P : Nat → Prop) (g c0 n : Nat) (cs : List Value) (m : Gm.L) (bl ba bf bi l t : Nat) (x : UInt8)
    (hQ : Mq w base P (.slice (some ⟨g, 0, none⟩) n c0) n cs m) (hP : ∀ b, P b → b < w.heap.size) (hbs : base ≤ w.heap.size) (hl : l < n) (ht : t < n) (hw : (Gm.row m t).length ≤ 1000)
    (k1 : w.cell? ⟨bl, 0, none⟩ = some (.int .i64 (l : Int))) (k2 : w.cell? ⟨ba, 0, none⟩ = some (.int .i64 (t : Int))) (k3 : w.cell? ⟨bf, 0, none⟩ = some (.pointer (some ⟨fb, 0, none⟩))) (k4 : w.cell? ⟨bi, 0, none⟩ = some (.int .u8 (x.toNat : Int)))
    (hf : FieldAt w fb) (n1 : bl ≠ g) (n2 : ba ≠ g) (n3 : bf ≠ g) (n4 : bi ≠ g) (n5 : fb ≠ g) :
    Calls Try.prog 84 #[.slice (some ⟨g, 0, none⟩) n c0, .pointer (some ⟨bl, 0, none⟩), .pointer (some ⟨ba, 0, none⟩), .pointer (some ⟨bf, 0, none⟩), .pointer (some ⟨bi, 0, none⟩)] w fun e w' =>
      e = .returned (.tuple #[]) ∧ (∃ cs', Mq w' base P (.slice (some ⟨g, 0, none⟩) n c0) n cs' (Gm.scaleL (Gm.swapL m t l) l x)) ∧ w.grownBy w' (some g) := by
  obtain ⟨Al, cl, hcl, hcellL, hfl, hol⟩ := hQ.cellAt hl
  obtain ⟨At, ct, hct, hcellT, hft, hot⟩ := hQ.cellAt ht
  have hcle := hQ.own
  have hn0 : n ≤ c0 ∧ c0 ≤ 9223372036854775807 := by
    obtain ⟨_, _, e, h1, h2⟩ := ownsRow_slice hQ.own
    injection e with _ _ e3
    omega
  have hsw := hQ.swap ht hl hct hcl
  have hgb : w.grownBy ((w.setCell ⟨g, t, none⟩ (.slice Al (Gm.row m l).length cl)).setCell ⟨g, l, none⟩ (.slice At (Gm.row m t).length ct)) (some g) := gb_set (gb_set (World.grownBy.refl w _) _ _) _ _
  have q1 : (l : Int) < n := by omega
  have q2 : (t : Int) < n := by omega
  have q3 : (0 : Int) ≤ (l : Int) := by omega
  have q4 : (0 : Int) ≤ (t : Int) := by omega
  obtain ⟨rl, hrl⟩ : ∃ rl, (Gm.row m l).length = rl := ⟨_, rfl⟩
  obtain ⟨rt, hrt⟩ : ∃ rt, (Gm.row m t).length = rt := ⟨_, rfl⟩
  rw [hrl] at hcl hcellL hgb hsw
  rw [hrt] at hct hcellT hgb hsw
  have HSW := Lib.hid hsw
  have HGB := Lib.hid hgb
  have HRT := Lib.hid hrt
  clear hsw hgb hcl hct hol hot hcle hrl hrt hQ
  have hsome : ∃ v', (w.setCell ⟨g, t, none⟩ (.slice Al rl cl)).cell? ⟨g, l, none⟩ = some v' := by
    by_cases e : t = l
    · subst e
      exact ⟨_, World.cell?_setCell_same _ _ _ hcellT⟩
    · exact ⟨_, by rw [World.cell?_setCell_other _ _ _ _ (fun h => e (by injection h))]; exact hcellL⟩
  obtain ⟨v', hv'⟩ := hsome
  go_enter Try.func84, Try.ntmps84
  go_wp2_with (fail)
  go_cut [] (fun wx => ∃ wv : World, wv = wx ∧ Mq wx base P (.slice (some ⟨g, 0, none⟩) n c0) n ((cs.set t (.slice Al rl cl)).set l (.slice At rt ct)) (Gm.swapL m t l) ∧ w.grownBy wx (some g))
  case first =>
    go_region
    all_goals
      go_wp2_with (fail)
      go_meet
      exact ⟨_, rfl, HSW.out.ext (Ext.drew _), grownBy_trans' HGB.out ((Ext.drew _).gb _)⟩
  case rest =>
    obtain ⟨W1, rfl, hQ1, hgb⟩ := hcut
    clear hv' hcellL hcellT hfl hft HSW HGB
    have k1' := hgb.cell k1 (fun e => n1 (by injection e))
    have k3' := hgb.cell k3 (fun e => n3 (by injection e))
    have k4' := hgb.cell k4 (fun e => n4 (by injection e))
    have hf1 := hf.gb hgb n5
    obtain ⟨Ar, cr, hcr, hcell, hfz, hor⟩ := hQ1.cellAt hl
    have hml : m.length = n := by have := hQ1.len; unfold Gm.swapL at this; rwa [List.length_set, List.length_set] at this
    have hrow : Gm.row (Gm.swapL m t l) l = Gm.row m t := by
      rw [Gm.row_swapL (by omega) (by omega)]
      unfold Gm.swapI
      by_cases e : l = t
      · rw [if_pos e, e]
      · rw [if_neg e, if_pos rfl]
    have hsc : (Gm.swapL m t l).set l (Gm.scaleRow (Gm.row m t) x) = Gm.scaleL (Gm.swapL m t l) l x := by unfold Gm.scaleL; rw [hrow]
    rw [hrow] at hcr hcell hor
    have hsl : (Gm.scaleRow (Gm.row m t) x).length = rt := by rw [Gm.scaleRow_length, HRT.out]
    have hlc := lay_any fb W1.drew Ar Ar _ cr _ cr (Gm.row m t) (Gm.row m t) (Gf.add x 1) (hf1.ext (Ext.drew _)) ((Own.mk (base := base) (e := 5) hor).bs.ext (Ext.drew _)) ((Own.mk (base := base) (e := 5) hor).bs.ext (Ext.drew _)) (by omega)
    rw [HRT.out] at hlc hcell
    have hac : Calls Try.prog 53 #[.pointer (some ⟨fb, 0, none⟩), .int .u8 (x.toNat : Int), .int .u8 1] W1.drew fun e w' => e = .returned (.int .u8 ((Gf.add x 1).toNat : Int)) ∧ W1.drew = w' := add_any fb W1.drew x 1 (hf1.ext (Ext.drew _))
    have HL := Lib.hid (show Calls Try.prog 12 #[.pointer (some ⟨fb, 0, none⟩), .slice Ar rt cr, .int .u8 ((Gf.add x 1).toNat : Int), .slice Ar rt cr] W1.drew fun e w' => ∃ v, e = .returned v ∧ NewBytes W1.drew w' v (Gm.scaleRow (Gm.row m t) x) from hlc)
    have HA := Lib.hid hac
    have HQ1 := Lib.hid hQ1
    have HGB := Lib.hid hgb
    have HSC := Lib.hid hsc
    have HSL := Lib.hid hsl
    clear hlc hac hQ1 hgb hsc hsl hcr hor hrow hml k1 k2 k3 k4
    have hS : ∀ W : World, Ext W1 W → (W.cell? ⟨bl, 0, none⟩ = some (.int .i64 (l : Int)) ∧ W.cell? ⟨bf, 0, none⟩ = some (.pointer (some ⟨fb, 0, none⟩)) ∧ W.cell? ⟨bi, 0, none⟩ = some (.int .u8 (x.toNat : Int)) ∧ W.cell? ⟨g, l, none⟩ = some (.slice Ar rt cr)) := fun W hW => ⟨hW.cell k1', hW.cell k3', hW.cell k4', hW.cell hcell⟩
    have HS := Lib.hid hS
    clear hS
    go_wp2_with (fail)
    refine wp_region_last (S := (fun W => W.cell? ⟨bl, 0, none⟩ = some (.int .i64 (l : Int)) ∧ W.cell? ⟨bf, 0, none⟩ = some (.pointer (some ⟨fb, 0, none⟩)) ∧ W.cell? ⟨bi, 0, none⟩ = some (.int .u8 (x.toNat : Int)) ∧ W.cell? ⟨g, l, none⟩ = some (.slice Ar rt cr))) (n := 16) (m := 17) (by simp only [List.dropLast]; rfl) (by simp only [List.getLast?, List.getLast]; rfl) rfl rfl (by kernel_rfl) (by kernel_rfl) (HS.out _ (Ext.drew _)) (fun hHeld => ?_)
    refine takeL (i := 0) (v := ?_) rfl (by kernel_rfl) (by kernel_rfl) (by kernel_rfl) (fun _ _ _ h => h) (Or.inl ⟨by rfl, ?_⟩) (by assumption) ?_
    rotate_left
    · (intro W9 hSw; (try dsimp only at hSw); go_simp; (try with_reducible rfl))
    try simp only [Act.put, List.setIfInBounds_toArray, List.set_cons_zero, List.set_cons_succ]
    refine takeL (i := 1) (v := ?_) rfl (by kernel_rfl) (by kernel_rfl) (by kernel_rfl) (fun _ _ _ h => h) (Or.inl ⟨by rfl, ?_⟩) (by assumption) ?_
    rotate_left
    · (intro W9 hSw; (try dsimp only at hSw); go_simp; (try with_reducible rfl))
    try simp only [Act.put, List.setIfInBounds_toArray, List.set_cons_zero, List.set_cons_succ]
    refine takeL (i := 2) (v := ?_) rfl (by kernel_rfl) (by kernel_rfl) (by kernel_rfl) (fun _ _ _ h => h) (Or.inl ⟨by rfl, ?_⟩) (by assumption) ?_
    rotate_left
    · (intro W9 hSw; (try dsimp only at hSw); go_simp; (try with_reducible rfl))
    try simp only [Act.put, List.setIfInBounds_toArray, List.set_cons_zero, List.set_cons_succ]
    refine takeL (i := 3) (v := ?_) rfl (by kernel_rfl) (by kernel_rfl) (by kernel_rfl) (fun _ _ _ h => h) (Or.inl ⟨by rfl, ?_⟩) (by assumption) ?_
    rotate_left
    · (intro W9 hSw; (try dsimp only at hSw); go_simp; (try with_reducible rfl))
    try simp only [Act.put, List.setIfInBounds_toArray, List.set_cons_zero, List.set_cons_succ]
    refine takeL (i := 4) (v := ?_) rfl (by kernel_rfl) (by kernel_rfl) (by kernel_rfl) (fun _ _ _ h => h) (Or.inl ⟨by rfl, ?_⟩) (by assumption) ?_
    rotate_left
    · (intro W9 hSw; (try dsimp only at hSw); go_simp; (try with_reducible rfl))
    try simp only [Act.put, List.setIfInBounds_toArray, List.set_cons_zero, List.set_cons_succ]
    refine takeL (i := 5) (v := ?_) rfl (by kernel_rfl) (by kernel_rfl) (by kernel_rfl) (fun _ _ _ h => h) (Or.inl ⟨by rfl, ?_⟩) (by assumption) ?_
    rotate_left
    · (intro W9 hSw; (try dsimp only at hSw); go_simp; (try with_reducible rfl))
    try simp only [Act.put, List.setIfInBounds_toArray, List.set_cons_zero, List.set_cons_succ]
    refine takeL (i := 6) (v := ?_) rfl (by kernel_rfl) (by kernel_rfl) (by kernel_rfl) (fun _ _ _ h => h) (Or.inl ⟨by rfl, ?_⟩) (by assumption) ?_
    rotate_left
    · (intro W9 hSw; (try dsimp only at hSw); go_simp; (try with_reducible rfl))
    try simp only [Act.put, List.setIfInBounds_toArray, List.set_cons_zero, List.set_cons_succ]
    refine takeL (i := 7) (v := ?_) rfl (by kernel_rfl) (by kernel_rfl) (by kernel_rfl) (fun _ _ _ h => h) (Or.inl ⟨by rfl, ?_⟩) (by assumption) ?_
    rotate_left
    · (intro W9 hSw; (try dsimp only at hSw); go_simp; (try with_reducible rfl))
    try simp only [Act.put, List.setIfInBounds_toArray, List.set_cons_zero, List.set_cons_succ]
    refine takeL (i := 8) (v := ?_) rfl (by kernel_rfl) (by kernel_rfl) (by kernel_rfl) (fun _ _ _ h => h) (Or.inl ⟨by rfl, ?_⟩) (by assumption) ?_
    rotate_left
    · (intro W9 hSw; (try dsimp only at hSw); go_simp; (try with_reducible rfl))
    try simp only [Act.put, List.setIfInBounds_toArray, List.set_cons_zero, List.set_cons_succ]
    refine takeL (i := 10) (v := ?_) rfl (by kernel_rfl) (by kernel_rfl) (by kernel_rfl) (fun _ _ _ h => h) (Or.inl ⟨by rfl, ?_⟩) (by assumption) ?_
    rotate_left
    · (intro W9 hSw; (try dsimp only at hSw); go_simp; (try with_reducible rfl))
    try simp only [Act.put, List.setIfInBounds_toArray, List.set_cons_zero, List.set_cons_succ]
    refine takeL (i := 11) (v := ?_) rfl (by kernel_rfl) (by kernel_rfl) (by kernel_rfl) (fun _ _ _ h => h) (Or.inl ⟨by rfl, ?_⟩) (by assumption) ?_
    rotate_left
    · (intro W9 hSw; (try dsimp only at hSw); go_simp; (try with_reducible rfl))
    try simp only [Act.put, List.setIfInBounds_toArray, List.set_cons_zero, List.set_cons_succ]
    refine takeL (i := 12) (v := ?_) rfl (by kernel_rfl) (by kernel_rfl) (by kernel_rfl) (fun _ _ _ h => h) (Or.inl ⟨by rfl, ?_⟩) (by assumption) ?_
    rotate_left
    · (intro W9 hSw; (try dsimp only at hSw); go_simp; (try with_reducible rfl))
    try simp only [Act.put, List.setIfInBounds_toArray, List.set_cons_zero, List.set_cons_succ]
    refine takeL (i := 13) (v := ?_) rfl (by kernel_rfl) (by kernel_rfl) (by kernel_rfl) (fun _ _ _ h => h) (Or.inl ⟨by rfl, ?_⟩) (by assumption) ?_
    rotate_left
    · (intro W9 hSw; (try dsimp only at hSw); go_simp; (try with_reducible rfl))
    try simp only [Act.put, List.setIfInBounds_toArray, List.set_cons_zero, List.set_cons_succ]
    refine callL (i := 9) rfl (by kernel_rfl) (fun K hK => ?_)
    go_wp2_with (((with_reducible refine HA.out.mono ?_); (rintro e w4 ⟨rfl, rfl⟩)))
    refine hK.out _ _ (HS.out _ (Ext.drew _)) ?_
    clear hK K hHeld HA
    intro hHeld
    try simp only [Act.put, List.setIfInBounds_toArray, List.set_cons_zero, List.set_cons_succ]
    refine callL (i := 14) rfl (by kernel_rfl) (fun K hK => ?_)
    rw [if_pos (by kernel_rfl)]
    go_wp2_with (((with_reducible refine HL.out.mono ?_); (rintro e w4 ⟨v4, rfl, hv⟩; obtain ⟨A4, c4, rfl, _⟩ := hv.bs; have x4 : Ext W1 w4 := (Ext.drew W1).trans hv.ext; have hco4 := x4.cell hcell; have hfo4 : w4.frozen? ⟨g, l, none⟩ = false := (x4.frozen hcell).trans hfz; rw [HSL.out])))
    refine hK.out _ _ (HS.out _ x4) ?_
    clear hK K hHeld
    intro hHeld
    try simp only [Act.put, List.setIfInBounds_toArray, List.set_cons_zero, List.set_cons_succ]
    refine takeL (i := 15) (v := ?_) rfl (by kernel_rfl) (by kernel_rfl) (by kernel_rfl) (fun _ _ _ h => h) (Or.inl ⟨by rfl, ?_⟩) (by assumption) ?_
    rotate_left
    · (intro W9 hSw; (try dsimp only at hSw); go_simp; (try with_reducible rfl))
    try simp only [Act.put, List.setIfInBounds_toArray, List.set_cons_zero, List.set_cons_succ]
    refine wpAnyH_done (by kernel_rfl) ?_ _
    change wpList _ _ _ _ _ _
    go_wp2_with (fail)
    all_goals
      have hsd : W1.heap.size ≤ W1.drew.heap.size := (Ext.drew W1).size
      have hput := (HQ1.out.ext x4).put hl hv.own (by have := HGB.out.size; omega) (fun b hb => by
        have hf := HQ1.out.fresh hv.own hsd (fun b hp => by have := hP b hp; have := HGB.out.size; omega) b hb
        exact ⟨hf.1, fun j u _ hu => hf.2 j u hu⟩)
      rw [HSC.out, HSL.out] at hput
      have hg2 := gb_set (grownBy_trans' HGB.out (x4.gb (some g))) l (.slice A4 rt c4)
      have HP := Lib.hid hput
      have HG2 := Lib.hid hg2
      clear hput hg2 hv
      go_wp2_with (fail)
      go_end0
      exact ⟨rfl, ⟨_, HP.out⟩, HG2.out⟩
end Go.Proofs.Ytfpcldkfmcnjkaa
