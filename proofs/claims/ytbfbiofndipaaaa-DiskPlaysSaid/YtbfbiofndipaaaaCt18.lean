/- Several texts in one: The contracts of the laws' does and same. An op is copied into a variable; what ops that came in lie away from. -/
import Derived.Test.YtbfbiofndipaaaaCt16
import Derived.Test.YtbfbiofndipaaaaCt17
import Derived.Test.YtbfbiofndipaaaaCt8
namespace Go.Proofs.Ytbfbiofndipaaaa
open Go.RowKit Go.Maps Go.Sort Go.Shelf
set_option linter.unusedSimpArgs false

/-- What an op makes of a disk. -/
def doesD (d : Disks.D) (o : Op05) : Disks.D :=
  if o.kind = 1 ∨ o.kind = 2 ∨ o.kind = 3 ∨ o.kind = 4 then Disks.writeD d o.i (rep o.b)
  else if o.kind = 5 ∨ o.kind = 6 then Disks.flushD d
  else if o.kind = 8 then Disks.spoilD d o.i o.at_ o.b
  else if o.kind = 9 then Disks.armD d o.n
  else if o.kind = 10 ∨ o.kind = 11 then Disks.crashD d o.l
  else d
/-- Block p holds an op. -/
structure Ob5 (W : World) (p : Nat) (o : Op05) : Prop where
  blk : W.heap[p]? = some (.cells (ocells o).toArray 31 (0, 0))
section
variable {W W' : World} {p : Nat} {o : Op05}
theorem Ob5.lt (h : Ob5 W p o) : p < W.heap.size := (Array.getElem?_eq_some_iff.1 h.blk).1
theorem Ob5.c0 (h : Ob5 W p o) : W.cell? ⟨p, 0, none⟩ = some (.int .i64 o.kind) := by rw [cell_of_row W _ _ _ _ _ h.blk]; rfl
theorem Ob5.c1 (h : Ob5 W p o) : W.cell? ⟨p, 1, none⟩ = some (.int .i64 o.i) := by rw [cell_of_row W _ _ _ _ _ h.blk]; rfl
theorem Ob5.c2 (h : Ob5 W p o) : W.cell? ⟨p, 2, none⟩ = some (.int .i64 o.at_) := by rw [cell_of_row W _ _ _ _ _ h.blk]; rfl
theorem Ob5.c3 (h : Ob5 W p o) : W.cell? ⟨p, 3, none⟩ = some (.int .i64 o.n) := by rw [cell_of_row W _ _ _ _ _ h.blk]; rfl
theorem Ob5.c4 (h : Ob5 W p o) : W.cell? ⟨p, 4, none⟩ = some (.int .u8 (o.b.toNat : Int)) := by rw [cell_of_row W _ _ _ _ _ h.blk]; rfl
theorem Ob5.c5 (h : Ob5 W p o) : W.cell? ⟨p, 5, none⟩ = some (.slice o.A o.m o.c) := by rw [cell_of_row W _ _ _ _ _ h.blk]; rfl
theorem Ob5.fz (h : Ob5 W p o) (j : Nat) : W.frozen? ⟨p, j, none⟩ = false := frozen_of_row W _ _ _ _ h.blk
theorem Ob5.same (h : Ob5 W p o) (hb : W'.heap[p]? = W.heap[p]?) : Ob5 W' p o := ⟨hb.trans h.blk⟩
theorem Ob5.ext (h : Ob5 W p o) (hx : Ext W W') : Ob5 W' p o := h.same (hx.block p h.lt)
theorem Ob5.kp {g m b : Nat} (h : Ob5 W p o) (hk : Kp g m b W W') (h1 : p ≠ g) (h2 : p ≠ m) (h3 : p ≠ b) : Ob5 W' p o := h.same (hk.block p h.lt h1 h2 h3)
end
theorem Ob5.new (W : World) (o : Op05) : Ob5 (W.alloc (.cells (ocells o).toArray 31)) W.heap.size o := ⟨heap_alloc_new W _⟩
theorem wf_top {n : Int} (h : (Lit.int .i64 n).wf = true) : n < 2 ^ 63 := by
  simp only [Lit.wf, IntKind.min, IntKind.max, IntKind.signed, IntKind.bits, Bool.and_eq_true, decide_eq_true_eq, if_true] at h
  omega
set_option maxRecDepth 100000 in
set_option maxHeartbeats 4000000 in
theorem does_any5 (w : World) (g m b N : Nat) (d : Disks.D) (h : Ds w g m b N d) (hN : N < maxLen) (o : Op05) (ho : Ok05 o) (hl : Bls w o.A o.m o.c o.l) (ha : 0 < o.m → Awy g m b o.A) :
    Calls Try.prog 21 #[dptr g, oval o] w fun e w' => e = .returned (.tuple #[]) ∧ Ds w' g m b (N + 1) (doesD d o) ∧ Kp g m b w w' := by
  have hO := Ob5.new w o
  have hX := Ext.alloc w (.cells (ocells o).toArray 31)
  have hlt := h.lts
  have HD := Lib.hid (h.ext hX)
  have HL := Lib.hid (hl.ext hX)
  have HA := Lib.hid ha
  have HOK := Lib.hid ho
  have hof := fun W => of_any5 W o.b
  have HOF := Lib.hid hof
  obtain ⟨p, hp⟩ : ∃ p, w.heap.size = p := ⟨_, rfl⟩
  have HP := Lib.hid (show p ≠ g ∧ p ≠ m ∧ p ≠ b by omega)
  obtain ⟨w0, hw0⟩ : ∃ w0, w.alloc (.cells (ocells o).toArray 31) = w0 := ⟨_, rfl⟩
  rw [hp] at hO
  rw [hw0] at hO hX HD HL
  have HO := Lib.hid hO
  have HX := Lib.hid hX
  have k0 := hO.c0
  have k1 := hO.c1
  have k2 := hO.c2
  have k3 := hO.c3
  have k4 := hO.c4
  have k5 := hO.c5
  clear hO hX hlt h hl ha ho hof
  rcases (show (o.kind = 1 ∨ o.kind = 2 ∨ o.kind = 3 ∨ o.kind = 4) ∨ (o.kind = 5 ∨ o.kind = 6) ∨ o.kind = 8 ∨ o.kind = 9 ∨ (o.kind = 10 ∨ o.kind = 11) ∨ (o.kind ≠ 1 ∧ o.kind ≠ 2 ∧ o.kind ≠ 3 ∧ o.kind ≠ 4 ∧ o.kind ≠ 5 ∧ o.kind ≠ 6 ∧ o.kind ≠ 8 ∧ o.kind ≠ 9 ∧ o.kind ≠ 10 ∧ o.kind ≠ 11) by omega) with (hk | hk | hk | hk) | (hk | hk) | hk | hk | (hk | hk) | hk
  · have HE := Lib.hid (show doesD d o = Disks.writeD d o.i (rep o.b) by unfold doesD; rw [if_pos (by omega)])
    rw [hk] at k0
    clear hk
    go_enter Try.func21, Try.ntmps21
    go_wp2_with (fail)
    have hHeld : (fun W : World => Hid (Ob5 W p o ∧ Ds W g m b N d ∧ Ext w W)) w0.drew := Lib.hid ⟨HO.out.ext (Ext.drew _), HD.out.ext (Ext.drew _), HX.out.trans (Ext.drew _)⟩
    clear k0 k1 k2 k3 k4 k5
    refine wp_region_T (S := fun W : World => Hid (Ob5 W p o ∧ Ds W g m b N d ∧ Ext w W)) 6 rfl rfl ?_
    refine pureT (i := 0) (v := ?_) rfl (by kernel_rfl) (by kernel_rfl) (by kernel_rfl) (by decide) (fun _ _ _ h => h) (Or.inl ⟨by rfl, ?_⟩) (fun _ => by assumption) ?_
    rotate_left
    · (intro W9 hSw; go_simp; (try with_reducible rfl))
    try simp only [Act.put, List.setIfInBounds_toArray, List.set_cons_zero, List.set_cons_succ]
    refine pureT (i := 1) (v := ?_) rfl (by kernel_rfl) (by kernel_rfl) (by kernel_rfl) (by decide) (fun _ _ _ h => h) (Or.inl ⟨by rfl, ?_⟩) (fun _ => by assumption) ?_
    rotate_left
    · (intro W9 hSw; go_simp; (try with_reducible rfl))
    try simp only [Act.put, List.setIfInBounds_toArray, List.set_cons_zero, List.set_cons_succ]
    refine takeT (i := 2) (v := ?_) rfl (by kernel_rfl) (by kernel_rfl) (by kernel_rfl) (by kernel_rfl) (by decide) (fun _ _ _ h => h) (by kernel_rfl) (Or.inl ⟨by rfl, ?_⟩) (by assumption) ?_
    rotate_left
    · (intro W9 hSw; (have k9 := hSw.out.1.c1); go_simp; (try with_reducible rfl))
    try simp only [Act.put, List.setIfInBounds_toArray, List.set_cons_zero, List.set_cons_succ]
    refine pureT (i := 3) (v := ?_) rfl (by kernel_rfl) (by kernel_rfl) (by kernel_rfl) (by decide) (fun _ _ _ h => h) (Or.inl ⟨by rfl, ?_⟩) (fun _ => by assumption) ?_
    rotate_left
    · (intro W9 hSw; go_simp; (try with_reducible rfl))
    try simp only [Act.put, List.setIfInBounds_toArray, List.set_cons_zero, List.set_cons_succ]
    refine oneT (i := 4) rfl (by kernel_rfl) (fun K hK => ?_)
    rw [if_pos (by kernel_rfl)]
    have k9 := hHeld.out.1.c4
    go_wp2_with (fail)
    refine hK.out _ _ (fun _ => hHeld) ?_
    clear hK K k9
    try simp only [Act.put, List.setIfInBounds_toArray, List.set_cons_zero, List.set_cons_succ]
    refine oneT (i := 5) rfl (by kernel_rfl) (fun K hK => ?_)
    rw [if_pos (by kernel_rfl)]
    go_wp2_with (fail)
    with_reducible refine (HOF.out _).mono ?_
    rintro e w1 ⟨pa, rfl, oa⟩
    have OA := Lib.hid oa
    have S1 := Lib.hid (hHeld.out.2.1.ext oa.ext)
    have AW := Lib.hid (Awy.fresh (o := 0) hHeld.out.2.1 oa.le)
    have X1 := Lib.hid (hHeld.out.2.2.trans oa.ext)
    have hS1 : (fun W : World => Hid (Ob5 W p o ∧ Ds W g m b N d ∧ Ext w W)) w1 := Lib.hid ⟨hHeld.out.1.ext oa.ext, S1.out, X1.out⟩
    clear oa hHeld
    go_wp2_with (fail)
    refine hK.out _ _ (fun _ => hS1) ?_
    clear hK K
    try simp only [Act.put, List.setIfInBounds_toArray, List.set_cons_zero, List.set_cons_succ]
    refine oneT (i := 6) rfl (by kernel_rfl) (fun K hK => ?_)
    rw [if_pos (by kernel_rfl)]
    go_wp2_with (fail)
    have hc := S1.out.write hN o.i _ _ _ (rep o.b) (OA.out.bs (by rw [rep_len]; omega) (rep_len _)) AW.out rfl rfl
    with_reducible refine hc.mono ?_
    rintro e w2 ⟨rfl, d2, q2⟩
    have D2 := Lib.hid d2
    have Q2 := Lib.hid ((Kp.of X1.out g m b).trans q2)
    clear d2 q2 hc hS1
    go_wp2_with (fail)
    refine hK.out _ _ (fun h => absurd (show true = false from h) (by decide)) ?_
    clear hK K
    try simp only [Act.put, List.setIfInBounds_toArray, List.set_cons_zero, List.set_cons_succ]
    refine doneT (by kernel_rfl) ?_ _
    go_wp2_with (fail)
    refine bodyPost_end (results_none rfl _ _ _) rfl ?_
    rw [HE.out]
    exact ⟨rfl, D2.out, Q2.out⟩
  · have HE := Lib.hid (show doesD d o = Disks.writeD d o.i (rep o.b) by unfold doesD; rw [if_pos (by omega)])
    rw [hk] at k0
    clear hk
    go_enter Try.func21, Try.ntmps21
    go_wp2_with (fail)
    have hHeld : (fun W : World => Hid (Ob5 W p o ∧ Ds W g m b N d ∧ Ext w W)) w0.drew := Lib.hid ⟨HO.out.ext (Ext.drew _), HD.out.ext (Ext.drew _), HX.out.trans (Ext.drew _)⟩
    clear k0 k1 k2 k3 k4 k5
    refine wp_region_T (S := fun W : World => Hid (Ob5 W p o ∧ Ds W g m b N d ∧ Ext w W)) 6 rfl rfl ?_
    refine pureT (i := 0) (v := ?_) rfl (by kernel_rfl) (by kernel_rfl) (by kernel_rfl) (by decide) (fun _ _ _ h => h) (Or.inl ⟨by rfl, ?_⟩) (fun _ => by assumption) ?_
    rotate_left
    · (intro W9 hSw; go_simp; (try with_reducible rfl))
    try simp only [Act.put, List.setIfInBounds_toArray, List.set_cons_zero, List.set_cons_succ]
    refine pureT (i := 1) (v := ?_) rfl (by kernel_rfl) (by kernel_rfl) (by kernel_rfl) (by decide) (fun _ _ _ h => h) (Or.inl ⟨by rfl, ?_⟩) (fun _ => by assumption) ?_
    rotate_left
    · (intro W9 hSw; go_simp; (try with_reducible rfl))
    try simp only [Act.put, List.setIfInBounds_toArray, List.set_cons_zero, List.set_cons_succ]
    refine takeT (i := 2) (v := ?_) rfl (by kernel_rfl) (by kernel_rfl) (by kernel_rfl) (by kernel_rfl) (by decide) (fun _ _ _ h => h) (by kernel_rfl) (Or.inl ⟨by rfl, ?_⟩) (by assumption) ?_
    rotate_left
    · (intro W9 hSw; (have k9 := hSw.out.1.c1); go_simp; (try with_reducible rfl))
    try simp only [Act.put, List.setIfInBounds_toArray, List.set_cons_zero, List.set_cons_succ]
    refine pureT (i := 3) (v := ?_) rfl (by kernel_rfl) (by kernel_rfl) (by kernel_rfl) (by decide) (fun _ _ _ h => h) (Or.inl ⟨by rfl, ?_⟩) (fun _ => by assumption) ?_
    rotate_left
    · (intro W9 hSw; go_simp; (try with_reducible rfl))
    try simp only [Act.put, List.setIfInBounds_toArray, List.set_cons_zero, List.set_cons_succ]
    refine oneT (i := 4) rfl (by kernel_rfl) (fun K hK => ?_)
    rw [if_pos (by kernel_rfl)]
    have k9 := hHeld.out.1.c4
    go_wp2_with (fail)
    refine hK.out _ _ (fun _ => hHeld) ?_
    clear hK K k9
    try simp only [Act.put, List.setIfInBounds_toArray, List.set_cons_zero, List.set_cons_succ]
    refine oneT (i := 5) rfl (by kernel_rfl) (fun K hK => ?_)
    rw [if_pos (by kernel_rfl)]
    go_wp2_with (fail)
    with_reducible refine (HOF.out _).mono ?_
    rintro e w1 ⟨pa, rfl, oa⟩
    have OA := Lib.hid oa
    have S1 := Lib.hid (hHeld.out.2.1.ext oa.ext)
    have AW := Lib.hid (Awy.fresh (o := 0) hHeld.out.2.1 oa.le)
    have X1 := Lib.hid (hHeld.out.2.2.trans oa.ext)
    have hS1 : (fun W : World => Hid (Ob5 W p o ∧ Ds W g m b N d ∧ Ext w W)) w1 := Lib.hid ⟨hHeld.out.1.ext oa.ext, S1.out, X1.out⟩
    clear oa hHeld
    go_wp2_with (fail)
    refine hK.out _ _ (fun _ => hS1) ?_
    clear hK K
    try simp only [Act.put, List.setIfInBounds_toArray, List.set_cons_zero, List.set_cons_succ]
    refine oneT (i := 6) rfl (by kernel_rfl) (fun K hK => ?_)
    rw [if_pos (by kernel_rfl)]
    go_wp2_with (fail)
    have hc := S1.out.write hN o.i _ _ _ (rep o.b) (OA.out.bs (by rw [rep_len]; omega) (rep_len _)) AW.out rfl rfl
    with_reducible refine hc.mono ?_
    rintro e w2 ⟨rfl, d2, q2⟩
    have D2 := Lib.hid d2
    have Q2 := Lib.hid ((Kp.of X1.out g m b).trans q2)
    clear d2 q2 hc hS1
    go_wp2_with (fail)
    refine hK.out _ _ (fun h => absurd (show true = false from h) (by decide)) ?_
    clear hK K
    try simp only [Act.put, List.setIfInBounds_toArray, List.set_cons_zero, List.set_cons_succ]
    refine doneT (by kernel_rfl) ?_ _
    go_wp2_with (fail)
    refine bodyPost_end (results_none rfl _ _ _) rfl ?_
    rw [HE.out]
    exact ⟨rfl, D2.out, Q2.out⟩
  · have HE := Lib.hid (show doesD d o = Disks.writeD d o.i (rep o.b) by unfold doesD; rw [if_pos (by omega)])
    rw [hk] at k0
    clear hk
    go_enter Try.func21, Try.ntmps21
    go_wp2_with (fail)
    have hHeld : (fun W : World => Hid (Ob5 W p o ∧ Ds W g m b N d ∧ Ext w W)) w0.drew := Lib.hid ⟨HO.out.ext (Ext.drew _), HD.out.ext (Ext.drew _), HX.out.trans (Ext.drew _)⟩
    clear k0 k1 k2 k3 k4 k5
    refine wp_region_T (S := fun W : World => Hid (Ob5 W p o ∧ Ds W g m b N d ∧ Ext w W)) 6 rfl rfl ?_
    refine pureT (i := 0) (v := ?_) rfl (by kernel_rfl) (by kernel_rfl) (by kernel_rfl) (by decide) (fun _ _ _ h => h) (Or.inl ⟨by rfl, ?_⟩) (fun _ => by assumption) ?_
    rotate_left
    · (intro W9 hSw; go_simp; (try with_reducible rfl))
    try simp only [Act.put, List.setIfInBounds_toArray, List.set_cons_zero, List.set_cons_succ]
    refine pureT (i := 1) (v := ?_) rfl (by kernel_rfl) (by kernel_rfl) (by kernel_rfl) (by decide) (fun _ _ _ h => h) (Or.inl ⟨by rfl, ?_⟩) (fun _ => by assumption) ?_
    rotate_left
    · (intro W9 hSw; go_simp; (try with_reducible rfl))
    try simp only [Act.put, List.setIfInBounds_toArray, List.set_cons_zero, List.set_cons_succ]
    refine takeT (i := 2) (v := ?_) rfl (by kernel_rfl) (by kernel_rfl) (by kernel_rfl) (by kernel_rfl) (by decide) (fun _ _ _ h => h) (by kernel_rfl) (Or.inl ⟨by rfl, ?_⟩) (by assumption) ?_
    rotate_left
    · (intro W9 hSw; (have k9 := hSw.out.1.c1); go_simp; (try with_reducible rfl))
    try simp only [Act.put, List.setIfInBounds_toArray, List.set_cons_zero, List.set_cons_succ]
    refine pureT (i := 3) (v := ?_) rfl (by kernel_rfl) (by kernel_rfl) (by kernel_rfl) (by decide) (fun _ _ _ h => h) (Or.inl ⟨by rfl, ?_⟩) (fun _ => by assumption) ?_
    rotate_left
    · (intro W9 hSw; go_simp; (try with_reducible rfl))
    try simp only [Act.put, List.setIfInBounds_toArray, List.set_cons_zero, List.set_cons_succ]
    refine oneT (i := 4) rfl (by kernel_rfl) (fun K hK => ?_)
    rw [if_pos (by kernel_rfl)]
    have k9 := hHeld.out.1.c4
    go_wp2_with (fail)
    refine hK.out _ _ (fun _ => hHeld) ?_
    clear hK K k9
    try simp only [Act.put, List.setIfInBounds_toArray, List.set_cons_zero, List.set_cons_succ]
    refine oneT (i := 5) rfl (by kernel_rfl) (fun K hK => ?_)
    rw [if_pos (by kernel_rfl)]
    go_wp2_with (fail)
    with_reducible refine (HOF.out _).mono ?_
    rintro e w1 ⟨pa, rfl, oa⟩
    have OA := Lib.hid oa
    have S1 := Lib.hid (hHeld.out.2.1.ext oa.ext)
    have AW := Lib.hid (Awy.fresh (o := 0) hHeld.out.2.1 oa.le)
    have X1 := Lib.hid (hHeld.out.2.2.trans oa.ext)
    have hS1 : (fun W : World => Hid (Ob5 W p o ∧ Ds W g m b N d ∧ Ext w W)) w1 := Lib.hid ⟨hHeld.out.1.ext oa.ext, S1.out, X1.out⟩
    clear oa hHeld
    go_wp2_with (fail)
    refine hK.out _ _ (fun _ => hS1) ?_
    clear hK K
    try simp only [Act.put, List.setIfInBounds_toArray, List.set_cons_zero, List.set_cons_succ]
    refine oneT (i := 6) rfl (by kernel_rfl) (fun K hK => ?_)
    rw [if_pos (by kernel_rfl)]
    go_wp2_with (fail)
    have hc := S1.out.write hN o.i _ _ _ (rep o.b) (OA.out.bs (by rw [rep_len]; omega) (rep_len _)) AW.out rfl rfl
    with_reducible refine hc.mono ?_
    rintro e w2 ⟨rfl, d2, q2⟩
    have D2 := Lib.hid d2
    have Q2 := Lib.hid ((Kp.of X1.out g m b).trans q2)
    clear d2 q2 hc hS1
    go_wp2_with (fail)
    refine hK.out _ _ (fun h => absurd (show true = false from h) (by decide)) ?_
    clear hK K
    try simp only [Act.put, List.setIfInBounds_toArray, List.set_cons_zero, List.set_cons_succ]
    refine doneT (by kernel_rfl) ?_ _
    go_wp2_with (fail)
    refine bodyPost_end (results_none rfl _ _ _) rfl ?_
    rw [HE.out]
    exact ⟨rfl, D2.out, Q2.out⟩
  · have HE := Lib.hid (show doesD d o = Disks.writeD d o.i (rep o.b) by unfold doesD; rw [if_pos (by omega)])
    rw [hk] at k0
    clear hk
    go_enter Try.func21, Try.ntmps21
    go_wp2_with (fail)
    have hHeld : (fun W : World => Hid (Ob5 W p o ∧ Ds W g m b N d ∧ Ext w W)) w0.drew := Lib.hid ⟨HO.out.ext (Ext.drew _), HD.out.ext (Ext.drew _), HX.out.trans (Ext.drew _)⟩
    clear k0 k1 k2 k3 k4 k5
    refine wp_region_T (S := fun W : World => Hid (Ob5 W p o ∧ Ds W g m b N d ∧ Ext w W)) 6 rfl rfl ?_
    refine pureT (i := 0) (v := ?_) rfl (by kernel_rfl) (by kernel_rfl) (by kernel_rfl) (by decide) (fun _ _ _ h => h) (Or.inl ⟨by rfl, ?_⟩) (fun _ => by assumption) ?_
    rotate_left
    · (intro W9 hSw; go_simp; (try with_reducible rfl))
    try simp only [Act.put, List.setIfInBounds_toArray, List.set_cons_zero, List.set_cons_succ]
    refine pureT (i := 1) (v := ?_) rfl (by kernel_rfl) (by kernel_rfl) (by kernel_rfl) (by decide) (fun _ _ _ h => h) (Or.inl ⟨by rfl, ?_⟩) (fun _ => by assumption) ?_
    rotate_left
    · (intro W9 hSw; go_simp; (try with_reducible rfl))
    try simp only [Act.put, List.setIfInBounds_toArray, List.set_cons_zero, List.set_cons_succ]
    refine takeT (i := 2) (v := ?_) rfl (by kernel_rfl) (by kernel_rfl) (by kernel_rfl) (by kernel_rfl) (by decide) (fun _ _ _ h => h) (by kernel_rfl) (Or.inl ⟨by rfl, ?_⟩) (by assumption) ?_
    rotate_left
    · (intro W9 hSw; (have k9 := hSw.out.1.c1); go_simp; (try with_reducible rfl))
    try simp only [Act.put, List.setIfInBounds_toArray, List.set_cons_zero, List.set_cons_succ]
    refine pureT (i := 3) (v := ?_) rfl (by kernel_rfl) (by kernel_rfl) (by kernel_rfl) (by decide) (fun _ _ _ h => h) (Or.inl ⟨by rfl, ?_⟩) (fun _ => by assumption) ?_
    rotate_left
    · (intro W9 hSw; go_simp; (try with_reducible rfl))
    try simp only [Act.put, List.setIfInBounds_toArray, List.set_cons_zero, List.set_cons_succ]
    refine oneT (i := 4) rfl (by kernel_rfl) (fun K hK => ?_)
    rw [if_pos (by kernel_rfl)]
    have k9 := hHeld.out.1.c4
    go_wp2_with (fail)
    refine hK.out _ _ (fun _ => hHeld) ?_
    clear hK K k9
    try simp only [Act.put, List.setIfInBounds_toArray, List.set_cons_zero, List.set_cons_succ]
    refine oneT (i := 5) rfl (by kernel_rfl) (fun K hK => ?_)
    rw [if_pos (by kernel_rfl)]
    go_wp2_with (fail)
    with_reducible refine (HOF.out _).mono ?_
    rintro e w1 ⟨pa, rfl, oa⟩
    have OA := Lib.hid oa
    have S1 := Lib.hid (hHeld.out.2.1.ext oa.ext)
    have AW := Lib.hid (Awy.fresh (o := 0) hHeld.out.2.1 oa.le)
    have X1 := Lib.hid (hHeld.out.2.2.trans oa.ext)
    have hS1 : (fun W : World => Hid (Ob5 W p o ∧ Ds W g m b N d ∧ Ext w W)) w1 := Lib.hid ⟨hHeld.out.1.ext oa.ext, S1.out, X1.out⟩
    clear oa hHeld
    go_wp2_with (fail)
    refine hK.out _ _ (fun _ => hS1) ?_
    clear hK K
    try simp only [Act.put, List.setIfInBounds_toArray, List.set_cons_zero, List.set_cons_succ]
    refine oneT (i := 6) rfl (by kernel_rfl) (fun K hK => ?_)
    rw [if_pos (by kernel_rfl)]
    go_wp2_with (fail)
    have hc := S1.out.write hN o.i _ _ _ (rep o.b) (OA.out.bs (by rw [rep_len]; omega) (rep_len _)) AW.out rfl rfl
    with_reducible refine hc.mono ?_
    rintro e w2 ⟨rfl, d2, q2⟩
    have D2 := Lib.hid d2
    have Q2 := Lib.hid ((Kp.of X1.out g m b).trans q2)
    clear d2 q2 hc hS1
    go_wp2_with (fail)
    refine hK.out _ _ (fun h => absurd (show true = false from h) (by decide)) ?_
    clear hK K
    try simp only [Act.put, List.setIfInBounds_toArray, List.set_cons_zero, List.set_cons_succ]
    refine doneT (by kernel_rfl) ?_ _
    go_wp2_with (fail)
    refine bodyPost_end (results_none rfl _ _ _) rfl ?_
    rw [HE.out]
    exact ⟨rfl, D2.out, Q2.out⟩
  · have HE := Lib.hid (show doesD d o = Disks.flushD d by unfold doesD; rw [if_neg (by omega), if_pos (by omega)])
    rw [hk] at k0
    clear hk
    go_enter Try.func21, Try.ntmps21
    go_wp2_with (fail)
    have hc := HD.out.flush rfl rfl
    with_reducible refine hc.mono ?_
    rintro e w2 ⟨rfl, d2, q2⟩
    have D2 := Lib.hid (d2.mono (Nat.le_succ N))
    have Q2 := Lib.hid ((Kp.of HX.out g m b).trans q2)
    clear d2 q2 hc
    go_wp2_with (fail)
    refine bodyPost_end (results_none rfl _ _ _) rfl ?_
    rw [HE.out]
    exact ⟨rfl, D2.out, Q2.out⟩
  · have HE := Lib.hid (show doesD d o = Disks.flushD d by unfold doesD; rw [if_neg (by omega), if_pos (by omega)])
    rw [hk] at k0
    clear hk
    go_enter Try.func21, Try.ntmps21
    go_wp2_with (fail)
    have hc := HD.out.flush rfl rfl
    with_reducible refine hc.mono ?_
    rintro e w2 ⟨rfl, d2, q2⟩
    have D2 := Lib.hid (d2.mono (Nat.le_succ N))
    have Q2 := Lib.hid ((Kp.of HX.out g m b).trans q2)
    clear d2 q2 hc
    go_wp2_with (fail)
    refine bodyPost_end (results_none rfl _ _ _) rfl ?_
    rw [HE.out]
    exact ⟨rfl, D2.out, Q2.out⟩
  · have HE := Lib.hid (show doesD d o = Disks.spoilD d o.i o.at_ o.b by unfold doesD; rw [if_neg (by omega), if_neg (by omega), if_pos (by omega)])
    rw [hk] at k0
    clear hk
    go_enter Try.func21, Try.ntmps21
    go_wp2_with (fail)
    have hc := HD.out.spoil o.i o.at_ o.b rfl rfl
    with_reducible refine hc.mono ?_
    rintro e w2 ⟨rfl, d2, q2⟩
    have D2 := Lib.hid (d2.mono (Nat.le_succ N))
    have Q2 := Lib.hid ((Kp.of HX.out g m b).trans q2)
    clear d2 q2 hc
    go_wp2_with (fail)
    refine bodyPost_end (results_none rfl _ _ _) rfl ?_
    rw [HE.out]
    exact ⟨rfl, D2.out, Q2.out⟩
  · have HE := Lib.hid (show doesD d o = Disks.armD d o.n by unfold doesD; rw [if_neg (by omega), if_neg (by omega), if_neg (by omega), if_pos (by omega)])
    rw [hk] at k0
    clear hk
    go_enter Try.func21, Try.ntmps21
    go_wp2_with (fail)
    have hc := HD.out.arm o.n (wf_top HOK.out.n) rfl
    with_reducible refine hc.mono ?_
    rintro e w2 ⟨rfl, d2, q2⟩
    have D2 := Lib.hid (d2.mono (Nat.le_succ N))
    have Q2 := Lib.hid ((Kp.of HX.out g m b).trans q2)
    clear d2 q2 hc
    go_wp2_with (fail)
    refine bodyPost_end (results_none rfl _ _ _) rfl ?_
    rw [HE.out]
    exact ⟨rfl, D2.out, Q2.out⟩
  · have HE := Lib.hid (show doesD d o = Disks.crashD d o.l by unfold doesD; rw [if_neg (by omega), if_neg (by omega), if_neg (by omega), if_neg (by omega), if_pos (by omega)])
    rw [hk] at k0
    clear hk
    go_enter Try.func21, Try.ntmps21
    go_wp2_with (fail)
    have hc := HD.out.crash' o.A o.m o.c o.l HL.out HA.out rfl
    with_reducible refine hc.mono ?_
    rintro e w2 ⟨rfl, d2, q2⟩
    have D2 := Lib.hid (d2.mono (Nat.le_succ N))
    have Q2 := Lib.hid ((Kp.of HX.out g m b).trans q2)
    clear d2 q2 hc
    go_wp2_with (fail)
    refine bodyPost_end (results_none rfl _ _ _) rfl ?_
    rw [HE.out]
    exact ⟨rfl, D2.out, Q2.out⟩
  · have HE := Lib.hid (show doesD d o = Disks.crashD d o.l by unfold doesD; rw [if_neg (by omega), if_neg (by omega), if_neg (by omega), if_neg (by omega), if_pos (by omega)])
    rw [hk] at k0
    clear hk
    go_enter Try.func21, Try.ntmps21
    go_wp2_with (fail)
    have hc := HD.out.crash' o.A o.m o.c o.l HL.out HA.out rfl
    with_reducible refine hc.mono ?_
    rintro e w2 ⟨rfl, d2, q2⟩
    have D2 := Lib.hid (d2.mono (Nat.le_succ N))
    have Q2 := Lib.hid ((Kp.of HX.out g m b).trans q2)
    clear d2 q2 hc
    go_wp2_with (fail)
    refine bodyPost_end (results_none rfl _ _ _) rfl ?_
    rw [HE.out]
    exact ⟨rfl, D2.out, Q2.out⟩
  · have HE := Lib.hid (show doesD d o = d by unfold doesD; rw [if_neg (by omega), if_neg (by omega), if_neg (by omega), if_neg (by omega), if_neg (by omega)])
    obtain ⟨n1, n2, n3, n4, n5, n6, n8, n9, n10, n11⟩ := hk
    replace n1 : (o.kind == 1) = false := beq_eq_false_iff_ne.2 n1
    replace n2 : (o.kind == 2) = false := beq_eq_false_iff_ne.2 n2
    replace n3 : (o.kind == 3) = false := beq_eq_false_iff_ne.2 n3
    replace n4 : (o.kind == 4) = false := beq_eq_false_iff_ne.2 n4
    replace n5 : (o.kind == 5) = false := beq_eq_false_iff_ne.2 n5
    replace n6 : (o.kind == 6) = false := beq_eq_false_iff_ne.2 n6
    replace n8 : (o.kind == 8) = false := beq_eq_false_iff_ne.2 n8
    replace n9 : (o.kind == 9) = false := beq_eq_false_iff_ne.2 n9
    replace n10 : (o.kind == 10) = false := beq_eq_false_iff_ne.2 n10
    replace n11 : (o.kind == 11) = false := beq_eq_false_iff_ne.2 n11
    go_enter Try.func21, Try.ntmps21
    go_wp2_with (fail)
    refine bodyPost_end (results_none rfl _ _ _) rfl ?_
    rw [HE.out]
    exact ⟨rfl, HD.out.mono (Nat.le_succ N), Kp.of HX.out ..⟩
end Go.Proofs.Ytbfbiofndipaaaa
namespace Go.Proofs.Ytbfbiofndipaaaa
open Go.RowKit Go.Maps Go.Sort Go.Shelf

theorem op_under : ∃ d, Try.prog.underlying 31 = some d ∧ d.isRow = true := ⟨_, Try.underlying31, rfl⟩
theorem op_info : (Try.prog.info? 31).map (·.size) = some 6 := by kernel_rfl
theorem op_loads {w : World} {p off : Nat} {o : Op05} (h : w.rangeAt p off (ocells o)) : (Instr.loadAt 31 (.pointer (some ⟨p, off, none⟩))).run Try.prog w = .ok (oval o) w := by
  obtain ⟨d, hd, hr⟩ := op_under
  have hi : (Try.prog.info? 31).map (·.size) = some (ocells o).length := op_info
  simp only [Instr.loadAt, Instr.sureAddr, Sem.run_bind, Sem.run_pure, Result.andThen_ok, run_loadVar_mid w p off 31 (ocells o) d h hd hr hi]
theorem six_range {w : World} {p off : Nat} {o : Op05} (c0 : w.cell? ⟨p, off, none⟩ = some (.int .i64 o.kind)) (c1 : w.cell? ⟨p, off + 1, none⟩ = some (.int .i64 o.i)) (c2 : w.cell? ⟨p, off + 2, none⟩ = some (.int .i64 o.at_)) (c3 : w.cell? ⟨p, off + 3, none⟩ = some (.int .i64 o.n)) (c4 : w.cell? ⟨p, off + 4, none⟩ = some (.int .u8 (o.b.toNat : Int))) (c5 : w.cell? ⟨p, off + 5, none⟩ = some (.slice o.A o.m o.c)) : w.rangeAt p off (ocells o) := fun j v hv => by
  match j with
  | 0 => injection hv with hv; rw [← hv]; exact c0
  | 1 => injection hv with hv; rw [← hv]; exact c1
  | 2 => injection hv with hv; rw [← hv]; exact c2
  | 3 => injection hv with hv; rw [← hv]; exact c3
  | 4 => injection hv with hv; rw [← hv]; exact c4
  | 5 => injection hv with hv; rw [← hv]; exact c5
  | j + 6 => cases hv
theorem Ob5.load {W : World} {p : Nat} {o : Op05} (h : Ob5 W p o) : (Instr.loadAt 31 (.pointer (some ⟨p, 0, none⟩))).run Try.prog W = .ok (oval o) W :=
  op_loads (six_range h.c0 h.c1 h.c2 h.c3 h.c4 h.c5)
/-- Number k of the ops is loaded. -/
theorem Os05.load {w : World} {A : Option Addr} {n c : Nat} {o : Nat → Op05} (h : Os05 w A n c o) {k : Nat} (hk : k < n) : ∃ b off, A = some ⟨b, off, none⟩ ∧ (Instr.loadAt 31 (.pointer (some ⟨b, off + k * 6, none⟩))).run Try.prog w = .ok (oval (o k)) w := by
  obtain ⟨b, off, e, c0, c1, c2, c3, c4, c5, _⟩ := h.at_ k hk
  exact ⟨b, off, e, op_loads (six_range c0 c1 c2 c3 c4 c5)⟩
theorem Os05.bls {w : World} {A : Option Addr} {n c : Nat} {o : Nat → Op05} (h : Os05 w A n c o) {k : Nat} (hk : k < n) : Bls w (o k).A (o k).m (o k).c (o k).l ∧ Ok05 (o k) := by
  obtain ⟨b, off, e, c0, c1, c2, c3, c4, c5, h6, h7⟩ := h.at_ k hk
  exact ⟨h6, h7⟩
def zop : Obj := .cells #[.int .i64 0, .int .i64 0, .int .i64 0, .int .i64 0, .int .u8 0, .slice none 0 0] 31 (0, 0)
theorem run_alloc_op (w : World) : (Instr.alloc 31 true (.tuple #[])).run Try.prog w = .ok (.pointer (some ⟨w.heap.size, 0, none⟩)) (w.alloc zop) := by kernel_rfl
theorem setCells_six {w : World} {p : Nat} {a b c d e f : Value} {T : TypeId} (h : w.heap[p]? = some (.cells #[a, b, c, d, e, f] T (0, 0))) (vs : List Value) (hv : vs.length = 6) : (w.setCells p 0 vs).heap[p]? = some (.cells vs.toArray T (0, 0)) := by
  match vs, hv with
  | [a', b', c', d', e', f'], _ =>
    have h1 := heap_setCell_same w p 0 _ _ a' h
    have h2 := heap_setCell_same _ p 1 _ _ b' h1
    have h3 := heap_setCell_same _ p 2 _ _ c' h2
    have h4 := heap_setCell_same _ p 3 _ _ d' h3
    have h5 := heap_setCell_same _ p 4 _ _ e' h4
    have h6 := heap_setCell_same _ p 5 _ _ f' h5
    exact h6
/-- A new variable of an op, written. -/
theorem op_copy (w : World) (o : Op05) : ∃ w', (Instr.storeAt 31 (.pointer (some ⟨w.heap.size, 0, none⟩)) (oval o)).run Try.prog (w.alloc zop) = .ok () w' ∧ Ob5 w' w.heap.size o ∧ Ext w w' := by
  have hb : (w.alloc zop).heap[w.heap.size]? = some zop := heap_alloc_new w _
  have hth : (w.alloc zop).there w.heap.size 0 6 := fun j hj => ⟨by
    rw [cell_of_row _ _ _ _ _ _ hb]
    have hl : 0 + j < (#[.int .i64 0, .int .i64 0, .int .i64 0, .int .i64 0, .int .u8 0, .slice none 0 0] : Array Value).size := by show 0 + j < 6; omega
    rw [Array.getElem?_eq_getElem hl]; rfl, frozen_of_row _ _ _ _ _ hb⟩
  have hi : (Try.prog.info? 31).map (·.size) = some (ocells o).toArray.size := op_info
  have hall : (ocells o).toArray.all (·.oneCell') = true := all_oneCell_toArray (fun v hv => by
    simp only [ocells, List.mem_cons, List.not_mem_nil, or_false] at hv
    rcases hv with rfl | rfl | rfl | rfl | rfl | rfl <;> rfl)
  have hr := run_storeVar_mid (P := Try.prog) (w.alloc zop) w.heap.size 0 31 (ocells o).toArray hth hi hall
  refine ⟨(w.alloc zop).setCells w.heap.size 0 (ocells o), by simp only [Instr.storeAt, Instr.sureAddr, Sem.run_bind, Sem.run_pure, Result.andThen_ok, hr], ⟨setCells_six hb _ rfl⟩, below_setCells (Nat.le_refl _) _ _ _ (Ext.alloc w _)⟩
theorem Ob5.set1 {W : World} {p : Nat} {o : Op05} (h : Ob5 W p o) (x : Int) : Ob5 (W.setCell ⟨p, 1, none⟩ (.int .i64 x)) p { o with i := x } := ⟨heap_setCell_same W p 1 _ _ (.int .i64 x) h.blk⟩
/-- What came in lies away from a younger disk. -/
theorem Bls.awy {w : World} {A : Option Addr} {n c : Nat} {l : List Bool} (h : Bls w A n c l) {g m b : Nat} (hg : w.heap.size ≤ g ∧ w.heap.size ≤ m ∧ w.heap.size ≤ b) : 0 < n → Awy g m b A := fun hn p hp => by
  obtain ⟨z, o, e, q⟩ := h.rd 0 hn
  rw [e] at hp
  injection hp with hp
  rw [← hp]
  have := World.block_lt_of_cell? _ _ q
  exact ⟨fun e => by have e : z = g := e; have : z < w.heap.size := this; omega, fun e => by have e : z = m := e; have : z < w.heap.size := this; omega, fun e => by have e : z = b := e; have : z < w.heap.size := this; omega⟩
theorem Ds.farC {w : World} {g m b N : Nat} {d : Disks.D} (h : Ds w g m b N d) {p : Addr} (h1 : p.block ≠ g) (h2 : p.block ≠ m) (h3 : p.block ≠ b) (u : Value) : Ds (w.setCell p u) g m b N d := by
  obtain ⟨n, D, hn, hd⟩ := h.ex
  exact ⟨⟨n, D, hn, hd.far h1 h2 h3 u⟩, h.ok⟩
theorem int_store (w : World) (p j : Nat) (x : Int) {v : Value} (hc : w.cell? ⟨p, j, none⟩ = some v) (hf : w.frozen? ⟨p, j, none⟩ = false) : (Instr.storeAt 3 (.pointer (some ⟨p, j, none⟩)) (.int .i64 x)).run Try.prog w = .ok () (w.setCell ⟨p, j, none⟩ (.int .i64 x)) := by
  simp [go_sem, hc, hf]
end Go.Proofs.Ytbfbiofndipaaaa
