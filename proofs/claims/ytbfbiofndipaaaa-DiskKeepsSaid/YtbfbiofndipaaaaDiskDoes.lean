/- The contracts of the laws' does and same. -/
import Derived.Test.YtbfbiofndipaaaaDiskOps
import Derived.Test.YtbfbiofndipaaaaDiskAwake
import Derived.Test.YtbfbiofndipaaaaRegTail
namespace Go.Proofs.Ytbfbiofndipaaaa
open Go.RowKit Go.Maps Go.Sort Go.Shelf

/-- What an op makes of a disk. -/
def doesD (d : Disks.D) (o : Op05) : Disks.D :=
  if o.kind = 1 ∨ o.kind = 2 ∨ o.kind = 3 ∨ o.kind = 4 then Disks.writeD d o.i (rep o.b)
  else if o.kind = 5 ∨ o.kind = 6 then Disks.flushD d
  else if o.kind = 8 then Disks.spoilD d o.i o.at_ o.b
  else if o.kind = 9 then Disks.armD d o.n
  else if o.kind = 10 ∨ o.kind = 11 then Disks.crashD d o.l
  else d
/-- Block p holds an op. -/
structure Ob5 (W : World) (p : Nat) (o : Op05) : Prop where
  blk : W.heap[p]? = some (.cells (ocells o).toArray 31 (0, 0))
section
variable {W W' : World} {p : Nat} {o : Op05}
theorem Ob5.lt (h : Ob5 W p o) : p < W.heap.size := (Array.getElem?_eq_some_iff.1 h.blk).1
theorem Ob5.c0 (h : Ob5 W p o) : W.cell? ⟨p, 0, none⟩ = some (.int .i64 o.kind) := by rw [cell_of_row W _ _ _ _ _ h.blk]; rfl
theorem Ob5.c1 (h : Ob5 W p o) : W.cell? ⟨p, 1, none⟩ = some (.int .i64 o.i) := by rw [cell_of_row W _ _ _ _ _ h.blk]; rfl
theorem Ob5.c2 (h : Ob5 W p o) : W.cell? ⟨p, 2, none⟩ = some (.int .i64 o.at_) := by rw [cell_of_row W _ _ _ _ _ h.blk]; rfl
theorem Ob5.c3 (h : Ob5 W p o) : W.cell? ⟨p, 3, none⟩ = some (.int .i64 o.n) := by rw [cell_of_row W _ _ _ _ _ h.blk]; rfl
theorem Ob5.c4 (h : Ob5 W p o) : W.cell? ⟨p, 4, none⟩ = some (.int .u8 (o.b.toNat : Int)) := by rw [cell_of_row W _ _ _ _ _ h.blk]; rfl
theorem Ob5.c5 (h : Ob5 W p o) : W.cell? ⟨p, 5, none⟩ = some (.slice o.A o.m o.c) := by rw [cell_of_row W _ _ _ _ _ h.blk]; rfl
theorem Ob5.fz (h : Ob5 W p o) (j : Nat) : W.frozen? ⟨p, j, none⟩ = false := frozen_of_row W _ _ _ _ h.blk
theorem Ob5.same (h : Ob5 W p o) (hb : W'.heap[p]? = W.heap[p]?) : Ob5 W' p o := ⟨hb.trans h.blk⟩
theorem Ob5.ext (h : Ob5 W p o) (hx : Ext W W') : Ob5 W' p o := h.same (hx.block p h.lt)
theorem Ob5.kp {g m b : Nat} (h : Ob5 W p o) (hk : Kp g m b W W') (h1 : p ≠ g) (h2 : p ≠ m) (h3 : p ≠ b) : Ob5 W' p o := h.same (hk.block p h.lt h1 h2 h3)
end
theorem Ob5.new (W : World) (o : Op05) : Ob5 (W.alloc (.cells (ocells o).toArray 31)) W.heap.size o := ⟨heap_alloc_new W _⟩
theorem wf_top {n : Int} (h : (Lit.int .i64 n).wf = true) : n < 2 ^ 63 := by
  simp only [Lit.wf, IntKind.min, IntKind.max, IntKind.signed, IntKind.bits, Bool.and_eq_true, decide_eq_true_eq, if_true] at h
  omega
set_option maxRecDepth 100000 in
set_option maxHeartbeats 4000000 in
theorem does_any5 (w : World) (g m b N : Nat) (d : Disks.D) (h : Ds w g m b N d) (hN : N < maxLen) (o : Op05) (ho : Ok05 o) (hl : Bls w o.A o.m o.c o.l) (ha : 0 < o.m → Awy g m b o.A) :
    Calls Try.prog 21 #[dptr g, oval o] w fun e w' => e = .returned (.tuple #[]) ∧ Ds w' g m b (N + 1) (doesD d o) ∧ Kp g m b w w' := by
  have hO := Ob5.new w o
  have hX := Ext.alloc w (.cells (ocells o).toArray 31)
  have hlt := h.lts
  have HD := Lib.hid (h.ext hX)
  have HL := Lib.hid (hl.ext hX)
  have HA := Lib.hid ha
  have HOK := Lib.hid ho
  have hof := fun W => of_any5 W o.b
  have HOF := Lib.hid hof
  obtain ⟨p, hp⟩ : ∃ p, w.heap.size = p := ⟨_, rfl⟩
  have HP := Lib.hid (show p ≠ g ∧ p ≠ m ∧ p ≠ b by omega)
  obtain ⟨w0, hw0⟩ : ∃ w0, w.alloc (.cells (ocells o).toArray 31) = w0 := ⟨_, rfl⟩
  rw [hp] at hO
  rw [hw0] at hO hX HD HL
  have HO := Lib.hid hO
  have HX := Lib.hid hX
  have k0 := hO.c0
  have k1 := hO.c1
  have k2 := hO.c2
  have k3 := hO.c3
  have k4 := hO.c4
  have k5 := hO.c5
  clear hO hX hlt h hl ha ho hof
  rcases (show (o.kind = 1 ∨ o.kind = 2 ∨ o.kind = 3 ∨ o.kind = 4) ∨ (o.kind = 5 ∨ o.kind = 6) ∨ o.kind = 8 ∨ o.kind = 9 ∨ (o.kind = 10 ∨ o.kind = 11) ∨ (o.kind ≠ 1 ∧ o.kind ≠ 2 ∧ o.kind ≠ 3 ∧ o.kind ≠ 4 ∧ o.kind ≠ 5 ∧ o.kind ≠ 6 ∧ o.kind ≠ 8 ∧ o.kind ≠ 9 ∧ o.kind ≠ 10 ∧ o.kind ≠ 11) by omega) with (hk | hk | hk | hk) | (hk | hk) | hk | hk | (hk | hk) | hk
  · have HE := Lib.hid (show doesD d o = Disks.writeD d o.i (rep o.b) by unfold doesD; rw [if_pos (by omega)])
    rw [hk] at k0
    clear hk
    go_enter Try.func21, Try.ntmps21
    go_wp2_with (fail)
    have hHeld : (fun W : World => Hid (Ob5 W p o ∧ Ds W g m b N d ∧ Ext w W)) w0.drew := Lib.hid ⟨HO.out.ext (Ext.drew _), HD.out.ext (Ext.drew _), HX.out.trans (Ext.drew _)⟩
    clear k0 k1 k2 k3 k4 k5
    refine wp_region_T (S := fun W : World => Hid (Ob5 W p o ∧ Ds W g m b N d ∧ Ext w W)) 6 rfl rfl ?_
    refine pureT (i := 0) (v := ?_) rfl (by kernel_rfl) (by kernel_rfl) (by kernel_rfl) (by decide) (fun _ _ _ h => h) (Or.inl ⟨by rfl, ?_⟩) (fun _ => by assumption) ?_
    rotate_left
    · (intro W9 hSw; go_simp; (try with_reducible rfl))
    try simp only [Act.put, List.setIfInBounds_toArray, List.set_cons_zero, List.set_cons_succ]
    refine pureT (i := 1) (v := ?_) rfl (by kernel_rfl) (by kernel_rfl) (by kernel_rfl) (by decide) (fun _ _ _ h => h) (Or.inl ⟨by rfl, ?_⟩) (fun _ => by assumption) ?_
    rotate_left
    · (intro W9 hSw; go_simp; (try with_reducible rfl))
    try simp only [Act.put, List.setIfInBounds_toArray, List.set_cons_zero, List.set_cons_succ]
    refine takeT (i := 2) (v := ?_) rfl (by kernel_rfl) (by kernel_rfl) (by kernel_rfl) (by kernel_rfl) (by decide) (fun _ _ _ h => h) (by kernel_rfl) (Or.inl ⟨by rfl, ?_⟩) (by assumption) ?_
    rotate_left
    · (intro W9 hSw; (have k9 := hSw.out.1.c1); go_simp; (try with_reducible rfl))
    try simp only [Act.put, List.setIfInBounds_toArray, List.set_cons_zero, List.set_cons_succ]
    refine pureT (i := 3) (v := ?_) rfl (by kernel_rfl) (by kernel_rfl) (by kernel_rfl) (by decide) (fun _ _ _ h => h) (Or.inl ⟨by rfl, ?_⟩) (fun _ => by assumption) ?_
    rotate_left
    · (intro W9 hSw; go_simp; (try with_reducible rfl))
    try simp only [Act.put, List.setIfInBounds_toArray, List.set_cons_zero, List.set_cons_succ]
    refine oneT (i := 4) rfl (by kernel_rfl) (fun K hK => ?_)
    rw [if_pos (by kernel_rfl)]
    have k9 := hHeld.out.1.c4
    go_wp2_with (fail)
    refine hK.out _ _ (fun _ => hHeld) ?_
    clear hK K k9
    try simp only [Act.put, List.setIfInBounds_toArray, List.set_cons_zero, List.set_cons_succ]
    refine oneT (i := 5) rfl (by kernel_rfl) (fun K hK => ?_)
    rw [if_pos (by kernel_rfl)]
    go_wp2_with (fail)
    with_reducible refine (HOF.out _).mono ?_
    rintro e w1 ⟨pa, rfl, oa⟩
    have OA := Lib.hid oa
    have S1 := Lib.hid (hHeld.out.2.1.ext oa.ext)
    have AW := Lib.hid (Awy.fresh (o := 0) hHeld.out.2.1 oa.le)
    have X1 := Lib.hid (hHeld.out.2.2.trans oa.ext)
    have hS1 : (fun W : World => Hid (Ob5 W p o ∧ Ds W g m b N d ∧ Ext w W)) w1 := Lib.hid ⟨hHeld.out.1.ext oa.ext, S1.out, X1.out⟩
    clear oa hHeld
    go_wp2_with (fail)
    refine hK.out _ _ (fun _ => hS1) ?_
    clear hK K
    try simp only [Act.put, List.setIfInBounds_toArray, List.set_cons_zero, List.set_cons_succ]
    refine oneT (i := 6) rfl (by kernel_rfl) (fun K hK => ?_)
    rw [if_pos (by kernel_rfl)]
    go_wp2_with (fail)
    have hc := S1.out.write hN o.i _ _ _ (rep o.b) (OA.out.bs (by rw [rep_len]; omega) (rep_len _)) AW.out rfl rfl
    with_reducible refine hc.mono ?_
    rintro e w2 ⟨rfl, d2, q2⟩
    have D2 := Lib.hid d2
    have Q2 := Lib.hid ((Kp.of X1.out g m b).trans q2)
    clear d2 q2 hc hS1
    go_wp2_with (fail)
    refine hK.out _ _ (fun h => absurd (show true = false from h) (by decide)) ?_
    clear hK K
    try simp only [Act.put, List.setIfInBounds_toArray, List.set_cons_zero, List.set_cons_succ]
    refine doneT (by kernel_rfl) ?_ _
    go_wp2_with (fail)
    refine bodyPost_end (results_none rfl _ _ _) rfl ?_
    rw [HE.out]
    exact ⟨rfl, D2.out, Q2.out⟩
  · have HE := Lib.hid (show doesD d o = Disks.writeD d o.i (rep o.b) by unfold doesD; rw [if_pos (by omega)])
    rw [hk] at k0
    clear hk
    go_enter Try.func21, Try.ntmps21
    go_wp2_with (fail)
    have hHeld : (fun W : World => Hid (Ob5 W p o ∧ Ds W g m b N d ∧ Ext w W)) w0.drew := Lib.hid ⟨HO.out.ext (Ext.drew _), HD.out.ext (Ext.drew _), HX.out.trans (Ext.drew _)⟩
    clear k0 k1 k2 k3 k4 k5
    refine wp_region_T (S := fun W : World => Hid (Ob5 W p o ∧ Ds W g m b N d ∧ Ext w W)) 6 rfl rfl ?_
    refine pureT (i := 0) (v := ?_) rfl (by kernel_rfl) (by kernel_rfl) (by kernel_rfl) (by decide) (fun _ _ _ h => h) (Or.inl ⟨by rfl, ?_⟩) (fun _ => by assumption) ?_
    rotate_left
    · (intro W9 hSw; go_simp; (try with_reducible rfl))
    try simp only [Act.put, List.setIfInBounds_toArray, List.set_cons_zero, List.set_cons_succ]
    refine pureT (i := 1) (v := ?_) rfl (by kernel_rfl) (by kernel_rfl) (by kernel_rfl) (by decide) (fun _ _ _ h => h) (Or.inl ⟨by rfl, ?_⟩) (fun _ => by assumption) ?_
    rotate_left
    · (intro W9 hSw; go_simp; (try with_reducible rfl))
    try simp only [Act.put, List.setIfInBounds_toArray, List.set_cons_zero, List.set_cons_succ]
    refine takeT (i := 2) (v := ?_) rfl (by kernel_rfl) (by kernel_rfl) (by kernel_rfl) (by kernel_rfl) (by decide) (fun _ _ _ h => h) (by kernel_rfl) (Or.inl ⟨by rfl, ?_⟩) (by assumption) ?_
    rotate_left
    · (intro W9 hSw; (have k9 := hSw.out.1.c1); go_simp; (try with_reducible rfl))
    try simp only [Act.put, List.setIfInBounds_toArray, List.set_cons_zero, List.set_cons_succ]
    refine pureT (i := 3) (v := ?_) rfl (by kernel_rfl) (by kernel_rfl) (by kernel_rfl) (by decide) (fun _ _ _ h => h) (Or.inl ⟨by rfl, ?_⟩) (fun _ => by assumption) ?_
    rotate_left
    · (intro W9 hSw; go_simp; (try with_reducible rfl))
    try simp only [Act.put, List.setIfInBounds_toArray, List.set_cons_zero, List.set_cons_succ]
    refine oneT (i := 4) rfl (by kernel_rfl) (fun K hK => ?_)
    rw [if_pos (by kernel_rfl)]
    have k9 := hHeld.out.1.c4
    go_wp2_with (fail)
    refine hK.out _ _ (fun _ => hHeld) ?_
    clear hK K k9
    try simp only [Act.put, List.setIfInBounds_toArray, List.set_cons_zero, List.set_cons_succ]
    refine oneT (i := 5) rfl (by kernel_rfl) (fun K hK => ?_)
    rw [if_pos (by kernel_rfl)]
    go_wp2_with (fail)
    with_reducible refine (HOF.out _).mono ?_
    rintro e w1 ⟨pa, rfl, oa⟩
    have OA := Lib.hid oa
    have S1 := Lib.hid (hHeld.out.2.1.ext oa.ext)
    have AW := Lib.hid (Awy.fresh (o := 0) hHeld.out.2.1 oa.le)
    have X1 := Lib.hid (hHeld.out.2.2.trans oa.ext)
    have hS1 : (fun W : World => Hid (Ob5 W p o ∧ Ds W g m b N d ∧ Ext w W)) w1 := Lib.hid ⟨hHeld.out.1.ext oa.ext, S1.out, X1.out⟩
    clear oa hHeld
    go_wp2_with (fail)
    refine hK.out _ _ (fun _ => hS1) ?_
    clear hK K
    try simp only [Act.put, List.setIfInBounds_toArray, List.set_cons_zero, List.set_cons_succ]
    refine oneT (i := 6) rfl (by kernel_rfl) (fun K hK => ?_)
    rw [if_pos (by kernel_rfl)]
    go_wp2_with (fail)
    have hc := S1.out.write hN o.i _ _ _ (rep o.b) (OA.out.bs (by rw [rep_len]; omega) (rep_len _)) AW.out rfl rfl
    with_reducible refine hc.mono ?_
    rintro e w2 ⟨rfl, d2, q2⟩
    have D2 := Lib.hid d2
    have Q2 := Lib.hid ((Kp.of X1.out g m b).trans q2)
    clear d2 q2 hc hS1
    go_wp2_with (fail)
    refine hK.out _ _ (fun h => absurd (show true = false from h) (by decide)) ?_
    clear hK K
    try simp only [Act.put, List.setIfInBounds_toArray, List.set_cons_zero, List.set_cons_succ]
    refine doneT (by kernel_rfl) ?_ _
    go_wp2_with (fail)
    refine bodyPost_end (results_none rfl _ _ _) rfl ?_
    rw [HE.out]
    exact ⟨rfl, D2.out, Q2.out⟩
  · have HE := Lib.hid (show doesD d o = Disks.writeD d o.i (rep o.b) by unfold doesD; rw [if_pos (by omega)])
    rw [hk] at k0
    clear hk
    go_enter Try.func21, Try.ntmps21
    go_wp2_with (fail)
    have hHeld : (fun W : World => Hid (Ob5 W p o ∧ Ds W g m b N d ∧ Ext w W)) w0.drew := Lib.hid ⟨HO.out.ext (Ext.drew _), HD.out.ext (Ext.drew _), HX.out.trans (Ext.drew _)⟩
    clear k0 k1 k2 k3 k4 k5
    refine wp_region_T (S := fun W : World => Hid (Ob5 W p o ∧ Ds W g m b N d ∧ Ext w W)) 6 rfl rfl ?_
    refine pureT (i := 0) (v := ?_) rfl (by kernel_rfl) (by kernel_rfl) (by kernel_rfl) (by decide) (fun _ _ _ h => h) (Or.inl ⟨by rfl, ?_⟩) (fun _ => by assumption) ?_
    rotate_left
    · (intro W9 hSw; go_simp; (try with_reducible rfl))
    try simp only [Act.put, List.setIfInBounds_toArray, List.set_cons_zero, List.set_cons_succ]
    refine pureT (i := 1) (v := ?_) rfl (by kernel_rfl) (by kernel_rfl) (by kernel_rfl) (by decide) (fun _ _ _ h => h) (Or.inl ⟨by rfl, ?_⟩) (fun _ => by assumption) ?_
    rotate_left
    · (intro W9 hSw; go_simp; (try with_reducible rfl))
    try simp only [Act.put, List.setIfInBounds_toArray, List.set_cons_zero, List.set_cons_succ]
    refine takeT (i := 2) (v := ?_) rfl (by kernel_rfl) (by kernel_rfl) (by kernel_rfl) (by kernel_rfl) (by decide) (fun _ _ _ h => h) (by kernel_rfl) (Or.inl ⟨by rfl, ?_⟩) (by assumption) ?_
    rotate_left
    · (intro W9 hSw; (have k9 := hSw.out.1.c1); go_simp; (try with_reducible rfl))
    try simp only [Act.put, List.setIfInBounds_toArray, List.set_cons_zero, List.set_cons_succ]
    refine pureT (i := 3) (v := ?_) rfl (by kernel_rfl) (by kernel_rfl) (by kernel_rfl) (by decide) (fun _ _ _ h => h) (Or.inl ⟨by rfl, ?_⟩) (fun _ => by assumption) ?_
    rotate_left
    · (intro W9 hSw; go_simp; (try with_reducible rfl))
    try simp only [Act.put, List.setIfInBounds_toArray, List.set_cons_zero, List.set_cons_succ]
    refine oneT (i := 4) rfl (by kernel_rfl) (fun K hK => ?_)
    rw [if_pos (by kernel_rfl)]
    have k9 := hHeld.out.1.c4
    go_wp2_with (fail)
    refine hK.out _ _ (fun _ => hHeld) ?_
    clear hK K k9
    try simp only [Act.put, List.setIfInBounds_toArray, List.set_cons_zero, List.set_cons_succ]
    refine oneT (i := 5) rfl (by kernel_rfl) (fun K hK => ?_)
    rw [if_pos (by kernel_rfl)]
    go_wp2_with (fail)
    with_reducible refine (HOF.out _).mono ?_
    rintro e w1 ⟨pa, rfl, oa⟩
    have OA := Lib.hid oa
    have S1 := Lib.hid (hHeld.out.2.1.ext oa.ext)
    have AW := Lib.hid (Awy.fresh (o := 0) hHeld.out.2.1 oa.le)
    have X1 := Lib.hid (hHeld.out.2.2.trans oa.ext)
    have hS1 : (fun W : World => Hid (Ob5 W p o ∧ Ds W g m b N d ∧ Ext w W)) w1 := Lib.hid ⟨hHeld.out.1.ext oa.ext, S1.out, X1.out⟩
    clear oa hHeld
    go_wp2_with (fail)
    refine hK.out _ _ (fun _ => hS1) ?_
    clear hK K
    try simp only [Act.put, List.setIfInBounds_toArray, List.set_cons_zero, List.set_cons_succ]
    refine oneT (i := 6) rfl (by kernel_rfl) (fun K hK => ?_)
    rw [if_pos (by kernel_rfl)]
    go_wp2_with (fail)
    have hc := S1.out.write hN o.i _ _ _ (rep o.b) (OA.out.bs (by rw [rep_len]; omega) (rep_len _)) AW.out rfl rfl
    with_reducible refine hc.mono ?_
    rintro e w2 ⟨rfl, d2, q2⟩
    have D2 := Lib.hid d2
    have Q2 := Lib.hid ((Kp.of X1.out g m b).trans q2)
    clear d2 q2 hc hS1
    go_wp2_with (fail)
    refine hK.out _ _ (fun h => absurd (show true = false from h) (by decide)) ?_
    clear hK K
    try simp only [Act.put, List.setIfInBounds_toArray, List.set_cons_zero, List.set_cons_succ]
    refine doneT (by kernel_rfl) ?_ _
    go_wp2_with (fail)
    refine bodyPost_end (results_none rfl _ _ _) rfl ?_
    rw [HE.out]
    exact ⟨rfl, D2.out, Q2.out⟩
  · have HE := Lib.hid (show doesD d o = Disks.writeD d o.i (rep o.b) by unfold doesD; rw [if_pos (by omega)])
    rw [hk] at k0
    clear hk
    go_enter Try.func21, Try.ntmps21
    go_wp2_with (fail)
    have hHeld : (fun W : World => Hid (Ob5 W p o ∧ Ds W g m b N d ∧ Ext w W)) w0.drew := Lib.hid ⟨HO.out.ext (Ext.drew _), HD.out.ext (Ext.drew _), HX.out.trans (Ext.drew _)⟩
    clear k0 k1 k2 k3 k4 k5
    refine wp_region_T (S := fun W : World => Hid (Ob5 W p o ∧ Ds W g m b N d ∧ Ext w W)) 6 rfl rfl ?_
    refine pureT (i := 0) (v := ?_) rfl (by kernel_rfl) (by kernel_rfl) (by kernel_rfl) (by decide) (fun _ _ _ h => h) (Or.inl ⟨by rfl, ?_⟩) (fun _ => by assumption) ?_
    rotate_left
    · (intro W9 hSw; go_simp; (try with_reducible rfl))
    try simp only [Act.put, List.setIfInBounds_toArray, List.set_cons_zero, List.set_cons_succ]
    refine pureT (i := 1) (v := ?_) rfl (by kernel_rfl) (by kernel_rfl) (by kernel_rfl) (by decide) (fun _ _ _ h => h) (Or.inl ⟨by rfl, ?_⟩) (fun _ => by assumption) ?_
    rotate_left
    · (intro W9 hSw; go_simp; (try with_reducible rfl))
    try simp only [Act.put, List.setIfInBounds_toArray, List.set_cons_zero, List.set_cons_succ]
    refine takeT (i := 2) (v := ?_) rfl (by kernel_rfl) (by kernel_rfl) (by kernel_rfl) (by kernel_rfl) (by decide) (fun _ _ _ h => h) (by kernel_rfl) (Or.inl ⟨by rfl, ?_⟩) (by assumption) ?_
    rotate_left
    · (intro W9 hSw; (have k9 := hSw.out.1.c1); go_simp; (try with_reducible rfl))
    try simp only [Act.put, List.setIfInBounds_toArray, List.set_cons_zero, List.set_cons_succ]
    refine pureT (i := 3) (v := ?_) rfl (by kernel_rfl) (by kernel_rfl) (by kernel_rfl) (by decide) (fun _ _ _ h => h) (Or.inl ⟨by rfl, ?_⟩) (fun _ => by assumption) ?_
    rotate_left
    · (intro W9 hSw; go_simp; (try with_reducible rfl))
    try simp only [Act.put, List.setIfInBounds_toArray, List.set_cons_zero, List.set_cons_succ]
    refine oneT (i := 4) rfl (by kernel_rfl) (fun K hK => ?_)
    rw [if_pos (by kernel_rfl)]
    have k9 := hHeld.out.1.c4
    go_wp2_with (fail)
    refine hK.out _ _ (fun _ => hHeld) ?_
    clear hK K k9
    try simp only [Act.put, List.setIfInBounds_toArray, List.set_cons_zero, List.set_cons_succ]
    refine oneT (i := 5) rfl (by kernel_rfl) (fun K hK => ?_)
    rw [if_pos (by kernel_rfl)]
    go_wp2_with (fail)
    with_reducible refine (HOF.out _).mono ?_
    rintro e w1 ⟨pa, rfl, oa⟩
    have OA := Lib.hid oa
    have S1 := Lib.hid (hHeld.out.2.1.ext oa.ext)
    have AW := Lib.hid (Awy.fresh (o := 0) hHeld.out.2.1 oa.le)
    have X1 := Lib.hid (hHeld.out.2.2.trans oa.ext)
    have hS1 : (fun W : World => Hid (Ob5 W p o ∧ Ds W g m b N d ∧ Ext w W)) w1 := Lib.hid ⟨hHeld.out.1.ext oa.ext, S1.out, X1.out⟩
    clear oa hHeld
    go_wp2_with (fail)
    refine hK.out _ _ (fun _ => hS1) ?_
    clear hK K
    try simp only [Act.put, List.setIfInBounds_toArray, List.set_cons_zero, List.set_cons_succ]
    refine oneT (i := 6) rfl (by kernel_rfl) (fun K hK => ?_)
    rw [if_pos (by kernel_rfl)]
    go_wp2_with (fail)
    have hc := S1.out.write hN o.i _ _ _ (rep o.b) (OA.out.bs (by rw [rep_len]; omega) (rep_len _)) AW.out rfl rfl
    with_reducible refine hc.mono ?_
    rintro e w2 ⟨rfl, d2, q2⟩
    have D2 := Lib.hid d2
    have Q2 := Lib.hid ((Kp.of X1.out g m b).trans q2)
    clear d2 q2 hc hS1
    go_wp2_with (fail)
    refine hK.out _ _ (fun h => absurd (show true = false from h) (by decide)) ?_
    clear hK K
    try simp only [Act.put, List.setIfInBounds_toArray, List.set_cons_zero, List.set_cons_succ]
    refine doneT (by kernel_rfl) ?_ _
    go_wp2_with (fail)
    refine bodyPost_end (results_none rfl _ _ _) rfl ?_
    rw [HE.out]
    exact ⟨rfl, D2.out, Q2.out⟩
  · have HE := Lib.hid (show doesD d o = Disks.flushD d by unfold doesD; rw [if_neg (by omega), if_pos (by omega)])
    rw [hk] at k0
    clear hk
    go_enter Try.func21, Try.ntmps21
    go_wp2_with (fail)
    have hc := HD.out.flush rfl rfl
    with_reducible refine hc.mono ?_
    rintro e w2 ⟨rfl, d2, q2⟩
    have D2 := Lib.hid (d2.mono (Nat.le_succ N))
    have Q2 := Lib.hid ((Kp.of HX.out g m b).trans q2)
    clear d2 q2 hc
    go_wp2_with (fail)
    refine bodyPost_end (results_none rfl _ _ _) rfl ?_
    rw [HE.out]
    exact ⟨rfl, D2.out, Q2.out⟩
  · have HE := Lib.hid (show doesD d o = Disks.flushD d by unfold doesD; rw [if_neg (by omega), if_pos (by omega)])
    rw [hk] at k0
    clear hk
    go_enter Try.func21, Try.ntmps21
    go_wp2_with (fail)
    have hc := HD.out.flush rfl rfl
    with_reducible refine hc.mono ?_
    rintro e w2 ⟨rfl, d2, q2⟩
    have D2 := Lib.hid (d2.mono (Nat.le_succ N))
    have Q2 := Lib.hid ((Kp.of HX.out g m b).trans q2)
    clear d2 q2 hc
    go_wp2_with (fail)
    refine bodyPost_end (results_none rfl _ _ _) rfl ?_
    rw [HE.out]
    exact ⟨rfl, D2.out, Q2.out⟩
  · have HE := Lib.hid (show doesD d o = Disks.spoilD d o.i o.at_ o.b by unfold doesD; rw [if_neg (by omega), if_neg (by omega), if_pos (by omega)])
    rw [hk] at k0
    clear hk
    go_enter Try.func21, Try.ntmps21
    go_wp2_with (fail)
    have hc := HD.out.spoil o.i o.at_ o.b rfl rfl
    with_reducible refine hc.mono ?_
    rintro e w2 ⟨rfl, d2, q2⟩
    have D2 := Lib.hid (d2.mono (Nat.le_succ N))
    have Q2 := Lib.hid ((Kp.of HX.out g m b).trans q2)
    clear d2 q2 hc
    go_wp2_with (fail)
    refine bodyPost_end (results_none rfl _ _ _) rfl ?_
    rw [HE.out]
    exact ⟨rfl, D2.out, Q2.out⟩
  · have HE := Lib.hid (show doesD d o = Disks.armD d o.n by unfold doesD; rw [if_neg (by omega), if_neg (by omega), if_neg (by omega), if_pos (by omega)])
    rw [hk] at k0
    clear hk
    go_enter Try.func21, Try.ntmps21
    go_wp2_with (fail)
    have hc := HD.out.arm o.n (wf_top HOK.out.n) rfl
    with_reducible refine hc.mono ?_
    rintro e w2 ⟨rfl, d2, q2⟩
    have D2 := Lib.hid (d2.mono (Nat.le_succ N))
    have Q2 := Lib.hid ((Kp.of HX.out g m b).trans q2)
    clear d2 q2 hc
    go_wp2_with (fail)
    refine bodyPost_end (results_none rfl _ _ _) rfl ?_
    rw [HE.out]
    exact ⟨rfl, D2.out, Q2.out⟩
  · have HE := Lib.hid (show doesD d o = Disks.crashD d o.l by unfold doesD; rw [if_neg (by omega), if_neg (by omega), if_neg (by omega), if_neg (by omega), if_pos (by omega)])
    rw [hk] at k0
    clear hk
    go_enter Try.func21, Try.ntmps21
    go_wp2_with (fail)
    have hc := HD.out.crash' o.A o.m o.c o.l HL.out HA.out rfl
    with_reducible refine hc.mono ?_
    rintro e w2 ⟨rfl, d2, q2⟩
    have D2 := Lib.hid (d2.mono (Nat.le_succ N))
    have Q2 := Lib.hid ((Kp.of HX.out g m b).trans q2)
    clear d2 q2 hc
    go_wp2_with (fail)
    refine bodyPost_end (results_none rfl _ _ _) rfl ?_
    rw [HE.out]
    exact ⟨rfl, D2.out, Q2.out⟩
  · have HE := Lib.hid (show doesD d o = Disks.crashD d o.l by unfold doesD; rw [if_neg (by omega), if_neg (by omega), if_neg (by omega), if_neg (by omega), if_pos (by omega)])
    rw [hk] at k0
    clear hk
    go_enter Try.func21, Try.ntmps21
    go_wp2_with (fail)
    have hc := HD.out.crash' o.A o.m o.c o.l HL.out HA.out rfl
    with_reducible refine hc.mono ?_
    rintro e w2 ⟨rfl, d2, q2⟩
    have D2 := Lib.hid (d2.mono (Nat.le_succ N))
    have Q2 := Lib.hid ((Kp.of HX.out g m b).trans q2)
    clear d2 q2 hc
    go_wp2_with (fail)
    refine bodyPost_end (results_none rfl _ _ _) rfl ?_
    rw [HE.out]
    exact ⟨rfl, D2.out, Q2.out⟩
  · have HE := Lib.hid (show doesD d o = d by unfold doesD; rw [if_neg (by omega), if_neg (by omega), if_neg (by omega), if_neg (by omega), if_neg (by omega)])
    obtain ⟨n1, n2, n3, n4, n5, n6, n8, n9, n10, n11⟩ := hk
    replace n1 : (o.kind == 1) = false := beq_eq_false_iff_ne.2 n1
    replace n2 : (o.kind == 2) = false := beq_eq_false_iff_ne.2 n2
    replace n3 : (o.kind == 3) = false := beq_eq_false_iff_ne.2 n3
    replace n4 : (o.kind == 4) = false := beq_eq_false_iff_ne.2 n4
    replace n5 : (o.kind == 5) = false := beq_eq_false_iff_ne.2 n5
    replace n6 : (o.kind == 6) = false := beq_eq_false_iff_ne.2 n6
    replace n8 : (o.kind == 8) = false := beq_eq_false_iff_ne.2 n8
    replace n9 : (o.kind == 9) = false := beq_eq_false_iff_ne.2 n9
    replace n10 : (o.kind == 10) = false := beq_eq_false_iff_ne.2 n10
    replace n11 : (o.kind == 11) = false := beq_eq_false_iff_ne.2 n11
    go_enter Try.func21, Try.ntmps21
    go_wp2_with (fail)
    refine bodyPost_end (results_none rfl _ _ _) rfl ?_
    rw [HE.out]
    exact ⟨rfl, HD.out.mono (Nat.le_succ N), Kp.of HX.out ..⟩
end Go.Proofs.Ytbfbiofndipaaaa
