/- Several texts in one: The contract of a disk's Flush. What the kit's library contracts ask of this program: the numbers of the library's functions, and that their bodies are these. No statement of the seat is proved here. -/
import Derived.Test.YtaaegbccejjjcaaCt11
import Derived.Deep.DeepCutAuto
import Derived.Shelf.SlIterI.Nil
import Derived.Test.YtaaegbccejjjcaaProg
namespace Go.Proofs.Ytaaegbccejjjcaa
open Go.RowKit Go.Maps
set_option linter.unusedSimpArgs false

/-- The medium when some keys are still to come. -/
structure Mid (d : Disks.D) (left : Lit → Bool) (M : List (List UInt8)) : Prop where
  len : M.length = d.med.length
  row : ∀ i, i < d.med.length → Gm.row M i = if left (lk (i : Int)) = true then Gm.row d.med i else Disks.sec d i
theorem Mid.start {d : Disks.D} {D : DataW Nat} (h : Tie D d.cac) : Mid d (Maps.has D) d.med := ⟨rfl, fun i _ => by
  split
  · rfl
  · rename_i e
    have h1 : Disks.cget d.cac i = none := by
      cases hc : Disks.cget d.cac i with
      | none => rfl
      | some s => exact absurd ((h.has (i : Int)).2 ⟨by omega, by rw [show ((i : Int)).toNat = i by omega, hc]; rfl⟩) e
    unfold Disks.sec
    rw [h1]
    rfl⟩
theorem lk_same (x y : Int) : (lk x).sameKey (lk y) = decide (x = y) := by
  by_cases h : x = y
  · subst h; simp [Lit.sameKey]
  · simp [Lit.sameKey, h]
theorem Mid.step {d : Disks.D} {left : Lit → Bool} {M : List (List UInt8)} (h : Mid d left M) {j : Nat} (hj : j < d.med.length) {s : List UInt8} (hs : Disks.cget d.cac j = some s) :
    Mid d (fun z => left z && !z.sameKey (lk (j : Int))) (M.set j s) := by
  refine ⟨by rw [List.length_set]; exact h.len, fun i hi => ?_⟩
  rw [row_set M j i s (by rw [h.len]; exact hj), lk_same]
  by_cases e : j = i
  · subst e
    rw [if_pos rfl, if_neg (by simp)]
    unfold Disks.sec
    rw [hs]
    rfl
  · rw [if_neg e, h.row i hi, show decide ((i : Int) = (j : Int)) = false by rw [decide_eq_false_iff_not]; omega]
    simp
theorem Mid.done {d : Disks.D} {left : Lit → Bool} {M : List (List UInt8)} (h : Mid d left M) (hl : ∀ kl, left kl = false) : M = Disks.merged d := by
  have h1 : (Disks.merged d).length = d.med.length := by simp [Disks.merged]
  refine List.ext_getElem (h.len.trans h1.symm) (fun i a b => ?_)
  have q := h.row i (by rw [← h.len]; exact a)
  rw [hl, if_neg (by simp)] at q
  have e : Gm.row M i = M[i] := by unfold Gm.row; rw [List.getD_eq_getElem?_getD, List.getElem?_eq_getElem a]; rfl
  rw [← e, q]
  simp [Disks.merged]
/-- What a round of Flush knows. -/
structure Fl (wr : World) (g m b r n : Nat) (D : DataW Nat) (d : Disks.D) (left : Lit → Bool) (cnt : Nat) (w : World) : Prop where
  rg : wr.ranges Try.prog 3 secR b r n D left cnt
  sub : ∀ kl, left kl = true → Maps.has D kl = true
  mid : ∃ M, Mid d left M ∧ Dk wr g m b n D { d with med := M }
  kp : Kp g m b w wr
  far : g < r ∧ m < r ∧ b < r ∧ w.heap.size ≤ r
set_option maxRecDepth 100000 in
theorem dkFlush_no (w : World) (g m b n : Nat) (D : DataW Nat) (d : Disks.D) (h : Dk w g m b n D d) (hf : Disks.Wf d) (h2 : d.arm < 2 ^ 63) (h0 : Disks.flushE d ≠ 0) :
    Calls Try.prog 47 #[dptr g] w fun e w' => e = .returned (.int .i64 (Disks.flushE d)) ∧ Dk w' g m b n D (Disks.flushD d) ∧ Kp g m b w w' := by
  have hT := dkThere_any w g m b n D d h hf.max 0
  have HO := Lib.hid (fun (W : World) (hW : Ext w W) => dkOp_any W g m b n D d (h.ext hW) hf.arm h2)
  have H := Lib.hid h
  clear h h2
  obtain ⟨t, ht⟩ : ∃ t, Disks.there d 0 = t := ⟨_, rfl⟩
  rw [ht] at hT
  have HT := Lib.hid ht
  by_cases h1 : t = 0
  · have e1 : Disks.flushE d = Disks.opE d := by unfold Disks.flushE; rw [ht, if_neg (by omega)]
    rw [e1] at h0 ⊢
    have ha : d.arm = 0 := by
      unfold Disks.opE at h0
      by_cases q : d.arm = 0
      · exact q
      · rw [if_neg q] at h0; exact absurd rfl h0
    have e2 : Disks.flushD d = Disks.op d := by unfold Disks.flushD; rw [ht, if_neg (by omega), if_pos ha]
    have e3 : Disks.opE d = 15 := if_pos ha
    rw [e2, e3]
    rw [e3] at HO
    subst h1
    clear ht h0 e1 e2 e3 ha hf HT
    go_enter Try.func47, Try.ntmps47
    go_wp2_with (fail)
    with_reducible refine hT.mono ?_
    rintro e w1 ⟨rfl, x1⟩
    go_wp2_with (fail)
    with_reducible refine (HO.out _ x1).mono ?_
    rintro e w2 ⟨rfl, k2, x2⟩
    go_wp2_with (fail)
    refine bodyPost_ret (results_tmp rfl _ _ _) rfl ?_
    exact ⟨rfl, k2, (Kp.of x1 ..).trans x2⟩
  · have e1 : Disks.flushE d = t := by unfold Disks.flushE; rw [ht, if_pos h1]
    have e2 : Disks.flushD d = d := by unfold Disks.flushD; rw [ht, if_pos h1]
    rw [e1, e2]
    clear ht h0 e1 e2 hf HT HO
    go_enter Try.func47, Try.ntmps47
    go_wp2_with (fail)
    with_reducible refine hT.mono ?_
    rintro e w1 ⟨rfl, x1⟩
    go_wp2_with (fail)
    refine bodyPost_ret (results_tmp rfl _ _ _) rfl ?_
    exact ⟨rfl, H.out.ext x1, Kp.of x1 ..⟩
set_option maxRecDepth 100000 in
set_option maxHeartbeats 4000000 in
theorem dkFlush_ok (w : World) (g m b n : Nat) (D : DataW Nat) (d : Disks.D) (h : Dk w g m b n D d) (hf : Disks.Wf d) (h2 : d.arm < 2 ^ 63) (h0 : Disks.flushE d = 0) :
    Calls Try.prog 47 #[dptr g] w fun e w' => e = .returned (.int .i64 0) ∧ Dk w' g m b 0 (.map []) (Disks.flushD d) ∧ Kp g m b w w' := by
  have hT := dkThere_any w g m b n D d h hf.max 0
  have hO := fun (W : World) (hW : Ext w W) => dkOp_any W g m b n D d (h.ext hW) hf.arm h2
  have a1 : Disks.there d 0 = 0 := by
    unfold Disks.flushE at h0
    by_cases q : Disks.there d 0 = 0
    · exact q
    · rw [if_pos q] at h0; exact absurd h0 q
  have a2 : d.arm ≠ 0 := by
    unfold Disks.flushE at h0
    rw [if_neg (by omega)] at h0
    intro q
    rw [Disks.opE, if_pos q] at h0
    cases h0
  have e1 : Disks.flushD d = { Disks.op d with med := Disks.merged d, cac := Disks.emptied d } := by unfold Disks.flushD; rw [if_neg (by omega), if_neg a2]
  have e2 : Disks.opE d = 0 := if_neg a2
  have e3 : Disks.op d = { d with arm := max (d.arm - 1) (-1) } := if_neg a2
  rw [e1, e3]
  rw [a1] at hT
  rw [e2, e3] at hO
  obtain ⟨A, hA⟩ : ∃ A, max (d.arm - 1) (-1) = A := ⟨_, rfl⟩
  rw [hA] at hO ⊢
  have HO := Lib.hid hO
  have HF := Lib.hid hf
  clear h h0 h2 a1 a2 e1 e2 e3 hA hO hf
  go_enter Try.func47, Try.ntmps47
  go_wp2_with (fail)
  with_reducible refine hT.mono ?_
  rintro e w1 ⟨rfl, x1⟩
  go_wp2_with (fail)
  with_reducible refine (HO.out _ x1).mono ?_
  rintro e w2 ⟨rfl, k2, x2⟩
  have X2 := Lib.hid ((Kp.of x1 g m b).trans x2)
  have K2 := Lib.hid k2
  have k1 := k2.c1
  clear x1 x2 k2 HO hT
  go_wp2_with (at_range; refine wpList_range_own _ rfl _ 63 rfl 3 81 int_key5 map_under secR b n D rfl K2.out.mp ?_; intro w3 hrg hg3 hs3)
  have hFl : Fl w3 g m b w2.heap.size n D { d with arm := A } (Maps.has D) (Maps.size D) w := ⟨hrg, fun _ h => h, ⟨d.med, Mid.start K2.out.tie, K2.out.kept hg3 (by simp) (by simp) (by simp)⟩, X2.out.grown hg3 (by simp), K2.out.lt, K2.out.md.lt, K2.out.ltb, X2.out.size⟩
  have HFl := Lib.hid hFl
  generalize w2.heap.size = r at *
  clear hrg hg3 hs3 k1 hFl K2 X2
  go_frame
  go_loopw [] (fun wr => Hid (∃ (left : Lit → Bool) (cnt : Nat), Fl wr g m b r n D { d with arm := A } left cnt w)) (fun wr => wr.rangeLeft b r)
  case atStart => exact ⟨_, _, HFl.out⟩
  case round =>
    obtain ⟨left, cnt, hF⟩ := hrel.out
    have HL := Lib.hid hF
    have hrg := hF.rg
    clear hrel hF
    go_wp2_with (first
      | (at_next; refine wpList_next_ranges _ rfl _ rfl 3 int_key5 secR (Value.int .i64) secV (fun key kl hkey => by obtain ⟨x, rfl, _⟩ := Maps.keyOf_int_inv int_under5 hkey; exact ⟨x, rfl⟩) (fun v y hv => by obtain ⟨s, _, rfl, _⟩ := secR_inv hv; exact ⟨s, rfl⟩) b r n _ _ _ rfl hrg ?_ ?_))
    · intro hc0 hl0
      obtain ⟨M, hM, hD⟩ := HL.out.mid
      have eM : M = Disks.merged d := hM.done hl0
      subst eM
      obtain ⟨w5, rc, hc, kc⟩ := hD.clear 0
      have k1 := hD.c1
      have HC := Lib.hid hc
      have KC := Lib.hid (HL.out.kp.trans kc)
      clear hM hD hc kc hrg hc0 hl0
      go_wp2_with (fail)
      refine bodyPost_ret (results_tmp rfl _ _ _) rfl ?_
      have R := HC.out
      rw [show d.cac.length = d.med.length from HF.out.len] at R
      exact ⟨rfl, R, KC.out⟩
    · intro x c kl y1 y2 w4 cnt1 hkey hlk hv hat hrg1 hlt hg1 hs1 hen
      obtain ⟨x', ex, ekl, _⟩ := Maps.keyOf_int_inv int_under5 hkey
      injection ex with _ ex
      subst ex
      subst ekl
      obtain ⟨M, hM, hD⟩ := HL.out.mid
      obtain ⟨h0, hS⟩ := (hD.tie.has x).1 (HL.out.sub _ hlk)
      obtain ⟨j, rfl⟩ : ∃ j : Nat, x = j := ⟨x.toNat, by omega⟩
      rw [show ((j : Int)).toNat = j by omega] at hS
      obtain ⟨s, hs⟩ := Option.isSome_iff_exists.1 hS
      have hs' : Disks.cget d.cac j = some s := hs
      have hc64 : c.length = 64 := by
        obtain ⟨s2, hl2, e2, _⟩ := secR_inv hv
        have : bcells c = bcells s2 := by injection e2 with e2; injection e2
        have h3 := congrArg List.length this
        rw [bcells_len, bcells_len, hl2] at h3
        exact h3
      have ecs : s = c := by
        have q1 := hat (.lit (.string s))
        rw [secR_mk hc64] at hv
        injection hv with hv
        injection hv with hv _
        have q2 := hD.tie.at_ (j : Int) s (.lit (.string s)) h0 (by rw [show ((j : Int)).toNat = j by omega]; exact hs)
        have q3 : (DataW.lit (.string s) : DataW Nat) = .lit (.string c) := q2.symm.trans (q1.trans hv.symm)
        injection q3 with q3
        injection q3
      subst ecs
      have hj : j < d.med.length := by
        rcases Nat.lt_or_ge j d.cac.length with q | q
        · rw [← HF.out.len]; exact q
        · rw [Disks.cget_ge q] at hs'; cases hs'
      have hFm := HL.out.far
      have hD4 : Dk w4 g m b n D { { d with arm := A } with med := M } := hD.kept hg1 (by rw [Ne, Option.some.injEq]; omega) (by rw [Ne, Option.some.injEq]; omega) (by rw [Ne, Option.some.injEq]; omega)
      have hK4 : Kp g m b w w4 := HL.out.kp.grown hg1 (fun k e => .inr (.inr (.inr (by injection e with e; rw [← e]; exact hFm.2.2.2))))
      obtain ⟨CS, hCS⟩ : ∃ CS, (bcells s).toArray = CS := ⟨_, rfl⟩
      have hV : secV s = .agg CS := by unfold secV; rw [hCS]
      have HCS := Lib.hid hCS
      have HV := Lib.hid hV
      have S4 := Lib.hid (Sv.made (Ext.refl w4))
      obtain ⟨w5, hr5, s5⟩ := S4.out.store hc64
      have S5 := Lib.hid s5
      rw [hV] at hen hr5
      have hM5 : M.length = d.med.length := hM.len
      have hjM : j < M.length := by omega
      have HM5 := Lib.hid (show M.length ≤ 65536 by rw [hM5]; exact HF.out.max)
      have D4 := Lib.hid hD4
      have K4 := Lib.hid hK4
      have G1 := Lib.hid hrg1
      have MM := Lib.hid (hM.step hj hs')
      have LT := Lib.hid hlt
      clear hrg hV hCS hD hD4 hK4 hrg1 hM hS hs hs' hj s5 hkey hv hat hlt hg1 hs1 h0 hFm hM5 hc64
      go_wp2_with (first
        | (with_reducible refine opIs ⟨some 6, .alloc 81, _, _, _, _⟩ ?_); refine wpList_allocR rfl 81 rfl _ (run_alloc_sec _) ?_
        | (with_reducible refine opIs ⟨none, .store 81 (.tmp 6) (.tmp 26), _, _, _, _⟩ ?_); refine wpList_storeR rfl 81 (.tmp 6) (.tmp 26) rfl rfl rfl hr5 ?_)
      have hx5 : Ext w4 w5.drew := S5.out.ext.trans (Ext.drew w5)
      have D5 := Lib.hid (D4.out.ext hx5)
      have hg5 : w4.grownBy w5.drew none := ⟨hx5.os, hx5.tape, hx5.output, hx5.size, fun i hi _ => hx5.block i hi⟩
      have hFm := HL.out.far
      have ltb := D4.out.ltb
      have ltr := G1.out.lt
      have hG5 := G1.out.kept hg5 (by simp) (by simp)
      obtain ⟨w6, hr6, hD6, hg6⟩ := D5.out.med hjM S5.out.len
      rw [HCS.out] at hr6
      have mb := hD6.mb
      have hG6 := hG5.kept hg6 (fun e => mb (by injection e with e; exact e.symm)) (fun e => by injection e with e; omega)
      have hF6 : Fl w6 g m b r n D { d with arm := A } _ cnt1 w := ⟨hG6, fun kl hkl => HL.out.sub kl (by rw [Bool.and_eq_true] at hkl; exact hkl.1), ⟨_, MM.out, hD6⟩, (K4.out.trans (Kp.of hx5 ..)).grown hg6 (fun k e => .inr (.inl (by injection e with e; exact e.symm))), hFm⟩
      have HF6 := Lib.hid hF6
      have R6 := Lib.hid hr6
      have HX5 := Lib.hid hx5
      have LEFT := Lib.hid (show w6.rangeLeft b r < wr.rangeLeft b r by rw [hG6.left_eq, HL.out.rg.left_eq]; exact LT.out)
      clear hF6 hg6 hD6 hG6 hG5 hg5 hx5 hr6 ltb ltr mb hFm hr5 hen
      have hHeld : (fun W : World => Hid (W.cell? ⟨g, 0, none⟩ = some (.slice (some ⟨m, 0, none⟩) M.length M.length) ∧ W.rangeAt w4.heap.size 0 (bcells s))) w5.drew := Lib.hid ⟨D5.out.c0, (S5.out.then (Ext.drew w5)).range⟩
      have hM9 := HM5.out
      refine wp_region_T (S := fun W : World => Hid (W.cell? ⟨g, 0, none⟩ = some (.slice (some ⟨m, 0, none⟩) M.length M.length) ∧ W.rangeAt w4.heap.size 0 (bcells s))) 7 rfl rfl ?_
      refine takeT (i := 0) (v := ?_) rfl (by kernel_rfl) (by kernel_rfl) (by kernel_rfl) (by kernel_rfl) (by decide) (fun _ _ _ h => h) (by kernel_rfl) (Or.inl ⟨by rfl, ?_⟩) (by assumption) ?_
      rotate_left
      · (intro W9 hSw; go_simp; (try with_reducible rfl))
      try simp only [Act.put, List.setIfInBounds_toArray, List.set_cons_zero, List.set_cons_succ]
      refine takeT (i := 1) (v := ?_) rfl (by kernel_rfl) (by kernel_rfl) (by kernel_rfl) (by kernel_rfl) (by decide) (fun _ _ _ h => h) (by kernel_rfl) (Or.inl ⟨by rfl, ?_⟩) (by assumption) ?_
      rotate_left
      · (intro W9 hSw; go_simp; (try with_reducible rfl))
      try simp only [Act.put, List.setIfInBounds_toArray, List.set_cons_zero, List.set_cons_succ]
      refine takeT (i := 2) (v := ?_) rfl (by kernel_rfl) (by kernel_rfl) (by kernel_rfl) (by kernel_rfl) (by decide) (fun _ _ _ h => h) (by kernel_rfl) (Or.inl ⟨by rfl, ?_⟩) (by assumption) ?_
      rotate_left
      · (intro W9 hSw; go_simp; (try with_reducible rfl))
      try simp only [Act.put, List.setIfInBounds_toArray, List.set_cons_zero, List.set_cons_succ]
      refine takeT (i := 3) (v := ?_) rfl (by kernel_rfl) (by kernel_rfl) (by kernel_rfl) (by kernel_rfl) (by decide) (fun _ _ _ h => h) (by kernel_rfl) (Or.inl ⟨by rfl, ?_⟩) (by assumption) ?_
      rotate_left
      · (intro W9 hSw; (have k9 := hSw.out.1); go_simp; (try with_reducible rfl))
      try simp only [Act.put, List.setIfInBounds_toArray, List.set_cons_zero, List.set_cons_succ]
      refine takeT (i := 4) (v := ?_) rfl (by kernel_rfl) (by kernel_rfl) (by kernel_rfl) (by kernel_rfl) (by decide) (fun _ _ _ h => h) (by kernel_rfl) (Or.inl ⟨by rfl, ?_⟩) (by assumption) ?_
      rotate_left
      · (intro W9 hSw; go_simp; (try with_reducible rfl))
      try simp only [Act.put, List.setIfInBounds_toArray, List.set_cons_zero, List.set_cons_succ]
      have hi9 : (Try.prog.info? 81).map (·.size) = some (bcells s).length := sec_len S5.out.len
      refine takeT (i := 5) (v := .agg CS) rfl (by kernel_rfl) (by kernel_rfl) (by kernel_rfl) (by kernel_rfl) (by decide) (fun _ _ _ h => h) (by kernel_rfl) (by rw [← HCS.out]; exact yieldsIf_load_mid (by rfl) _ _ rfl w4.heap.size 0 rfl (bcells s) (.array 64 5) (fun W9 hSw => hSw.out.2) sec_under (by decide) hi9) (by assumption) ?_
      clear hi9
      try simp only [Act.put, List.setIfInBounds_toArray, List.set_cons_zero, List.set_cons_succ]
      refine takeT (i := 6) (v := ?_) rfl (by kernel_rfl) (by kernel_rfl) (by kernel_rfl) (by kernel_rfl) (by decide) (fun _ _ _ h => h) (by kernel_rfl) (Or.inl ⟨by rfl, ?_⟩) (by assumption) ?_
      rotate_left
      · (intro W9 hSw; go_simp; (try with_reducible rfl))
      try simp only [Act.put, List.setIfInBounds_toArray, List.set_cons_zero, List.set_cons_succ]
      refine oneT (i := 7) rfl (by kernel_rfl) (fun K hK => ?_)
      rw [if_pos (by kernel_rfl)]
      clear hHeld
      have r6 := R6.out
      have z6 : CS.size = 64 := by rw [← HCS.out]; simp [bcells_len, S5.out.len]
      go_wp2_with (fail)
      refine hK.out _ _ (fun h => absurd (show true = false from h) (by decide)) ?_
      clear hK K
      try simp only [Act.put, List.setIfInBounds_toArray, List.set_cons_zero, List.set_cons_succ]
      refine doneT (by kernel_rfl) ?_ _
      go_wp2_with (fail)
      exact ⟨⟨_, _, HF6.out⟩, LEFT.out⟩
end Go.Proofs.Ytaaegbccejjjcaa
namespace Go.Proofs.Ytaaegbccejjjcaa
open Go.Shelf
def keysA_ren : Go.Shelf.Ren := ⟨fun | 7 => 51 | 10 => 57 | n => n,
  fun | 23 => 63 | 26 => 3 | 3 => 81 | 28 => 92 | 0 => 0 | 27 => 91 | 33 => 99 | 4 => 4 | n => n,
  fun | n => n⟩
theorem keysA : Go.Proofs.SlLaysZI.n7 Try.prog keysA_ren := {
  mixed := by kernel_rfl,
  f7 := ⟨ "maps.Keys[map[int]cooperage/disk.sector,int,cooperage/disk.sector]", by decide, Try.func51.trans (congrArg some (by kernel_rfl))⟩,
  f10 := ⟨ "maps.Keys[map[int]cooperage/disk.sector,int,cooperage/disk.sector]$1", by decide, Try.func57.trans (congrArg some (by kernel_rfl))⟩,
  t0 := Try.underlying0,
  a0 := Try.isAgg0,
  z0 := Try.sizeOf0,
  v0 := Try.zeroValue0,
  t4 := Try.underlying4,
  a4 := Try.isAgg4,
  z4 := Try.sizeOf4,
  v4 := Try.zeroValue4,
  t23 := Try.underlying63,
  a23 := Try.isAgg63,
  z23 := Try.sizeOf63,
  v23 := Try.zeroValue63,
  t26 := Try.underlying3,
  a26 := Try.isAgg3,
  z26 := Try.sizeOf3,
  v26 := Try.zeroValue3,
  t27 := Try.underlying91,
  a27 := Try.isAgg91,
  z27 := Try.sizeOf91,
  v27 := Try.zeroValue91,
  t28 := Try.underlying92,
  a28 := Try.isAgg92,
  z28 := Try.sizeOf92,
  v28 := Try.zeroValue92,
  t33 := Try.underlying99,
  a33 := Try.isAgg99,
  z33 := Try.sizeOf99,
  v33 := Try.zeroValue99 }
def sortedA_ren : Go.Shelf.Ren := ⟨fun | 6 => 50 | 8 => 55 | 9 => 56 | 11 => 58 | 13 => 60 | 12 => 59 | 23 => 70 | 24 => 71 | 14 => 61 | 15 => 62 | 16 => 63 | 17 => 64 | 18 => 65 | 19 => 66 | 20 => 67 | 21 => 68 | 22 => 69 | 25 => 72 | 26 => 73 | 27 => 74 | 28 => 75 | 29 => 76 | 30 => 77 | 31 => 78 | n => n,
  fun | 26 => 3 | 28 => 92 | 24 => 78 | 0 => 0 | 3 => 3 | 37 => 94 | 48 => 114 | 50 => 88 | 4 => 4 | 40 => 106 | 39 => 105 | 45 => 111 | 5 => 5 | 9 => 9 | 51 => 116 | 55 => 120 | 57 => 122 | 58 => 123 | 33 => 99 | n => n,
  fun | n => n⟩
theorem sortedA : Go.Proofs.SlLaysZI.n6 Try.prog sortedA_ren := {
  mixed := by kernel_rfl,
  f6 := ⟨ "slices.Sorted[int]", by decide, Try.func50.trans (congrArg some (by kernel_rfl))⟩,
  f8 := ⟨ "slices.Collect[int]", by decide, Try.func55.trans (congrArg some (by kernel_rfl))⟩,
  f11 := ⟨ "slices.AppendSeq[[]int,int]", by decide, Try.func58.trans (congrArg some (by kernel_rfl))⟩,
  t0 := Try.underlying0,
  a0 := Try.isAgg0,
  z0 := Try.sizeOf0,
  v0 := Try.zeroValue0,
  t24 := Try.underlying78,
  a24 := Try.isAgg78,
  z24 := Try.sizeOf78,
  v24 := Try.zeroValue78,
  t26 := Try.underlying3,
  a26 := Try.isAgg3,
  z26 := Try.sizeOf3,
  v26 := Try.zeroValue3,
  t28 := Try.underlying92,
  a28 := Try.isAgg92,
  z28 := Try.sizeOf92,
  v28 := Try.zeroValue92,
  i26 := by kernel_rfl }
end Go.Proofs.Ytaaegbccejjjcaa
