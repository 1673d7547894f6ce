/- Several texts in one: The contract of a disk's Crash. A disk, as the laws meet it: the contracts of all its methods, at one word. -/
import Derived.Test.YtbfbiofndipaaaaCt14
import Derived.Test.YtbfbiofndipaaaaCt3
namespace Disks
theorem upto_lt (l : List (Option (List UInt8))) {i j : Nat} (h : i < j) (hc : (cget l i).isSome = true) : (upto l i).length < (upto l j).length := by
  induction j with
  | zero => omega
  | succ j ih =>
    have h1 : (upto l j).length ≤ (upto l (j + 1)).length := by
      show _ ≤ (if _ then _ else _ : List Int).length
      split
      · rw [List.length_append]; omega
      · exact Nat.le_refl _
    rcases Nat.lt_or_ge i j with q | q
    · have := ih q; omega
    · have e : i = j := by omega
      subst e
      show _ < (if _ then _ else _ : List Int).length
      rw [if_pos hc, List.length_append, List.length_singleton]
      omega
theorem upto_inj (l : List (Option (List UInt8))) {i j : Nat} (hi : (cget l i).isSome = true) (hj : (cget l j).isSome = true) (h : (upto l i).length = (upto l j).length) : i = j := by
  rcases Nat.lt_trichotomy i j with q | q | q
  · have := upto_lt l q hi; omega
  · exact q
  · have := upto_lt l q hj; omega
theorem upto_get (l : List (Option (List UInt8))) (n k : Nat) (hk : k < (upto l n).length) : ∃ j : Nat, (upto l n)[k] = (j : Int) ∧ j < n ∧ (cget l j).isSome = true ∧ (upto l j).length = k := by
  induction n with
  | zero => exact absurd hk (by simp [upto])
  | succ n ih =>
    by_cases hc : (cget l n).isSome = true
    · have e : upto l (n + 1) = upto l n ++ [(n : Int)] := if_pos hc
      have hk' := hk
      rw [e, List.length_append, List.length_singleton] at hk'
      by_cases q : k < (upto l n).length
      · obtain ⟨j, h1, h2, h3, h4⟩ := ih q
        refine ⟨j, ?_, by omega, h3, h4⟩
        rw [← h1]
        simp only [e]
        exact List.getElem_append_left q
      · have ek : k = (upto l n).length := by omega
        subst ek
        refine ⟨n, ?_, by omega, hc, rfl⟩
        simp only [e]
        rw [List.getElem_append_right (Nat.le_refl _)]
        simp
    · have e : upto l (n + 1) = upto l n := if_neg hc
      rw [e] at hk
      obtain ⟨j, h1, h2, h3, h4⟩ := ih hk
      refine ⟨j, ?_, by omega, h3, h4⟩
      rw [← h1]
      simp only [e]
/-- The medium when k cached sectors have been looked at. -/
structure Part (d : D) (keeps : List Bool) (k : Nat) (M : List (List UInt8)) : Prop where
  len : M.length = d.med.length
  row : ∀ i, i < d.med.length → Gm.row M i = if (cget d.cac i).isSome = true ∧ (upto d.cac i).length < k ∧ kept keeps (upto d.cac i).length = true then sec d i else Gm.row d.med i
theorem Part.start (d : D) (keeps : List Bool) : Part d keeps 0 d.med := ⟨rfl, fun i _ => by rw [if_neg (by omega)]⟩
theorem Part.skip {d : D} {keeps : List Bool} {k : Nat} {M : List (List UInt8)} (h : Part d keeps k M) (hk : kept keeps k = false) : Part d keeps (k + 1) M := ⟨h.len, fun i hi => by
  rw [h.row i hi]
  by_cases q : (cget d.cac i).isSome = true ∧ (upto d.cac i).length < k ∧ kept keeps (upto d.cac i).length = true
  · rw [if_pos q, if_pos ⟨q.1, by omega, q.2.2⟩]
  · rw [if_neg q, if_neg ?_]
    rintro ⟨a, b, c⟩
    by_cases e : (upto d.cac i).length = k
    · rw [e, hk] at c; cases c
    · exact q ⟨a, by omega, c⟩⟩
theorem Part.done {d : D} {keeps : List Bool} {M : List (List UInt8)} (h : Part d keeps (cached d).length M) (hl : d.cac.length = d.med.length) : M = (List.range d.med.length).map (left d keeps) := by
  refine List.ext_getElem (h.len.trans (by simp)) (fun i a b => ?_)
  have hi : i < d.med.length := by rw [← h.len]; exact a
  have q := h.row i hi
  have e : Gm.row M i = M[i] := by unfold Gm.row; rw [List.getD_eq_getElem?_getD, List.getElem?_eq_getElem a]; rfl
  rw [← e, q]
  simp only [List.getElem_map, List.getElem_range]
  unfold left
  by_cases hc : (cget d.cac i).isSome = true
  · have hlt : (upto d.cac i).length < (cached d).length := upto_lt d.cac (by rw [hl]; exact hi) hc
    by_cases hk : kept keeps (upto d.cac i).length = true
    · rw [if_pos ⟨hc, hlt, hk⟩, if_pos hk]
    · rw [if_neg (fun z => hk z.2.2), if_neg hk]
  · rw [if_neg (fun z => hc z.1)]
    have hn : cget d.cac i = none := by simpa using hc
    unfold sec
    rw [hn]
    split <;> rfl
end Disks
namespace Go.Proofs.Ytbfbiofndipaaaa
open Go.RowKit Go.Maps Go.Sort Go.Shelf
set_option linter.unusedSimpArgs false

theorem part_set {d : Disks.D} {keeps : List Bool} {k j : Nat} {M : List (List UInt8)} (h : Disks.Part d keeps k M) (hj : j < d.med.length) (hc : (Disks.cget d.cac j).isSome = true) (hp : (Disks.upto d.cac j).length = k) (hk : Disks.kept keeps k = true) :
    Disks.Part d keeps (k + 1) (M.set j (Disks.sec d j)) := by
  refine ⟨by rw [List.length_set]; exact h.len, fun i hi => ?_⟩
  rw [row_set M j i _ (by rw [h.len]; exact hj)]
  by_cases e : j = i
  · subst e
    rw [if_pos rfl, if_pos ⟨hc, by omega, by rw [hp]; exact hk⟩]
  · rw [if_neg e, h.row i hi]
    by_cases q : (Disks.cget d.cac i).isSome = true ∧ (Disks.upto d.cac i).length < k ∧ Disks.kept keeps (Disks.upto d.cac i).length = true
    · rw [if_pos q, if_pos ⟨q.1, by omega, q.2.2⟩]
    · rw [if_neg q, if_neg ?_]
      rintro ⟨a, b, c⟩
      by_cases e2 : (Disks.upto d.cac i).length = k
      · exact e (Disks.upto_inj d.cac hc a (hp.trans e2.symm))
      · exact q ⟨a, by omega, c⟩
theorem Bls.kp {w w' : World} {A : Option Addr} {n c : Nat} {l : List Bool} {g m b : Nat} (h : Bls w A n c l) (hk : Kp g m b w w') (ha : 0 < n → Awy g m b A) : Bls w' A n c l := by
  refine ⟨h.len, h.le, h.max, fun k hn => ?_⟩
  obtain ⟨z, o, e, q⟩ := h.rd k hn
  obtain ⟨a1, a2, a3⟩ := ha (by omega) _ e
  refine ⟨z, o, e, ?_⟩
  rw [← q]
  exact World.cell?_of_block (hk.block z (World.block_lt_of_cell? _ _ q) a1 a2 a3)
theorem Is.kp {w w' : World} {A : Option Addr} {n c : Nat} {l : List Int} {g m b : Nat} (h : Is w A n c l) (hk : Kp g m b w w') (ha : Awy g m b A) : Is w' A n c l := by
  refine ⟨h.len, h.le, h.max, h.rd.1, fun hn => ?_⟩
  obtain ⟨z, o, e, hc⟩ := h.rd.2 hn
  refine ⟨z, o, e, fun j v hv => ?_⟩
  have q := hc j v hv
  obtain ⟨a1, a2, a3⟩ := ha _ e
  rw [← q]
  exact World.cell?_of_block (hk.block z (World.block_lt_of_cell? _ _ q) a1 a2 a3)
theorem own_is {w : World} {base : Nat} {v : Value} {l : List Int} (h : w.ownsRow base 3 1 v l.length (icells l)) : ∃ A c, v = .slice A l.length c ∧ Is w A l.length c l ∧ ∀ p, A = some p → base ≤ p.block := by
  obtain ⟨A, c, rfl, _, _⟩ := ownsRow_slice h
  refine ⟨A, c, rfl, (Own.mk (base := base) (e := 3) h).ints, fun p hp => ?_⟩
  subst hp
  exact (h.lt p.block rfl).1
/-- The cache is looked up, of a sector that is there. -/
theorem Dk.look1 {w : World} {g m b n : Nat} {D : DataW Nat} {d : Disks.D} (h : Dk w g m b n D d) {j : Nat} (hj : j < 65536) (hc : (Disks.cget d.cac j).isSome = true) :
    (Instr.lookup 65 (.map (some b)) (.int .i64 (j : Int)) false).run Try.prog w = .ok (secV (Disks.sec d j)) w := by
  obtain ⟨v, ps, hr, hv⟩ := h.mp.lookup int_key5 map_under (sec_zero w) (secR_mk zeros64_len) (lk_of (i := (j : Int)) (by omega) (by omega))
  obtain ⟨s, hs⟩ := Option.isSome_iff_exists.1 hc
  have h2 := h.tie.at_ (j : Int) s (.lit (.string zeros64)) (by omega) (by rw [show ((j : Int)).toNat = j by omega]; exact hs)
  rw [h2] at hv
  have e : Disks.sec d j = s := by unfold Disks.sec; rw [hs]; rfl
  rw [hr, (secR_at hv).1, e]
theorem sec_med (d : Disks.D) (M : List (List UInt8)) {j : Nat} (hc : (Disks.cget d.cac j).isSome = true) : Disks.sec { d with med := M } j = Disks.sec d j := by
  obtain ⟨s, hs⟩ := Option.isSome_iff_exists.1 hc
  unfold Disks.sec
  rw [hs]
  rfl
/-- What a round of Crash knows. -/
structure Cr (wr : World) (g m b n : Nat) (D : DataW Nat) (d : Disks.D) (keeps : List Bool) (k : Nat) (w : World) : Prop where
  mid : ∃ M, Disks.Part d keeps k M ∧ Dk wr g m b n D { d with med := M }
  kp : Kp g m b w wr
set_option maxRecDepth 100000 in
set_option maxHeartbeats 4000000 in
theorem dkCrash_any (w : World) (g m b n : Nat) (D : DataW Nat) (d : Disks.D) (h : Dk w g m b n D d) (hf : Disks.Wf d) (Ak : Option Addr) (nk ck : Nat) (keeps : List Bool) (hk : Bls w Ak nk ck keeps) (ha : 0 < nk → Awy g m b Ak) :
    Calls Try.prog 17 #[dptr g, .slice Ak nk ck] w fun e w' => e = .returned (.tuple #[]) ∧ Dk w' g m b 0 (.map []) (Disks.crashD d keeps) ∧ Kp g m b w w' := by
  have hN := dkNone_any w g m b n D d h
  have HC := Lib.hid (fun (W : World) (hW : Ext w W) => dkCached_any W g m b n D d (h.ext hW) hf)
  have H := Lib.hid h
  have HF := Lib.hid hf
  have HB := Lib.hid hk
  have HA := Lib.hid ha
  have q1 := hk.len
  have q2 := hk.le
  have q3 := hk.max
  have b1 := h.lt
  have b2 := h.md.lt
  have b3 := h.ltb
  have bb := Lib.hid (And.intro b1 (And.intro b2 b3))
  clear h hf hk ha b1 b2 b3
  go_enter Try.func17, Try.ntmps17
  go_wp2_with (fail)
  with_reducible refine hN.mono ?_
  rintro e w1 ⟨rfl, x1⟩
  have X1 := Lib.hid x1
  clear x1 hN
  go_wp2_with (fail)
  with_reducible refine (HC.out _ X1.out).mono ?_
  rintro e w2 ⟨v2, rfl, o2, x2⟩
  obtain ⟨A2, c2, rfl, hi2, hb2⟩ := own_is o2
  have hA2 : Awy g m b A2 := fun p hp => by
    have := hb2 p hp
    have := X1.out.size
    have := bb.out
    omega
  have hm2 : (Disks.cached d).length ≤ 65536 := Nat.le_trans (Disks.upto_len _ _) (by rw [HF.out.len]; exact HF.out.max)
  obtain ⟨L, hL⟩ : ∃ L, Disks.cached d = L := ⟨_, rfl⟩
  rw [hL] at hi2 hm2 ⊢
  have HL := Lib.hid hL
  have I2 := Lib.hid hi2
  have HA2 := Lib.hid hA2
  have X2 := Lib.hid (X1.out.trans x2)
  have c3 := hi2.max
  have hCr : Cr w2 g m b n D d keeps 0 w := ⟨⟨d.med, Disks.Part.start d keeps, H.out.ext X2.out⟩, Kp.of X2.out ..⟩
  have HCr := Lib.hid hCr
  clear HC o2 hi2 hb2 hA2 hL x2 hCr
  go_wp2_with (fail)
  go_loopw [11] (fun i wr => ∃ k : Nat, k ≤ L.length ∧ i = .int .i64 k ∧ Hid (Cr wr g m b n D d keeps k w) ∧ Hid (Is wr A2 L.length c2 L) ∧ Hid (Bls wr Ak nk ck keeps)) (fun i _ => L.length - (intOf i).toNat)
  case atStart => exact ⟨0, by omega, rfl, HCr, I2, Lib.hid (HB.out.ext X2.out)⟩
  case round =>
    obtain ⟨k, hkl, rfl, HR, HI, HBl⟩ := hrel
    by_cases hlt : k < L.length
    · obtain ⟨j, j1, j2, j3, j4⟩ := Disks.upto_get d.cac d.cac.length k (by have := HL.out; unfold Disks.cached at this; rw [this]; exact hlt)
      have hg : Il.get L k = (j : Int) := by
        rw [Il.get_of_lt hlt, ← j1]
        have := HL.out
        unfold Disks.cached at this
        simp only [this]
      obtain ⟨z1, o1, hz1, hc1⟩ := HI.out.rd.intAt hlt
      rw [hg] at hc1
      subst hz1
      have i1 : (k : Int) < L.length := by omega
      have jm : j < d.med.length := by rw [← HF.out.len]; exact j2
      by_cases hkn : k < nk
      · obtain ⟨z2, o2, hz2, hc2⟩ := HBl.out.rd k hkn
        subst hz2
        have i2 : (k : Int) < nk := by omega
        by_cases hb : bget keeps k = true
        · rw [hb] at hc2
          have J3 := Lib.hid j3
          have J4 := Lib.hid j4
          have HBG := Lib.hid hb
          have JM := Lib.hid jm
          clear j1 j2 j3 j4 hb hg jm
          go_wp2_with (fail)
          obtain ⟨M, hM, hD⟩ := HR.out.mid
          obtain ⟨CS, hCS⟩ : ∃ CS, (bcells (Disks.sec d j)).toArray = CS := ⟨_, rfl⟩
          have hjs : (Disks.sec d j).length = 64 := sec_is HF.out JM.out
          have z6 : CS.size = 64 := by rw [← hCS]; simp [bcells_len, hjs]
          have D9 := hD.ext (Ext.drew wr)
          have hjM : j < M.length := by rw [hM.len]; exact JM.out
          have hM9 : M.length ≤ 65536 := by rw [hM.len]; exact HF.out.max
          obtain ⟨w6, hr6, hD6, hg6⟩ := D9.med (d := { d with med := M }) hjM hjs
          rw [hCS] at hr6
          have hK6 : Kp g m b wr w6 := (Kp.of (Ext.drew wr) ..).grown hg6 (fun k e => .inr (.inl (by injection e with e; exact e.symm)))
          have hI6 := Lib.hid (HI.out.kp hK6 HA2.out)
          have hB6 := Lib.hid (HBl.out.kp hK6 HA.out)
          have hR6 := Lib.hid (show Cr w6 g m b n D d keeps (k + 1) w from ⟨⟨_, part_set hM JM.out J3.out J4.out HBG.out, hD6⟩, HR.out.kp.trans hK6⟩)
          have R6 := Lib.hid hr6
          have D9' := Lib.hid D9
          have HCS := Lib.hid hCS
          clear hM hD D9 hr6 hD6 hg6 hK6 hCS hjs hc1 hc2
          have hHeld : (fun W : World => Hid (W.cell? ⟨g, 0, none⟩ = some (.slice (some ⟨m, 0, none⟩) M.length M.length) ∧ W.cell? ⟨g, 1, none⟩ = some (.map (some b)) ∧ Dk W g m b n D { d with med := M })) wr.drew := Lib.hid ⟨D9'.out.c0, D9'.out.c1, D9'.out⟩
          refine wp_region_T (S := fun W : World => Hid (W.cell? ⟨g, 0, none⟩ = some (.slice (some ⟨m, 0, none⟩) M.length M.length) ∧ W.cell? ⟨g, 1, none⟩ = some (.map (some b)) ∧ Dk W g m b n D { d with med := M })) 12 rfl rfl ?_
          refine takeT (i := 0) (v := ?_) rfl (by kernel_rfl) (by kernel_rfl) (by kernel_rfl) (by kernel_rfl) (by decide) (fun _ _ _ h => h) (by kernel_rfl) (Or.inl ⟨by rfl, ?_⟩) (by assumption) ?_
          rotate_left
          · (intro W9 hSw; go_simp; (try with_reducible rfl))
          try simp only [Act.put, List.setIfInBounds_toArray, List.set_cons_zero, List.set_cons_succ]
          refine takeT (i := 1) (v := ?_) rfl (by kernel_rfl) (by kernel_rfl) (by kernel_rfl) (by kernel_rfl) (by decide) (fun _ _ _ h => h) (by kernel_rfl) (Or.inl ⟨by rfl, ?_⟩) (by assumption) ?_
          rotate_left
          · (intro W9 hSw; go_simp; (try with_reducible rfl))
          try simp only [Act.put, List.setIfInBounds_toArray, List.set_cons_zero, List.set_cons_succ]
          refine takeT (i := 2) (v := ?_) rfl (by kernel_rfl) (by kernel_rfl) (by kernel_rfl) (by kernel_rfl) (by decide) (fun _ _ _ h => h) (by kernel_rfl) (Or.inl ⟨by rfl, ?_⟩) (by assumption) ?_
          rotate_left
          · (intro W9 hSw; go_simp; (try with_reducible rfl))
          try simp only [Act.put, List.setIfInBounds_toArray, List.set_cons_zero, List.set_cons_succ]
          refine takeT (i := 3) (v := ?_) rfl (by kernel_rfl) (by kernel_rfl) (by kernel_rfl) (by kernel_rfl) (by decide) (fun _ _ _ h => h) (by kernel_rfl) (Or.inl ⟨by rfl, ?_⟩) (by assumption) ?_
          rotate_left
          · (intro W9 hSw; (have k9 := hSw.out.1); go_simp; (try with_reducible rfl))
          try simp only [Act.put, List.setIfInBounds_toArray, List.set_cons_zero, List.set_cons_succ]
          refine takeT (i := 4) (v := ?_) rfl (by kernel_rfl) (by kernel_rfl) (by kernel_rfl) (by kernel_rfl) (by decide) (fun _ _ _ h => h) (by kernel_rfl) (Or.inl ⟨by rfl, ?_⟩) (by assumption) ?_
          rotate_left
          · (intro W9 hSw; go_simp; (try with_reducible rfl))
          try simp only [Act.put, List.setIfInBounds_toArray, List.set_cons_zero, List.set_cons_succ]
          refine takeT (i := 5) (v := ?_) rfl (by kernel_rfl) (by kernel_rfl) (by kernel_rfl) (by kernel_rfl) (by decide) (fun _ _ _ h => h) (by kernel_rfl) (Or.inl ⟨by rfl, ?_⟩) (by assumption) ?_
          rotate_left
          · (intro W9 hSw; go_simp; (try with_reducible rfl))
          try simp only [Act.put, List.setIfInBounds_toArray, List.set_cons_zero, List.set_cons_succ]
          refine takeT (i := 6) (v := ?_) rfl (by kernel_rfl) (by kernel_rfl) (by kernel_rfl) (by kernel_rfl) (by decide) (fun _ _ _ h => h) (by kernel_rfl) (Or.inl ⟨by rfl, ?_⟩) (by assumption) ?_
          rotate_left
          · (intro W9 hSw; go_simp; (try with_reducible rfl))
          try simp only [Act.put, List.setIfInBounds_toArray, List.set_cons_zero, List.set_cons_succ]
          refine takeT (i := 7) (v := ?_) rfl (by kernel_rfl) (by kernel_rfl) (by kernel_rfl) (by kernel_rfl) (by decide) (fun _ _ _ h => h) (by kernel_rfl) (Or.inl ⟨by rfl, ?_⟩) (by assumption) ?_
          rotate_left
          · (intro W9 hSw; go_simp; (try with_reducible rfl))
          try simp only [Act.put, List.setIfInBounds_toArray, List.set_cons_zero, List.set_cons_succ]
          refine takeT (i := 8) (v := ?_) rfl (by kernel_rfl) (by kernel_rfl) (by kernel_rfl) (by kernel_rfl) (by decide) (fun _ _ _ h => h) (by kernel_rfl) (Or.inl ⟨by rfl, ?_⟩) (by assumption) ?_
          rotate_left
          · (intro W9 hSw; (have k9 := hSw.out.2.1); go_simp; (try with_reducible rfl))
          try simp only [Act.put, List.setIfInBounds_toArray, List.set_cons_zero, List.set_cons_succ]
          refine takeT (i := 9) (v := ?_) rfl (by kernel_rfl) (by kernel_rfl) (by kernel_rfl) (by kernel_rfl) (by decide) (fun _ _ _ h => h) (by kernel_rfl) (Or.inl ⟨by rfl, ?_⟩) (by assumption) ?_
          rotate_left
          · (intro W9 hSw; go_simp; (try with_reducible rfl))
          try simp only [Act.put, List.setIfInBounds_toArray, List.set_cons_zero, List.set_cons_succ]
          refine takeT (i := 10) (v := .agg CS) rfl (by kernel_rfl) (by kernel_rfl) (by kernel_rfl) (by kernel_rfl) (by decide) (fun _ _ _ h => h) (by kernel_rfl) (Or.inl ⟨by rfl, ?_⟩) (by assumption) ?_
          · (intro W9 hSw; (have k9 := hSw.out.2.2.look1 (j := j) (by have := HF.out.max; have := JM.out; omega) J3.out); (rw [show secV (Disks.sec { d with med := M } j) = .agg CS from by rw [← HCS.out, sec_med d M J3.out]; rfl] at k9); go_simp; (try with_reducible rfl))
          try simp only [Act.put, List.setIfInBounds_toArray, List.set_cons_zero, List.set_cons_succ]
          refine takeT (i := 11) (v := ?_) rfl (by kernel_rfl) (by kernel_rfl) (by kernel_rfl) (by kernel_rfl) (by decide) (fun _ _ _ h => h) (by kernel_rfl) (Or.inl ⟨by rfl, ?_⟩) (by assumption) ?_
          rotate_left
          · (intro W9 hSw; go_simp; (try with_reducible rfl))
          try simp only [Act.put, List.setIfInBounds_toArray, List.set_cons_zero, List.set_cons_succ]
          refine oneT (i := 12) rfl (by kernel_rfl) (fun K hK => ?_)
          rw [if_pos (by kernel_rfl)]
          clear hHeld
          have r6 := R6.out
          go_wp2_with (fail)
          refine hK.out _ _ (fun h => absurd (show true = false from h) (by decide)) ?_
          clear hK K
          try simp only [Act.put, List.setIfInBounds_toArray, List.set_cons_zero, List.set_cons_succ]
          refine doneT (by kernel_rfl) ?_ _
          go_wp2_with (fail)
          exact ⟨⟨k + 1, by omega, by go_num, hR6, hI6, hB6⟩, by simp [intOf]; omega⟩
        · rw [Bool.not_eq_true] at hb
          rw [hb] at hc2
          have hR6 := Lib.hid (show Cr wr g m b n D d keeps (k + 1) w from ⟨by obtain ⟨M, hM, hD⟩ := HR.out.mid; exact ⟨M, hM.skip hb, hD⟩, HR.out.kp⟩)
          clear j1 j2 j3 j4 hb hg jm
          go_wp2_with (fail)
          exact ⟨⟨k + 1, by omega, by go_num, hR6, HI, HBl⟩, by simp [intOf]; omega⟩
      · have i2 : ¬ (k : Int) < nk := by omega
        have hb : Disks.kept keeps k = false := by unfold Disks.kept; rw [List.getD_eq_getElem?_getD, List.getElem?_eq_none (by omega)]; rfl
        have hR6 := Lib.hid (show Cr wr g m b n D d keeps (k + 1) w from ⟨by obtain ⟨M, hM, hD⟩ := HR.out.mid; exact ⟨M, hM.skip hb, hD⟩, HR.out.kp⟩)
        clear j1 j2 j3 j4 hb hg jm
        go_wp2_with (fail)
        exact ⟨⟨k + 1, by omega, by go_num, hR6, HI, HBl⟩, by simp [intOf]; omega⟩
    · have ek : k = L.length := by omega
      subst ek
      obtain ⟨M, hM, hD⟩ := HR.out.mid
      have hLc := HL.out
      have eM := (show Disks.Part d keeps (Disks.cached d).length M by rw [hLc]; exact hM).done HF.out.len
      obtain ⟨w5, rc, hc5, kc⟩ := hD.clear 0
      have k1 := hD.c1
      have HC := Lib.hid hc5
      have KC := Lib.hid (HR.out.kp.trans kc)
      have EM := Lib.hid eM
      have k2 := hc5.c2
      have k3 := hc5.c3
      have f2 := hc5.fz 2
      have f3 := hc5.fz 3
      clear hM hD hc5 kc hkl hlt hLc eM
      go_wp2_with (fail)
      refine bodyPost_end (results_none rfl _ _ _) rfl ?_
      have R := (HC.out.set3 false).set2 (-1)
      rw [EM.out, HF.out.len] at R
      exact ⟨rfl, R, (KC.out.set (p := ⟨g, 3, none⟩) (.inl rfl) _).set (p := ⟨g, 2, none⟩) (.inl rfl) _⟩
end Go.Proofs.Ytbfbiofndipaaaa
namespace Disks
theorem op_med (d : D) : (op d).med = d.med := by unfold op; split <;> rfl
theorem op_cac (d : D) : (op d).cac = d.cac := by unfold op; split <;> rfl
/-- Right, and of an arm that is a number. -/
structure Ok (d : D) : Prop where
  wf : Wf d
  top : d.arm < 2 ^ 63
theorem Ok.op {d : D} (h : Ok d) : Ok (op d) := by
  have h1 := h.wf.arm
  have h2 := h.top
  unfold Disks.op
  split
  · exact ⟨⟨h.wf.len, h.wf.med, h.wf.cac, by show (-1 : Int) ≤ -1; omega, h.wf.pos, h.wf.max⟩, by show (-1 : Int) < _; omega⟩
  · exact ⟨⟨h.wf.len, h.wf.med, h.wf.cac, by show (-1 : Int) ≤ max (d.arm - 1) (-1); omega, h.wf.pos, h.wf.max⟩, by show max (d.arm - 1) (-1) < _; omega⟩
theorem Ok.write {d : D} (h : Ok d) (i : Int) (l : List UInt8) : Ok (writeD d i l) := by
  unfold writeD
  split
  · exact h
  · split
    · exact h
    · rename_i hl
      split
      · exact h.op
      · have ho := h.op
        have hc := op_cac d
        have hl' : l.length = 64 := by omega
        refine ⟨⟨?_, ho.wf.med, fun j s hs => ?_, ho.wf.arm, ho.wf.pos, ho.wf.max⟩, ho.top⟩
        · show (d.cac.set _ _).length = (Disks.op d).med.length
          rw [List.length_set, op_med]
          exact h.wf.len
        · have hs : cget (d.cac.set i.toNat (some l)) j = some s := hs
          by_cases e : i.toNat = j
          · rcases Nat.lt_or_ge j d.cac.length with q | q
            · rw [e, cget_set_eq q] at hs
              injection hs with hs
              rw [← hs]
              exact hl'
            · rw [cget_ge (by rw [List.length_set]; exact q)] at hs
              cases hs
          · rw [cget_set_ne e] at hs
            exact h.wf.cac j s hs
theorem row_merged (d : D) {i : Nat} (hi : i < d.med.length) : Gm.row (merged d) i = sec d i := by
  unfold Gm.row merged
  rw [List.getD_eq_getElem?_getD, List.getElem?_map, List.getElem?_range hi]
  rfl
theorem row_left (d : D) (keeps : List Bool) {i : Nat} (hi : i < d.med.length) : Gm.row ((List.range d.med.length).map (left d keeps)) i = left d keeps i := by
  unfold Gm.row
  rw [List.getD_eq_getElem?_getD, List.getElem?_map, List.getElem?_range hi]
  rfl
theorem len_sec {d : D} (h : Wf d) {i : Nat} (hi : i < d.med.length) : (sec d i).length = 64 := by
  unfold sec
  cases hc : cget d.cac i with
  | none => exact h.med i hi
  | some s => exact h.cac i s hc
theorem cget_empty (n i : Nat) : cget (List.replicate n none) i = none := by
  by_cases h : i < n
  · rw [cget_lt (by simpa using h)]; simp
  · rw [cget_ge (by simpa using h)]
theorem len_merged (d : D) : (merged d).length = d.med.length := by simp [merged]
theorem Ok.flush {d : D} (h : Ok d) : Ok (flushD d) := by
  unfold flushD
  split
  · exact h
  · split
    · exact h.op
    · have ho := h.op
      refine ⟨⟨?_, fun i hi => ?_, fun j s hs => ?_, ho.wf.arm, ?_, ?_⟩, ho.top⟩
      · show (emptied d).length = (merged d).length
        simp [emptied, merged]
      · have hi : i < (merged d).length := hi
        rw [len_merged] at hi
        show (Gm.row (merged d) i).length = 64
        rw [row_merged d hi]
        exact len_sec h.wf hi
      · have hs : cget (emptied d) j = some s := hs
        rw [emptied, cget_empty] at hs
        cases hs
      · show 1 ≤ (merged d).length
        rw [len_merged]; exact h.wf.pos
      · show (merged d).length ≤ _
        rw [len_merged]; exact h.wf.max
theorem Ok.crash {d : D} (h : Ok d) (keeps : List Bool) : Ok (crashD d keeps) := by
  have hl : ((List.range d.med.length).map (left d keeps)).length = d.med.length := by simp
  refine ⟨⟨?_, fun i hi => ?_, fun j s hs => ?_, by show (-1 : Int) ≤ -1; omega, ?_, ?_⟩, by show (-1 : Int) < _; omega⟩
  · show (emptied d).length = ((List.range d.med.length).map (left d keeps)).length
    rw [hl]; simp [emptied]
  · have hi : i < ((List.range d.med.length).map (left d keeps)).length := hi
    rw [hl] at hi
    show (Gm.row ((List.range d.med.length).map (left d keeps)) i).length = 64
    rw [row_left d keeps hi]
    unfold left
    split
    · exact len_sec h.wf hi
    · exact h.wf.med i hi
  · have hs : cget (emptied d) j = some s := hs
    rw [emptied, cget_empty] at hs
    cases hs
  · show 1 ≤ ((List.range d.med.length).map (left d keeps)).length
    rw [hl]; exact h.wf.pos
  · show ((List.range d.med.length).map (left d keeps)).length ≤ _
    rw [hl]; exact h.wf.max
theorem Ok.arm {d : D} (h : Ok d) {n : Int} (hn : n < 2 ^ 63) : Ok (armD d n) := by
  unfold armD
  split
  · exact h
  · exact ⟨⟨h.wf.len, h.wf.med, h.wf.cac, by show (-1 : Int) ≤ max n 0; omega, h.wf.pos, h.wf.max⟩, by show max n 0 < _; omega⟩
theorem Ok.spoil {d : D} (h : Ok d) (i k : Int) (t : UInt8) : Ok (spoilD d i k t) := by
  unfold spoilD
  split
  · exact h
  · refine ⟨⟨by show d.cac.length = (d.med.set _ _).length; rw [List.length_set]; exact h.wf.len, fun j hj => ?_, h.wf.cac, h.wf.arm, by show 1 ≤ (d.med.set _ _).length; rw [List.length_set]; exact h.wf.pos, by show (d.med.set _ _).length ≤ _; rw [List.length_set]; exact h.wf.max⟩, h.top⟩
    have hj : j < (d.med.set i.toNat (turn (Gm.row d.med i.toNat) k.toNat t)).length := hj
    rw [List.length_set] at hj
    show (Gm.row (d.med.set i.toNat (turn (Gm.row d.med i.toNat) k.toNat t)) j).length = 64
    unfold Gm.row
    rw [List.getD_eq_getElem?_getD, List.getElem?_set]
    by_cases e : i.toNat = j
    · rw [if_pos e, if_pos (by omega)]
      show (turn (Gm.row d.med i.toNat) k.toNat t).length = 64
      unfold turn
      rw [List.length_set]
      exact h.wf.med _ (by omega)
    · rw [if_neg e]
      exact h.wf.med j hj
theorem Ok.new {n : Nat} (h1 : 1 ≤ n) (h2 : n ≤ 65536) : Ok (Disks.new n) := by
  have e : (Disks.new n).med.length = n := List.length_replicate ..
  refine ⟨⟨by rw [e]; exact List.length_replicate .., fun i hi => ?_, fun i s hs => ?_, by show (-1 : Int) ≤ -1; omega, by rw [e]; exact h1, by rw [e]; exact h2⟩, by show (-1 : Int) < _; omega⟩
  · have hi : i < (List.replicate n (List.replicate 64 (0 : UInt8))).length := hi
    rw [List.length_replicate] at hi
    show (Gm.row (List.replicate n (List.replicate 64 (0 : UInt8))) i).length = 64
    unfold Gm.row
    rw [List.getD_eq_getElem?_getD, List.getElem?_replicate, if_pos hi]
    exact List.length_replicate ..
  · have hs : cget (List.replicate n none) i = some s := hs
    rw [cget_empty] at hs
    cases hs
end Disks
namespace Go.Proofs.Ytbfbiofndipaaaa
open Go.RowKit Go.Maps Go.Sort Go.Shelf

/-- Box g, medium m, cache b (of at most N entries) hold the disk. -/
structure Ds (w : World) (g m b N : Nat) (d : Disks.D) : Prop where
  ex : ∃ n D, n ≤ N ∧ Dk w g m b n D d
  ok : Disks.Ok d
section
variable {w w' : World} {g m b N : Nat} {d : Disks.D}
theorem Ds.ext (h : Ds w g m b N d) (hx : Ext w w') : Ds w' g m b N d := by
  obtain ⟨n, D, hn, hd⟩ := h.ex
  exact ⟨⟨n, D, hn, hd.ext hx⟩, h.ok⟩
theorem Ds.lts (h : Ds w g m b N d) : g < w.heap.size ∧ m < w.heap.size ∧ b < w.heap.size := by
  obtain ⟨n, D, hn, hd⟩ := h.ex
  exact ⟨hd.lt, hd.md.lt, hd.ltb⟩
theorem Ds.mono (h : Ds w g m b N d) {N' : Nat} (hN : N ≤ N') : Ds w g m b N' d := by
  obtain ⟨n, D, hn, hd⟩ := h.ex
  exact ⟨⟨n, D, by omega, hd⟩, h.ok⟩
/-- Another disk's method leaves it alone. -/
theorem Ds.kp {g' m' b' : Nat} (h : Ds w g m b N d) (hk : Kp g' m' b' w w') (h1 : g ≠ g' ∧ g ≠ m' ∧ g ≠ b') (h2 : m ≠ g' ∧ m ≠ m' ∧ m ≠ b') (h3 : b ≠ g' ∧ b ≠ m' ∧ b ≠ b') : Ds w' g m b N d := by
  obtain ⟨n, D, hn, hd⟩ := h.ex
  exact ⟨⟨n, D, hn, hd.same hk.size (hk.block g hd.lt h1.1 h1.2.1 h1.2.2) (hk.block m hd.md.lt h2.1 h2.2.1 h2.2.2) (hk.block b hd.ltb h3.1 h3.2.1 h3.2.2)⟩, h.ok⟩
theorem Ds.none (h : Ds w g m b N d) : Calls Try.prog 39 #[dptr g] w fun e w' => e = .returned (.bool false) ∧ Ext w w' := by
  obtain ⟨n, D, hn, hd⟩ := h.ex
  exact dkNone_any w g m b n D d hd
theorem Ds.write (h : Ds w g m b N d) (hN : N < maxLen) (i : Int) (A : Option Addr) (c e : Nat) (l : List UInt8) (hl : Bs w A c e l) (ha : Awy g m b A) {er : Int} {d' : Disks.D} (hE : Disks.writeE d i l = er) (hD : Disks.writeD d i l = d') :
    Calls Try.prog 13 #[dptr g, .int .i64 i, .slice A c e] w fun e w' => e = .returned (.int .i64 er) ∧ Ds w' g m b (N + 1) d' ∧ Kp g m b w w' := by
  subst hE
  subst hD
  obtain ⟨n, D, hn, hd⟩ := h.ex
  refine (dkWrite_any w g m b n D d hd h.ok.wf h.ok.top (by omega) i A c e l hl ha).mono ?_
  rintro e w' ⟨rfl, ⟨n', D', hn', hd'⟩, hk⟩
  exact ⟨rfl, ⟨⟨n', D', by omega, hd'⟩, h.ok.write i l⟩, hk⟩
theorem Ds.flush (h : Ds w g m b N d) {er : Int} {d' : Disks.D} (hE : Disks.flushE d = er) (hD : Disks.flushD d = d') :
    Calls Try.prog 15 #[dptr g] w fun e w' => e = .returned (.int .i64 er) ∧ Ds w' g m b N d' ∧ Kp g m b w w' := by
  subst hE
  subst hD
  obtain ⟨n, D, hn, hd⟩ := h.ex
  by_cases h0 : Disks.flushE d = 0
  · refine (dkFlush_ok w g m b n D d hd h.ok.wf h.ok.top h0).mono ?_
    rintro e w' ⟨rfl, hd', hk⟩
    exact ⟨by rw [h0], ⟨⟨0, _, Nat.zero_le _, hd'⟩, h.ok.flush⟩, hk⟩
  · refine (dkFlush_no w g m b n D d hd h.ok.wf h.ok.top h0).mono ?_
    rintro e w' ⟨rfl, hd', hk⟩
    exact ⟨rfl, ⟨⟨n, D, hn, hd'⟩, h.ok.flush⟩, hk⟩
theorem Ds.readNo (h : Ds w g m b N d) (i : Int) {t : Int} (ht : Disks.there d i = t) (h0 : t ≠ 0) :
    Calls Try.prog 24 #[dptr g, .int .i64 i] w (GivesR0 t w) := by
  subst ht
  obtain ⟨n, D, hn, hd⟩ := h.ex
  exact dkRead_no w g m b n D d hd h.ok.wf i h0
theorem Ds.readOk (h : Ds w g m b N d) (i : Int) (h0 : Disks.there d i = 0) {s : List UInt8} (hs : Disks.sec d i.toNat = s) :
    Calls Try.prog 24 #[dptr g, .int .i64 i] w (GivesR1 s w) := by
  subst hs
  obtain ⟨n, D, hn, hd⟩ := h.ex
  exact dkRead_ok w g m b n D d hd h.ok.wf i h0
theorem Ds.spoil (h : Ds w g m b N d) (i k : Int) (t : UInt8) {er : Int} {d' : Disks.D} (hE : Disks.spoilE d i k = er) (hD : Disks.spoilD d i k t = d') :
    Calls Try.prog 23 #[dptr g, .int .i64 i, .int .i64 k, .int .u8 (t.toNat : Int)] w fun e w' => e = .returned (.int .i64 er) ∧ Ds w' g m b N d' ∧ Kp g m b w w' := by
  subst hE
  subst hD
  obtain ⟨n, D, hn, hd⟩ := h.ex
  by_cases h0 : Disks.spoilE d i k = 0
  · have hi : ¬ (i < 0 ∨ (d.med.length : Int) ≤ i) := fun q => by unfold Disks.spoilE at h0; rw [if_pos q] at h0; cases h0
    have hk : ¬ (k < 0 ∨ 64 ≤ k) := fun q => by unfold Disks.spoilE at h0; rw [if_neg hi, if_pos q] at h0; cases h0
    obtain ⟨j, rfl⟩ : ∃ j : Nat, i = j := ⟨i.toNat, by omega⟩
    obtain ⟨p, rfl⟩ : ∃ j : Nat, k = j := ⟨k.toNat, by omega⟩
    refine (dkSpoil_ok w g m b n D d hd h.ok.wf.max j p (by omega) (by omega) t).mono ?_
    rintro e w' ⟨rfl, hd', hk⟩
    have e1 : Disks.spoilD d j p t = { d with med := d.med.set j (Disks.turn (Gm.row d.med j) p t) } := by
      unfold Disks.spoilD
      rw [if_neg (by omega), show ((j : Int)).toNat = j by omega, show ((p : Int)).toNat = p by omega]
    exact ⟨by rw [h0], ⟨⟨n, D, hn, by rw [e1]; exact hd'⟩, h.ok.spoil j p t⟩, hk⟩
  · refine (dkSpoil_no w g m b n D d hd h.ok.wf.max i k t h0).mono ?_
    rintro e w' ⟨rfl, hx⟩
    have e1 : Disks.spoilD d i k t = d := by unfold Disks.spoilD; rw [if_pos h0]
    rw [e1]
    exact ⟨rfl, h.ext hx, Kp.of hx ..⟩
theorem Ds.arm (h : Ds w g m b N d) (x : Int) (hx : x < 2 ^ 63) {d' : Disks.D} (hD : Disks.armD d x = d') :
    Calls Try.prog 16 #[dptr g, .int .i64 x] w fun e w' => e = .returned (.tuple #[]) ∧ Ds w' g m b N d' ∧ Kp g m b w w' := by
  subst hD
  obtain ⟨n, D, hn, hd⟩ := h.ex
  refine (dkArm_any w g m b n D d hd x).mono ?_
  rintro e w' ⟨rfl, hd', hk⟩
  exact ⟨rfl, ⟨⟨n, D, hn, hd'⟩, h.ok.arm hx⟩, hk⟩
theorem Ds.down (h : Ds w g m b N d) {z : Bool} (hz : d.down = z) : Calls Try.prog 19 #[dptr g] w fun e w' => e = .returned (.bool z) ∧ Ext w w' := by
  subst hz
  obtain ⟨n, D, hn, hd⟩ := h.ex
  exact dkDown_any w g m b n D d hd
theorem Ds.size (h : Ds w g m b N d) {z : Nat} (hz : d.med.length = z) : Calls Try.prog 26 #[dptr g] w fun e w' => e = .returned (.int .i64 (z : Int)) ∧ Ext w w' := by
  subst hz
  obtain ⟨n, D, hn, hd⟩ := h.ex
  exact dkSize_any w g m b n D d hd
theorem Ds.crash (h : Ds w g m b N d) (Ak : Option Addr) (nk ck : Nat) (keeps : List Bool) (hk : Bls w Ak nk ck keeps) (ha : Awy g m b Ak) {d' : Disks.D} (hD : Disks.crashD d keeps = d') :
    Calls Try.prog 17 #[dptr g, .slice Ak nk ck] w fun e w' => e = .returned (.tuple #[]) ∧ Ds w' g m b N d' ∧ Kp g m b w w' := by
  subst hD
  obtain ⟨n, D, hn, hd⟩ := h.ex
  refine (dkCrash_any w g m b n D d hd h.ok.wf Ak nk ck keeps hk (fun _ => ha)).mono ?_
  rintro e w' ⟨rfl, hd', hk⟩
  exact ⟨rfl, ⟨⟨0, _, Nat.zero_le _, hd'⟩, h.ok.crash keeps⟩, hk⟩
theorem Ds.crash' (h : Ds w g m b N d) (Ak : Option Addr) (nk ck : Nat) (keeps : List Bool) (hk : Bls w Ak nk ck keeps) (ha : 0 < nk → Awy g m b Ak) {d' : Disks.D} (hD : Disks.crashD d keeps = d') :
    Calls Try.prog 17 #[dptr g, .slice Ak nk ck] w fun e w' => e = .returned (.tuple #[]) ∧ Ds w' g m b N d' ∧ Kp g m b w w' := by
  subst hD
  obtain ⟨n, D, hn, hd⟩ := h.ex
  refine (dkCrash_any w g m b n D d hd h.ok.wf Ak nk ck keeps hk ha).mono ?_
  rintro e w' ⟨rfl, hd', hk⟩
  exact ⟨rfl, ⟨⟨0, _, Nat.zero_le _, hd'⟩, h.ok.crash keeps⟩, hk⟩
theorem Ds.cached (h : Ds w g m b N d) {L : List Int} (hL : Disks.cached d = L) : Calls Try.prog 22 #[dptr g] w fun e w' => ∃ A c, e = .returned (.slice A L.length c) ∧ Is w' A L.length c L ∧ Ext w w' := by
  subst hL
  obtain ⟨n, D, hn, hd⟩ := h.ex
  refine (dkCached_any w g m b n D d hd h.ok.wf).mono ?_
  rintro e w' ⟨v, rfl, ho, hx⟩
  obtain ⟨A, c, rfl, hi, _⟩ := own_is ho
  exact ⟨A, c, rfl, hi, hx⟩
end
theorem dsNew (w : World) (n : Nat) (h1 : 1 ≤ n) (h2 : n ≤ 65536) :
    Calls Try.prog 11 #[.int .i64 (n : Int)] w fun e w' => ∃ g, e = .returned (.tuple #[dptr g, .int .i64 0]) ∧ ∃ m b, Ds w' g m b 0 (Disks.new n) ∧ Ext w w' ∧ w.heap.size ≤ g ∧ w.heap.size ≤ m ∧ w.heap.size ≤ b := by
  refine (dkNew_ok w n h1 h2).mono ?_
  rintro e w' ⟨g, rfl, m, b, hd, hx, a1, a2, a3⟩
  exact ⟨g, rfl, m, b, ⟨⟨0, _, Nat.le_refl _, hd⟩, Disks.Ok.new h1 h2⟩, hx, a1, a2, a3⟩
end Go.Proofs.Ytbfbiofndipaaaa
