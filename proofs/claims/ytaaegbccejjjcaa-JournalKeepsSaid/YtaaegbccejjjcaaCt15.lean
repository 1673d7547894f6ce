/- Several texts in one: Slices of bools that came in. No statement of the seat is proved here. The contract of a disk's Crash. -/
import Derived.Test.YtaaegbccejjjcaaCt14
import Derived.Deep.Grids
namespace Go.Proofs.Ytaaegbccejjjcaa
open Go.ChangeShapes Go.WideShapes Go.ChangeAt Go.RowKit

def bget (l : List Bool) (k : Nat) : Bool := l.getD k false
/-- A slice of bools. -/
structure Bls (w : World) (A : Option Addr) (n c : Nat) (l : List Bool) : Prop where
  len : l.length = n
  le : n ≤ c
  max : c ≤ 9223372036854775807
  rd : ∀ k, k < n → ∃ b off, A = some ⟨b, off, none⟩ ∧ w.cell? ⟨b, off + k, none⟩ = some (.bool (bget l k))
theorem Bls.ext {w w' : World} {A : Option Addr} {n c : Nat} {l : List Bool} (h : Bls w A n c l) (hx : Ext w w') : Bls w' A n c l :=
  ⟨h.len, h.le, h.max, fun k hk => by obtain ⟨b, off, e, h1⟩ := h.rd k hk; exact ⟨b, off, e, hx.cell h1⟩⟩
theorem Bls.of_trod {H : Type} {enc : TypeId × Value → H} {W : World} {t e : TypeId} {a : Option Addr} {len cap : Nat} {d : DataW H} {p : List MemPlace} (ht : Try.prog.underlying t = some (.slice e)) (he : Try.prog.underlying e = some .bool) (hc : Try.prog.cellsOf e = 1)
    (h : DataW.Trod enc Try.prog W 0 (fun _ => true) true t (.slice a len cap) d p) : ∃ l, Bls W a len cap l := by
  obtain ⟨fuel, hf⟩ := h
  rcases Go.Deep.open_bools ht he hc hf with ⟨hcs, _⟩ | ⟨x, l, c, B, hcs, _, hl, hm, _, hcell⟩
  · simp [Value.cells] at hcs
    obtain ⟨rfl, rfl, rfl⟩ := hcs
    exact ⟨[], rfl, Nat.le_refl _, by omega, fun k hk => absurd hk (Nat.not_lt_zero _)⟩
  · simp [Value.cells] at hcs
    obtain ⟨rfl, rfl, rfl⟩ := hcs
    refine ⟨(List.range len).map B, by simp, hl, by unfold maxLen at hm; omega, fun k hk => ?_⟩
    have h0 := hcell 0 (by omega)
    have e := cells_spot h0
    obtain ⟨b, off, sp⟩ := x
    have e' : sp = none := by injection e
    subst e'
    refine ⟨b, off, rfl, ?_⟩
    have := hcell k (by omega)
    rw [addr_add] at this
    rw [this]
    simp [bget, hk]
end Go.Proofs.Ytaaegbccejjjcaa
namespace Disks
theorem upto_lt (l : List (Option (List UInt8))) {i j : Nat} (h : i < j) (hc : (cget l i).isSome = true) : (upto l i).length < (upto l j).length := by
  induction j with
  | zero => omega
  | succ j ih =>
    have h1 : (upto l j).length ≤ (upto l (j + 1)).length := by
      show _ ≤ (if _ then _ else _ : List Int).length
      split
      · rw [List.length_append]; omega
      · exact Nat.le_refl _
    rcases Nat.lt_or_ge i j with q | q
    · have := ih q; omega
    · have e : i = j := by omega
      subst e
      show _ < (if _ then _ else _ : List Int).length
      rw [if_pos hc, List.length_append, List.length_singleton]
      omega
theorem upto_inj (l : List (Option (List UInt8))) {i j : Nat} (hi : (cget l i).isSome = true) (hj : (cget l j).isSome = true) (h : (upto l i).length = (upto l j).length) : i = j := by
  rcases Nat.lt_trichotomy i j with q | q | q
  · have := upto_lt l q hi; omega
  · exact q
  · have := upto_lt l q hj; omega
theorem upto_get (l : List (Option (List UInt8))) (n k : Nat) (hk : k < (upto l n).length) : ∃ j : Nat, (upto l n)[k] = (j : Int) ∧ j < n ∧ (cget l j).isSome = true ∧ (upto l j).length = k := by
  induction n with
  | zero => exact absurd hk (by simp [upto])
  | succ n ih =>
    by_cases hc : (cget l n).isSome = true
    · have e : upto l (n + 1) = upto l n ++ [(n : Int)] := if_pos hc
      have hk' := hk
      rw [e, List.length_append, List.length_singleton] at hk'
      by_cases q : k < (upto l n).length
      · obtain ⟨j, h1, h2, h3, h4⟩ := ih q
        refine ⟨j, ?_, by omega, h3, h4⟩
        rw [← h1]
        simp only [e]
        exact List.getElem_append_left q
      · have ek : k = (upto l n).length := by omega
        subst ek
        refine ⟨n, ?_, by omega, hc, rfl⟩
        simp only [e]
        rw [List.getElem_append_right (Nat.le_refl _)]
        simp
    · have e : upto l (n + 1) = upto l n := if_neg hc
      rw [e] at hk
      obtain ⟨j, h1, h2, h3, h4⟩ := ih hk
      refine ⟨j, ?_, by omega, h3, h4⟩
      rw [← h1]
      simp only [e]
/-- The medium when k cached sectors have been looked at. -/
structure Part (d : D) (keeps : List Bool) (k : Nat) (M : List (List UInt8)) : Prop where
  len : M.length = d.med.length
  row : ∀ i, i < d.med.length → Gm.row M i = if (cget d.cac i).isSome = true ∧ (upto d.cac i).length < k ∧ kept keeps (upto d.cac i).length = true then sec d i else Gm.row d.med i
theorem Part.start (d : D) (keeps : List Bool) : Part d keeps 0 d.med := ⟨rfl, fun i _ => by rw [if_neg (by omega)]⟩
theorem Part.skip {d : D} {keeps : List Bool} {k : Nat} {M : List (List UInt8)} (h : Part d keeps k M) (hk : kept keeps k = false) : Part d keeps (k + 1) M := ⟨h.len, fun i hi => by
  rw [h.row i hi]
  by_cases q : (cget d.cac i).isSome = true ∧ (upto d.cac i).length < k ∧ kept keeps (upto d.cac i).length = true
  · rw [if_pos q, if_pos ⟨q.1, by omega, q.2.2⟩]
  · rw [if_neg q, if_neg ?_]
    rintro ⟨a, b, c⟩
    by_cases e : (upto d.cac i).length = k
    · rw [e, hk] at c; cases c
    · exact q ⟨a, by omega, c⟩⟩
theorem Part.done {d : D} {keeps : List Bool} {M : List (List UInt8)} (h : Part d keeps (cached d).length M) (hl : d.cac.length = d.med.length) : M = (List.range d.med.length).map (left d keeps) := by
  refine List.ext_getElem (h.len.trans (by simp)) (fun i a b => ?_)
  have hi : i < d.med.length := by rw [← h.len]; exact a
  have q := h.row i hi
  have e : Gm.row M i = M[i] := by unfold Gm.row; rw [List.getD_eq_getElem?_getD, List.getElem?_eq_getElem a]; rfl
  rw [← e, q]
  simp only [List.getElem_map, List.getElem_range]
  unfold left
  by_cases hc : (cget d.cac i).isSome = true
  · have hlt : (upto d.cac i).length < (cached d).length := upto_lt d.cac (by rw [hl]; exact hi) hc
    by_cases hk : kept keeps (upto d.cac i).length = true
    · rw [if_pos ⟨hc, hlt, hk⟩, if_pos hk]
    · rw [if_neg (fun z => hk z.2.2), if_neg hk]
  · rw [if_neg (fun z => hc z.1)]
    have hn : cget d.cac i = none := by simpa using hc
    unfold sec
    rw [hn]
    split <;> rfl
end Disks
namespace Go.Proofs.Ytaaegbccejjjcaa
open Go.RowKit Go.Maps Go.Sort Go.Shelf
set_option linter.unusedSimpArgs false

theorem part_set {d : Disks.D} {keeps : List Bool} {k j : Nat} {M : List (List UInt8)} (h : Disks.Part d keeps k M) (hj : j < d.med.length) (hc : (Disks.cget d.cac j).isSome = true) (hp : (Disks.upto d.cac j).length = k) (hk : Disks.kept keeps k = true) :
    Disks.Part d keeps (k + 1) (M.set j (Disks.sec d j)) := by
  refine ⟨by rw [List.length_set]; exact h.len, fun i hi => ?_⟩
  rw [row_set M j i _ (by rw [h.len]; exact hj)]
  by_cases e : j = i
  · subst e
    rw [if_pos rfl, if_pos ⟨hc, by omega, by rw [hp]; exact hk⟩]
  · rw [if_neg e, h.row i hi]
    by_cases q : (Disks.cget d.cac i).isSome = true ∧ (Disks.upto d.cac i).length < k ∧ Disks.kept keeps (Disks.upto d.cac i).length = true
    · rw [if_pos q, if_pos ⟨q.1, by omega, q.2.2⟩]
    · rw [if_neg q, if_neg ?_]
      rintro ⟨a, b, c⟩
      by_cases e2 : (Disks.upto d.cac i).length = k
      · exact e (Disks.upto_inj d.cac hc a (hp.trans e2.symm))
      · exact q ⟨a, by omega, c⟩
theorem Bls.kp {w w' : World} {A : Option Addr} {n c : Nat} {l : List Bool} {g m b : Nat} (h : Bls w A n c l) (hk : Kp g m b w w') (ha : 0 < n → Awy g m b A) : Bls w' A n c l := by
  refine ⟨h.len, h.le, h.max, fun k hn => ?_⟩
  obtain ⟨z, o, e, q⟩ := h.rd k hn
  obtain ⟨a1, a2, a3⟩ := ha (by omega) _ e
  refine ⟨z, o, e, ?_⟩
  rw [← q]
  exact World.cell?_of_block (hk.block z (World.block_lt_of_cell? _ _ q) a1 a2 a3)
theorem Is.kp {w w' : World} {A : Option Addr} {n c : Nat} {l : List Int} {g m b : Nat} (h : Is w A n c l) (hk : Kp g m b w w') (ha : Awy g m b A) : Is w' A n c l := by
  refine ⟨h.len, h.le, h.max, h.rd.1, fun hn => ?_⟩
  obtain ⟨z, o, e, hc⟩ := h.rd.2 hn
  refine ⟨z, o, e, fun j v hv => ?_⟩
  have q := hc j v hv
  obtain ⟨a1, a2, a3⟩ := ha _ e
  rw [← q]
  exact World.cell?_of_block (hk.block z (World.block_lt_of_cell? _ _ q) a1 a2 a3)
theorem own_is {w : World} {base : Nat} {v : Value} {l : List Int} (h : w.ownsRow base 3 1 v l.length (icells l)) : ∃ A c, v = .slice A l.length c ∧ Is w A l.length c l ∧ ∀ p, A = some p → base ≤ p.block := by
  obtain ⟨A, c, rfl, _, _⟩ := ownsRow_slice h
  refine ⟨A, c, rfl, (Own.mk (base := base) (e := 3) h).ints, fun p hp => ?_⟩
  subst hp
  exact (h.lt p.block rfl).1
/-- The cache is looked up, of a sector that is there. -/
theorem Dk.look1 {w : World} {g m b n : Nat} {D : DataW Nat} {d : Disks.D} (h : Dk w g m b n D d) {j : Nat} (hj : j < 65536) (hc : (Disks.cget d.cac j).isSome = true) :
    (Instr.lookup 63 (.map (some b)) (.int .i64 (j : Int)) false).run Try.prog w = .ok (secV (Disks.sec d j)) w := by
  obtain ⟨v, ps, hr, hv⟩ := h.mp.lookup int_key5 map_under (sec_zero w) (secR_mk zeros64_len) (lk_of (i := (j : Int)) (by omega) (by omega))
  obtain ⟨s, hs⟩ := Option.isSome_iff_exists.1 hc
  have h2 := h.tie.at_ (j : Int) s (.lit (.string zeros64)) (by omega) (by rw [show ((j : Int)).toNat = j by omega]; exact hs)
  rw [h2] at hv
  have e : Disks.sec d j = s := by unfold Disks.sec; rw [hs]; rfl
  rw [hr, (secR_at hv).1, e]
theorem sec_med (d : Disks.D) (M : List (List UInt8)) {j : Nat} (hc : (Disks.cget d.cac j).isSome = true) : Disks.sec { d with med := M } j = Disks.sec d j := by
  obtain ⟨s, hs⟩ := Option.isSome_iff_exists.1 hc
  unfold Disks.sec
  rw [hs]
  rfl
/-- What a round of Crash knows. -/
structure Cr (wr : World) (g m b n : Nat) (D : DataW Nat) (d : Disks.D) (keeps : List Bool) (k : Nat) (w : World) : Prop where
  mid : ∃ M, Disks.Part d keeps k M ∧ Dk wr g m b n D { d with med := M }
  kp : Kp g m b w wr
set_option maxRecDepth 100000 in
set_option maxHeartbeats 4000000 in
theorem dkCrash_any (w : World) (g m b n : Nat) (D : DataW Nat) (d : Disks.D) (h : Dk w g m b n D d) (hf : Disks.Wf d) (Ak : Option Addr) (nk ck : Nat) (keeps : List Bool) (hk : Bls w Ak nk ck keeps) (ha : 0 < nk → Awy g m b Ak) :
    Calls Try.prog 25 #[dptr g, .slice Ak nk ck] w fun e w' => e = .returned (.tuple #[]) ∧ Dk w' g m b 0 (.map []) (Disks.crashD d keeps) ∧ Kp g m b w w' := by
  have hN := dkNone_any w g m b n D d h
  have HC := Lib.hid (fun (W : World) (hW : Ext w W) => dkCached_any W g m b n D d (h.ext hW) hf)
  have H := Lib.hid h
  have HF := Lib.hid hf
  have HB := Lib.hid hk
  have HA := Lib.hid ha
  have q1 := hk.len
  have q2 := hk.le
  have q3 := hk.max
  have b1 := h.lt
  have b2 := h.md.lt
  have b3 := h.ltb
  have bb := Lib.hid (And.intro b1 (And.intro b2 b3))
  clear h hf hk ha b1 b2 b3
  go_enter Try.func25, Try.ntmps25
  go_wp2_with (fail)
  with_reducible refine hN.mono ?_
  rintro e w1 ⟨rfl, x1⟩
  have X1 := Lib.hid x1
  clear x1 hN
  go_wp2_with (fail)
  with_reducible refine (HC.out _ X1.out).mono ?_
  rintro e w2 ⟨v2, rfl, o2, x2⟩
  obtain ⟨A2, c2, rfl, hi2, hb2⟩ := own_is o2
  have hA2 : Awy g m b A2 := fun p hp => by
    have := hb2 p hp
    have := X1.out.size
    have := bb.out
    omega
  have hm2 : (Disks.cached d).length ≤ 65536 := Nat.le_trans (Disks.upto_len _ _) (by rw [HF.out.len]; exact HF.out.max)
  obtain ⟨L, hL⟩ : ∃ L, Disks.cached d = L := ⟨_, rfl⟩
  rw [hL] at hi2 hm2 ⊢
  have HL := Lib.hid hL
  have I2 := Lib.hid hi2
  have HA2 := Lib.hid hA2
  have X2 := Lib.hid (X1.out.trans x2)
  have c3 := hi2.max
  have hCr : Cr w2 g m b n D d keeps 0 w := ⟨⟨d.med, Disks.Part.start d keeps, H.out.ext X2.out⟩, Kp.of X2.out ..⟩
  have HCr := Lib.hid hCr
  clear HC o2 hi2 hb2 hA2 hL x2 hCr
  go_wp2_with (fail)
  go_loopw [11] (fun i wr => ∃ k : Nat, k ≤ L.length ∧ i = .int .i64 k ∧ Hid (Cr wr g m b n D d keeps k w) ∧ Hid (Is wr A2 L.length c2 L) ∧ Hid (Bls wr Ak nk ck keeps)) (fun i _ => L.length - (intOf i).toNat)
  case atStart => exact ⟨0, by omega, rfl, HCr, I2, Lib.hid (HB.out.ext X2.out)⟩
  case round =>
    obtain ⟨k, hkl, rfl, HR, HI, HBl⟩ := hrel
    by_cases hlt : k < L.length
    · obtain ⟨j, j1, j2, j3, j4⟩ := Disks.upto_get d.cac d.cac.length k (by have := HL.out; unfold Disks.cached at this; rw [this]; exact hlt)
      have hg : Il.get L k = (j : Int) := by
        rw [Il.get_of_lt hlt, ← j1]
        have := HL.out
        unfold Disks.cached at this
        simp only [this]
      obtain ⟨z1, o1, hz1, hc1⟩ := HI.out.rd.intAt hlt
      rw [hg] at hc1
      subst hz1
      have i1 : (k : Int) < L.length := by omega
      have jm : j < d.med.length := by rw [← HF.out.len]; exact j2
      by_cases hkn : k < nk
      · obtain ⟨z2, o2, hz2, hc2⟩ := HBl.out.rd k hkn
        subst hz2
        have i2 : (k : Int) < nk := by omega
        by_cases hb : bget keeps k = true
        · rw [hb] at hc2
          have J3 := Lib.hid j3
          have J4 := Lib.hid j4
          have HBG := Lib.hid hb
          have JM := Lib.hid jm
          clear j1 j2 j3 j4 hb hg jm
          go_wp2_with (fail)
          obtain ⟨M, hM, hD⟩ := HR.out.mid
          obtain ⟨CS, hCS⟩ : ∃ CS, (bcells (Disks.sec d j)).toArray = CS := ⟨_, rfl⟩
          have hjs : (Disks.sec d j).length = 64 := sec_is HF.out JM.out
          have z6 : CS.size = 64 := by rw [← hCS]; simp [bcells_len, hjs]
          have D9 := hD.ext (Ext.drew wr)
          have hjM : j < M.length := by rw [hM.len]; exact JM.out
          have hM9 : M.length ≤ 65536 := by rw [hM.len]; exact HF.out.max
          obtain ⟨w6, hr6, hD6, hg6⟩ := D9.med (d := { d with med := M }) hjM hjs
          rw [hCS] at hr6
          have hK6 : Kp g m b wr w6 := (Kp.of (Ext.drew wr) ..).grown hg6 (fun k e => .inr (.inl (by injection e with e; exact e.symm)))
          have hI6 := Lib.hid (HI.out.kp hK6 HA2.out)
          have hB6 := Lib.hid (HBl.out.kp hK6 HA.out)
          have hR6 := Lib.hid (show Cr w6 g m b n D d keeps (k + 1) w from ⟨⟨_, part_set hM JM.out J3.out J4.out HBG.out, hD6⟩, HR.out.kp.trans hK6⟩)
          have R6 := Lib.hid hr6
          have D9' := Lib.hid D9
          have HCS := Lib.hid hCS
          clear hM hD D9 hr6 hD6 hg6 hK6 hCS hjs hc1 hc2
          have hHeld : (fun W : World => Hid (W.cell? ⟨g, 0, none⟩ = some (.slice (some ⟨m, 0, none⟩) M.length M.length) ∧ W.cell? ⟨g, 1, none⟩ = some (.map (some b)) ∧ Dk W g m b n D { d with med := M })) wr.drew := Lib.hid ⟨D9'.out.c0, D9'.out.c1, D9'.out⟩
          refine wp_region_T (S := fun W : World => Hid (W.cell? ⟨g, 0, none⟩ = some (.slice (some ⟨m, 0, none⟩) M.length M.length) ∧ W.cell? ⟨g, 1, none⟩ = some (.map (some b)) ∧ Dk W g m b n D { d with med := M })) 12 rfl rfl ?_
          refine takeT (i := 0) (v := ?_) rfl (by kernel_rfl) (by kernel_rfl) (by kernel_rfl) (by kernel_rfl) (by decide) (fun _ _ _ h => h) (by kernel_rfl) (Or.inl ⟨by rfl, ?_⟩) (by assumption) ?_
          rotate_left
          · (intro W9 hSw; go_simp; (try with_reducible rfl))
          try simp only [Act.put, List.setIfInBounds_toArray, List.set_cons_zero, List.set_cons_succ]
          refine takeT (i := 1) (v := ?_) rfl (by kernel_rfl) (by kernel_rfl) (by kernel_rfl) (by kernel_rfl) (by decide) (fun _ _ _ h => h) (by kernel_rfl) (Or.inl ⟨by rfl, ?_⟩) (by assumption) ?_
          rotate_left
          · (intro W9 hSw; go_simp; (try with_reducible rfl))
          try simp only [Act.put, List.setIfInBounds_toArray, List.set_cons_zero, List.set_cons_succ]
          refine takeT (i := 2) (v := ?_) rfl (by kernel_rfl) (by kernel_rfl) (by kernel_rfl) (by kernel_rfl) (by decide) (fun _ _ _ h => h) (by kernel_rfl) (Or.inl ⟨by rfl, ?_⟩) (by assumption) ?_
          rotate_left
          · (intro W9 hSw; go_simp; (try with_reducible rfl))
          try simp only [Act.put, List.setIfInBounds_toArray, List.set_cons_zero, List.set_cons_succ]
          refine takeT (i := 3) (v := ?_) rfl (by kernel_rfl) (by kernel_rfl) (by kernel_rfl) (by kernel_rfl) (by decide) (fun _ _ _ h => h) (by kernel_rfl) (Or.inl ⟨by rfl, ?_⟩) (by assumption) ?_
          rotate_left
          · (intro W9 hSw; (have k9 := hSw.out.1); go_simp; (try with_reducible rfl))
          try simp only [Act.put, List.setIfInBounds_toArray, List.set_cons_zero, List.set_cons_succ]
          refine takeT (i := 4) (v := ?_) rfl (by kernel_rfl) (by kernel_rfl) (by kernel_rfl) (by kernel_rfl) (by decide) (fun _ _ _ h => h) (by kernel_rfl) (Or.inl ⟨by rfl, ?_⟩) (by assumption) ?_
          rotate_left
          · (intro W9 hSw; go_simp; (try with_reducible rfl))
          try simp only [Act.put, List.setIfInBounds_toArray, List.set_cons_zero, List.set_cons_succ]
          refine takeT (i := 5) (v := ?_) rfl (by kernel_rfl) (by kernel_rfl) (by kernel_rfl) (by kernel_rfl) (by decide) (fun _ _ _ h => h) (by kernel_rfl) (Or.inl ⟨by rfl, ?_⟩) (by assumption) ?_
          rotate_left
          · (intro W9 hSw; go_simp; (try with_reducible rfl))
          try simp only [Act.put, List.setIfInBounds_toArray, List.set_cons_zero, List.set_cons_succ]
          refine takeT (i := 6) (v := ?_) rfl (by kernel_rfl) (by kernel_rfl) (by kernel_rfl) (by kernel_rfl) (by decide) (fun _ _ _ h => h) (by kernel_rfl) (Or.inl ⟨by rfl, ?_⟩) (by assumption) ?_
          rotate_left
          · (intro W9 hSw; go_simp; (try with_reducible rfl))
          try simp only [Act.put, List.setIfInBounds_toArray, List.set_cons_zero, List.set_cons_succ]
          refine takeT (i := 7) (v := ?_) rfl (by kernel_rfl) (by kernel_rfl) (by kernel_rfl) (by kernel_rfl) (by decide) (fun _ _ _ h => h) (by kernel_rfl) (Or.inl ⟨by rfl, ?_⟩) (by assumption) ?_
          rotate_left
          · (intro W9 hSw; go_simp; (try with_reducible rfl))
          try simp only [Act.put, List.setIfInBounds_toArray, List.set_cons_zero, List.set_cons_succ]
          refine takeT (i := 8) (v := ?_) rfl (by kernel_rfl) (by kernel_rfl) (by kernel_rfl) (by kernel_rfl) (by decide) (fun _ _ _ h => h) (by kernel_rfl) (Or.inl ⟨by rfl, ?_⟩) (by assumption) ?_
          rotate_left
          · (intro W9 hSw; (have k9 := hSw.out.2.1); go_simp; (try with_reducible rfl))
          try simp only [Act.put, List.setIfInBounds_toArray, List.set_cons_zero, List.set_cons_succ]
          refine takeT (i := 9) (v := ?_) rfl (by kernel_rfl) (by kernel_rfl) (by kernel_rfl) (by kernel_rfl) (by decide) (fun _ _ _ h => h) (by kernel_rfl) (Or.inl ⟨by rfl, ?_⟩) (by assumption) ?_
          rotate_left
          · (intro W9 hSw; go_simp; (try with_reducible rfl))
          try simp only [Act.put, List.setIfInBounds_toArray, List.set_cons_zero, List.set_cons_succ]
          refine takeT (i := 10) (v := .agg CS) rfl (by kernel_rfl) (by kernel_rfl) (by kernel_rfl) (by kernel_rfl) (by decide) (fun _ _ _ h => h) (by kernel_rfl) (Or.inl ⟨by rfl, ?_⟩) (by assumption) ?_
          · (intro W9 hSw; (have k9 := hSw.out.2.2.look1 (j := j) (by have := HF.out.max; have := JM.out; omega) J3.out); (rw [show secV (Disks.sec { d with med := M } j) = .agg CS from by rw [← HCS.out, sec_med d M J3.out]; rfl] at k9); go_simp; (try with_reducible rfl))
          try simp only [Act.put, List.setIfInBounds_toArray, List.set_cons_zero, List.set_cons_succ]
          refine takeT (i := 11) (v := ?_) rfl (by kernel_rfl) (by kernel_rfl) (by kernel_rfl) (by kernel_rfl) (by decide) (fun _ _ _ h => h) (by kernel_rfl) (Or.inl ⟨by rfl, ?_⟩) (by assumption) ?_
          rotate_left
          · (intro W9 hSw; go_simp; (try with_reducible rfl))
          try simp only [Act.put, List.setIfInBounds_toArray, List.set_cons_zero, List.set_cons_succ]
          refine oneT (i := 12) rfl (by kernel_rfl) (fun K hK => ?_)
          rw [if_pos (by kernel_rfl)]
          clear hHeld
          have r6 := R6.out
          go_wp2_with (fail)
          refine hK.out _ _ (fun h => absurd (show true = false from h) (by decide)) ?_
          clear hK K
          try simp only [Act.put, List.setIfInBounds_toArray, List.set_cons_zero, List.set_cons_succ]
          refine doneT (by kernel_rfl) ?_ _
          go_wp2_with (fail)
          exact ⟨⟨k + 1, by omega, by go_num, hR6, hI6, hB6⟩, by simp [intOf]; omega⟩
        · rw [Bool.not_eq_true] at hb
          rw [hb] at hc2
          have hR6 := Lib.hid (show Cr wr g m b n D d keeps (k + 1) w from ⟨by obtain ⟨M, hM, hD⟩ := HR.out.mid; exact ⟨M, hM.skip hb, hD⟩, HR.out.kp⟩)
          clear j1 j2 j3 j4 hb hg jm
          go_wp2_with (fail)
          exact ⟨⟨k + 1, by omega, by go_num, hR6, HI, HBl⟩, by simp [intOf]; omega⟩
      · have i2 : ¬ (k : Int) < nk := by omega
        have hb : Disks.kept keeps k = false := by unfold Disks.kept; rw [List.getD_eq_getElem?_getD, List.getElem?_eq_none (by omega)]; rfl
        have hR6 := Lib.hid (show Cr wr g m b n D d keeps (k + 1) w from ⟨by obtain ⟨M, hM, hD⟩ := HR.out.mid; exact ⟨M, hM.skip hb, hD⟩, HR.out.kp⟩)
        clear j1 j2 j3 j4 hb hg jm
        go_wp2_with (fail)
        exact ⟨⟨k + 1, by omega, by go_num, hR6, HI, HBl⟩, by simp [intOf]; omega⟩
    · have ek : k = L.length := by omega
      subst ek
      obtain ⟨M, hM, hD⟩ := HR.out.mid
      have hLc := HL.out
      have eM := (show Disks.Part d keeps (Disks.cached d).length M by rw [hLc]; exact hM).done HF.out.len
      obtain ⟨w5, rc, hc5, kc⟩ := hD.clear 0
      have k1 := hD.c1
      have HC := Lib.hid hc5
      have KC := Lib.hid (HR.out.kp.trans kc)
      have EM := Lib.hid eM
      have k2 := hc5.c2
      have k3 := hc5.c3
      have f2 := hc5.fz 2
      have f3 := hc5.fz 3
      clear hM hD hc5 kc hkl hlt hLc eM
      go_wp2_with (fail)
      refine bodyPost_end (results_none rfl _ _ _) rfl ?_
      have R := (HC.out.set3 false).set2 (-1)
      rw [EM.out, HF.out.len] at R
      exact ⟨rfl, R, (KC.out.set (p := ⟨g, 3, none⟩) (.inl rfl) _).set (p := ⟨g, 2, none⟩) (.inl rfl) _⟩
end Go.Proofs.Ytaaegbccejjjcaa
