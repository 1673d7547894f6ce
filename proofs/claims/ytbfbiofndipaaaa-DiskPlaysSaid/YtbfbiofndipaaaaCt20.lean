/- Several texts in one: The contract of Pick. DiskApart's walk. -/
import Derived.Test.YtbfbiofndipaaaaCt1
import Derived.Test.YtbfbiofndipaaaaCt19
namespace Go.Proofs.Ytbfbiofndipaaaa
open Go.RowKit

theorem tmod_nat (n m : Nat) : (n : Int).tmod (m : Int) = ((n % m : Nat) : Int) := by
  rw [Int.tmod_eq_emod_of_nonneg (by omega)]; simp
/-- A number from 0 to n - 1. -/
def pick (x : Int) (n : Nat) : Int := if n = 0 then 0 else if x.tmod n < 0 then x.tmod n + n else x.tmod n
theorem pick_range (x : Int) (n : Nat) (h : 0 < n) : 0 ≤ pick x n ∧ pick x n < n := by
  unfold pick
  rw [if_neg (by omega)]
  have h1 := Int.tmod_lt_of_pos x (show (0 : Int) < n by omega)
  have h2 : -(n : Int) < x.tmod n := by
    have := Int.lt_tmod_of_pos x (show (0 : Int) < n by omega)
    omega
  split <;> omega
set_option maxHeartbeats 1000000 in
theorem pick_any (w : World) (x : Int) (n : Nat) (hn : n ≤ 1000000) :
    Calls Try.prog 12 #[.int .i64 x, .int .i64 (n : Int)] w fun r w' => r = .returned (.int .i64 (pick x n)) ∧ w = w' := by
  by_cases h0 : n = 0
  · subst h0
    go_enter Try.func12, Try.ntmps12
    go_wp2
    go_ret
    exact ⟨rfl, rfl⟩
  · have hb : -(n : Int) < x.tmod n ∧ x.tmod n < n := by
      have h1 := Int.tmod_lt_of_pos x (show (0 : Int) < n by omega)
      have := Int.lt_tmod_of_pos x (show (0 : Int) < n by omega)
      omega
    have hp : pick x n = if x.tmod n < 0 then x.tmod n + n else x.tmod n := by unfold pick; rw [if_neg h0]
    rw [hp]
    have hn0 : ¬ (n : Int) ≤ 0 := by omega
    generalize ht : x.tmod (n : Int) = t at *
    by_cases hneg : t < 0
    · rw [if_pos hneg]
      clear hp
      go_enter Try.func12, Try.ntmps12
      go_wp2
      go_ret
      exact ⟨rfl, rfl⟩
    · rw [if_neg hneg]
      clear hp
      go_enter Try.func12, Try.ntmps12
      go_wp2
      go_ret
      exact ⟨rfl, rfl⟩
end Go.Proofs.Ytbfbiofndipaaaa
namespace Disks
/-- Up, not armed. -/
structure Up (d : D) : Prop where
  arm : d.arm = -1
  down : d.down = false
theorem Up.op {d : D} (h : Up d) : op d = d := by
  unfold Disks.op
  rw [if_neg (by rw [h.arm]; decide), h.arm]
  cases d
  have := h.arm
  simp only at this ⊢
  rw [this]
  rfl
theorem Up.opE {d : D} (h : Up d) : opE d = 0 := by unfold Disks.opE; rw [if_neg (by rw [h.arm]; decide)]
theorem Up.there {d : D} (h : Up d) {i : Int} (hi : 0 ≤ i ∧ i < d.med.length) : there d i = 0 := by
  rw [in_there hi]; unfold noE; rw [if_neg (by rw [h.down]; decide)]
theorem Up.writeE {d : D} (h : Up d) {i : Int} (hi : 0 ≤ i ∧ i < d.med.length) {l : List UInt8} (hl : l.length = 64) : writeE d i l = 0 := by
  unfold Disks.writeE
  rw [h.there hi, if_neg (by omega), if_neg (by omega), h.opE]
theorem Up.writeD {d : D} (h : Up d) {i : Int} (hi : 0 ≤ i ∧ i < d.med.length) {l : List UInt8} (hl : l.length = 64) : writeD d i l = { d with cac := d.cac.set i.toNat (some l) } := by
  unfold Disks.writeD
  rw [h.there hi, if_neg (by omega), if_neg (by omega), if_neg (by rw [h.arm]; decide), h.op]
theorem Up.flushE {d : D} (h : Up d) (h1 : 1 ≤ d.med.length) : flushE d = 0 := by
  unfold Disks.flushE
  rw [h.there (by omega), if_neg (by omega), h.opE]
theorem Up.flushD {d : D} (h : Up d) (h1 : 1 ≤ d.med.length) : flushD d = { d with med := merged d, cac := emptied d } := by
  unfold Disks.flushD
  rw [h.there (by omega), if_neg (by omega), if_neg (by rw [h.arm]; decide), h.op]
/-- Eight sectors, of which the last one is as it was flushed. -/
structure Seven (d : D) (b : UInt8) : Prop where
  up : Up d
  med : d.med.length = 8
  cac : d.cac.length = 8
  no : cget d.cac 7 = none
  row : Gm.row d.med 7 = Go.Proofs.Ytbfbiofndipaaaa.rep b
end Disks
namespace Go.Proofs.Ytbfbiofndipaaaa
open Go.ChangeShapes Go.WideShapes Go.ChangeAt Go.RowKit Go.Maps Go.Sort Go.Shelf
set_option linter.unusedSimpArgs false

theorem Seven.sec {d : Disks.D} {b : UInt8} (h : Disks.Seven d b) : Disks.sec d 7 = rep b := by
  unfold Disks.sec
  rw [h.no]
  exact h.row
theorem Seven.reads {d : Disks.D} {b : UInt8} (h : Disks.Seven d b) : readsB d 7 b = true := by
  unfold readsB
  rw [if_pos (h.up.there (by rw [h.med]; omega))]
  show (Disks.sec d 7 == rep b) = true
  rw [Seven.sec h]
  exact beq_self_eq_true _
theorem Seven.write {d : Disks.D} {b : UInt8} (h : Disks.Seven d b) {i : Int} (hi : 0 ≤ i ∧ i < 7) (x : UInt8) : Disks.Seven (Disks.writeD d i (rep x)) b := by
  rw [h.up.writeD (by rw [h.med]; omega) (rep_len x)]
  refine ⟨⟨h.up.arm, h.up.down⟩, h.med, by show (d.cac.set _ _).length = 8; rw [List.length_set]; exact h.cac, ?_, h.row⟩
  show Disks.cget (d.cac.set _ _) 7 = none
  rw [Disks.cget_set_ne (by omega)]
  exact h.no
theorem Seven.flush {d : Disks.D} {b : UInt8} (h : Disks.Seven d b) : Disks.Seven (Disks.flushD d) b := by
  rw [h.up.flushD (by rw [h.med]; omega)]
  refine ⟨⟨h.up.arm, h.up.down⟩, by show (Disks.merged d).length = 8; rw [Disks.len_merged]; exact h.med, by show (Disks.emptied d).length = 8; unfold Disks.emptied; rw [List.length_replicate]; exact h.med, Disks.cget_empty _ _, ?_⟩
  show Gm.row (Disks.merged d) 7 = rep b
  rw [Disks.row_merged d (by rw [h.med]; omega)]
  exact Seven.sec h
theorem Seven.spoil {d : Disks.D} {b : UInt8} (h : Disks.Seven d b) {i : Int} (hi : 0 ≤ i ∧ i < 7) (k : Int) (t : UInt8) : Disks.Seven (Disks.spoilD d i k t) b := by
  unfold Disks.spoilD
  split
  · exact h
  · refine ⟨⟨h.up.arm, h.up.down⟩, by show (d.med.set _ _).length = 8; rw [List.length_set]; exact h.med, h.cac, h.no, ?_⟩
    show Gm.row (d.med.set _ _) 7 = rep b
    rw [row_set d.med i.toNat 7 _ (by rw [h.med]; omega), if_neg (by omega)]
    exact h.row
theorem Seven.crash {d : Disks.D} {b : UInt8} (h : Disks.Seven d b) (k : List Bool) : Disks.Seven (Disks.crashD d k) b := by
  refine ⟨⟨rfl, rfl⟩, by rw [Disks.len_crash]; exact h.med, by show (Disks.emptied d).length = 8; unfold Disks.emptied; rw [List.length_replicate]; exact h.med, Disks.cget_empty _ _, ?_⟩
  show Gm.row ((List.range d.med.length).map (Disks.left d k)) 7 = rep b
  rw [Disks.row_left d k (by rw [h.med]; omega)]
  unfold Disks.left
  split
  · exact Seven.sec h
  · exact h.row
theorem Seven.does {d : Disks.D} {b : UInt8} (h : Disks.Seven d b) (o : Op05) (hi : 0 ≤ o.i ∧ o.i < 7) (h9 : o.kind ≠ 9) : Disks.Seven (doesD d o) b := by
  unfold doesD
  split
  · exact Seven.write h hi _
  · split
    · exact Seven.flush h
    · split
      · exact Seven.spoil h hi _ _
      · first
          | (split
             · exact Seven.crash h _
             · exact h)
          | (split
             · rename_i e
               exact absurd e h9
             · split
               · exact Seven.crash h _
               · exact h)
theorem upto_set (l : List (Option (List UInt8))) (i : Nat) (x : List UInt8) (hi : (Disks.cget l i).isSome = true) (k : Nat) : Disks.upto (l.set i (some x)) k = Disks.upto l k := by
  induction k with
  | zero => rfl
  | succ k ih =>
    have e : (Disks.cget (l.set i (some x)) k).isSome = (Disks.cget l k).isSome := by
      by_cases q : i = k
      · subst q
        have hlt : i < l.length := by
          rcases Nat.lt_or_ge i l.length with z | z
          · exact z
          · rw [Disks.cget_ge z] at hi; cases hi
        rw [Disks.cget_set_eq hlt, hi]
        rfl
      · rw [Disks.cget_set_ne q]
    show (if (Disks.cget (l.set i (some x)) k).isSome = true then _ else _ : List Int) = if (Disks.cget l k).isSome = true then _ else _
    rw [e, ih]
/-- Written once more: the cache is of the same sectors; what was written is read. -/
theorem Seven.again {d : Disks.D} {b : UInt8} (h : Disks.Seven d b) {i : Int} (hi : 0 ≤ i ∧ i < 7) (x y : UInt8) : Disks.cached (Disks.writeD (Disks.writeD d i (rep x)) i (rep y)) = Disks.cached (Disks.writeD d i (rep x)) ∧ readsB (Disks.writeD (Disks.writeD d i (rep x)) i (rep y)) i y = true := by
  have h1 := Seven.write h hi x
  have h2 := Seven.write h1 hi y
  have hc : i.toNat < d.cac.length := by rw [h.cac]; omega
  constructor
  · rw [h1.up.writeD (by rw [h1.med]; omega) (rep_len y)]
    unfold Disks.cached
    show Disks.upto (List.set _ _ _) (List.length (List.set _ _ _)) = _
    rw [List.length_set]
    refine upto_set _ _ _ ?_ _
    rw [h.up.writeD (by rw [h.med]; omega) (rep_len x)]
    show (Disks.cget (d.cac.set _ _) _).isSome = true
    rw [Disks.cget_set_eq hc]
    rfl
  · unfold readsB
    rw [if_pos (h2.up.there (by rw [h2.med]; omega))]
    rw [h1.up.writeD (by rw [h1.med]; omega) (rep_len y)]
    unfold Disks.sec
    show ((Disks.cget (List.set _ _ _) _).getD _ == rep y) = true
    rw [Disks.cget_set_eq (by rw [h1.cac]; omega)]
    exact beq_self_eq_true _
theorem Seven.start (b : UInt8) : Disks.writeE (Disks.new 8) 7 (rep b) = 0 ∧ Disks.flushE (Disks.writeD (Disks.new 8) 7 (rep b)) = 0 ∧ Disks.Seven (Disks.flushD (Disks.writeD (Disks.new 8) 7 (rep b))) b := by
  have hu : Disks.Up (Disks.new 8) := ⟨rfl, rfl⟩
  have hm : (Disks.new 8).med.length = 8 := rfl
  have hw := hu.writeD (i := 7) (by rw [hm]; omega) (rep_len b)
  have hu1 : Disks.Up (Disks.writeD (Disks.new 8) 7 (rep b)) := by rw [hw]; exact ⟨rfl, rfl⟩
  have hm1 : (Disks.writeD (Disks.new 8) 7 (rep b)).med.length = 8 := by rw [hw]; rfl
  refine ⟨hu.writeE (by rw [hm]; omega) (rep_len b), hu1.flushE (by omega), ?_⟩
  rw [hu1.flushD (by omega), hw]
  refine ⟨⟨rfl, rfl⟩, rfl, rfl, rfl, ?_⟩
  show Gm.row (Disks.merged _) 7 = rep b
  rw [Disks.row_merged _ (by show 7 < 8; omega)]
  rfl
set_option maxRecDepth 100000 in
set_option maxHeartbeats 8000000 in
theorem apart_any (w : World) (bb : UInt8) (A : Option Addr) (n c : Nat) (o : Nat → Op05) (ho : Os05 w A n c o) :
    Calls Try.prog 4 #[.slice A n c, .int .u8 (bb.toNat : Int)] w fun e w' => e = .returned (.bool true) ∧ Ext w w' := by
  have q1 := ho.le
  have q2 := ho.max
  have OS := Lib.hid ho
  have ST := Lib.hid (Seven.start bb)
  clear ho
  go_enter Try.func4, Try.ntmps4
  go_wp2_with (fail)
  have hc0 := (show Calls Try.prog 11 #[.int .i64 8] w _ from dsNew w 8 (by omega) (by omega))
  with_reducible refine hc0.mono ?_
  rintro e w1 ⟨gA, rfl, mA, bA, dk1, x1, gg1, mm1, bb1⟩
  have HX1 := Lib.hid x1
  have HA1 := Lib.hid (show Ds w1 gA mA bA 0 (Disks.new 8) from dk1)
  have GA := Lib.hid (And.intro gg1 (And.intro mm1 bb1))
  clear hc0 dk1 x1 gg1 mm1 bb1
  go_wp2_with (fail)
  have hc1 := of_any5 w1 bb
  with_reducible refine hc1.mono ?_
  rintro e w2 ⟨p2, rfl, o2⟩
  have OB2 := Lib.hid o2
  have HA2 := Lib.hid (HA1.out.ext o2.ext)
  have HX2 := Lib.hid (HX1.out.trans o2.ext)
  have AWA2 := Lib.hid (Awy.fresh (o := 0) HA1.out o2.le)
  clear o2 hc1
  go_wp2_with (fail)
  have hc2 := (HA2.out.write (by unfold maxLen; omega) 7 _ _ _ (rep bb) (OB2.out.bs (by rw [rep_len]; omega) (rep_len _)) AWA2.out (ST.out.1) (rfl))
  with_reducible refine hc2.mono ?_
  rintro e w3 ⟨rfl, dk3, q3⟩
  have HX3 := Lib.hid (HX2.out.kp q3 GA.out.1 GA.out.2.1 GA.out.2.2)
  have HA3 := Lib.hid dk3
  clear dk3 q3 hc2
  go_wp2_with (fail)
  have hc3 := (HA3.out.flush ST.out.2.1 rfl)
  with_reducible refine hc3.mono ?_
  rintro e w4 ⟨rfl, dk4, q4⟩
  have HX4 := Lib.hid (HX3.out.kp q4 GA.out.1 GA.out.2.1 GA.out.2.2)
  have HA4 := Lib.hid dk4
  clear dk4 q4 hc3
  go_wp2_with (fail)
  have START : Hid (∃ d : Disks.D, Disks.Seven d bb ∧ Ds w4 gA mA bA 1 d ∧ Ext w w4) := Lib.hid ⟨_, ST.out.2.2, HA4.out, HX4.out⟩
  clear HA4 HX4 ST
  go_loopw [7] (fun i wr => ∃ k : Nat, k ≤ n ∧ k ≤ 60 ∧ i = .int .i64 k ∧ Hid (∃ d : Disks.D, Disks.Seven d bb ∧ Ds wr gA mA bA (1 + 2 * k) d ∧ Ext w wr)) (fun i _ => n - (intOf i).toNat)
  case atStart => exact ⟨0, by omega, by omega, rfl, START⟩
  case round =>
    obtain ⟨k, hkn, hk60, rfl, HR⟩ := hrel
    obtain ⟨w100, hw⟩ : ∃ w100, w100 = wr := ⟨_, rfl⟩
    subst hw
    obtain ⟨d, hd8, hA, hX⟩ := HR.out
    have HA100 := Lib.hid hA
    have HX100 := Lib.hid hX
    have D7 := Lib.hid hd8
    clear START HR hA hX hd8
    by_cases h60 : k < 60
    · by_cases hlt : k < n
      · have i1 : (k : Int) < n := by omega
        have i2 : (k : Int) < 60 := by omega
        obtain ⟨z, off, rfl, hl⟩ := (OS.out.ext HX100.out).load hlt
        have HB0 := Lib.hid (OS.out.bls hlt)
        obtain ⟨oo, hoo⟩ : ∃ oo, o k = oo := ⟨_, rfl⟩
        rw [hoo] at hl HB0
        obtain ⟨w101, hs, ob, xb⟩ := op_copy w100 oo
        obtain ⟨OV, hOV⟩ : ∃ OV, oval oo = OV := ⟨_, rfl⟩
        rw [hOV] at hl hs
        have HL := Lib.hid hl
        have HS := Lib.hid hs
        obtain ⟨p, hp⟩ : ∃ p, w100.heap.size = p := ⟨_, rfl⟩
        rw [hp] at hs ob
        have HSP := Lib.hid hs
        have PP := Lib.hid (show p ≠ gA ∧ p ≠ mA ∧ p ≠ bA from by have := HA100.out.lts; omega)
        have PL := Lib.hid (show w.heap.size ≤ p from by have := HX100.out.size; omega)
        have HPP := Lib.hid hp
        have OB101 := Lib.hid ob
        have HA101 := Lib.hid (HA100.out.ext xb)
        have HX101 := Lib.hid (HX100.out.trans xb)
        have k0 := ob.c1
        clear hl hs hOV hoo ob xb hp HS
        go_wp2_with (first
          | ((with_reducible refine opIs ⟨some 41, .load 31 (.tmp 40), _, _, _, _⟩ ?_); refine wpList_loadR rfl 31 (.tmp 40) rfl rfl HL.out ?_)
          | ((with_reducible refine opIs ⟨some 8, .alloc 31, _, _, _, _⟩ ?_); refine wpList_allocR rfl 31 rfl _ (run_alloc_op _) ?_; rw [HPP.out])
          | ((with_reducible refine opIs ⟨none, .store 31 (.tmp 8) (.tmp 41), _, _, _, _⟩ ?_); refine wpList_storeR rfl 31 (.tmp 8) (.tmp 41) rfl rfl rfl HSP.out ?_))
        have hpk := (show Calls Try.prog 12 #[.int .i64 oo.i, .int .i64 7] w101 _ from pick_any w101 oo.i 7 (by omega))
        with_reducible refine hpk.mono ?_
        rintro e w102 ⟨rfl, rfl⟩
        obtain ⟨j, hj⟩ : ∃ j, pick oo.i 7 = j := ⟨_, rfl⟩
        rw [hj]
        have JJ := Lib.hid (show 0 ≤ j ∧ j < 7 from by rw [← hj]; exact pick_range oo.i 7 (by omega))
        have jwf : (Lit.int .i64 j).wf = true := by have := JJ.out; simp only [Lit.wf, IntKind.min, IntKind.max, IntKind.signed, IntKind.bits, Bool.and_eq_true, decide_eq_true_eq, if_true]; omega
        have JW := Lib.hid jwf
        have hst := int_store w101 p 1 j OB101.out.c1 (OB101.out.fz 1)
        clear hj hpk jwf
        obtain ⟨w103, hw3⟩ : ∃ w103, w101.setCell ⟨p, 1, none⟩ (.int .i64 j) = w103 := ⟨_, rfl⟩
        have o3 := OB101.out.set1 j
        rw [hw3] at o3 hst
        have HST := Lib.hid hst
        have HA103 := Lib.hid (show Ds w103 gA mA bA (1 + 2 * k) d from by rw [← hw3]; exact HA101.out.farC (p := ⟨p, 1, none⟩) PP.out.1 PP.out.2.1 PP.out.2.2 _)
        have HX103 := Lib.hid (show Ext w w103 from by rw [← hw3]; exact Below.setCell HX101.out (p := ⟨p, 1, none⟩) PL.out _)
        have HW3 := Lib.hid hw3
        obtain ⟨q, hq⟩ : ∃ q : Op05, { oo with i := j } = q := ⟨_, rfl⟩
        rw [hq] at o3
        have OB103 := Lib.hid o3
        have qi : q.i = j := by rw [← hq]
        have qk : q.kind = oo.kind := by rw [← hq]
        have qb : q.b = oo.b := by rw [← hq]
        have hq6 : Bls w q.A q.m q.c q.l ∧ Ok05 q := by rw [← hq]; exact ⟨HB0.out.1, HB0.out.2.kind, JW.out, HB0.out.2.at_, HB0.out.2.n⟩
        have QI := Lib.hid qi
        have HQ := Lib.hid hq6
        have m0 := o3.c0
        have m1 := o3.c1
        rw [qi] at m1
        have lo3 := o3.load
        obtain ⟨QV, hQV⟩ : ∃ QV, oval q = QV := ⟨_, rfl⟩
        rw [hQV] at lo3
        have LO3 := Lib.hid lo3
        have HQV := Lib.hid hQV
        clear hst hw3 o3 hq qi qk qb hq6 lo3 hQV k0
        by_cases h9 : q.kind = 9
        · rw [h9] at m0
          go_wp2_with (first | ((with_reducible refine opIs ⟨none, .store 3 (.tmp 45) (.tmp 44), _, _, _, _⟩ ?_); refine wpList_storeR rfl 3 (.tmp 45) (.tmp 44) rfl rfl rfl HST.out ?_))
          exact ⟨⟨k + 1, by omega, by omega, by go_num, Lib.hid ⟨d, D7.out, HA103.out.mono (by omega), HX103.out⟩⟩, by simp [intOf]; omega⟩
        · have n9 : (q.kind == 9) = false := beq_eq_false_iff_ne.2 h9
          have H9 := Lib.hid h9
          clear h9
          go_wp2_with (first | ((with_reducible refine opIs ⟨none, .store 3 (.tmp 45) (.tmp 44), _, _, _, _⟩ ?_); refine wpList_storeR rfl 3 (.tmp 45) (.tmp 44) rfl rfl rfl HST.out ?_) | ((with_reducible refine opIs ⟨some 50, .load 31 (.tmp 8), _, _, _, _⟩ ?_); refine wpList_loadR rfl 31 (.tmp 8) rfl rfl LO3.out ?_))
          have hc := does_any5 w103 gA mA bA _ d HA103.out (by unfold maxLen; omega) q HQ.out.2 (HQ.out.1.ext HX103.out) (Bls.awy HQ.out.1 GA.out)
          rw [HQV.out] at hc
          with_reducible refine hc.mono ?_
          rintro e w104 ⟨rfl, dk, q4⟩
          have HA104 := Lib.hid dk
          have HX104 := Lib.hid (HX103.out.kp q4 GA.out.1 GA.out.2.1 GA.out.2.2)
          have OB104 := Lib.hid (OB103.out.kp q4 PP.out.1 PP.out.2.1 PP.out.2.2)
          have S1 := Lib.hid (Seven.does D7.out q (by rw [QI.out]; exact JJ.out) H9.out)
          clear dk q4 hc m0 m1
          have m0 := OB104.out.c0
          have m1 := OB104.out.c1
          have m4 := OB104.out.c4
          rw [QI.out] at m1
          by_cases h14 : 1 ≤ q.kind ∧ q.kind ≤ 4
          · obtain ⟨g1, g4⟩ := h14
            have eD : doesD d q = Disks.writeD d j (rep q.b) := by unfold doesD; rw [if_pos (by omega), QI.out]
            have AG := Lib.hid (Seven.again D7.out JJ.out q.b (q.b + 1))
            rw [eD] at HA104 S1
            obtain ⟨d1, hd1⟩ : ∃ d1, Disks.writeD d j (rep q.b) = d1 := ⟨_, rfl⟩
            rw [hd1] at HA104 S1 AG
            obtain ⟨y, hy⟩ : ∃ y : UInt8, q.b + 1 = y := ⟨_, rfl⟩
            rw [hy] at AG
            have hyy : ((q.b.toNat : Int) + 1) % 256 = (y.toNat : Int) := by rw [← hy, UInt8.toNat_add]; show _ = (((q.b.toNat + 1) % 256 : Nat) : Int); omega
            have HYY := Lib.hid hyy
            clear hd1 hy eD hyy
            obtain ⟨L, hL⟩ : ∃ L, Disks.cached d1 = L := ⟨_, rfl⟩
            rw [hL] at AG
            have hc := HA104.out.cached hL
            clear hL
            go_wp2_with (fail)
            with_reducible refine hc.mono ?_
            rintro e w105 ⟨A5, c5, rfl, i5, x5⟩
            have hm5 := i5.max
            have hm6 := i5.le
            have HA105 := Lib.hid (HA104.out.ext x5)
            have HX105 := Lib.hid (HX104.out.trans x5)
            have OB105 := Lib.hid (OB104.out.ext x5)
            clear hc i5 x5 m0 m1 m4
            go_upto_region 13 with (fail)
            have hHeld : (fun W : World => Hid (Ob5 W p q ∧ Ds W gA mA bA (1 + 2 * k + 1) d1 ∧ Ext w W)) w105.drew := Lib.hid ⟨OB105.out.ext (Ext.drew _), HA105.out.ext (Ext.drew _), HX105.out.trans (Ext.drew _)⟩
            refine wp_region_T (S := fun W : World => Hid (Ob5 W p q ∧ Ds W gA mA bA (1 + 2 * k + 1) d1 ∧ Ext w W)) 7 rfl rfl ?_
            refine pureT (i := 0) (v := ?_) rfl (by kernel_rfl) (by kernel_rfl) (by kernel_rfl) (by decide) (fun _ _ _ h => h) (Or.inl ⟨by rfl, ?_⟩) (fun _ => by assumption) ?_
            rotate_left
            · (intro W9 hSw; go_simp; (try with_reducible rfl))
            try simp only [Act.put, List.setIfInBounds_toArray, List.set_cons_zero, List.set_cons_succ]
            refine pureT (i := 1) (v := ?_) rfl (by kernel_rfl) (by kernel_rfl) (by kernel_rfl) (by decide) (fun _ _ _ h => h) (Or.inl ⟨by rfl, ?_⟩) (fun _ => by assumption) ?_
            rotate_left
            · (intro W9 hSw; go_simp; (try with_reducible rfl))
            try simp only [Act.put, List.setIfInBounds_toArray, List.set_cons_zero, List.set_cons_succ]
            refine takeT (i := 2) (v := ?_) rfl (by kernel_rfl) (by kernel_rfl) (by kernel_rfl) (by kernel_rfl) (by decide) (fun _ _ _ h => h) (by kernel_rfl) (Or.inl ⟨by rfl, ?_⟩) (by assumption) ?_
            rotate_left
            · (intro W9 hSw; (have k9 := hSw.out.1.c1); go_simp; (try with_reducible rfl))
            try simp only [Act.put, List.setIfInBounds_toArray, List.set_cons_zero, List.set_cons_succ]
            refine pureT (i := 3) (v := ?_) rfl (by kernel_rfl) (by kernel_rfl) (by kernel_rfl) (by decide) (fun _ _ _ h => h) (Or.inl ⟨by rfl, ?_⟩) (fun _ => by assumption) ?_
            rotate_left
            · (intro W9 hSw; go_simp; (try with_reducible rfl))
            try simp only [Act.put, List.setIfInBounds_toArray, List.set_cons_zero, List.set_cons_succ]
            refine oneT (i := 4) rfl (by kernel_rfl) (fun K hK => ?_)
            rw [if_pos (by kernel_rfl)]
            have k9 := hHeld.out.1.c4
            go_wp2_with (fail)
            refine hK.out _ _ (fun _ => hHeld) ?_
            clear hK K k9
            try simp only [Act.put, List.setIfInBounds_toArray, List.set_cons_zero, List.set_cons_succ]
            refine oneT (i := 5) rfl (by kernel_rfl) (fun K hK => ?_)
            rw [if_pos (by kernel_rfl)]
            go_wp2_with (fail)
            refine hK.out _ _ (fun _ => hHeld) ?_
            clear hK K
            try simp only [Act.put, List.setIfInBounds_toArray, List.set_cons_zero, List.set_cons_succ]
            refine oneT (i := 6) rfl (by kernel_rfl) (fun K hK => ?_)
            rw [if_pos (by kernel_rfl)]
            go_wp2_with (fail)
            rw [HYY.out]
            have hc := of_any5 w105.drew y
            with_reducible refine hc.mono ?_
            rintro e w106 ⟨pa, rfl, oa⟩
            have OA := Lib.hid oa
            have AW := Lib.hid (Awy.fresh (o := 0) hHeld.out.2.1 oa.le)
            have hS1 : (fun W : World => Hid (Ob5 W p q ∧ Ds W gA mA bA (1 + 2 * k + 1) d1 ∧ Ext w W)) w106 := Lib.hid ⟨hHeld.out.1.ext oa.ext, hHeld.out.2.1.ext oa.ext, hHeld.out.2.2.trans oa.ext⟩
            clear oa hHeld hc
            go_wp2_with (fail)
            refine hK.out _ _ (fun _ => hS1) ?_
            clear hK K
            try simp only [Act.put, List.setIfInBounds_toArray, List.set_cons_zero, List.set_cons_succ]
            refine oneT (i := 7) rfl (by kernel_rfl) (fun K hK => ?_)
            rw [if_pos (by kernel_rfl)]
            go_wp2_with (fail)
            rw [QI.out]
            have hc := hS1.out.2.1.write (by unfold maxLen; omega) j _ _ _ (rep y) (OA.out.bs (by rw [rep_len]; omega) (rep_len _)) AW.out rfl rfl
            with_reducible refine hc.mono ?_
            rintro e w107 ⟨rfl, d7, q7⟩
            have HA107 := Lib.hid d7
            have HX107 := Lib.hid (hS1.out.2.2.kp q7 GA.out.1 GA.out.2.1 GA.out.2.2)
            have OB107 := Lib.hid (hS1.out.1.kp q7 PP.out.1 PP.out.2.1 PP.out.2.2)
            clear d7 q7 hc hS1 OA AW
            obtain ⟨er, her⟩ : ∃ er, Disks.writeE d1 j (rep y) = er := ⟨_, rfl⟩
            rw [her]
            clear her
            obtain ⟨d2, hd2⟩ : ∃ d2, Disks.writeD d1 j (rep y) = d2 := ⟨_, rfl⟩
            have S2 := Lib.hid (Seven.write S1.out JJ.out y)
            rw [hd2] at HA107 AG S2
            clear hd2
            go_wp2_with (fail)
            refine hK.out _ _ (fun h => absurd (show true = false from h) (by decide)) ?_
            clear hK K
            try simp only [Act.put, List.setIfInBounds_toArray, List.set_cons_zero, List.set_cons_succ]
            refine doneT (by kernel_rfl) ?_ _
            have hc := HA107.out.cached AG.out.1
            go_wp2_with (fail)
            with_reducible refine hc.mono ?_
            rintro e w108 ⟨A8, c8, rfl, i8, x8⟩
            have hm8 := i8.max
            have hm9 := i8.le
            have HA108 := Lib.hid (HA107.out.ext x8)
            have HX108 := Lib.hid (HX107.out.trans x8)
            have OB108 := Lib.hid (OB107.out.ext x8)
            clear hc i8 x8
            have m1 := OB108.out.c1
            have m4 := OB108.out.c4
            rw [QI.out] at m1
            go_wp2_with (fail)
            rw [HYY.out]
            have hc := reads_any w108 gA mA bA _ _ HA108.out j y AG.out.2
            with_reducible refine hc.mono ?_
            rintro e w109 ⟨rfl, x9⟩
            have HA109 := Lib.hid (HA108.out.ext x9)
            have HX109 := Lib.hid (HX108.out.trans x9)
            clear hc x9 m1 m4
            go_wp2_with (fail)
            have hc := (show Calls Try.prog 18 #[dptr gA, .int .i64 7, .int .u8 (bb.toNat : Int)] w109 _ from reads_any w109 gA mA bA _ _ HA109.out 7 bb (Seven.reads S2.out))
            with_reducible refine hc.mono ?_
            rintro e w110 ⟨rfl, x9⟩
            have HA110 := Lib.hid (HA109.out.ext x9)
            have HX110 := Lib.hid (HX109.out.trans x9)
            clear hc x9
            go_wp2_with (fail)
            exact ⟨⟨k + 1, by omega, by omega, by go_num, Lib.hid ⟨d2, S2.out, HA110.out.mono (by omega), HX110.out⟩⟩, by simp [intOf]; omega⟩
          · have hc := (show Calls Try.prog 18 #[dptr gA, .int .i64 7, .int .u8 (bb.toNat : Int)] w104 _ from reads_any w104 gA mA bA _ _ HA104.out 7 bb (Seven.reads S1.out))
            have HC := Lib.hid hc
            clear hc
            have h14' := h14
            by_cases hge : 1 ≤ q.kind
            · have hle : ¬ q.kind ≤ 4 := by omega
              clear h14 h14'
              go_wp2_with (fail)
              with_reducible refine HC.out.mono ?_
              rintro e w110 ⟨rfl, x9⟩
              have HA110 := Lib.hid (HA104.out.ext x9)
              have HX110 := Lib.hid (HX104.out.trans x9)
              clear x9
              go_wp2_with (fail)
              exact ⟨⟨k + 1, by omega, by omega, by go_num, Lib.hid ⟨_, S1.out, HA110.out.mono (by omega), HX110.out⟩⟩, by simp [intOf]; omega⟩
            · clear h14 h14'
              go_wp2_with (fail)
              with_reducible refine HC.out.mono ?_
              rintro e w110 ⟨rfl, x9⟩
              have HA110 := Lib.hid (HA104.out.ext x9)
              have HX110 := Lib.hid (HX104.out.trans x9)
              clear x9
              go_wp2_with (fail)
              exact ⟨⟨k + 1, by omega, by omega, by go_num, Lib.hid ⟨_, S1.out, HA110.out.mono (by omega), HX110.out⟩⟩, by simp [intOf]; omega⟩
      · have ek : k = n := by omega
        subst ek
        go_wp2_with (fail)
        have hc100 := awake_any5 w100
        with_reducible refine hc100.mono ?_
        rintro e w101 ⟨rfl, x101⟩
        have HA101 := Lib.hid (HA100.out.ext x101)
        have HX101 := Lib.hid (HX100.out.trans x101)
        clear x101 hc100
        go_wp2_with (fail)
        go_ret
        exact ⟨rfl, HX101.out⟩
    · have ek : k = 60 := by omega
      subst ek
      by_cases hlt : 60 < n
      · have i1 : (60 : Int) < n := by omega
        go_wp2_with (fail)
        have hc100 := awake_any5 w100
        with_reducible refine hc100.mono ?_
        rintro e w101 ⟨rfl, x101⟩
        have HA101 := Lib.hid (HA100.out.ext x101)
        have HX101 := Lib.hid (HX100.out.trans x101)
        clear x101 hc100
        go_wp2_with (fail)
        go_ret
        exact ⟨rfl, HX101.out⟩
      · have i1 : n = 60 := by omega
        subst i1
        go_wp2_with (fail)
        have hc100 := awake_any5 w100
        with_reducible refine hc100.mono ?_
        rintro e w101 ⟨rfl, x101⟩
        have HA101 := Lib.hid (HA100.out.ext x101)
        have HX101 := Lib.hid (HX100.out.trans x101)
        clear x101 hc100
        go_wp2_with (fail)
        go_ret
        exact ⟨rfl, HX101.out⟩
set_option maxRecDepth 100000 in
theorem diskApart.walk {H : Type} {enc : TypeId × Value → H} {base : Nat} (w : World) (v0 : Value) (d0 : DataW H) (p0 : List MemPlace) (a1 : Int) (o0 : Value.okWide Try.prog w .any base 22 v0) (h0 : DataW.Trod enc Try.prog w 0 (fun _ => true) true 22 v0 d0 p0) (w1 : (Lit.int .u8 a1).wf = true) :
    Calls Try.prog 4 #[v0, .int .u8 a1] w fun e w' => e = .returned (.bool true) ∧ Below w.heap.size w w' := by
  obtain ⟨x, rfl⟩ := wf_u8 w1
  obtain ⟨A, n, c, o, rfl, ho⟩ := os05_open o0 h0
  exact apart_any w x A n c o ho
end Go.Proofs.Ytbfbiofndipaaaa
