/- Several texts in one: DiskTwice's walk. Eight sectors of one byte each: what was flushed last, what was written last, which are open; in plain words, and in memory. No statement of the seat is proved here. -/
import Derived.Test.YtbfbiofndipaaaaCt20
namespace Disks
theorem sec_none {d : D} {i : Nat} (h : cget d.cac i = none) : sec d i = Gm.row d.med i := by unfold sec; rw [h]; rfl
theorem crash_cac (d : D) (k : List Bool) (i : Nat) : cget (crashD d k).cac i = none := cget_empty _ _
theorem crash_up (d : D) (k : List Bool) : Up (crashD d k) := ⟨rfl, rfl⟩
theorem crash_row (d : D) (k : List Bool) {i : Nat} (hi : i < d.med.length) : Gm.row (crashD d k).med i = left d k i := row_left d k hi
/-- A crash of what has nothing cached changes nothing that is read. -/
theorem crash_still {d : D} (h : ∀ i, cget d.cac i = none) (k : List Bool) {i : Nat} (hi : i < d.med.length) : sec (crashD d k) i = Gm.row d.med i := by
  rw [sec_none (crash_cac d k i), crash_row d k hi]
  unfold left
  split
  · exact sec_none (h i)
  · rfl
theorem alike_one {e : D} (h1 : 1 ≤ e.med.length) (one two : List Bool) : Alike (crashD e one) (flushD (crashD (crashD e one) two)) := by
  have hu := crash_up (crashD e one) two
  have hl : (crashD (crashD e one) two).med.length = e.med.length := (len_crash _ _).trans (len_crash _ _)
  have hf := hu.flushD (by omega)
  refine ⟨by rw [len_flush, hl, len_crash], fun i hi => ?_⟩
  rw [len_crash] at hi
  have hu2 : Up (flushD (crashD (crashD e one) two)) := by rw [hf]; exact ⟨hu.arm, hu.down⟩
  refine ⟨by rw [(crash_up e one).there (by rw [len_crash]; omega), hu2.there (by rw [len_flush, hl]; omega)], fun _ => ?_⟩
  rw [sec_none (crash_cac e one i)]
  have hs : sec (flushD (crashD (crashD e one) two)) i = sec (crashD (crashD e one) two) i := by
    rw [hf]
    have hn : cget (emptied (crashD (crashD e one) two)) i = none := cget_empty _ _
    rw [sec_none hn]
    exact row_merged _ (by rw [hl]; exact hi)
  rw [hs, crash_still (crash_cac e one) two (by rw [len_crash]; exact hi)]
theorem alike_all {e : D} (hd : e.down = false) (ha : e.arm ≠ 0) (h8 : e.med.length = 8) : flushE e = 0 ∧ Alike (crashD (flushD e) []) (crashD e [true, true, true, true, true, true, true, true]) ∧ cached (crashD e [true, true, true, true, true, true, true, true]) = [] := by
  have ht : there e 0 = 0 := by rw [in_there (by omega)]; unfold noE; rw [if_neg (by rw [hd]; decide)]
  have hE : flushE e = 0 := by unfold flushE; rw [ht, if_neg (by omega)]; exact if_neg ha
  have hD : flushD e = { op e with med := merged e, cac := emptied e } := by unfold flushD; rw [ht, if_neg (by omega), if_neg ha]
  refine ⟨hE, ⟨by rw [len_crash, len_flush, len_crash], fun i hi => ?_⟩, ?_⟩
  · rw [len_crash, len_flush] at hi
    refine ⟨by rw [(crash_up _ _).there (by rw [len_crash, len_flush]; omega), (crash_up _ _).there (by rw [len_crash]; omega)], fun _ => ?_⟩
    have hn : ∀ j, cget (flushD e).cac j = none := fun j => by rw [hD]; exact cget_empty _ _
    rw [crash_still hn [] (by rw [len_flush]; exact hi), sec_none (crash_cac _ _ _), crash_row _ _ hi]
    have hr : Gm.row (flushD e).med i = sec e i := by rw [hD]; exact row_merged e hi
    rw [hr]
    unfold left
    have hp : (upto e.cac i).length < 8 := Nat.lt_of_le_of_lt (upto_len _ _) (by omega)
    have hk : kept [true, true, true, true, true, true, true, true] (upto e.cac i).length = true := by
      generalize (upto e.cac i).length = z at hp
      match z, hp with
      | 0, _ => rfl
      | 1, _ => rfl
      | 2, _ => rfl
      | 3, _ => rfl
      | 4, _ => rfl
      | 5, _ => rfl
      | 6, _ => rfl
      | 7, _ => rfl
    rw [if_pos hk]
  · have h0 : ∀ k l, upto (List.replicate l none) k = [] := fun k l => by
      induction k with
      | zero => rfl
      | succ k ih =>
        show (if _ then _ else _ : List Int) = []
        rw [cget_empty, if_neg (by simp), ih]
    exact h0 _ _
end Disks
namespace Go.Proofs.Ytbfbiofndipaaaa
open Go.ChangeShapes Go.WideShapes Go.ChangeAt Go.RowKit Go.Maps Go.Sort Go.Shelf

/-- What k ops make of a disk. -/
def doneD (o : Nat → Op05) : Nat → Disks.D
  | 0 => Disks.new 8
  | k + 1 => doesD (doneD o k) (o k)
theorem len_done (o : Nat → Op05) (k : Nat) : (doneD o k).med.length = 8 := by
  induction k with
  | zero => rfl
  | succ k ih => exact (len_does _ _).trans ih
/-- The disks that were made: j has its blocks from lo j on, below lo (j + 1). -/
structure Made (w wr : World) (r : Nat) (k : Nat) (e : Disks.D) (f : Nat → Nat × Nat × Nat) (lo : Nat → Nat) : Prop where
  ext : Ext w wr
  r0 : w.heap.size ≤ r
  arr : ∃ c : List Value, c.length = 4 ∧ wr.heap[r]? = some (.cells c.toArray 70 (0, 0)) ∧ ∀ j, j < k → c[j]? = some (dptr (f j).1)
  ds : ∀ j, j < k → Ds wr (f j).1 (f j).2.1 (f j).2.2 60 e
  low : ∀ j, j < k → r < lo j ∧ lo j ≤ (f j).1 ∧ lo j ≤ (f j).2.1 ∧ lo j ≤ (f j).2.2
  up : ∀ i j, i < j → j < k → (f i).1 < lo j ∧ (f i).2.1 < lo j ∧ (f i).2.2 < lo j
theorem Made.ext' {w wr wr' : World} {r k : Nat} {e : Disks.D} {f : Nat → Nat × Nat × Nat} {lo : Nat → Nat} (h : Made w wr r k e f lo) (hx : Ext wr wr') : Made w wr' r k e f lo := by
  obtain ⟨c, h1, h2, h3⟩ := h.arr
  exact ⟨h.ext.trans hx, h.r0, ⟨c, h1, (hx.block r (Array.getElem?_eq_some_iff.1 h2).1).trans h2, h3⟩, fun j hj => (h.ds j hj).ext hx, h.low, h.up⟩
theorem Made.rlt {w wr : World} {r k : Nat} {e : Disks.D} {f : Nat → Nat × Nat × Nat} {lo : Nat → Nat} (h : Made w wr r k e f lo) : r < wr.heap.size := by
  obtain ⟨c, h1, h2, h3⟩ := h.arr
  exact (Array.getElem?_eq_some_iff.1 h2).1
theorem Made.add {w wr W : World} {r k : Nat} {e : Disks.D} {f : Nat → Nat × Nat × Nat} {lo : Nat → Nat} (h : Made w wr r k e f lo) (hk : k < 4) {g m b : Nat} (hx : Ext wr W) (hd : Ds W g m b 60 e) (hg : wr.heap.size ≤ g ∧ wr.heap.size ≤ m ∧ wr.heap.size ≤ b) :
    Made w (W.setCell ⟨r, k, none⟩ (dptr g)) r (k + 1) e (fun j => if j = k then (g, m, b) else f j) (fun j => if j = k then wr.heap.size else lo j) := by
  have h' := h.ext' hx
  have hr := h.rlt
  obtain ⟨c, h1, h2, h3⟩ := h'.arr
  refine ⟨Below.setCell h'.ext (p := ⟨r, k, none⟩) h.r0 _, h.r0, ⟨c.set k (dptr g), by rw [List.length_set]; exact h1, ?_, fun j hj => ?_⟩, fun j hj => ?_, fun j hj => ?_, fun i j hij hj => ?_⟩
  · have := heap_setCell_same W r k _ _ (dptr g) h2
    rw [this]
    simp
  · rw [List.getElem?_set]
    by_cases q : k = j
    · subst q
      rw [if_pos rfl, if_pos (by omega)]
      simp
    · rw [if_neg q, h3 j (by omega)]
      simp only [if_neg (fun e : j = k => q e.symm)]
  · by_cases q : j = k
    · simp only [if_pos q]
      exact hd.farC (p := ⟨r, k, none⟩) (by show r ≠ g; omega) (by show r ≠ m; omega) (by show r ≠ b; omega) _
    · simp only [if_neg q]
      have := h.low j (by omega)
      exact (h'.ds j (by omega)).farC (p := ⟨r, k, none⟩) (by show r ≠ _; omega) (by show r ≠ _; omega) (by show r ≠ _; omega) _
  · by_cases q : j = k
    · simp only [if_pos q]
      omega
    · simp only [if_neg q]
      exact h.low j (by omega)
  · by_cases q : j = k
    · have hi : i ≠ k := by omega
      simp only [if_pos q, if_neg hi]
      exact (h.ds i (by omega)).lts
    · have hi : i ≠ k := by omega
      simp only [if_neg q, if_neg hi]
      exact h.up i j hij (by omega)
theorem Made.cell {w wr : World} {r k : Nat} {e : Disks.D} {f : Nat → Nat × Nat × Nat} {lo : Nat → Nat} (h : Made w wr r k e f lo) {j : Nat} (hj : j < k) : wr.cell? ⟨r, j, none⟩ = some (dptr (f j).1) := by
  obtain ⟨c, h1, h2, h3⟩ := h.arr
  rw [cell_of_row wr _ _ _ _ _ h2]
  simpa using h3 j hj
theorem Made.slot {w wr : World} {r k : Nat} {e : Disks.D} {f : Nat → Nat × Nat × Nat} {lo : Nat → Nat} (h : Made w wr r k e f lo) {j : Nat} (hj : j < 4) : (∃ v, wr.cell? ⟨r, j, none⟩ = some v) ∧ wr.frozen? ⟨r, j, none⟩ = false := by
  obtain ⟨c, h1, h2, h3⟩ := h.arr
  refine ⟨⟨c[j], ?_⟩, frozen_of_row _ _ _ _ _ h2⟩
  rw [cell_of_row wr _ _ _ _ _ h2]
  simp [h1, hj]
/-- Four pointers in their block. -/
structure Arr4 (wr : World) (r a b c d : Nat) : Prop where
  c0 : wr.cell? ⟨r, 0, none⟩ = some (dptr a)
  c1 : wr.cell? ⟨r, 1, none⟩ = some (dptr b)
  c2 : wr.cell? ⟨r, 2, none⟩ = some (dptr c)
  c3 : wr.cell? ⟨r, 3, none⟩ = some (dptr d)
theorem Arr4.ext {w w' : World} {r a b c d : Nat} (h : Arr4 w r a b c d) (hx : Ext w w') : Arr4 w' r a b c d := ⟨hx.cell h.c0, hx.cell h.c1, hx.cell h.c2, hx.cell h.c3⟩
theorem Arr4.kp {w w' : World} {r a b c d g m b' : Nat} (h : Arr4 w r a b c d) (hk : Kp g m b' w w') (hr : r ≠ g ∧ r ≠ m ∧ r ≠ b') : Arr4 w' r a b c d := by
  have q : ∀ j v, w.cell? ⟨r, j, none⟩ = some v → w'.cell? ⟨r, j, none⟩ = some v := fun j v hv => by
    rw [← hv]
    exact World.cell?_of_block (hk.block r (World.block_lt_of_cell? _ _ hv) hr.1 hr.2.1 hr.2.2)
  exact ⟨q _ _ h.c0, q _ _ h.c1, q _ _ h.c2, q _ _ h.c3⟩
set_option maxRecDepth 100000 in
set_option maxHeartbeats 8000000 in
theorem twice_any (w : World) (A : Option Addr) (n c : Nat) (o : Nat → Op05) (ho : Os05 w A n c o) (A1 : Option Addr) (n1 c1 : Nat) (one : List Bool) (h1 : Bls w A1 n1 c1 one) (A2 : Option Addr) (n2 c2 : Nat) (two : List Bool) (h2 : Bls w A2 n2 c2 two) :
    Calls Try.prog 9 #[.slice A n c, .slice A1 n1 c1, .slice A2 n2 c2] w fun e w' => e = .returned (.bool true) ∧ Ext w w' := by
  have q1 := ho.le
  have q2 := ho.max
  have q3 := h1.le
  have q4 := h1.max
  have q5 := h2.le
  have q6 := h2.max
  have OS := Lib.hid ho
  have L1 := Lib.hid h1
  have L2 := Lib.hid h2
  clear ho h1 h2
  go_enter Try.func9, Try.ntmps9
  go_wp2_with (fail)
  obtain ⟨r, hr⟩ : ∃ r, w.heap.size = r := ⟨_, rfl⟩
  obtain ⟨w0, hw0⟩ : ∃ w0, w.alloc (.cells #[.pointer none, .pointer none, .pointer none, .pointer none] 70) = w0 := ⟨_, rfl⟩
  obtain ⟨N, hN, hN1, hN2⟩ : ∃ N, N = min n 60 ∧ N ≤ n ∧ N ≤ 60 := ⟨_, rfl, Nat.min_le_left .., Nat.min_le_right ..⟩
  have START : Hid (∃ f lo, Made w w0 r 0 (Disks.armD (doneD o N) 1000) f lo) := Lib.hid ⟨fun _ => (0, 0, 0), fun _ => 0, by
    refine ⟨by rw [← hw0]; exact Ext.alloc _ _, by omega, ⟨[.pointer none, .pointer none, .pointer none, .pointer none], rfl, by rw [← hw0, ← hr]; exact heap_alloc_new w _, fun j hj => by omega⟩, fun j hj => by omega, fun j hj => by omega, fun i j _ hj => by omega⟩⟩
  rw [hw0]
  rw [hr]
  clear hw0
  go_loopw [14] (fun i wr => ∃ k : Nat, k ≤ 4 ∧ i = .int .i64 k ∧ Hid (0 < k → (doneD o N).down = false) ∧ Hid (∃ f lo, Made w wr r k (Disks.armD (doneD o N) 1000) f lo)) (fun i _ => 4 - (intOf i).toNat)
  case atStart => exact ⟨0, by omega, rfl, Lib.hid (fun h => absurd h (Nat.lt_irrefl 0)), START⟩
  case round =>
    obtain ⟨k, hk4, rfl, HU, HM⟩ := hrel
    obtain ⟨wa, hwa⟩ : ∃ wa, wa = wr := ⟨_, rfl⟩
    subst hwa
    clear START
    by_cases hlt : k < 4
    · have i1 : (k : Int) < 4 := by omega
      have hc := (show Calls Try.prog 11 #[.int .i64 8] wa _ from dsNew wa 8 (by omega) (by omega))
      go_wp2_with (fail)
      with_reducible refine hc.mono ?_
      rintro e w1 ⟨g, rfl, m, b, d1, x1, g1, m1, b1⟩
      have G := Lib.hid (And.intro g1 (And.intro m1 b1))
      have ST1 : Hid (Ds w1 g m b 0 (doneD o 0) ∧ Ext wa w1) := Lib.hid ⟨d1, x1⟩
      clear hc d1 x1 g1 m1 b1
      go_wp2_with (fail)
      go_loopw [11] (fun i W => ∃ q : Nat, q ≤ N ∧ i = .int .i64 q ∧ Hid (Ds W g m b q (doneD o q) ∧ Ext wa W)) (fun i _ => N - (intOf i).toNat)
      case atStart => exact ⟨0, by omega, rfl, ST1⟩
      case round =>
        obtain ⟨q, hqN, rfl, HQ⟩ := hrel
        by_cases hql : q < N
        · have i2 : (q : Int) < n := by omega
          have i3 : (q : Int) < 60 := by omega
          obtain ⟨fE, lo, hM⟩ := HM.out
          have hxw := (hM.ext).trans HQ.out.2
          obtain ⟨z, off, rfl, hl⟩ := (OS.out.ext hxw).load (show q < n by omega)
          have hb := OS.out.bls (show q < n by omega)
          have hg := G.out
          have hsz := hM.ext.size
          have hc := does_any5 wr g m b q (doneD o q) HQ.out.1 (by unfold maxLen; omega) (o q) hb.2 (hb.1.ext hxw) (Bls.awy hb.1 (by omega))
          obtain ⟨OV, hOV⟩ : ∃ OV, oval (o q) = OV := ⟨_, rfl⟩
          rw [hOV] at hl hc
          have HL := Lib.hid hl
          have HC := Lib.hid hc
          clear hM hxw hl hb hg hsz hc hOV
          go_wp2_with (first | ((with_reducible refine opIs ⟨some 37, .load 31 (.tmp 36), _, _, _, _⟩ ?_); refine wpList_loadR rfl 31 (.tmp 36) rfl rfl HL.out ?_))
          with_reducible refine HC.out.mono ?_
          rintro e W2 ⟨rfl, d2, k2⟩
          have HQ2 : Hid (Ds W2 g m b (q + 1) (doneD o (q + 1)) ∧ Ext wa W2) := Lib.hid ⟨d2, HQ.out.2.kp k2 G.out.1 G.out.2.1 G.out.2.2⟩
          clear d2 k2 HC
          go_wp2_with (fail)
          exact ⟨⟨q + 1, by omega, by go_num, HQ2⟩, by simp [intOf]; omega⟩
        · have eq1 : q = N := by omega
          subst eq1
          have HD := Lib.hid (HQ.out.1.mono hN2)
          have HX := Lib.hid HQ.out.2
          clear HQ
          obtain ⟨dn, hdn⟩ : ∃ dn, doneD o q = dn := ⟨_, rfl⟩
          rw [hdn] at HD HM
          have h8 := len_done o q
          rw [hdn] at h8
          have H8 := Lib.hid h8
          clear h8 ST1
          obtain ⟨fE, lo, hM⟩ := HM.out
          have HM' := Lib.hid hM
          have HDN := Lib.hid hdn
          clear HM hM hdn
          rcases Nat.lt_or_ge q n with z | z
          · have i2 : (q : Int) < n := by omega
            have i3 : ¬ (q : Int) < 60 := by omega
            cases hdd : dn.down
            · have hc := HD.out.down hdd
              have DD := Lib.hid hdd
              clear hdd
              go_wp2_with (fail)
              with_reducible refine hc.mono ?_
              rintro e w2 ⟨rfl, x2⟩
              have HD2 := Lib.hid (HD.out.ext x2)
              have HX2 := Lib.hid (HX.out.trans x2)
              clear x2 hc
              have hc := HD2.out.arm 1000 (by decide) rfl
              go_wp2_with (fail)
              with_reducible refine hc.mono ?_
              rintro e w3 ⟨rfl, d3, k3⟩
              have HX3 := Lib.hid (HX2.out.kp k3 G.out.1 G.out.2.1 G.out.2.2)
              have HD3 := Lib.hid d3
              clear d3 k3 hc
              obtain ⟨⟨v3, hc3⟩, hf3⟩ := (HM'.out.ext' HX3.out).slot hlt
              have HN := Lib.hid (HM'.out.add hlt HX3.out HD3.out G.out)
              clear HD HX HD2 HX2
              go_wp2_with (fail)
              exact ⟨⟨k + 1, by omega, by go_num, Lib.hid (fun _ => by rw [HDN.out]; exact DD.out), Lib.hid ⟨_, _, by rw [HDN.out]; exact HN.out⟩⟩, by simp [intOf]; omega⟩
            · have hc := HD.out.down hdd
              have DD := Lib.hid hdd
              clear hdd
              go_wp2_with (fail)
              with_reducible refine hc.mono ?_
              rintro e w2 ⟨rfl, x2⟩
              have HD2 := Lib.hid (HD.out.ext x2)
              have HX2 := Lib.hid (HX.out.trans x2)
              clear x2 hc
              go_wp2_with (fail)
              have hc := awake_any5 w2
              with_reducible refine hc.mono ?_
              rintro e w3 ⟨rfl, x3⟩
              go_wp2_with (fail)
              go_ret
              exact ⟨rfl, (HM'.out.ext.trans HX2.out).trans x3⟩
          · have i2 : ¬ (q : Int) < n := by omega
            cases hdd : dn.down
            · have hc := HD.out.down hdd
              have DD := Lib.hid hdd
              clear hdd
              go_wp2_with (fail)
              with_reducible refine hc.mono ?_
              rintro e w2 ⟨rfl, x2⟩
              have HD2 := Lib.hid (HD.out.ext x2)
              have HX2 := Lib.hid (HX.out.trans x2)
              clear x2 hc
              have hc := HD2.out.arm 1000 (by decide) rfl
              go_wp2_with (fail)
              with_reducible refine hc.mono ?_
              rintro e w3 ⟨rfl, d3, k3⟩
              have HX3 := Lib.hid (HX2.out.kp k3 G.out.1 G.out.2.1 G.out.2.2)
              have HD3 := Lib.hid d3
              clear d3 k3 hc
              obtain ⟨⟨v3, hc3⟩, hf3⟩ := (HM'.out.ext' HX3.out).slot hlt
              have HN := Lib.hid (HM'.out.add hlt HX3.out HD3.out G.out)
              clear HD HX HD2 HX2
              go_wp2_with (fail)
              exact ⟨⟨k + 1, by omega, by go_num, Lib.hid (fun _ => by rw [HDN.out]; exact DD.out), Lib.hid ⟨_, _, by rw [HDN.out]; exact HN.out⟩⟩, by simp [intOf]; omega⟩
            · have hc := HD.out.down hdd
              have DD := Lib.hid hdd
              clear hdd
              go_wp2_with (fail)
              with_reducible refine hc.mono ?_
              rintro e w2 ⟨rfl, x2⟩
              have HD2 := Lib.hid (HD.out.ext x2)
              have HX2 := Lib.hid (HX.out.trans x2)
              clear x2 hc
              go_wp2_with (fail)
              have hc := awake_any5 w2
              with_reducible refine hc.mono ?_
              rintro e w3 ⟨rfl, x3⟩
              go_wp2_with (fail)
              go_ret
              exact ⟨rfl, (HM'.out.ext.trans HX2.out).trans x3⟩
    · have ek : k = 4 := by omega
      subst ek
      obtain ⟨f, lo, hM⟩ := HM.out

      have DA := hM.ds 0 (by omega)
      have CA := hM.cell (j := 0) (by omega)
      have LA := hM.low 0 (by omega)
      have DB := hM.ds 1 (by omega)
      have CB := hM.cell (j := 1) (by omega)
      have LB := hM.low 1 (by omega)
      have UAB := hM.up 0 1 (by omega) (by omega)
      have DC := hM.ds 2 (by omega)
      have CC := hM.cell (j := 2) (by omega)
      have LC := hM.low 2 (by omega)
      have UAC := hM.up 0 2 (by omega) (by omega)
      have UBC := hM.up 1 2 (by omega) (by omega)
      have DD := hM.ds 3 (by omega)
      have CD := hM.cell (j := 3) (by omega)
      have LD := hM.low 3 (by omega)
      have UAD := hM.up 0 3 (by omega) (by omega)
      have UBD := hM.up 1 3 (by omega) (by omega)
      have UCD := hM.up 2 3 (by omega) (by omega)
      obtain ⟨⟨gA, mA, bA⟩, hfA⟩ : ∃ t, f 0 = t := ⟨_, rfl⟩
      obtain ⟨⟨gB, mB, bB⟩, hfB⟩ : ∃ t, f 1 = t := ⟨_, rfl⟩
      obtain ⟨⟨gC, mC, bC⟩, hfC⟩ : ∃ t, f 2 = t := ⟨_, rfl⟩
      obtain ⟨⟨gD, mD, bD⟩, hfD⟩ : ∃ t, f 3 = t := ⟨_, rfl⟩
      rw [hfA] at DA CA LA UAB UAC UAD
      rw [hfB] at DB CB LB UBC UBD
      rw [hfC] at DC CC LC UCD
      rw [hfD] at DD CD LD
      simp only at DA DB DC DD CA CB CC CD LA LB LC LD UAB UAC UAD UBC UBD UCD
      clear hfA
      clear hfB
      clear hfC
      clear hfD
      have hr0 := hM.r0
      have hxw := hM.ext
      have hrl := hM.rlt
      have GA := Lib.hid (show w.heap.size ≤ gA ∧ w.heap.size ≤ mA ∧ w.heap.size ≤ bA from by omega)
      have RA := Lib.hid (show r ≠ gA ∧ r ≠ mA ∧ r ≠ bA from by omega)
      have GB := Lib.hid (show w.heap.size ≤ gB ∧ w.heap.size ≤ mB ∧ w.heap.size ≤ bB from by omega)
      have RB := Lib.hid (show r ≠ gB ∧ r ≠ mB ∧ r ≠ bB from by omega)
      have GC := Lib.hid (show w.heap.size ≤ gC ∧ w.heap.size ≤ mC ∧ w.heap.size ≤ bC from by omega)
      have RC := Lib.hid (show r ≠ gC ∧ r ≠ mC ∧ r ≠ bC from by omega)
      have GD := Lib.hid (show w.heap.size ≤ gD ∧ w.heap.size ≤ mD ∧ w.heap.size ≤ bD from by omega)
      have RD := Lib.hid (show r ≠ gD ∧ r ≠ mD ∧ r ≠ bD from by omega)
      have APAB := Lib.hid (show (gA ≠ gB ∧ gA ≠ mB ∧ gA ≠ bB) ∧ (mA ≠ gB ∧ mA ≠ mB ∧ mA ≠ bB) ∧ (bA ≠ gB ∧ bA ≠ mB ∧ bA ≠ bB) from by omega)
      have APAC := Lib.hid (show (gA ≠ gC ∧ gA ≠ mC ∧ gA ≠ bC) ∧ (mA ≠ gC ∧ mA ≠ mC ∧ mA ≠ bC) ∧ (bA ≠ gC ∧ bA ≠ mC ∧ bA ≠ bC) from by omega)
      have APAD := Lib.hid (show (gA ≠ gD ∧ gA ≠ mD ∧ gA ≠ bD) ∧ (mA ≠ gD ∧ mA ≠ mD ∧ mA ≠ bD) ∧ (bA ≠ gD ∧ bA ≠ mD ∧ bA ≠ bD) from by omega)
      have APBA := Lib.hid (show (gB ≠ gA ∧ gB ≠ mA ∧ gB ≠ bA) ∧ (mB ≠ gA ∧ mB ≠ mA ∧ mB ≠ bA) ∧ (bB ≠ gA ∧ bB ≠ mA ∧ bB ≠ bA) from by omega)
      have APBC := Lib.hid (show (gB ≠ gC ∧ gB ≠ mC ∧ gB ≠ bC) ∧ (mB ≠ gC ∧ mB ≠ mC ∧ mB ≠ bC) ∧ (bB ≠ gC ∧ bB ≠ mC ∧ bB ≠ bC) from by omega)
      have APBD := Lib.hid (show (gB ≠ gD ∧ gB ≠ mD ∧ gB ≠ bD) ∧ (mB ≠ gD ∧ mB ≠ mD ∧ mB ≠ bD) ∧ (bB ≠ gD ∧ bB ≠ mD ∧ bB ≠ bD) from by omega)
      have APCA := Lib.hid (show (gC ≠ gA ∧ gC ≠ mA ∧ gC ≠ bA) ∧ (mC ≠ gA ∧ mC ≠ mA ∧ mC ≠ bA) ∧ (bC ≠ gA ∧ bC ≠ mA ∧ bC ≠ bA) from by omega)
      have APCB := Lib.hid (show (gC ≠ gB ∧ gC ≠ mB ∧ gC ≠ bB) ∧ (mC ≠ gB ∧ mC ≠ mB ∧ mC ≠ bB) ∧ (bC ≠ gB ∧ bC ≠ mB ∧ bC ≠ bB) from by omega)
      have APCD := Lib.hid (show (gC ≠ gD ∧ gC ≠ mD ∧ gC ≠ bD) ∧ (mC ≠ gD ∧ mC ≠ mD ∧ mC ≠ bD) ∧ (bC ≠ gD ∧ bC ≠ mD ∧ bC ≠ bD) from by omega)
      have APDA := Lib.hid (show (gD ≠ gA ∧ gD ≠ mA ∧ gD ≠ bA) ∧ (mD ≠ gA ∧ mD ≠ mA ∧ mD ≠ bA) ∧ (bD ≠ gA ∧ bD ≠ mA ∧ bD ≠ bA) from by omega)
      have APDB := Lib.hid (show (gD ≠ gB ∧ gD ≠ mB ∧ gD ≠ bB) ∧ (mD ≠ gB ∧ mD ≠ mB ∧ mD ≠ bB) ∧ (bD ≠ gB ∧ bD ≠ mB ∧ bD ≠ bB) from by omega)
      have APDC := Lib.hid (show (gD ≠ gC ∧ gD ≠ mC ∧ gD ≠ bC) ∧ (mD ≠ gC ∧ mD ≠ mC ∧ mD ≠ bC) ∧ (bD ≠ gC ∧ bD ≠ mC ∧ bD ≠ bC) from by omega)
      have eE : Disks.armD (doneD o N) 1000 = { doneD o N with arm := max 1000 0 } := by unfold Disks.armD; rw [if_neg (by rw [HU.out (by omega)]; decide)]
      have e1 : (Disks.armD (doneD o N) 1000).down = false := by rw [eE]; exact HU.out (by omega)
      have e2 : (Disks.armD (doneD o N) 1000).arm ≠ 0 := by rw [eE]; show max (1000 : Int) 0 ≠ 0; omega
      have e3 : (Disks.armD (doneD o N) 1000).med.length = 8 := by rw [Disks.len_arm]; exact len_done o N
      obtain ⟨e, he⟩ : ∃ e, Disks.armD (doneD o N) 1000 = e := ⟨_, rfl⟩
      rw [he] at DA DB DC DD e1 e2 e3
      have AL1 := Lib.hid (Disks.alike_one (e := e) (by omega) one two)
      have AL2 := Lib.hid (Disks.alike_all e1 e2 e3)
      have FE := Lib.hid (show Disks.flushE (Disks.crashD (Disks.crashD e one) two) = 0 from (Disks.crash_up _ _).flushE (by rw [Disks.len_crash, Disks.len_crash]; omega))
      have HA200 := Lib.hid DA
      have HB200 := Lib.hid DB
      have HC200 := Lib.hid DC
      have HD200 := Lib.hid DD
      have HX200 := Lib.hid hxw
      have CR200 := Lib.hid (show Arr4 wa r gA gB gC gD from ⟨CA, CB, CC, CD⟩)
      have B1 := Lib.hid (fun (g m b : Nat) (hg : w.heap.size ≤ g ∧ w.heap.size ≤ m ∧ w.heap.size ≤ b) => Bls.awy L1.out hg)
      have B2 := Lib.hid (fun (g m b : Nat) (hg : w.heap.size ≤ g ∧ w.heap.size ≤ m ∧ w.heap.size ≤ b) => Bls.awy L2.out hg)
      clear hM HM HU e1 e2 e3 eE he hr0 hxw hrl DA DB DC DD CA CB CC CD LA LB LC LD UAB UAC UAD UBC UBD UCD hN
      obtain ⟨w200, hw200⟩ : ∃ w200, w200 = wa := ⟨_, rfl⟩
      subst hw200
      have e0 := CR200.out.c0
      have e1 := CR200.out.c1
      have e2 := CR200.out.c2
      have e3 := CR200.out.c3
      go_wp2_with (fail)
      have hc200 := (HA200.out.crash' A1 n1 c1 one (L1.out.ext HX200.out) (B1.out _ _ _ GA.out) rfl)
      with_reducible refine hc200.mono ?_
      rintro e w201 ⟨rfl, dk201, q201⟩
      have HB201 := Lib.hid (HB200.out.kp q201 APBA.out.1 APBA.out.2.1 APBA.out.2.2)
      have HC201 := Lib.hid (HC200.out.kp q201 APCA.out.1 APCA.out.2.1 APCA.out.2.2)
      have HD201 := Lib.hid (HD200.out.kp q201 APDA.out.1 APDA.out.2.1 APDA.out.2.2)
      have HX201 := Lib.hid (HX200.out.kp q201 GA.out.1 GA.out.2.1 GA.out.2.2)
      have CR201 := Lib.hid (CR200.out.kp q201 RA.out)
      have HA201 := Lib.hid dk201
      clear dk201 q201 hc200 e0 e1 e2 e3
      have e0 := CR201.out.c0
      have e1 := CR201.out.c1
      have e2 := CR201.out.c2
      have e3 := CR201.out.c3
      go_wp2_with (fail)
      have hc201 := (HB201.out.crash' A1 n1 c1 one (L1.out.ext HX201.out) (B1.out _ _ _ GB.out) rfl)
      with_reducible refine hc201.mono ?_
      rintro e w202 ⟨rfl, dk202, q202⟩
      have HA202 := Lib.hid (HA201.out.kp q202 APAB.out.1 APAB.out.2.1 APAB.out.2.2)
      have HC202 := Lib.hid (HC201.out.kp q202 APCB.out.1 APCB.out.2.1 APCB.out.2.2)
      have HD202 := Lib.hid (HD201.out.kp q202 APDB.out.1 APDB.out.2.1 APDB.out.2.2)
      have HX202 := Lib.hid (HX201.out.kp q202 GB.out.1 GB.out.2.1 GB.out.2.2)
      have CR202 := Lib.hid (CR201.out.kp q202 RB.out)
      have HB202 := Lib.hid dk202
      clear dk202 q202 hc201 e0 e1 e2 e3
      have e0 := CR202.out.c0
      have e1 := CR202.out.c1
      have e2 := CR202.out.c2
      have e3 := CR202.out.c3
      go_wp2_with (fail)
      have hc202 := (HB202.out.crash' A2 n2 c2 two (L2.out.ext HX202.out) (B2.out _ _ _ GB.out) rfl)
      with_reducible refine hc202.mono ?_
      rintro e w203 ⟨rfl, dk203, q203⟩
      have HA203 := Lib.hid (HA202.out.kp q203 APAB.out.1 APAB.out.2.1 APAB.out.2.2)
      have HC203 := Lib.hid (HC202.out.kp q203 APCB.out.1 APCB.out.2.1 APCB.out.2.2)
      have HD203 := Lib.hid (HD202.out.kp q203 APDB.out.1 APDB.out.2.1 APDB.out.2.2)
      have HX203 := Lib.hid (HX202.out.kp q203 GB.out.1 GB.out.2.1 GB.out.2.2)
      have CR203 := Lib.hid (CR202.out.kp q203 RB.out)
      have HB203 := Lib.hid dk203
      clear dk203 q203 hc202 e0 e1 e2 e3
      have e0 := CR203.out.c0
      have e1 := CR203.out.c1
      have e2 := CR203.out.c2
      have e3 := CR203.out.c3
      go_wp2_with (fail)
      have hc203 := (HB203.out.flush FE.out rfl)
      with_reducible refine hc203.mono ?_
      rintro e w204 ⟨rfl, dk204, q204⟩
      have HA204 := Lib.hid (HA203.out.kp q204 APAB.out.1 APAB.out.2.1 APAB.out.2.2)
      have HC204 := Lib.hid (HC203.out.kp q204 APCB.out.1 APCB.out.2.1 APCB.out.2.2)
      have HD204 := Lib.hid (HD203.out.kp q204 APDB.out.1 APDB.out.2.1 APDB.out.2.2)
      have HX204 := Lib.hid (HX203.out.kp q204 GB.out.1 GB.out.2.1 GB.out.2.2)
      have CR204 := Lib.hid (CR203.out.kp q204 RB.out)
      have HB204 := Lib.hid dk204
      clear dk204 q204 hc203 e0 e1 e2 e3
      have e0 := CR204.out.c0
      have e1 := CR204.out.c1
      have e2 := CR204.out.c2
      have e3 := CR204.out.c3
      go_wp2_with (fail)
      have hc204 := same_any5 w204 gA mA bA _ _ HA204.out gB mB bB _ _ HB204.out AL1.out
      with_reducible refine hc204.mono ?_
      rintro e w205 ⟨rfl, x205⟩
      have HA205 := Lib.hid (HA204.out.ext x205)
      have HB205 := Lib.hid (HB204.out.ext x205)
      have HC205 := Lib.hid (HC204.out.ext x205)
      have HD205 := Lib.hid (HD204.out.ext x205)
      have HX205 := Lib.hid (HX204.out.trans x205)
      have CR205 := Lib.hid (CR204.out.ext x205)
      clear x205 hc204 e0 e1 e2 e3
      have e0 := CR205.out.c0
      have e1 := CR205.out.c1
      have e2 := CR205.out.c2
      have e3 := CR205.out.c3
      go_wp2_with (fail)
      have hc205 := (HC205.out.flush AL2.out.1 rfl)
      with_reducible refine hc205.mono ?_
      rintro e w206 ⟨rfl, dk206, q206⟩
      have HA206 := Lib.hid (HA205.out.kp q206 APAC.out.1 APAC.out.2.1 APAC.out.2.2)
      have HB206 := Lib.hid (HB205.out.kp q206 APBC.out.1 APBC.out.2.1 APBC.out.2.2)
      have HD206 := Lib.hid (HD205.out.kp q206 APDC.out.1 APDC.out.2.1 APDC.out.2.2)
      have HX206 := Lib.hid (HX205.out.kp q206 GC.out.1 GC.out.2.1 GC.out.2.2)
      have CR206 := Lib.hid (CR205.out.kp q206 RC.out)
      have HC206 := Lib.hid dk206
      clear dk206 q206 hc205 e0 e1 e2 e3
      have e0 := CR206.out.c0
      have e1 := CR206.out.c1
      have e2 := CR206.out.c2
      have e3 := CR206.out.c3
      go_wp2_with (fail)
      have hc206 := (HC206.out.crash none 0 0 [] (bls_none _) (Awy.nil gC mC bC) rfl)
      with_reducible refine hc206.mono ?_
      rintro e w207 ⟨rfl, dk207, q207⟩
      have HA207 := Lib.hid (HA206.out.kp q207 APAC.out.1 APAC.out.2.1 APAC.out.2.2)
      have HB207 := Lib.hid (HB206.out.kp q207 APBC.out.1 APBC.out.2.1 APBC.out.2.2)
      have HD207 := Lib.hid (HD206.out.kp q207 APDC.out.1 APDC.out.2.1 APDC.out.2.2)
      have HX207 := Lib.hid (HX206.out.kp q207 GC.out.1 GC.out.2.1 GC.out.2.2)
      have CR207 := Lib.hid (CR206.out.kp q207 RC.out)
      have HC207 := Lib.hid dk207
      clear dk207 q207 hc206 e0 e1 e2 e3
      have e0 := CR207.out.c0
      have e1 := CR207.out.c1
      have e2 := CR207.out.c2
      have e3 := CR207.out.c3
      have hcr := (HD207.out.ext (Ext.alloc w207 (.cells #[.bool true, .bool true, .bool true, .bool true, .bool true, .bool true, .bool true, .bool true] 4))).crash (some ⟨w207.heap.size, 0, none⟩) 8 8 [true, true, true, true, true, true, true, true] (bls_lit w207 [true, true, true, true, true, true, true, true] (by decide) rfl) (Awy.fresh HD207.out (Nat.le_refl _)) rfl
      have HCR := Lib.hid hcr
      clear hcr
      go_wp2_with (fail)
      with_reducible refine HCR.out.mono ?_
      rintro e w208 ⟨rfl, dk, q⟩
      have HA208 := Lib.hid ((HA207.out.ext (Ext.alloc w207 _)).kp q APAD.out.1 APAD.out.2.1 APAD.out.2.2)
      have HB208 := Lib.hid ((HB207.out.ext (Ext.alloc w207 _)).kp q APBD.out.1 APBD.out.2.1 APBD.out.2.2)
      have HC208 := Lib.hid ((HC207.out.ext (Ext.alloc w207 _)).kp q APCD.out.1 APCD.out.2.1 APCD.out.2.2)
      have HX208 := Lib.hid ((HX207.out.thenAlloc _).kp q GD.out.1 GD.out.2.1 GD.out.2.2)
      have CR208 := Lib.hid ((CR207.out.ext (Ext.alloc w207 _)).kp q RD.out)
      have HD208 := Lib.hid dk
      clear dk q HCR e0 e1 e2 e3
      have e0 := CR208.out.c0
      have e1 := CR208.out.c1
      have e2 := CR208.out.c2
      have e3 := CR208.out.c3
      go_wp2_with (fail)
      have hc208 := same_any5 w208 gC mC bC _ _ HC208.out gD mD bD _ _ HD208.out AL2.out.2.1
      with_reducible refine hc208.mono ?_
      rintro e w209 ⟨rfl, x209⟩
      have HA209 := Lib.hid (HA208.out.ext x209)
      have HB209 := Lib.hid (HB208.out.ext x209)
      have HC209 := Lib.hid (HC208.out.ext x209)
      have HD209 := Lib.hid (HD208.out.ext x209)
      have HX209 := Lib.hid (HX208.out.trans x209)
      have CR209 := Lib.hid (CR208.out.ext x209)
      clear x209 hc208 e0 e1 e2 e3
      have e0 := CR209.out.c0
      have e1 := CR209.out.c1
      have e2 := CR209.out.c2
      have e3 := CR209.out.c3
      go_wp2_with (fail)
      have hc209 := HD209.out.cached AL2.out.2.2
      with_reducible refine hc209.mono ?_
      rintro e w210 ⟨A9, c9, rfl, i9, x210⟩
      have hm9 := i9.max
      have HA210 := Lib.hid (HA209.out.ext x210)
      have HB210 := Lib.hid (HB209.out.ext x210)
      have HC210 := Lib.hid (HC209.out.ext x210)
      have HD210 := Lib.hid (HD209.out.ext x210)
      have HX210 := Lib.hid (HX209.out.trans x210)
      have CR210 := Lib.hid (CR209.out.ext x210)
      clear x210 hc209 i9 e0 e1 e2 e3
      go_wp2_with (fail)
      have hc210 := awake_any5 w210
      with_reducible refine hc210.mono ?_
      rintro e w211 ⟨rfl, x211⟩
      have HA211 := Lib.hid (HA210.out.ext x211)
      have HB211 := Lib.hid (HB210.out.ext x211)
      have HC211 := Lib.hid (HC210.out.ext x211)
      have HD211 := Lib.hid (HD210.out.ext x211)
      have HX211 := Lib.hid (HX210.out.trans x211)
      clear x211 hc210
      go_wp2_with (fail)
      go_ret
      exact ⟨rfl, HX211.out⟩
set_option maxRecDepth 100000 in
theorem diskTwice.walk {H : Type} {enc : TypeId × Value → H} {base : Nat} (w : World) (v0 : Value) (d0 : DataW H) (p0 : List MemPlace) (v1 : Value) (d1 : DataW H) (p1 : List MemPlace) (v2 : Value) (d2 : DataW H) (p2 : List MemPlace) (o0 : Value.okWide Try.prog w .any base 22 v0) (h0 : DataW.Trod enc Try.prog w 0 (fun _ => true) true 22 v0 d0 p0) (o1 : Value.okWide Try.prog w .any base 29 v1) (h1 : DataW.Trod enc Try.prog w 0 (fun _ => true) true 29 v1 d1 p1) (o2 : Value.okWide Try.prog w .any base 29 v2) (h2 : DataW.Trod enc Try.prog w 0 (fun _ => true) true 29 v2 d2 p2) :
    Calls Try.prog 9 #[v0, v1, v2] w fun e w' => e = .returned (.bool true) ∧ Below w.heap.size w w' := by
  obtain ⟨A, n, c, o, rfl, ho⟩ := os05_open o0 h0
  obtain ⟨A1, n1, c1, rfl⟩ := okWide_slice Try.underlying29 o1
  obtain ⟨A2, n2, c2, rfl⟩ := okWide_slice Try.underlying29 o2
  obtain ⟨l1, hl1⟩ := Bls.of_trod Try.underlying29 Try.underlying4 (by kernel_rfl) h1
  obtain ⟨l2, hl2⟩ := Bls.of_trod Try.underlying29 Try.underlying4 (by kernel_rfl) h2
  exact twice_any w A n c o ho A1 n1 c1 l1 hl1 A2 n2 c2 l2 hl2
end Go.Proofs.Ytbfbiofndipaaaa
namespace Disks
open Go.Proofs.Ytbfbiofndipaaaa (rep)
structure Hold8 (d : D) (S L : List UInt8) (O : List Bool) : Prop where
  med : d.med.length = 8
  cac : d.cac.length = 8
  sl : S.length = 8
  ll : L.length = 8
  ol : O.length = 8
  row : ∀ j, j < 8 → Gm.row d.med j = rep (Gf.get S j)
  cache : ∀ j, j < 8 → cget d.cac j = if kept O j = true then some (rep (Gf.get L j)) else none
  eq : ∀ j, j < 8 → kept O j = false → Gf.get L j = Gf.get S j
def noughts : List UInt8 := List.replicate 8 0
def shut8 : List Bool := List.replicate 8 false
theorem get_noughts (j : Nat) : Gf.get noughts j = 0 := by
  unfold Gf.get noughts
  rw [List.getD_eq_getElem?_getD, List.getElem?_replicate]
  split <;> rfl
theorem kept_shut (j : Nat) : kept shut8 j = false := by
  unfold kept shut8
  rw [List.getD_eq_getElem?_getD, List.getElem?_replicate]
  split <;> rfl
theorem get_set (l : List UInt8) (k j : Nat) (x : UInt8) (hk : k < l.length) : Gf.get (l.set k x) j = if k = j then x else Gf.get l j := by
  unfold Gf.get
  rw [List.getD_eq_getElem?_getD, List.getD_eq_getElem?_getD, List.getElem?_set]
  by_cases e : k = j
  · rw [if_pos e, if_pos e, if_pos hk]; rfl
  · rw [if_neg e, if_neg e]
theorem kept_set (l : List Bool) (k j : Nat) (hk : k < l.length) : kept (l.set k true) j = if k = j then true else kept l j := by
  unfold kept
  rw [List.getD_eq_getElem?_getD, List.getD_eq_getElem?_getD, List.getElem?_set]
  by_cases e : k = j
  · rw [if_pos e, if_pos e, if_pos hk]; rfl
  · rw [if_neg e, if_neg e]
theorem Hold8.start : Hold8 (new 8) noughts noughts shut8 := by
  refine ⟨rfl, rfl, rfl, rfl, rfl, fun j hj => ?_, fun j hj => ?_, fun j hj _ => rfl⟩
  · rw [get_noughts]
    show Gm.row (List.replicate 8 (List.replicate 64 0)) j = List.replicate 64 0
    unfold Gm.row
    rw [List.getD_eq_getElem?_getD, List.getElem?_replicate, if_pos hj]
    rfl
  · rw [kept_shut, if_neg (by decide)]
    exact cget_empty _ _
theorem Hold8.like {d e : D} {S L : List UInt8} {O : List Bool} (h : Hold8 d S L O) (hm : e.med = d.med) (hc : e.cac = d.cac) : Hold8 e S L O := by
  refine ⟨by rw [hm]; exact h.med, by rw [hc]; exact h.cac, h.sl, h.ll, h.ol, fun j hj => by rw [hm]; exact h.row j hj, fun j hj => by rw [hc]; exact h.cache j hj, h.eq⟩
theorem Hold8.sec {d : D} {S L : List UInt8} {O : List Bool} (h : Hold8 d S L O) {j : Nat} (hj : j < 8) : sec d j = rep (Gf.get L j) := by
  unfold Disks.sec
  rw [h.cache j hj]
  by_cases q : kept O j = true
  · rw [if_pos q]; rfl
  · rw [if_neg q, h.eq j hj (by simpa using q)]
    exact h.row j hj
theorem Hold8.writeNo {d : D} {S L : List UInt8} {O : List Bool} (h : Hold8 d S L O) {i : Int} {l : List UInt8} (hE : writeE d i l ≠ 0) : Hold8 (writeD d i l) S L O := by
  unfold writeE at hE
  unfold writeD
  split
  · exact h
  · rename_i h1
    rw [if_neg h1] at hE
    split
    · exact h
    · rename_i h2
      rw [if_neg h2] at hE
      split
      · exact h.like (op_med d) (op_cac d)
      · rename_i h3
        exact absurd (if_neg h3) hE
theorem Hold8.writeOk {d : D} {S L : List UInt8} {O : List Bool} (h : Hold8 d S L O) {k : Nat} (hk : k < 8) {b : UInt8} (hE : writeE d k (rep b) = 0) : Hold8 (writeD d k (rep b)) S (L.set k b) (O.set k true) := by
  unfold writeE at hE
  unfold writeD
  split
  · rename_i h1
    rw [if_pos h1] at hE
    exact absurd hE h1
  · rename_i h1
    rw [if_neg h1] at hE
    split
    · rename_i h2
      exact absurd (Go.Proofs.Ytbfbiofndipaaaa.rep_len b) h2
    · rename_i h2
      rw [if_neg h2] at hE
      split
      · rename_i h3
        unfold opE at hE
        rw [if_pos h3] at hE
        cases hE
      · refine ⟨by show (op d).med.length = 8; rw [op_med]; exact h.med, by show (d.cac.set _ _).length = 8; rw [List.length_set]; exact h.cac, h.sl, by rw [List.length_set]; exact h.ll, by rw [List.length_set]; exact h.ol, fun j hj => by show Gm.row (op d).med j = _; rw [op_med]; exact h.row j hj, fun j hj => ?_, fun j hj hO => ?_⟩
        · show cget (d.cac.set _ _) j = _
          rw [show ((k : Int)).toNat = k by omega, get_set L k j b (by rw [h.ll]; exact hk), kept_set O k j (by rw [h.ol]; exact hk)]
          by_cases e : k = j
          · subst e
            rw [cget_set_eq (by rw [h.cac]; exact hk)]
            simp
          · rw [cget_set_ne e]
            simp only [if_neg e]
            exact h.cache j hj
        · rw [kept_set O k j (by rw [h.ol]; exact hk)] at hO
          rw [get_set L k j b (by rw [h.ll]; exact hk)]
          by_cases e : k = j
          · rw [if_pos e] at hO; cases hO
          · rw [if_neg e] at hO ⊢
            exact h.eq j hj hO
theorem Hold8.flushNo {d : D} {S L : List UInt8} {O : List Bool} (h : Hold8 d S L O) (hE : flushE d ≠ 0) : Hold8 (flushD d) S L O := by
  unfold flushE at hE
  unfold flushD
  split
  · exact h
  · rename_i h1
    rw [if_neg h1] at hE
    split
    · exact h.like (op_med d) (op_cac d)
    · rename_i h3
      exact absurd (if_neg h3) hE
theorem Hold8.flushOk {d : D} {S L : List UInt8} {O : List Bool} (h : Hold8 d S L O) (hE : flushE d = 0) : Hold8 (flushD d) L L shut8 := by
  unfold flushE at hE
  unfold flushD
  split
  · rename_i h1
    rw [if_pos h1] at hE
    exact absurd hE h1
  · rename_i h1
    rw [if_neg h1] at hE
    split
    · rename_i h3
      unfold opE at hE
      rw [if_pos h3] at hE
      cases hE
    · refine ⟨by show (merged d).length = 8; rw [len_merged]; exact h.med, by show (emptied d).length = 8; unfold emptied; rw [List.length_replicate]; exact h.med, h.ll, h.ll, rfl, fun j hj => ?_, fun j hj => ?_, fun j hj _ => rfl⟩
      · show Gm.row (merged d) j = _
        rw [row_merged d (by rw [h.med]; exact hj)]
        exact h.sec hj
      · rw [kept_shut, if_neg (by decide)]
        exact cget_empty _ _
theorem Hold8.arm {d : D} {S L : List UInt8} {O : List Bool} (h : Hold8 d S L O) (n : Int) : Hold8 (armD d n) S L O := by
  unfold armD
  split
  · exact h
  · exact h.like rfl rfl
/-- Is sector j kept in a crash? -/
def stays (d : D) (O keeps : List Bool) (j : Nat) : Bool := kept O j && kept keeps (upto d.cac j).length
/-- What is sure when k sectors have been looked at behind a crash. -/
def mix (d : D) (S L : List UInt8) (O keeps : List Bool) (k : Nat) : List UInt8 := (List.range 8).map fun j => if j < k ∧ stays d O keeps j = true then Gf.get L j else Gf.get S j
theorem mix_len (d : D) (S L : List UInt8) (O keeps : List Bool) (k : Nat) : (mix d S L O keeps k).length = 8 := by simp [mix]
theorem mix_get (d : D) (S L : List UInt8) (O keeps : List Bool) (k : Nat) {j : Nat} (hj : j < 8) : Gf.get (mix d S L O keeps k) j = if j < k ∧ stays d O keeps j = true then Gf.get L j else Gf.get S j := by
  unfold Gf.get mix
  rw [List.getD_eq_getElem?_getD, List.getElem?_map, List.getElem?_range hj]
  rfl
theorem list8 {l m : List UInt8} (hl : l.length = 8) (hm : m.length = 8) (h : ∀ j, j < 8 → Gf.get l j = Gf.get m j) : l = m := by
  refine List.ext_getElem (hl.trans hm.symm) (fun i a b => ?_)
  have q := h i (by omega)
  unfold Gf.get at q
  rw [List.getD_eq_getElem?_getD, List.getD_eq_getElem?_getD, List.getElem?_eq_getElem a, List.getElem?_eq_getElem b] at q
  exact q
theorem mix_zero {d : D} {S L : List UInt8} {O : List Bool} (h : Hold8 d S L O) (keeps : List Bool) : mix d S L O keeps 0 = S :=
  list8 (mix_len ..) h.sl (fun j hj => by rw [mix_get _ _ _ _ _ _ hj, if_neg (by omega)])
theorem mix_yes {d : D} {S L : List UInt8} {O keeps : List Bool} {k : Nat} (hk : k < 8) (hs : stays d O keeps k = true) : (mix d S L O keeps k).set k (Gf.get L k) = mix d S L O keeps (k + 1) :=
  list8 (by rw [List.length_set]; exact mix_len ..) (mix_len ..) (fun j hj => by
    rw [get_set _ _ _ _ (by rw [mix_len]; exact hk), mix_get _ _ _ _ _ _ hj, mix_get _ _ _ _ _ _ hj]
    by_cases e : k = j
    · subst e
      rw [if_pos rfl, if_pos ⟨by omega, hs⟩]
    · rw [if_neg e]
      by_cases q : j < k ∧ stays d O keeps j = true
      · rw [if_pos q, if_pos ⟨by omega, q.2⟩]
      · rw [if_neg q, if_neg (fun z => q ⟨by omega, z.2⟩)])
theorem mix_no {d : D} {S L : List UInt8} {O keeps : List Bool} {k : Nat} (hs : stays d O keeps k = false) : mix d S L O keeps k = mix d S L O keeps (k + 1) :=
  list8 (mix_len ..) (mix_len ..) (fun j hj => by
    rw [mix_get _ _ _ _ _ _ hj, mix_get _ _ _ _ _ _ hj]
    by_cases q : j < k ∧ stays d O keeps j = true
    · rw [if_pos q, if_pos ⟨by omega, q.2⟩]
    · rw [if_neg q, if_neg ?_]
      rintro ⟨z1, z2⟩
      by_cases e : j = k
      · rw [e, hs] at z2; cases z2
      · exact q ⟨by omega, z2⟩)
theorem Hold8.crash {d : D} {S L : List UInt8} {O : List Bool} (h : Hold8 d S L O) (keeps : List Bool) : Hold8 (crashD d keeps) (mix d S L O keeps 8) (mix d S L O keeps 8) shut8 := by
  refine ⟨by rw [len_crash]; exact h.med, by show (emptied d).length = 8; unfold emptied; rw [List.length_replicate]; exact h.med, mix_len .., mix_len .., rfl, fun j hj => ?_, fun j hj => ?_, fun j hj _ => rfl⟩
  · rw [crash_row d keeps (by rw [h.med]; exact hj), mix_get _ _ _ _ _ _ hj]
    unfold left stays
    by_cases hO : kept O j = true
    · by_cases hp : kept keeps (upto d.cac j).length = true
      · rw [if_pos hp, if_pos ⟨hj, by rw [hO, hp]; rfl⟩]
        exact h.sec hj
      · rw [if_neg hp, if_neg (by rw [hO]; simp [hp])]
        exact h.row j hj
    · have hO' : kept O j = false := by simpa using hO
      have hn : ¬ (j < 8 ∧ (kept O j && kept keeps (upto d.cac j).length) = true) := by rw [hO']; simp
      rw [if_neg hn]
      split
      · rw [h.sec hj, h.eq j hj hO']
      · exact h.row j hj
  · rw [kept_shut, if_neg (by decide)]
    exact cget_empty _ _
theorem Hold8.reads {d : D} {S L : List UInt8} {O : List Bool} (h : Hold8 d S L O) (hd : d.down = false) {j : Nat} (hj : j < 8) : Go.Proofs.Ytbfbiofndipaaaa.readsB d j (Gf.get L j) = true := by
  unfold Go.Proofs.Ytbfbiofndipaaaa.readsB
  have ht : there d j = 0 := by rw [in_there (by rw [h.med]; omega)]; unfold noE; rw [if_neg (by rw [hd]; decide)]
  rw [if_pos ht, show ((j : Int)).toNat = j by omega, h.sec hj]
  exact beq_self_eq_true _
theorem Hold8.count {d : D} {S L : List UInt8} {O : List Bool} (h : Hold8 d S L O) {j : Nat} (hj : j < 8) : (upto d.cac (j + 1)).length = (upto d.cac j).length + (if kept O j = true then 1 else 0) := by
  show (if _ then _ else _ : List Int).length = _
  rw [h.cache j hj]
  by_cases q : kept O j = true
  · rw [if_pos q, if_pos (by rfl), List.length_append, if_pos q]; rfl
  · rw [if_neg q, if_neg (by simp), if_neg q]; rfl
end Disks
namespace Go.Proofs.Ytbfbiofndipaaaa
open Go.ChangeShapes Go.WideShapes Go.ChangeAt Go.RowKit Go.Maps Go.Sort Go.Shelf

/-- Three rows of eight, in blocks r, r + 1, r + 2. -/
structure Km (wr : World) (r : Nat) (S L : List UInt8) (O : List Bool) : Prop where
  s : wr.heap[r]? = some (.cells (bcells S).toArray 27 (0, 0))
  l : wr.heap[r + 1]? = some (.cells (bcells L).toArray 27 (0, 0))
  o : wr.heap[r + 2]? = some (.cells (O.map Value.bool).toArray 28 (0, 0))
section
variable {w w' : World} {r : Nat} {S L : List UInt8} {O : List Bool}
theorem Km.ext (h : Km w r S L O) (hx : Ext w w') : Km w' r S L O :=
  ⟨(hx.block r (Array.getElem?_eq_some_iff.1 h.s).1).trans h.s, (hx.block (r + 1) (Array.getElem?_eq_some_iff.1 h.l).1).trans h.l, (hx.block (r + 2) (Array.getElem?_eq_some_iff.1 h.o).1).trans h.o⟩
theorem Km.kp {g m b : Nat} (h : Km w r S L O) (hk : Kp g m b w w') (ha : r + 2 < g ∧ r + 2 < m ∧ r + 2 < b ∨ g < r ∧ m < r ∧ b < r) : Km w' r S L O :=
  ⟨(hk.block r (Array.getElem?_eq_some_iff.1 h.s).1 (by omega) (by omega) (by omega)).trans h.s, (hk.block (r + 1) (Array.getElem?_eq_some_iff.1 h.l).1 (by omega) (by omega) (by omega)).trans h.l, (hk.block (r + 2) (Array.getElem?_eq_some_iff.1 h.o).1 (by omega) (by omega) (by omega)).trans h.o⟩
theorem Km.cs (h : Km w r S L O) {j : Nat} (hj : j < S.length) : w.cell? ⟨r, j, none⟩ = some (.int .u8 ((Gf.get S j).toNat : Int)) := by
  rw [cell_of_row w _ _ _ _ _ h.s]
  simpa using dk_bcells_get (l := S) hj
theorem Km.cl (h : Km w r S L O) {j : Nat} (hj : j < L.length) : w.cell? ⟨r + 1, j, none⟩ = some (.int .u8 ((Gf.get L j).toNat : Int)) := by
  rw [cell_of_row w _ _ _ _ _ h.l]
  simpa using dk_bcells_get (l := L) hj
theorem Km.co (h : Km w r S L O) {j : Nat} (hj : j < O.length) : w.cell? ⟨r + 2, j, none⟩ = some (.bool (Disks.kept O j)) := by
  rw [cell_of_row w _ _ _ _ _ h.o]
  unfold Disks.kept
  simp [List.getD_eq_getElem?_getD, hj]
theorem Km.fs (h : Km w r S L O) (j : Nat) : w.frozen? ⟨r, j, none⟩ = false := frozen_of_row w _ _ _ _ h.s
theorem Km.fl (h : Km w r S L O) (j : Nat) : w.frozen? ⟨r + 1, j, none⟩ = false := frozen_of_row w _ _ _ _ h.l
theorem Km.fo (h : Km w r S L O) (j : Nat) : w.frozen? ⟨r + 2, j, none⟩ = false := frozen_of_row w _ _ _ _ h.o
theorem Km.setS (h : Km w r S L O) (k : Nat) (x : UInt8) : Km (w.setCell ⟨r, k, none⟩ (.int .u8 (x.toNat : Int))) r (S.set k x) L O := by
  refine ⟨?_, (heap_setCell_other w ⟨r, k, none⟩ (r + 1) _ (by show r + 1 ≠ r; omega)).trans h.l, (heap_setCell_other w ⟨r, k, none⟩ (r + 2) _ (by show r + 2 ≠ r; omega)).trans h.o⟩
  rw [heap_setCell_same w r k _ _ _ h.s, dk_bcells_set]
  simp
theorem Km.setL (h : Km w r S L O) (k : Nat) (x : UInt8) : Km (w.setCell ⟨r + 1, k, none⟩ (.int .u8 (x.toNat : Int))) r S (L.set k x) O := by
  refine ⟨(heap_setCell_other w ⟨r + 1, k, none⟩ r _ (by show r ≠ r + 1; omega)).trans h.s, ?_, (heap_setCell_other w ⟨r + 1, k, none⟩ (r + 2) _ (by show r + 2 ≠ r + 1; omega)).trans h.o⟩
  rw [heap_setCell_same w (r + 1) k _ _ _ h.l, dk_bcells_set]
  simp
theorem Km.setO (h : Km w r S L O) (k : Nat) (x : Bool) : Km (w.setCell ⟨r + 2, k, none⟩ (.bool x)) r S L (O.set k x) := by
  refine ⟨(heap_setCell_other w ⟨r + 2, k, none⟩ r _ (by show r ≠ r + 2; omega)).trans h.s, (heap_setCell_other w ⟨r + 2, k, none⟩ (r + 1) _ (by show r + 1 ≠ r + 2; omega)).trans h.l, ?_⟩
  rw [heap_setCell_same w (r + 2) k _ _ _ h.o, List.map_set]
  simp
theorem heap_setCells_at (p : Nat) (T : TypeId) : ∀ (vs : List Value) (o : Nat) (cs : List Value) (w : World), o + vs.length ≤ cs.length → w.heap[p]? = some (.cells cs.toArray T (0, 0)) → (w.setCells p o vs).heap[p]? = some (.cells (cs.take o ++ vs ++ cs.drop (o + vs.length)).toArray T (0, 0))
  | [], o, cs, w, _, h => by
    rw [World.setCells, h]
    simp
  | v :: r, o, cs, w, hl, h => by
    rw [World.setCells]
    have hl' : o + (r.length + 1) ≤ cs.length := by simpa using hl
    have h1 := heap_setCell_same w p o _ _ v h
    have e : cs.toArray.setIfInBounds o v = (cs.set o v).toArray := by simp
    rw [e] at h1
    rw [heap_setCells_at p T r (o + 1) (cs.set o v) _ (by rw [List.length_set]; omega) h1]
    have e2 : (cs.set o v).take (o + 1) ++ r ++ (cs.set o v).drop (o + 1 + r.length) = cs.take o ++ (v :: r) ++ cs.drop (o + (v :: r).length) := by
      rw [List.take_succ_eq_append_getElem (by rw [List.length_set]; omega), List.getElem_set_self, List.take_set_of_le (Nat.le_refl _), List.drop_set_of_lt (by omega)]
      simp only [List.append_assoc, List.singleton_append, List.cons_append, List.nil_append, List.length_cons]
      rw [show o + 1 + r.length = o + (r.length + 1) by omega]
    rw [e2]
theorem setCells_eight {w : World} {p : Nat} {cs : List Value} (hc : cs.length = 8) {T : TypeId} (h : w.heap[p]? = some (.cells cs.toArray T (0, 0))) (vs : List Value) (hv : vs.length = 8) : (w.setCells p 0 vs).heap[p]? = some (.cells vs.toArray T (0, 0)) := by
  rw [heap_setCells_at p T vs 0 cs w (by omega) h, List.take_zero, List.nil_append, List.drop_of_length_le (by omega), List.append_nil]
theorem u8_row : ∃ d, Try.prog.underlying 27 = some d ∧ d.isRow = true := ⟨_, Try.underlying27, rfl⟩
theorem u8_eight : (Try.prog.info? 27).map (·.size) = some 8 := by kernel_rfl
theorem bool_eight : (Try.prog.info? 28).map (·.size) = some 8 := by kernel_rfl
/-- The whole of 'last' is loaded; laid over 'sure', or the other way; all are shut. -/
theorem row_load {w : World} {p : Nat} {l : List UInt8} (h : w.heap[p]? = some (.cells (bcells l).toArray 27 (0, 0))) (hl : l.length = 8) : (Instr.loadAt 27 (.pointer (some ⟨p, 0, none⟩))).run Try.prog w = .ok (.agg (bcells l).toArray) w := by
  obtain ⟨d, hd, hr⟩ := u8_row
  have hi : (Try.prog.info? 27).map (·.size) = some (bcells l).length := by rw [bcells_len, hl]; exact u8_eight
  have hc : w.rangeAt p 0 (bcells l) := fun j v hv => by
    rw [cell_of_row w _ _ _ _ _ h, Nat.zero_add]
    simpa using hv
  simp only [Instr.loadAt, Instr.sureAddr, Sem.run_bind, Sem.run_pure, Result.andThen_ok, run_loadVar_mid w p 0 27 (bcells l) d hc hd hr hi]
theorem there_row {w : World} {p : Nat} {cs : List Value} {T : TypeId} (h : w.heap[p]? = some (.cells cs.toArray T (0, 0))) (hc : cs.length = 8) : w.there p 0 8 := fun j hj => ⟨by
  rw [cell_of_row w _ _ _ _ _ h, Nat.zero_add]
  have : j < cs.toArray.size := by simpa [hc] using hj
  rw [Array.getElem?_eq_getElem this]
  rfl, frozen_of_row _ _ _ _ _ h⟩
theorem row_store {w : World} {p : Nat} {l l' : List UInt8} (h : w.heap[p]? = some (.cells (bcells l).toArray 27 (0, 0))) (hl : l.length = 8) (hl' : l'.length = 8) :
    ∃ w', (Instr.storeAt 27 (.pointer (some ⟨p, 0, none⟩)) (.agg (bcells l').toArray)).run Try.prog w = .ok () w' ∧ w'.heap[p]? = some (.cells (bcells l').toArray 27 (0, 0)) ∧ w.grownBy w' (some p) := by
  have hs : (bcells l').toArray.size = 8 := by simp [bcells_len, hl']
  have hr := run_storeVar_mid (P := Try.prog) w p 0 27 (bcells l').toArray (by rw [hs]; exact there_row h (by rw [bcells_len]; exact hl)) (by rw [hs]; exact u8_eight) (bcells_all l')
  obtain ⟨p1, p2, p3, p4⟩ := setCells_plain p (bcells l') 0 w
  exact ⟨w.setCells p 0 (bcells l'), by simp only [Instr.storeAt, Instr.sureAddr, Sem.run_bind, Sem.run_pure, Result.andThen_ok, hr], setCells_eight (by rw [bcells_len]; exact hl) h _ (by rw [bcells_len]; exact hl'), p1, p2, p3, by rw [p4]; exact Nat.le_refl _, fun k _ hk => heap_setCells_other p k (fun e => hk (by rw [e])) _ _ _⟩
theorem shut_store {w : World} {p : Nat} {O : List Bool} (h : w.heap[p]? = some (.cells (O.map Value.bool).toArray 28 (0, 0))) (hl : O.length = 8) :
    ∃ w', (Instr.storeAt 28 (.pointer (some ⟨p, 0, none⟩)) (.agg (Disks.shut8.map Value.bool).toArray)).run Try.prog w = .ok () w' ∧ w'.heap[p]? = some (.cells (Disks.shut8.map Value.bool).toArray 28 (0, 0)) ∧ w.grownBy w' (some p) := by
  have hs : (Disks.shut8.map Value.bool).toArray.size = 8 := rfl
  have hall : (Disks.shut8.map Value.bool).toArray.all (·.oneCell') = true := all_oneCell_toArray (fun v hv => by
    simp only [List.mem_map] at hv
    obtain ⟨x, _, rfl⟩ := hv
    rfl)
  have hr := run_storeVar_mid (P := Try.prog) w p 0 28 (Disks.shut8.map Value.bool).toArray (by rw [hs]; exact there_row h (by rw [List.length_map]; exact hl)) (by rw [hs]; exact bool_eight) hall
  obtain ⟨p1, p2, p3, p4⟩ := setCells_plain p (Disks.shut8.map Value.bool) 0 w
  exact ⟨w.setCells p 0 (Disks.shut8.map Value.bool), by simp only [Instr.storeAt, Instr.sureAddr, Sem.run_bind, Sem.run_pure, Result.andThen_ok, hr], setCells_eight (by rw [List.length_map]; exact hl) h _ rfl, p1, p2, p3, by rw [p4]; exact Nat.le_refl _, fun k _ hk => heap_setCells_other p k (fun e => hk (by rw [e])) _ _ _⟩
/-- 'sure, open = last, all shut'; 'last, open = sure, all shut'. -/
theorem Km.lay (h : Km w r S L O) (hs : S.length = 8) (hl : L.length = 8) (ho : O.length = 8) :
    ∃ w1 w2, (Instr.storeAt 27 (.pointer (some ⟨r, 0, none⟩)) (.agg (bcells L).toArray)).run Try.prog w = .ok () w1 ∧ (Instr.storeAt 28 (.pointer (some ⟨r + 2, 0, none⟩)) (.agg (Disks.shut8.map Value.bool).toArray)).run Try.prog w1 = .ok () w2 ∧ Km w2 r L L Disks.shut8 ∧ w.grownBy w1 (some r) ∧ w1.grownBy w2 (some (r + 2)) := by
  obtain ⟨w1, r1, b1, g1⟩ := row_store h.s hs hl
  have hl1 := Array.getElem?_eq_some_iff.1 h.l
  have ho1 := Array.getElem?_eq_some_iff.1 h.o
  have o1 := (g1.block (r + 2) ho1.1 (by simp)).trans h.o
  have l1 := (g1.block (r + 1) hl1.1 (by simp)).trans h.l
  obtain ⟨w2, r2, b2, g2⟩ := shut_store o1 ho
  exact ⟨w1, w2, r1, r2, ⟨(g2.block r (Array.getElem?_eq_some_iff.1 b1).1 (by simp)).trans b1, (g2.block (r + 1) (Array.getElem?_eq_some_iff.1 l1).1 (by simp)).trans l1, b2⟩, g1, g2⟩
theorem Km.lay' (h : Km w r S L O) (hs : S.length = 8) (hl : L.length = 8) (ho : O.length = 8) :
    ∃ w1 w2, (Instr.storeAt 27 (.pointer (some ⟨r + 1, 0, none⟩)) (.agg (bcells S).toArray)).run Try.prog w = .ok () w1 ∧ (Instr.storeAt 28 (.pointer (some ⟨r + 2, 0, none⟩)) (.agg (Disks.shut8.map Value.bool).toArray)).run Try.prog w1 = .ok () w2 ∧ Km w2 r S S Disks.shut8 ∧ w.grownBy w1 (some (r + 1)) ∧ w1.grownBy w2 (some (r + 2)) := by
  obtain ⟨w1, r1, b1, g1⟩ := row_store h.l hl hs
  have hl1 := Array.getElem?_eq_some_iff.1 h.s
  have ho1 := Array.getElem?_eq_some_iff.1 h.o
  have o1 := (g1.block (r + 2) ho1.1 (by simp)).trans h.o
  have l1 := (g1.block r hl1.1 (by simp)).trans h.s
  obtain ⟨w2, r2, b2, g2⟩ := shut_store o1 ho
  exact ⟨w1, w2, r1, r2, ⟨(g2.block r (Array.getElem?_eq_some_iff.1 l1).1 (by simp)).trans l1, (g2.block (r + 1) (Array.getElem?_eq_some_iff.1 b1).1 (by simp)).trans b1, b2⟩, g1, g2⟩
end
theorem u8_store (w : World) (p j : Nat) (x : UInt8) {v : Value} (hc : w.cell? ⟨p, j, none⟩ = some v) (hf : w.frozen? ⟨p, j, none⟩ = false) : (Instr.storeAt 5 (.pointer (some ⟨p, j, none⟩)) (.int .u8 (x.toNat : Int))).run Try.prog w = .ok () (w.setCell ⟨p, j, none⟩ (.int .u8 (x.toNat : Int))) := by
  simp [go_sem, hc, hf]
end Go.Proofs.Ytbfbiofndipaaaa
