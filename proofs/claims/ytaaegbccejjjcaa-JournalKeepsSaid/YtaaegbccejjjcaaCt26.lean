/- Several texts in one: The contract of Open. The contract of SameLists, of lists of bytes. -/
import Derived.Test.YtaaegbccejjjcaaCt24
import Derived.Test.YtaaegbccejjjcaaCt21
import Derived.Test.YtaaegbccejjjcaaCt17
import Derived.Test.YtaaegbccejjjcaaCt6
import Derived.Deep.DrawnRows
namespace Go.Proofs.Ytaaegbccejjjcaa
open Go.RowKit Go.Maps Go.Sort Go.Shelf
set_option linter.unusedSimpArgs false

/-- What was read lies in a box of one's own. -/
theorem jn_open {w0 w1 w' : World} {p g m b N c : Nat} {d : Disks.D} {j : Jo.J} {A : Option Addr} {v : Value} {ov : Bool}
    (hb : Bs w1 A j.base.length c j.base) (hA : Newer w0 A) (hr : RwN w0 w1 v j.recs) (hc : Cold (fun q => v.ownBlock = some q) w1 A j.base.length) (hx : Ext w1 w')
    (hds : Ds w' g m b N d) (hp : w1.heap.size ≤ p) (h01 : w0.heap.size ≤ w1.heap.size) (jv : Jv w' p g j.half j.from_ j.next j.life (.slice A j.base.length c) v ov) (lts : g < w0.heap.size ∧ m < w0.heap.size ∧ b < w0.heap.size) :
    Jn w' p g m b N v.ownBlock j ov d := by
  obtain ⟨cs, o1, o2⟩ := hr
  have ho : ∀ q, v.ownBlock = some q → w0.heap.size ≤ q ∧ q < w1.heap.size := fun q hq => ⟨own_row o1 q hq, (o1.lt q hq).2⟩
  have cold : ∀ {B : Option Addr} {n : Nat}, Newer w0 B → Cold (fun q => v.ownBlock = some q) w1 B n → Cold (Hot p g m b v.ownBlock) w' B n := fun h1 h2 hn q hq => by
    obtain ⟨a1, a2⟩ := h2 hn q hq
    have a3 := h1 q hq
    refine ⟨Nat.lt_of_lt_of_le a1 hx.size, fun z => ?_⟩
    rcases z with z | z | z | z | z
    · omega
    · omega
    · omega
    · omega
    · exact a2 z
  refine ⟨hds, ⟨A, c, v, jv.blk, hb.ext hx, cold hA hc, rfl, cs, ownsRow_ext (ownsRow_base o1 (Nat.zero_le _)) hx, fun i hi => ?_⟩, by omega, by omega, by omega, fun q hq => ?_⟩
  · obtain ⟨B, n, e, h1, h2, h3, h4⟩ := o2 i hi
    exact ⟨B, n, e, h1, h2.ext hx, cold h3 h4⟩
  · have := ho q hq
    omega
theorem open_nil (w : World) : Calls Try.prog 10 #[.pointer none] w fun e w' => e = .returned (.tuple #[.pointer none, .int .i64 1]) ∧ w = w' := by
  go_enter Try.func10, Try.ntmps10
  try dsimp only [List.append]
  go_wp2_with (fail)
  refine bodyPost_ret (results_tmp2 rfl _ _ _) rfl ?_
  exact ⟨rfl, rfl⟩
theorem open_small (w : World) (g m b N : Nat) (d : Disks.D) (h : Ds w g m b N d) (h1 : 1 ≤ d.med.length) (h8 : d.med.length < 8) :
    Calls Try.prog 10 #[dptr g] w fun e w' => e = .returned (.tuple #[.pointer none, .int .i64 2]) ∧ Ext w w' := by
  obtain ⟨z, hz⟩ : ∃ z, d.med.length = z := ⟨_, rfl⟩
  rw [hz] at h1 h8
  have t0 : ((z : Int) == 0) = false := by rw [beq_eq_false_iff_ne]; omega
  have t1 : (z : Int) < 8 := by omega
  have H := Lib.hid h
  have HZ := Lib.hid hz
  clear h hz
  go_enter Try.func10, Try.ntmps10
  try dsimp only [List.append]
  go_wp2_with (fail)
  with_reducible refine (H.out.size HZ.out).mono ?_
  rintro e w1 ⟨rfl, x1⟩
  have X1 := Lib.hid x1
  have H1 := Lib.hid (H.out.ext x1)
  clear x1
  go_wp2_with (fail)
  with_reducible refine (H1.out.size HZ.out).mono ?_
  rintro e w2 ⟨rfl, x2⟩
  have X2 := Lib.hid (X1.out.trans x2)
  clear x2
  go_wp2_with (fail)
  refine bodyPost_ret (results_tmp2 rfl _ _ _) rfl ?_
  exact ⟨rfl, X2.out⟩
theorem own_one {w0 w : World} {v : Value} {l : List (List UInt8)} (h : RwN w0 w v l) : v.oneCell' = true := by
  obtain ⟨cs, o1, _⟩ := h
  obtain ⟨D, dd, rfl, _, _⟩ := ownsRow_slice o1
  rfl
/-- Two new variables of a journal, written. -/
theorem jour_two (w : World) (g : Nat) (half1 from1 next1 life1 half2 from2 next2 life2 : Int) (bs1 rs1 bs2 rs2 : Value) (ov1 ov2 : Bool) (h1 : bs1.oneCell' = true) (h2 : rs1.oneCell' = true) (h3 : bs2.oneCell' = true) (h4 : rs2.oneCell' = true) :
    ∃ p q wa wb wc wd, (Instr.alloc 50 true (.tuple #[])).run Try.prog w = .ok (.pointer (some ⟨p, 0, none⟩)) wa ∧ (Instr.alloc 50 true (.tuple #[])).run Try.prog wa = .ok (.pointer (some ⟨q, 0, none⟩)) wb ∧
      (Instr.storeAt 50 (.pointer (some ⟨p, 0, none⟩)) (.agg (jc g half1 from1 next1 life1 bs1 rs1 ov1).toArray)).run Try.prog wb = .ok () wc ∧ (Instr.storeAt 50 (.pointer (some ⟨q, 0, none⟩)) (.agg (jc g half2 from2 next2 life2 bs2 rs2 ov2).toArray)).run Try.prog wc = .ok () wd ∧
      Jv wd p g half1 from1 next1 life1 bs1 rs1 ov1 ∧ Jv wd q g half2 from2 next2 life2 bs2 rs2 ov2 ∧ Ext w wd ∧ w.heap.size ≤ p ∧ p < q := by
  have z1 := heap_alloc_new w zjour
  have z2 : ((w.alloc zjour).alloc zjour).heap[w.heap.size]? = some zjour := ((Ext.alloc (w.alloc zjour) zjour).block _ (by rw [World.size_alloc]; omega)).trans z1
  have z3 := heap_alloc_new (w.alloc zjour) zjour
  have s1 : (w.alloc zjour).heap.size = w.heap.size + 1 := World.size_alloc _ _
  obtain ⟨wc, r1, j1, c1⟩ := jour_store (w := (w.alloc zjour).alloc zjour) z2 g half1 from1 next1 life1 bs1 rs1 ov1 h1 h2
  have z4 : wc.heap[(w.alloc zjour).heap.size]? = some zjour := (c1.block _ (by have := World.size_alloc (w.alloc zjour) zjour; omega) (show (w.alloc zjour).heap.size ≠ w.heap.size by omega)).trans z3
  obtain ⟨wd, r2, j2, c2⟩ := jour_store (w := wc) z4 g half2 from2 next2 life2 bs2 rs2 ov2 h3 h4
  refine ⟨w.heap.size, (w.alloc zjour).heap.size, _, _, wc, wd, run_alloc_jour w, run_alloc_jour _, r1, r2, j1.ch c2 (show w.heap.size ≠ (w.alloc zjour).heap.size by omega), j2, ?_, Nat.le_refl _, by omega⟩
  exact c2.ext (c1.ext ((Ext.alloc w _).thenAlloc _) (fun q hq => by have hq : q = w.heap.size := hq; omega)) (fun q hq => by have hq : q = (w.alloc zjour).heap.size := hq; omega)
/-- What Open hands back. -/
def GivesO (w : World) (g m b N : Nat) (j : Jo.J) (d : Disks.D) (e : Ending) (w' : World) : Prop :=
  ∃ p o, e = .returned (.tuple #[.pointer (some ⟨p, 0, none⟩), .int .i64 0]) ∧ w.heap.size ≤ p ∧ (∀ q, o = some q → w.heap.size ≤ q) ∧ Jn w' p g m b N o j false d ∧ Ext w w'

set_option maxRecDepth 100000 in
set_option maxHeartbeats 4000000 in
theorem open_any (w : World) (g m b N : Nat) (d : Disks.D) (j : Jo.J) (h : Ds w g m b N d) (hat : Jo.At d j) :
    Calls Try.prog 10 #[dptr g] w (GivesO w g m b N j d) := by
  have hs := hat.shows
  have hh := hs.half
  have hlen := hat.len
  have hfr := hs.from_
  obtain ⟨z, hz⟩ : ∃ z, d.med.length = z := ⟨_, rfl⟩
  obtain ⟨hf, hhf⟩ : ∃ hf, j.half = hf := ⟨_, rfl⟩
  rw [hz] at hlen
  rw [hhf] at hlen hh hfr
  have hS : (fun q => Gm.row d.med q) = Disks.sec d := funext fun q => (Jo.sec_flat hat.flat.cac q).symm
  have hop := hs.opened
  rw [hS] at hop
  rw [hhf] at hop
  have t0 : ((z : Int) == 0) = false := by rw [beq_eq_false_iff_ne]; omega
  have t1 : ¬ (z : Int) < 8 := by omega
  have EH : (z : Int).tdiv 2 = (hf : Int) := by rw [Int.tdiv_eq_ediv_of_nonneg (by omega)]; omega
  have hh2 : hf ≤ 32768 ∧ 4 ≤ hf := by omega
  have NB := Lib.hid (show hf + hf ≤ d.med.length ∧ 4 ≤ hf ∧ hf ≤ 32768 by omega)
  have UP := Lib.hid hat.flat.up
  have LTS := Lib.hid h.lts
  have OP := Lib.hid hop
  have FR := Lib.hid hfr
  have LF := Lib.hid hs.life
  have HF := Lib.hid hhf
  have H := Lib.hid h
  have HZ := Lib.hid hz
  clear h hz hat hs hh hfr hop hS hhf hlen
  go_enter Try.func10, Try.ntmps10
  try dsimp only [List.append]
  go_wp2_with (fail)
  with_reducible refine (H.out.size HZ.out).mono ?_
  rintro e w1 ⟨rfl, x1⟩
  have X1 := Lib.hid x1
  have H1 := Lib.hid (H.out.ext x1)
  clear x1
  go_wp2_with (fail)
  with_reducible refine (H1.out.size HZ.out).mono ?_
  rintro e w2 ⟨rfl, x2⟩
  have X2 := Lib.hid (X1.out.trans x2)
  have H2 := Lib.hid (H1.out.ext x2)
  clear x2 X1 H1
  go_wp2_with (fail)
  obtain ⟨r, hr⟩ : ∃ r, w2.heap.size = r := ⟨_, rfl⟩
  obtain ⟨w3, hw3⟩ : ∃ w3, w2.alloc (.cells #[dptr g, .int .i64 0] 68) = w3 := ⟨_, rfl⟩
  have X3 := Lib.hid (show Ext w2 w3 by rw [← hw3]; exact Ext.alloc _ _)
  have BR := Lib.hid (show w3.heap[r]? = some (.cells #[dptr g, .int .i64 0] 68 (0, 0)) by rw [← hw3, ← hr]; exact heap_alloc_new w2 _)
  have RR := Lib.hid (show w.heap.size ≤ r by rw [← hr]; exact X2.out.size)
  have H3 := Lib.hid (H2.out.ext X3.out)
  rw [hr, hw3]
  clear hw3 H2
  with_reducible refine (H3.out.size HZ.out).mono ?_
  rintro e w4 ⟨rfl, x4⟩
  have X4 := Lib.hid (X3.out.trans x4)
  have R4 : RowKit.Hid (Rb w4 r g m b N d) := Lib.hid ⟨H3.out.ext x4, (x4.block r (Array.getElem?_eq_some_iff.1 BR.out).1).trans BR.out, by have h1 := LTS.out; have h2 := RR.out; omega, UP.out⟩
  clear x4 H3 BR X3
  go_wp2_with (fail)
  obtain ⟨P1, hP1⟩ : ∃ P1, Jo.halfH (Disks.sec d) 0 hf = P1 := ⟨_, rfl⟩
  obtain ⟨P2, hP2⟩ : ∃ P2, Jo.halfH (Disks.sec d) hf hf = P2 := ⟨_, rfl⟩
  have hv1 : Calls Try.prog 28 #[.pointer (some ⟨r, 0, none⟩), .int .i64 0, .int .i64 (hf : Int)] w4 (GivesH w4 r g m b N d 0 hf) := halved_any w4 r g m b N d R4.out 0 hf (by have := NB.out; omega) (by have := NB.out; omega)
  unfold GivesH at hv1
  rw [hP1] at hv1
  have E1 := Lib.hid hP1
  have E2 := Lib.hid hP2
  clear hP1 hP2
  with_reducible refine hv1.mono ?_
  rintro e w5 ⟨A1, c1, v1, rfl, b1, n1, r1, k1, q5, ch5⟩
  have R5 := Lib.hid q5
  have B1 := Lib.hid b1
  have W1 := Lib.hid n1
  have RW1 := Lib.hid r1
  have CD1 := Lib.hid k1
  have CH5 := Lib.hid ch5
  clear hv1 b1 n1 r1 k1 q5 ch5
  obtain ⟨V1, hV1⟩ : ∃ V1, Value.agg (jc g hf ((0 : Nat) : Int) (P1.next : Int) (P1.life : Int) (.slice A1 P1.base.length c1) v1 false).toArray = V1 := ⟨_, rfl⟩
  rw [hV1]
  have HV1 := Lib.hid hV1
  clear hV1
  go_wp2_with (fail)
  have hv2 := halved_any w5 r g m b N d R5.out hf hf (by have := NB.out; omega) (by have := NB.out; omega)
  unfold GivesH at hv2
  rw [E2.out] at hv2
  with_reducible refine hv2.mono ?_
  rintro e w6 ⟨A2, c2, v2, rfl, b2, n2, r2, k2, q6, ch6⟩
  have R6 := Lib.hid q6
  have B2 := Lib.hid b2
  have W2 := Lib.hid n2
  have RW2 := Lib.hid r2
  have CD2 := Lib.hid k2
  have CH6 := Lib.hid ch6
  clear hv2 b2 n2 r2 k2 q6 ch6
  obtain ⟨V2, hV2⟩ : ∃ V2, Value.agg (jc g hf (hf : Int) (P2.next : Int) (P2.life : Int) (.slice A2 P2.base.length c2) v2 false).toArray = V2 := ⟨_, rfl⟩
  rw [hV2]
  obtain ⟨p, q, wa, wb, wc, wd, ra, rb, sc, sd, jp, jq, xd, hpl, hpq⟩ := jour_two w6 g hf ((0 : Nat) : Int) P1.next P1.life hf hf P2.next P2.life (.slice A1 P1.base.length c1) v1 (.slice A2 P2.base.length c2) v2 false false rfl (own_one RW1.out) rfl (own_one RW2.out)
  rw [HV1.out] at sc
  rw [hV2] at sd
  have HV2 := Lib.hid hV2
  have RA := Lib.hid ra
  have RB := Lib.hid rb
  have SC := Lib.hid sc
  have SD := Lib.hid sd
  have JP := Lib.hid jp
  have JQ := Lib.hid jq
  have XD := Lib.hid xd
  have PL := Lib.hid hpl
  have PQ := Lib.hid hpq
  have HRD := Lib.hid (R6.out.ext xd)
  have kr := (R6.out.ext xd).c1
  have kp := jp.c4
  have kq := jq.c4
  clear hV2 ra rb sc sd jp jq xd hpl hpq
  have XO := Lib.hid (show Ext w w4 from X2.out.trans X4.out)
  have RL := Lib.hid (show r < w4.heap.size from (Array.getElem?_eq_some_iff.1 R4.out.blk).1)
  have X6 := Lib.hid (show Ext w w6 from CH6.out.ext (CH5.out.ext XO.out (fun q hq => by rw [show q = r from hq]; exact RR.out)) (fun q hq => by rw [show q = r from hq]; exact RR.out))
  rcases FR.out with hf0 | hf0
  · have ep1 : P1 = ⟨j.life, j.base, j.recs, j.next⟩ := by
      have := OP.out.1
      rw [hf0, E1.out] at this
      exact this
    have hlt : P2.life < P1.life := by
      have := OP.out.2
      rw [hf0, Nat.sub_zero, E2.out] at this
      rw [ep1]
      exact this
    have t2 : ¬ (P1.life : Int) < (P2.life : Int) := by omega
    have t3 : ((P1.life : Int) == 0) = false := by rw [beq_eq_false_iff_ne]; omega
    have EP := Lib.hid ep1
    have HF0 := Lib.hid hf0
    clear ep1 hlt hf0
    go_wp2_with (first
    | ((with_reducible refine opIs ⟨some 6, .alloc 50, _, _, _, _⟩ ?_); refine wpList_allocR rfl 50 rfl _ RA.out ?_)
    | ((with_reducible refine opIs ⟨some 7, .alloc 50, _, _, _, _⟩ ?_); refine wpList_allocR rfl 50 rfl _ RB.out ?_)
    | ((with_reducible refine opIs ⟨none, .store 50 (.tmp 6) (.tmp 27), _, _, _, _⟩ ?_); refine wpList_storeR rfl 50 (.tmp 6) (.tmp 27) rfl rfl rfl SC.out ?_)
    | ((with_reducible refine opIs ⟨none, .store 50 (.tmp 7) (.tmp 31), _, _, _, _⟩ ?_); refine wpList_storeR rfl 50 (.tmp 7) (.tmp 31) rfl rfl rfl SD.out ?_))
    refine bodyPost_ret (results_tmp2 rfl _ _ _) rfl ?_
    have hcr : Cold (fun q => q = r) w5 A1 P1.base.length := Newer.cold (w' := w5) W1.out CD1.out (fun q hq => by rw [show q = r from hq]; exact RL.out)
    have hfin := jn_open (w0 := w) (w1 := w6) (w' := wd) (p := p) (g := g) (m := m) (b := b) (N := N) (d := d) (j := ⟨hf, 0, P1.next, P1.life, P1.base, P1.recs⟩) (ov := false) (B1.out.ch CH6.out hcr) (fun q hq => Nat.le_trans XO.out.size (W1.out q hq)) (RwN.base (RW1.out.ch CH6.out (fun q hq => by rw [show q = r from hq]; exact RL.out)) XO.out.size) (CD1.out.ch CH6.out.size) XD.out (HRD.out.ds) PL.out X6.out.size JP.out LTS.out
    rw [EP.out] at hfin
    have ej : (⟨hf, 0, j.next, j.life, j.base, j.recs⟩ : Jo.J) = j := by
      have e1 := HF.out
      have e2 := HF0.out
      cases j
      simp only at e1 e2
      subst e1 e2
      rfl
    have hfin : Jn wd p g m b N v1.ownBlock (⟨hf, 0, j.next, j.life, j.base, j.recs⟩ : Jo.J) false d := hfin
    rw [ej] at hfin
    refine ⟨p, v1.ownBlock, rfl, Nat.le_trans X6.out.size PL.out, fun q hq => ?_, hfin, X6.out.trans XD.out⟩
    obtain ⟨cs, o1, _⟩ := RW1.out
    exact Nat.le_trans XO.out.size (own_row o1 q hq)
  · have ep2 : P2 = ⟨j.life, j.base, j.recs, j.next⟩ := by
      have := OP.out.1
      rw [hf0, E2.out] at this
      exact this
    have hlt : P1.life < P2.life := by
      have := OP.out.2
      rw [hf0, Nat.sub_self, E1.out] at this
      rw [ep2]
      exact this
    have t2 : (P1.life : Int) < (P2.life : Int) := by omega
    have t3 : ((P2.life : Int) == 0) = false := by rw [beq_eq_false_iff_ne]; omega
    have EP := Lib.hid ep2
    have HF0 := Lib.hid hf0
    obtain ⟨we, sx, jx, cx⟩ := jour_store (w := wd) JP.out.blk g hf hf P2.next P2.life (.slice A2 P2.base.length c2) v2 false rfl (own_one RW2.out)
    have lq := JQ.out.load
    rw [HV2.out] at sx lq
    have SX := Lib.hid sx
    have LQ := Lib.hid lq
    have JX := Lib.hid jx
    have CX := Lib.hid cx
    have kx := jx.c4
    clear ep2 hlt hf0 sx lq jx cx
    go_wp2_with (first
    | ((with_reducible refine opIs ⟨some 6, .alloc 50, _, _, _, _⟩ ?_); refine wpList_allocR rfl 50 rfl _ RA.out ?_)
    | ((with_reducible refine opIs ⟨some 7, .alloc 50, _, _, _, _⟩ ?_); refine wpList_allocR rfl 50 rfl _ RB.out ?_)
    | ((with_reducible refine opIs ⟨none, .store 50 (.tmp 6) (.tmp 27), _, _, _, _⟩ ?_); refine wpList_storeR rfl 50 (.tmp 6) (.tmp 27) rfl rfl rfl SC.out ?_)
    | ((with_reducible refine opIs ⟨none, .store 50 (.tmp 7) (.tmp 31), _, _, _, _⟩ ?_); refine wpList_storeR rfl 50 (.tmp 7) (.tmp 31) rfl rfl rfl SD.out ?_)
    | ((with_reducible refine opIs ⟨some 46, .load 50 (.tmp 7), _, _, _, _⟩ ?_); refine wpList_loadR rfl 50 (.tmp 7) rfl rfl LQ.out ?_)
    | ((with_reducible refine opIs ⟨none, .store 50 (.tmp 6) (.tmp 46), _, _, _, _⟩ ?_); refine wpList_storeR rfl 50 (.tmp 6) (.tmp 46) rfl rfl rfl SX.out ?_))
    refine bodyPost_ret (results_tmp2 rfl _ _ _) rfl ?_
    have XE := Lib.hid (show Ext w6 we from CX.out.ext XD.out (fun q hq => by rw [show q = p from hq]; exact PL.out))
    have hfin := jn_open (w0 := w) (w1 := w6) (w' := we) (p := p) (g := g) (m := m) (b := b) (N := N) (d := d) (j := ⟨hf, hf, P2.next, P2.life, P2.base, P2.recs⟩) (ov := false) B2.out (fun q hq => Nat.le_trans XO.out.size (Nat.le_trans CH5.out.size (W2.out q hq))) (RwN.base RW2.out (Nat.le_trans XO.out.size CH5.out.size)) CD2.out XE.out (R6.out.ds.ext XE.out) PL.out X6.out.size JX.out LTS.out
    rw [EP.out] at hfin
    have ej : (⟨hf, hf, j.next, j.life, j.base, j.recs⟩ : Jo.J) = j := by
      have e1 := HF.out
      have e2 := HF0.out
      cases j
      simp only at e1 e2
      subst e1 e2
      rfl
    have hfin : Jn we p g m b N v2.ownBlock (⟨hf, hf, j.next, j.life, j.base, j.recs⟩ : Jo.J) false d := hfin
    rw [ej] at hfin
    refine ⟨p, v2.ownBlock, rfl, Nat.le_trans X6.out.size PL.out, fun q hq => ?_, hfin, X6.out.trans XE.out⟩
    obtain ⟨cs, o1, _⟩ := RW2.out
    exact Nat.le_trans XO.out.size (Nat.le_trans CH5.out.size (own_row o1 q hq))
set_option maxRecDepth 100000 in
set_option maxHeartbeats 4000000 in
theorem open_first (w : World) (g m b N n : Nat) (d d2 : Disks.D) (hd : Disks.new n = d) (hd2 : (Jo.wrote d 0 [] (Jo.sect 1 [1, 0])).1 = d2) (h : Ds w g m b N d) (h8 : 8 ≤ n) (hn : n ≤ 65536) (hN : N + 1 < maxLen) :
    Calls Try.prog 10 #[dptr g] w fun e w' => ∃ p o, e = .returned (.tuple #[.pointer (some ⟨p, 0, none⟩), .int .i64 0]) ∧ w.heap.size ≤ p ∧ (∀ q, o = some q → w.heap.size ≤ q) ∧ Jn w' p g m b (N + 1) o (Jo.J.first (n / 2)) false d2 ∧ Kp g m b w w' := by
  obtain ⟨z, hz⟩ : ∃ z, d.med.length = z := ⟨_, rfl⟩
  have hzn : z = n := by rw [← hz, ← hd]; show (List.replicate n _).length = n; exact List.length_replicate
  obtain ⟨hf, hhf⟩ : ∃ hf, n / 2 = hf := ⟨_, rfl⟩
  have hlen : z / 2 = hf := by rw [hzn, hhf]
  have hh : 4 ≤ hf ∧ hf ≤ 32768 := by omega
  have FD := Lib.hid (Jo.first_done h8 hn)
  have ZZ : RowKit.Hid (∀ q, q < n → Disks.sec d q = List.replicate 64 0) := Lib.hid fun q hq => by
    rw [← hd, Jo.sec_flat (Jo.new_flat n).cac q]
    exact Jo.new_row hq
  have HD := Lib.hid hd
  have HD2 := Lib.hid hd2
  have HNN := Lib.hid hN
  clear hd2
  have t0 : ((z : Int) == 0) = false := by rw [beq_eq_false_iff_ne]; omega
  have t1 : ¬ (z : Int) < 8 := by omega
  have EH : (z : Int).tdiv 2 = (hf : Int) := by rw [Int.tdiv_eq_ediv_of_nonneg (by omega)]; omega
  have hh2 : hf ≤ 32768 ∧ 4 ≤ hf := by omega
  have NB := Lib.hid (show hf + hf ≤ d.med.length ∧ 4 ≤ hf ∧ hf ≤ 32768 by omega)
  have UP := Lib.hid (show d.down = false by rw [← hd]; rfl)
  have LTS := Lib.hid h.lts
  have HF := Lib.hid hhf
  have H := Lib.hid h
  have HZ := Lib.hid hz
  have HZN := Lib.hid hzn
  clear h hz hhf hlen hd hN hzn
  go_enter Try.func10, Try.ntmps10
  try dsimp only [List.append]
  go_wp2_with (fail)
  with_reducible refine (H.out.size HZ.out).mono ?_
  rintro e w1 ⟨rfl, x1⟩
  have X1 := Lib.hid x1
  have H1 := Lib.hid (H.out.ext x1)
  clear x1
  go_wp2_with (fail)
  with_reducible refine (H1.out.size HZ.out).mono ?_
  rintro e w2 ⟨rfl, x2⟩
  have X2 := Lib.hid (X1.out.trans x2)
  have H2 := Lib.hid (H1.out.ext x2)
  clear x2 X1 H1
  go_wp2_with (fail)
  obtain ⟨r, hr⟩ : ∃ r, w2.heap.size = r := ⟨_, rfl⟩
  obtain ⟨w3, hw3⟩ : ∃ w3, w2.alloc (.cells #[dptr g, .int .i64 0] 68) = w3 := ⟨_, rfl⟩
  have X3 := Lib.hid (show Ext w2 w3 by rw [← hw3]; exact Ext.alloc _ _)
  have BR := Lib.hid (show w3.heap[r]? = some (.cells #[dptr g, .int .i64 0] 68 (0, 0)) by rw [← hw3, ← hr]; exact heap_alloc_new w2 _)
  have RR := Lib.hid (show w.heap.size ≤ r by rw [← hr]; exact X2.out.size)
  have H3 := Lib.hid (H2.out.ext X3.out)
  rw [hr, hw3]
  clear hw3 H2
  with_reducible refine (H3.out.size HZ.out).mono ?_
  rintro e w4 ⟨rfl, x4⟩
  have X4 := Lib.hid (X3.out.trans x4)
  have R4 : RowKit.Hid (Rb w4 r g m b N d) := Lib.hid ⟨H3.out.ext x4, (x4.block r (Array.getElem?_eq_some_iff.1 BR.out).1).trans BR.out, by have h1 := LTS.out; have h2 := RR.out; omega, UP.out⟩
  clear x4 H3 BR X3
  go_wp2_with (fail)
  obtain ⟨P1, hP1⟩ : ∃ P1, Jo.halfH (Disks.sec d) 0 hf = P1 := ⟨_, rfl⟩
  obtain ⟨P2, hP2⟩ : ∃ P2, Jo.halfH (Disks.sec d) hf hf = P2 := ⟨_, rfl⟩
  have hv1 : Calls Try.prog 28 #[.pointer (some ⟨r, 0, none⟩), .int .i64 0, .int .i64 (hf : Int)] w4 (GivesH w4 r g m b N d 0 hf) := halved_any w4 r g m b N d R4.out 0 hf (by have := NB.out; omega) (by have := NB.out; omega)
  unfold GivesH at hv1
  rw [hP1] at hv1
  have E1 := Lib.hid hP1
  have E2 := Lib.hid hP2
  clear hP1 hP2
  with_reducible refine hv1.mono ?_
  rintro e w5 ⟨A1, c1, v1, rfl, b1, n1, r1, k1, q5, ch5⟩
  have R5 := Lib.hid q5
  have B1 := Lib.hid b1
  have W1 := Lib.hid n1
  have RW1 := Lib.hid r1
  have CD1 := Lib.hid k1
  have CH5 := Lib.hid ch5
  clear hv1 b1 n1 r1 k1 q5 ch5
  obtain ⟨V1, hV1⟩ : ∃ V1, Value.agg (jc g hf ((0 : Nat) : Int) (P1.next : Int) (P1.life : Int) (.slice A1 P1.base.length c1) v1 false).toArray = V1 := ⟨_, rfl⟩
  rw [hV1]
  have HV1 := Lib.hid hV1
  clear hV1
  go_wp2_with (fail)
  have hv2 := halved_any w5 r g m b N d R5.out hf hf (by have := NB.out; omega) (by have := NB.out; omega)
  unfold GivesH at hv2
  rw [E2.out] at hv2
  with_reducible refine hv2.mono ?_
  rintro e w6 ⟨A2, c2, v2, rfl, b2, n2, r2, k2, q6, ch6⟩
  have R6 := Lib.hid q6
  have B2 := Lib.hid b2
  have W2 := Lib.hid n2
  have RW2 := Lib.hid r2
  have CD2 := Lib.hid k2
  have CH6 := Lib.hid ch6
  clear hv2 b2 n2 r2 k2 q6 ch6
  obtain ⟨V2, hV2⟩ : ∃ V2, Value.agg (jc g hf (hf : Int) (P2.next : Int) (P2.life : Int) (.slice A2 P2.base.length c2) v2 false).toArray = V2 := ⟨_, rfl⟩
  rw [hV2]
  obtain ⟨p, q, wa, wb, wc, wd, ra, rb, sc, sd, jp, jq, xd, hpl, hpq⟩ := jour_two w6 g hf ((0 : Nat) : Int) P1.next P1.life hf hf P2.next P2.life (.slice A1 P1.base.length c1) v1 (.slice A2 P2.base.length c2) v2 false false rfl (own_one RW1.out) rfl (own_one RW2.out)
  rw [HV1.out] at sc
  rw [hV2] at sd
  have HV2 := Lib.hid hV2
  have RA := Lib.hid ra
  have RB := Lib.hid rb
  have SC := Lib.hid sc
  have SD := Lib.hid sd
  have JP := Lib.hid jp
  have JQ := Lib.hid jq
  have XD := Lib.hid xd
  have PL := Lib.hid hpl
  have PQ := Lib.hid hpq
  have HRD := Lib.hid (R6.out.ext xd)
  have kr := (R6.out.ext xd).c1
  have kp := jp.c4
  have kq := jq.c4
  clear hV2 ra rb sc sd jp jq xd hpl hpq
  have XO := Lib.hid (show Ext w w4 from X2.out.trans X4.out)
  have RL := Lib.hid (show r < w4.heap.size from (Array.getElem?_eq_some_iff.1 R4.out.blk).1)
  have X6 := Lib.hid (show Ext w w6 from CH6.out.ext (CH5.out.ext XO.out (fun q hq => by rw [show q = r from hq]; exact RR.out)) (fun q hq => by rw [show q = r from hq]; exact RR.out))
  have ep1 : P1 = ⟨0, [], [], 0⟩ := by
    rw [← E1.out]
    exact Jo.halfH_zero (ZZ.out 0 (by omega))
  have ep2 : P2 = ⟨0, [], [], 0⟩ := by
    rw [← E2.out]
    exact Jo.halfH_zero (ZZ.out hf (by have := HZ.out; have := HZN.out; have := NB.out; omega))
  have t2 : ¬ (P1.life : Int) < (P2.life : Int) := by rw [ep1, ep2]; exact Int.lt_irrefl _
  have t3 : ((P1.life : Int) == 0) = true := by rw [ep1]; rfl
  obtain ⟨we, sx, jx, cx⟩ := jour_store (w := wd) JP.out.blk g hf 0 1 1 (.slice none 0 0) (.slice none 0 0) false rfl rfl
  have SX := Lib.hid sx
  have XE := Lib.hid (show Ext w6 we from cx.ext XD.out (fun q hq => by rw [show q = p from hq]; exact PL.out))
  have JE : RowKit.Hid (Jn we p g m b N none (Jo.J.first hf) false d) := Lib.hid (jn_open (w0 := w) (w1 := w6) (A := none) (c := 0) (v := .slice none 0 0) (bs_none24 _) (Newer.none _) (RwN.nil _ _) (Cold.none _ _ _) XE.out (R6.out.ds.ext XE.out) PL.out X6.out.size jx LTS.out)
  clear ep1 ep2 sx jx cx
  go_wp2_with (first
  | ((with_reducible refine opIs ⟨some 6, .alloc 50, _, _, _, _⟩ ?_); refine wpList_allocR rfl 50 rfl _ RA.out ?_)
  | ((with_reducible refine opIs ⟨some 7, .alloc 50, _, _, _, _⟩ ?_); refine wpList_allocR rfl 50 rfl _ RB.out ?_)
  | ((with_reducible refine opIs ⟨none, .store 50 (.tmp 6) (.tmp 27), _, _, _, _⟩ ?_); refine wpList_storeR rfl 50 (.tmp 6) (.tmp 27) rfl rfl rfl SC.out ?_)
  | ((with_reducible refine opIs ⟨none, .store 50 (.tmp 7) (.tmp 31), _, _, _, _⟩ ?_); refine wpList_storeR rfl 50 (.tmp 7) (.tmp 31) rfl rfl rfl SD.out ?_)
  | ((with_reducible refine opIs ⟨none, .store 50 (.tmp 6) (.tmp 52), _, _, _, _⟩ ?_); refine wpList_storeR rfl 50 (.tmp 6) (.tmp 52) rfl rfl rfl SX.out ?_))
  obtain ⟨w8, hw8⟩ : ∃ w8, we.alloc (.cells #[.int .i64 1, .int .i64 0] 3) = w8 := ⟨_, rfl⟩
  have X8 := Lib.hid (show Ext we w8 by rw [← hw8]; exact Ext.alloc _ _)
  have ISL := Lib.hid (show Is w8 (some ⟨we.heap.size, 0, none⟩) 2 2 (nints [1, 0]) by rw [← hw8]; exact Is.lit we we.heap.size rfl (nints [1, 0]) #[.int .i64 1, .int .i64 0] 3 2 rfl rfl (by omega))
  rw [hw8]
  clear hw8
  have hsec := sector_at w8 1 1 rfl _ 2 2 [1, 0] ISL.out (by omega) (fun x hx => by
    rcases List.mem_cons.1 hx with rfl | hx
    · omega
    · rcases List.mem_cons.1 hx with rfl | hx
      · omega
      · cases hx)
  with_reducible refine hsec.mono ?_
  rintro e w9 ⟨q9, rfl, oa9⟩
  have J8 := Lib.hid (JE.out.ext X8.out)
  have J9 := Lib.hid (J8.out.ext oa9.ext)
  have X9 := Lib.hid (show Ext w w9 from (X6.out.trans XE.out).trans (X8.out.trans oa9.ext))
  have hw : Calls Try.prog 29 #[.pointer (some ⟨p, 0, none⟩), .int .i64 0, .slice none 0 0, .slice (some ⟨q9, 0, none⟩) 64 64] w9 (GivesJW w9 p g m b (N + 1) none (Jo.J.first hf) (Jo.wrote d 0 [] (Jo.sect 1 [1, 0]))) :=
    jwrite_any w9 p g m b N none (Jo.J.first hf) d J9.out 0 none 0 0 [] (bs_none24 _) (Cold.none _ _ _) (some ⟨q9, 0, none⟩) 64 (Jo.sect 1 [1, 0]) (oa9.bs (by rw [Jo.sect_length _ _ (by simp)]; omega) (Jo.sect_length _ _ (by simp))) (Cold.fresh (w0 := w8) oa9.le oa9.lt (fun q z => J8.out.lt q z)) (by omega) (by omega) (by have := HNN.out; show N + 0 + 1 < maxLen; omega)
  have h0 : (Jo.wrote d 0 [] (Jo.sect 1 [1, 0])).2 = 0 := by
    have := FD.out.1
    rw [HD.out] at this
    exact this
  unfold GivesJW at hw
  rw [h0] at hw
  rw [HD2.out] at hw
  have HW := Lib.hid hw
  clear hsec oa9 h0 hw
  go_wp2_with (fail)
  with_reducible refine HW.out.mono ?_
  rintro e w10 ⟨rfl, j10, c10⟩
  have J10 : RowKit.Hid (Jn w10 p g m b (N + 1) none (Jo.J.first hf) false d2) := Lib.hid j10
  have C10 := Lib.hid c10
  clear j10 c10 HW
  go_wp2_with (fail)
  refine bodyPost_ret (results_tmp2 rfl _ _ _) rfl ?_
  refine ⟨p, none, rfl, Nat.le_trans X6.out.size PL.out, (fun q hq => by cases hq), (by rw [HF.out]; exact J10.out), C10.out.os.trans X9.out.os, C10.out.tape.trans X9.out.tape, C10.out.output.trans X9.out.output, Nat.le_trans X9.out.size C10.out.size, fun k hk h1 h2 h3 => (C10.out.block k (Nat.lt_of_lt_of_le hk X9.out.size) (fun hz => ?_)).trans (X9.out.block k hk)⟩
  have hp1 := Nat.le_trans X6.out.size PL.out
  rcases hz with e | e | e | e | e
  · omega
  · exact h1 e
  · exact h2 e
  · exact h3 e
  · cases e
end Go.Proofs.Ytaaegbccejjjcaa
namespace Go.Proofs.Ytaaegbccejjjcaa
open Go.RowKit
attribute [local go_sem ↓] Go.wp_at_zero Go.wp_at_succ

set_option maxRecDepth 100000 in
set_option maxHeartbeats 2000000 in
theorem sameLists24 (w : World) (A A' : Option Addr) (n c m c' : Nat) (a b : Gm.L) (ha : Mx w A n c a) (hb : Mx w A' m c' b) :
    Calls Try.prog 36 #[.slice A n c, .slice A' m c'] w fun e w' => e = .returned (.bool (decide (a = b))) ∧ Ext w w' := by
  have hm1 := ha.max
  have hm2 := ha.le
  have hm3 := hb.max
  have hm4 := hb.le
  have LA := Lib.hid ha.len
  have LB := Lib.hid hb.len
  by_cases hnm : n = m
  · subst hnm
    have e0 : ((n : Int) != (n : Int)) = false := by rw [bne_eq_false_iff_eq]
    go_enter Try.func36, Try.ntmps36
    go_wp2_with (fail)
    go_loopw [5] (fun s wr => ∃ k : Nat, k ≤ n ∧ s = .int .i64 k ∧ Ext w wr ∧ RowKit.Hid (∀ i, i < k → Gm.row a i = Gm.row b i)) (fun s _ => n - (intOf s).toNat)
    case atStart => exact ⟨0, Nat.zero_le _, rfl, Ext.refl w, Lib.hid fun j hj => absurd hj (Nat.not_lt_zero _)⟩
    case round =>
      obtain ⟨k, hk, rfl, hx, H⟩ := hrel
      by_cases hlt : k < n
      · have i1 : (k : Int) < n := by omega
        obtain ⟨b1, o1, A1, n1, c1, rfl, hc1, hr1⟩ := (ha.ext hx).at_ hlt
        obtain ⟨b2, o2, A2, n2, c2, rfl, hc2, hr2⟩ := (hb.ext hx).at_ hlt
        have hcall := sameBytes5 wr.drew A1 A2 n1 c1 n2 c2 (Gm.row a k) (Gm.row b k) (hr1.ext (Ext.drew _)) (hr2.ext (Ext.drew _))
        have HC := Lib.hid hcall
        have hS : wr.drew.cell? ⟨b1, o1 + k, none⟩ = some (.slice A1 n1 c1) ∧ wr.drew.cell? ⟨b2, o2 + k, none⟩ = some (.slice A2 n2 c2) := ⟨(Ext.drew wr).cell hc1, (Ext.drew wr).cell hc2⟩
        have HX := Lib.hid (hx.thenDrew)
        clear hcall hr1 hr2 ha hb hx
        by_cases e : Gm.row a k = Gm.row b k
        · have hv : (Gm.row a k == Gm.row b k) = true := by rw [beq_iff_eq]; exact e
          rw [hv] at HC
          have HE := Lib.hid e
          clear e hv
          go_wp2_with (fail)
          go_region_held3 (fun W => W.cell? ⟨b1, o1 + k, none⟩ = some (.slice A1 n1 c1) ∧ W.cell? ⟨b2, o2 + k, none⟩ = some (.slice A2 n2 c2)) (exact hS) (((with_reducible refine HC.out.mono ?_); (rintro e w4 ⟨rfl, rfl⟩)))
          all_goals
            go_wp2_with (fail)
            refine ⟨⟨k + 1, by omega, by go_num, HX.out, Lib.hid fun i hi => ?_⟩, by simp [intOf]; omega⟩
            by_cases e2 : i = k
            · rw [e2]; exact HE.out
            · exact H.out i (by omega)
        · have hv : (Gm.row a k == Gm.row b k) = false := by rw [beq_eq_false_iff_ne]; exact e
          rw [hv] at HC
          have HE := Lib.hid e
          clear e hv
          go_wp2_with (fail)
          go_region_held3 (fun W => W.cell? ⟨b1, o1 + k, none⟩ = some (.slice A1 n1 c1) ∧ W.cell? ⟨b2, o2 + k, none⟩ = some (.slice A2 n2 c2)) (exact hS) (((with_reducible refine HC.out.mono ?_); (rintro e w4 ⟨rfl, rfl⟩)))
          all_goals
            go_wp2_with (fail)
            go_ret
            exact ⟨ret_bool (decide_eq_false (fun h => HE.out (by rw [h]))).symm, HX.out⟩
      · have i1 : ¬ (k : Int) < n := by omega
        have hkn : k = n := by omega
        rw [hkn] at H
        go_wp2_with (fail)
        go_ret
        exact ⟨ret_bool (decide_eq_true (Gm.rows_ext (by rw [LA.out, LB.out]) (fun i hi => H.out i (by have := LA.out; omega)))).symm, hx⟩
  · have e0 : ((n : Int) != (m : Int)) = true := by rw [bne_iff_ne]; omega
    go_enter Try.func36, Try.ntmps36
    go_wp2_with (fail)
    go_ret
    exact ⟨ret_bool (decide_eq_false (fun h => hnm (by have := LA.out; have := LB.out; rw [h] at *; omega))).symm, Ext.refl w⟩
end Go.Proofs.Ytaaegbccejjjcaa
