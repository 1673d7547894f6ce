/- RoundTells' walk: of any rounds, right or not, what is wanted and what any answers make of them are as the document defines; for every input. -/
import Derived.Test.YtgfhpgomlocllaaRoundAwake
import Derived.Test.YtgfhpgomlocllaaRoundOpen
import Derived.Test.YtgfhpgomlocllaaRoundRef4
import Derived.Test.YtgfhpgomlocllaaRoundRef6
import Derived.Test.YtgfhpgomlocllaaRoundRef7
import Derived.Test.YtgfhpgomlocllaaIntsCopy
import Derived.Deep.DeepCutAuto
namespace Go.Proofs.Ytgfhpgomlocllaa
open Go.ChangeShapes Go.WideShapes Go.ChangeAt Go.RowKit

namespace roundTells
theorem begun_len (s v n d : Int) : (if Rounds.named s v n d then Rounds.begun s v d n.toNat else Rounds.zero).marks.length ≤ 1000 := by
  split
  · rename_i h; unfold Rounds.named at h; simp [Rounds.begun]; omega
  · simp [Rounds.zero]
theorem told_len' (r : Rounds.R) (i o e : Int) : (Rounds.told r i o e).marks.length = r.marks.length := (Rounds.kept_told r i o e).len
set_option maxRecDepth 100000 in
set_option maxHeartbeats 8000000 in
theorem walk {H : Type} {enc : TypeId × Value → H} {base : Nat} (w : World) (v0 : Value) (d0 : DataW H) (p0 : List MemPlace) (v1 : Value) (d1 : DataW H) (p1 : List MemPlace) (v2 : Value) (d2 : DataW H) (p2 : List MemPlace)
    (o0 : Value.okWide Try.prog w .any base 25 v0) (h0 : DataW.Trod enc Try.prog w 0 (fun _ => true) true 25 v0 d0 p0)
    (o1 : Value.okWide Try.prog w .any base 35 v1) (h1 : DataW.Trod enc Try.prog w 0 (fun _ => true) true 35 v1 d1 p1)
    (o2 : Value.okWide Try.prog w .any base 49 v2) (h2 : DataW.Trod enc Try.prog w 0 (fun _ => true) true 49 v2 d2 p2) :
    Calls Try.prog 5 #[v0, v1, v2] w fun e w' => e = .returned (.bool true) ∧ Ext w w' := by
  obtain ⟨r0, Aa, N, ca, rfl, ia⟩ := round_open o0 h0
  obtain ⟨x0, x1, x2, x3, rfl⟩ := open_i64x4 Try.underlying35 Try.underlying3 (by kernel_rfl) (by kernel_rfl) o1 h1
  obtain ⟨A, n, c, l, rfl, hl⟩ := ops_open o2 h2
  clear o0 h0 o1 h1 o2 h2
  have hmx := hl.max
  have hle := hl.le
  have hln := hl.len
  have hNx := ia.max
  have hNl := ia.le
  have ba := (Bx.new w r0.stripe r0.version r0.need r0.phase (.slice Aa N ca) rfl).ext (Ext.alloc _ (.cells #[.int .i64 x0, .int .i64 x1, .int .i64 x2, .int .i64 x3] 35))
  have xb : Ext w ((w.alloc (.cells #[.int .i64 r0.stripe, .int .i64 r0.version, .int .i64 r0.need, .int .i64 r0.phase, .slice Aa N ca] 25)).alloc (.cells #[.int .i64 x0, .int .i64 x1, .int .i64 x2, .int .i64 x3] 35)) := (Ext.alloc _ _).thenAlloc _
  have ib := ia.ext xb
  have hlb := hl.ext xb
  have blk4 : ((w.alloc (.cells #[.int .i64 r0.stripe, .int .i64 r0.version, .int .i64 r0.need, .int .i64 r0.phase, .slice Aa N ca] 25)).alloc (.cells #[.int .i64 x0, .int .i64 x1, .int .i64 x2, .int .i64 x3] 35)).heap[w.heap.size + 1]? = some (.cells #[.int .i64 x0, .int .i64 x1, .int .i64 x2, .int .i64 x3] 35 (0, 0)) := by
    have h := heap_alloc_new (w.alloc (.cells #[.int .i64 r0.stripe, .int .i64 r0.version, .int .i64 r0.need, .int .i64 r0.phase, .slice Aa N ca] 25)) (.cells #[.int .i64 x0, .int .i64 x1, .int .i64 x2, .int .i64 x3] 35)
    simpa using h
  have aw0 : Away Aa N w.heap.size := Away.old ia (Nat.le_refl _)
  have HBA := Lib.hid ba
  have HXB := Lib.hid xb
  have HB4 := Lib.hid blk4
  have HIB := Lib.hid ib
  have HLB := Lib.hid hlb
  have HAW := Lib.hid aw0
  clear ba xb ib hlb blk4 aw0
  by_cases hbig : (40 : Int) < (N : Int) ∨ (300 : Int) < x2
  · rcases hbig with hb | hb
    · have gb : 40 < N := by omega
      go_enter Try.func5, Try.ntmps5
      try dsimp only [List.append]
      go_wp2_with (fail)
      refine (awake_any _).mono ?_
      rintro x9 w9 ⟨rfl, x9⟩
      go_wp2_with (fail)
      go_ret
      exact ⟨rfl, HXB.out.trans x9⟩
    · by_cases hb2 : 40 < N
      · go_enter Try.func5, Try.ntmps5
        try dsimp only [List.append]
        go_wp2_with (fail)
        refine (awake_any _).mono ?_
        rintro x9 w9 ⟨rfl, x9⟩
        go_wp2_with (fail)
        go_ret
        exact ⟨rfl, HXB.out.trans x9⟩
      · have gb : ¬ (40 : Int) < (N : Int) := by omega
        go_enter Try.func5, Try.ntmps5
        try dsimp only [List.append]
        go_wp2_with (fail)
        refine (awake_any _).mono ?_
        rintro x9 w9 ⟨rfl, x9⟩
        go_wp2_with (fail)
        go_ret
        exact ⟨rfl, HXB.out.trans x9⟩
  · have gb : ¬ 40 < N := by omega
    have gb2 : ¬ (300 : Int) < x2 := by omega
    have gb3 : decide ((40 : Int) < (N : Int)) = false := decide_eq_false (by omega)
    have hN40 : N ≤ 40 := by omega
    have hlen0 := ia.len
    clear hbig
    go_enter Try.func5, Try.ntmps5
    try dsimp only [List.append]
    go_wp2_with (fail)
    refine (begin_any _ x0 x1 x2 x3).mono ?_
    rintro x5 w1 ⟨B1, n1, c1, rfl, i1, _, y1⟩
    have hb1 := begun_len x0 x1 x2 x3
    obtain ⟨Rb, hRb⟩ : ∃ Rb, (if Rounds.named x0 x1 x2 x3 then Rounds.begun x0 x1 x3 x2.toNat else Rounds.zero) = Rb := ⟨_, rfl⟩
    obtain ⟨Eb, hEb⟩ : ∃ Eb : Int, (if Rounds.named x0 x1 x2 x3 then (0 : Int) else 130) = Eb := ⟨_, rfl⟩
    rw [hRb] at i1 hb1 ⊢
    rw [hEb]
    have HRb := Lib.hid hRb
    have HEb := Lib.hid hEb
    clear hRb hEb
    have b4 := (y1.block _ (Array.getElem?_eq_some_iff.1 HB4.out).1).trans HB4.out
    have ba := HBA.out.ext y1
    have xb := HXB.out.trans y1
    have ib := HIB.out.ext y1
    have hlb := HLB.out.ext y1
    have lb4 : w.heap.size + 1 < w1.heap.size := (Array.getElem?_eq_some_iff.1 b4).1
    clear HBA HXB HB4 HIB HLB y1
    generalize hg : w.heap.size = g at *
    have e40 : w1.cell? ⟨g + 1, 0, none⟩ = some (.int .i64 x0) := by rw [cell_of_row w1 _ _ _ _ _ b4]; rfl
    have e41 : w1.cell? ⟨g + 1, 1, none⟩ = some (.int .i64 x1) := by rw [cell_of_row w1 _ _ _ _ _ b4]; rfl
    have e42 : w1.cell? ⟨g + 1, 2, none⟩ = some (.int .i64 x2) := by rw [cell_of_row w1 _ _ _ _ _ b4]; rfl
    have e43 : w1.cell? ⟨g + 1, 3, none⟩ = some (.int .i64 x3) := by rw [cell_of_row w1 _ _ _ _ _ b4]; rfl
    have HG := Lib.hid hg
    have HBA := Lib.hid ba
    have HXB := Lib.hid xb
    have HIB := Lib.hid ib
    have HLB := Lib.hid hlb
    clear hg ba xb ib hlb b4
    go_wp2_with (fail)
    refine (refBegin_any _ x0 x1 x2 x3).mono ?_
    rintro x6 w2 ⟨B2, n2, c2, rfl, i2, _, y2⟩
    rw [HRb.out] at i2 ⊢
    rw [HEb.out]
    have z1 : Ext w1 w2 := (Ext.alloc w1 _).trans y2
    have b7 := (Bx.new w1 Rb.stripe Rb.version Rb.need Rb.phase (.slice B1 n1 c1) rfl).ext y2
    have i1' := i1.ext z1
    have BA2 := Lib.hid (HBA.out.ext z1)
    have XB2 := Lib.hid (HXB.out.trans z1)
    have IB2 := Lib.hid (HIB.out.ext z1)
    have LB2 := Lib.hid (HLB.out.ext z1)
    have I1 := Lib.hid i1'
    have I2 := Lib.hid i2
    have l7 := b7.lt
    have hw12 := z1.size
    have k0 := b7.c0
    have k1 := b7.c1
    have k2 := b7.c2
    have k3 := b7.c3
    have k4 := b7.c4
    clear HBA HXB HIB HLB y2 e40 e41 e42 e43 b7 i1 i1' i2 z1
    have eE : (Eb != Eb) = false := by simp
    have sr := sameRound_any (w2.alloc (.cells #[.int .i64 Rb.stripe, .int .i64 Rb.version, .int .i64 Rb.need, .int .i64 Rb.phase, .slice B2 n2 c2] 25)) Rb Rb B1 B2 n1 c1 n2 c2 (I1.out.ext (Ext.alloc _ _)) (I2.out.ext (Ext.alloc _ _))
    rw [decide_eq_true rfl] at sr
    have SR := Lib.hid sr
    clear sr
    go_wp2_with (fail)
    refine SR.out.mono ?_
    rintro x7 w3 ⟨rfl, y3⟩
    have z3 : Ext w2 w3 := (Ext.alloc w2 _).trans y3
    have ba := BA2.out.ext z3
    have XB := Lib.hid (XB2.out.trans z3)
    have ib := IB2.out.ext z3
    have hl1 := LB2.out.ext z3
    have hs3 := z3.size
    have q0 := ba.c0
    have q1 := ba.c1
    have q2 := ba.c2
    have q3 := ba.c3
    have q4 := ba.c4
    clear XB2 BA2 IB2 LB2 I1 I2 SR k0 k1 k2 k3 k4 y3 z3
    go_wp2_with (fail)
    have bf := Bx.new w3 r0.stripe r0.version r0.need r0.phase (.slice Aa N ca) rfl
    have x4 : Ext w3 (w3.alloc (.cells #[.int .i64 r0.stripe, .int .i64 r0.version, .int .i64 r0.need, .int .i64 r0.phase, .slice Aa N ca] 25)) := Ext.alloc _ _
    have awf : Away Aa N w3.heap.size := Away.old ib (Nat.le_refl _)
    have sa : Held (w3.alloc (.cells #[.int .i64 r0.stripe, .int .i64 r0.version, .int .i64 r0.need, .int .i64 r0.phase, .slice Aa N ca] 25)) g g w3.heap.size r0 Aa N ca := ⟨ba.ext x4, ib.ext x4, HAW.out, awf⟩
    have sy : Held (w3.alloc (.cells #[.int .i64 r0.stripe, .int .i64 r0.version, .int .i64 r0.need, .int .i64 r0.phase, .slice Aa N ca] 25)) w3.heap.size g w3.heap.size r0 Aa N ca := ⟨bf, ib.ext x4, HAW.out, awf⟩
    have xw : Ext w (w3.alloc (.cells #[.int .i64 r0.stripe, .int .i64 r0.version, .int .i64 r0.need, .int .i64 r0.phase, .slice Aa N ca] 25)) := XB.out.trans x4
    have hgf : g < w3.heap.size := ba.lt
    clear q0 q1 q2 q3 q4 ba bf ib hl1 x4 awf l7
    generalize (w3.alloc (.cells #[.int .i64 r0.stripe, .int .i64 r0.version, .int .i64 r0.need, .int .i64 r0.phase, .slice Aa N ca] 25)) = W0 at *
    generalize hf : w3.heap.size = f at *
    have HFF := Lib.hid hf
    clear hf
    go_loopw [12] (fun i wr => ∃ (z : Int) (r : Rounds.R) (D : Option Addr) (e : Nat) (D2 : Option Addr) (m2 e2 : Nat), -1 ≤ z ∧ z ≤ 60 ∧ z ≤ n ∧ i = .int .i64 z ∧ r.marks.length = N ∧ Held wr g g f r D N e ∧ Held wr f g f r D2 m2 e2 ∧ Ext w wr) (fun i _ => (61 - intOf i).toNat)
    case atStart => exact ⟨-1, r0, Aa, ca, Aa, N, ca, by omega, by omega, by omega, rfl, hlen0, sa, sy, xw⟩
    case round =>
      obtain ⟨z, r, D, e, D2, m2, e2, hz0, hz60, hzn, rfl, hrl, hA, hY, hx⟩ := hrel
      clear sa sy xw
      by_cases hzn2 : z < n
      · by_cases hz62 : z < 60
        · have c0 := hA.bx.c0
          have c1 := hA.bx.c1
          have c2 := hA.bx.c2
          have c3 := hA.bx.c3
          have c4 := hA.bx.c4
          have HA := Lib.hid hA
          have HY := Lib.hid hY
          have HX := Lib.hid hx
          clear hA hY hx
          go_wp2_with (fail)
          refine (copyInts_any wr D N e r.marks HA.out.is_ (by omega)).mono ?_
          rintro x7 w4 ⟨v, rfl, hv⟩
          obtain ⟨Aw, cw, rfl, hiw⟩ := hv.is
          have hmid := Mid.start HA.out HY.out HX.out (show g ≠ f by omega) (by have := HG.out; omega) (by have := HG.out; omega) hv.ext (FreshOr.own hv.own (Nat.le_refl _)) hiw
          have hx4 := HX.out.trans hv.ext
          have hw4 := hv.ext.size
          rw [hrl] at hmid ⊢
          have hl5 := hl.ext (hx4.thenAlloc (.cells #[.int .i64 r.stripe, .int .i64 r.version, .int .i64 r.need, .int .i64 r.phase, .slice D N e] 25))
          clear c0 c1 c2 c3 c4
          have c0 := (HA.out.ext hv.ext).bx.c0
          have c1 := (HA.out.ext hv.ext).bx.c1
          have c2 := (HA.out.ext hv.ext).bx.c2
          have c3 := (HA.out.ext hv.ext).bx.c3
          have c4 := (HA.out.ext hv.ext).bx.c4
          have HX4 := Lib.hid (hx4.thenAlloc (.cells #[.int .i64 r.stripe, .int .i64 r.version, .int .i64 r.need, .int .i64 r.phase, .slice D N e] 25))
          clear hv hiw hx4
          have HM := Lib.hid hmid
          clear hmid
          go_upto_if 77 with (fail)
          clear c0 c1 c2 c3 c4
          obtain ⟨h, hh⟩ : ∃ h, w4.heap.size = h := ⟨_, rfl⟩
          rw [hh] at HM ⊢
          obtain ⟨W5, hW5⟩ : ∃ W5, w4.alloc (.cells #[.int .i64 r.stripe, .int .i64 r.version, .int .i64 r.need, .int .i64 r.phase, .slice D N e] 25) = W5 := ⟨_, rfl⟩
          rw [hW5] at HM HX4 hl5 ⊢
          clear hh hW5 hw4 HA HY HX
          have gh : g ≠ h := HM.out.gh
          have fh : f ≠ h := HM.out.fh
          have gf : g ≠ f := HM.out.gf
          have HRL := Lib.hid hrl
          clear hrl
          go_cut [15, 16] (fun s15 s16 wx => ∃ wv : World, wv = wx ∧ ∃ (R1 : Rounds.R) (E : Int) (D1 : Option Addr) (n1 e1 : Nat) (D3 : Option Addr) (n3 e3 : Nat), s15 = .int .i64 E ∧ s16 = .int .i64 E ∧ R1.marks.length = N ∧ Mid w wx g f h r R1 R1 D N e D1 n1 e1 D3 n3 e3 Aw N cw)
          case first =>
            as_aux_lemma =>
              by_cases hm1 : z = -1
              · subst hm1
                clear hl5 hzn2 hz62 hz0 hz60 hzn
                go_wp2_with (fail)
                go_meet
                exact ⟨_, rfl, r, 0, D, N, e, D2, m2, e2, rfl, rfl, HRL.out, HM.out⟩
              · obtain ⟨j, rfl⟩ := Int.eq_ofNat_of_zero_le (show 0 ≤ z by omega)
                have hj : j < l.length := by rw [hln]; omega
                have q1 : (j : Int) < n := by omega
                have q0 : (0 : Int) ≤ (j : Int) := by omega
                obtain ⟨b0, o0, rfl, y0, y1, y2, y3⟩ := hl5.at_ j hj
                generalize hop : opget l j = o at *
                clear hop hm1 hl5 hj
                have HB0 := Lib.hid (Ext.alloc W5 (.cells #[.int .i64 o.kind, .int .i64 o.index, .int .u8 o.op, .int .i64 o.e] 52))
                have ob0 := heap_alloc_new W5 (.cells #[.int .i64 o.kind, .int .i64 o.index, .int .u8 o.op, .int .i64 o.e] 52)
                have HOB := Lib.hid ob0
                have hlt5 := HM.out.x.bx.lt
                have hlt6 := HM.out.y.bx.lt
                have hlt7 := HM.out.a.bx.lt
                clear ob0
                go_upto_region 15 with (fail)
                have HM6 := Lib.hid (HM.out.on HB0.out)
                obtain ⟨W6, hW6⟩ : ∃ W6, W5.alloc (.cells #[.int .i64 o.kind, .int .i64 o.index, .int .u8 o.op, .int .i64 o.e] 52) = W6 := ⟨_, rfl⟩
                rw [hW6] at HM6 HOB ⊢
                obtain ⟨q, hq⟩ : ∃ q, W5.heap.size = q := ⟨_, rfl⟩
                rw [hq] at HOB ⊢
                have qh : q ≠ h := by omega
                have qf : q ≠ f := by omega
                have qg : q ≠ g := by omega
                clear hW6 HB0 hq y0 y1 y2 y3 hlt5 hlt6 hlt7 HM
                have o0 : W6.cell? ⟨q, 0, none⟩ = some (.int .i64 o.kind) := by rw [cell_of_row W6 _ _ _ _ _ HOB.out]; rfl
                have o1 : W6.cell? ⟨q, 1, none⟩ = some (.int .i64 o.index) := by rw [cell_of_row W6 _ _ _ _ _ HOB.out]; rfl
                have o2 : W6.cell? ⟨q, 2, none⟩ = some (.int .u8 o.op) := by rw [cell_of_row W6 _ _ _ _ _ HOB.out]; rfl
                have o3 : W6.cell? ⟨q, 3, none⟩ = some (.int .i64 o.e) := by rw [cell_of_row W6 _ _ _ _ _ HOB.out]; rfl
                have a0 := HM6.out.a.bx.c0
                have a1 := HM6.out.a.bx.c1
                have a2 := HM6.out.a.bx.c2
                have a3 := HM6.out.a.bx.c3
                have a4 := HM6.out.a.bx.c4
                obtain ⟨kd, hkd⟩ : ∃ kd, o.kind = kd := ⟨_, rfl⟩
                rw [hkd] at o0
                clear hkd
                by_cases hk1 : kd = 1
                · subst hk1
                  as_aux_lemma =>
                    obtain ⟨R1, hR1⟩ : ∃ R1, Rounds.told r o.index o.op o.e = R1 := ⟨_, rfl⟩
                    obtain ⟨E, hE⟩ : ∃ E, Rounds.toldE r o.index = E := ⟨_, rfl⟩
                    have hRl : R1.marks.length = N := by rw [← hR1, told_len']; exact HRL.out
                    have k1 := told_any W6 r D N e HM6.out.a.row.is_ (by omega) o.index o.op o.e
                    have k2 := fun (W : World) (hi : Is W D2 m2 e2 r.marks) => refTold_any W r D2 m2 e2 hi (by have := hi.len; have := HRL.out; omega) o.index o.op o.e
                    rw [hR1, hE] at k1 k2
                    have K1 := Lib.hid k1
                    have K2 := Lib.hid k2
                    clear k1 k2 hR1 hE
                    go_upto_region 22 with (fail)
                    go_cut [15] (fun s15 wx => ∃ wv : World, wv = wx ∧ ∃ (B : Option Addr) (n7 e7 : Nat), s15 = .int .i64 E ∧ Mid w wx g f h r R1 r D N e B n7 e7 D2 m2 e2 Aw N cw ∧ wx.cell? ⟨q, 0, none⟩ = some (.int .i64 1) ∧ wx.cell? ⟨q, 1, none⟩ = some (.int .i64 o.index) ∧ wx.cell? ⟨q, 2, none⟩ = some (.int .u8 o.op) ∧ wx.cell? ⟨q, 3, none⟩ = some (.int .i64 o.e))
                    case first =>
                      go_wp2_with (fail)
                      refine K1.out.mono ?_
                      rintro x9 w9 ⟨D9, n9, e9, rfl, hD9, hf9, x9⟩
                      have HM7 := Lib.hid (HM6.out.setX hf9 hD9 x9)
                      have p0 := Lib.hid (cell_five (q := h) (x9.cell o0) qh.symm (.int .i64 R1.stripe) (.int .i64 R1.version) (.int .i64 R1.need) (.int .i64 R1.phase) (.slice D9 n9 e9))
                      have p1 := Lib.hid (cell_five (q := h) (x9.cell o1) qh.symm (.int .i64 R1.stripe) (.int .i64 R1.version) (.int .i64 R1.need) (.int .i64 R1.phase) (.slice D9 n9 e9))
                      have p2 := Lib.hid (cell_five (q := h) (x9.cell o2) qh.symm (.int .i64 R1.stripe) (.int .i64 R1.version) (.int .i64 R1.need) (.int .i64 R1.phase) (.slice D9 n9 e9))
                      have p3 := Lib.hid (cell_five (q := h) (x9.cell o3) qh.symm (.int .i64 R1.stripe) (.int .i64 R1.version) (.int .i64 R1.need) (.int .i64 R1.phase) (.slice D9 n9 e9))
                      have u6 := (HM6.out.x.ext x9).bx
                      have u0 := u6.c0
                      have z0 := u6.fz 0
                      have u1 := u6.c1
                      have z1 := u6.fz 1
                      have u2 := u6.c2
                      have z2 := u6.fz 2
                      have u3 := u6.c3
                      have z3 := u6.fz 3
                      have u4 := u6.c4
                      have z4 := u6.fz 4
                      have lh9 := u6.lt
                      clear K1 K2 HM6 HOB u6 x9 hf9 hD9 a0 a1 a2 a3 a4 o0 o1 o2 o3
                      go_wp2_with (fail)
                      go_meet
                      exact ⟨_, rfl, D9, n9, e9, rfl, HM7.out, p0.out, p1.out, p2.out, p3.out⟩
                    case rest =>
                      clear o0 o1 o2 o3 a0 a1 a2 a3 a4 HM6 HOB K1
                      obtain ⟨W7, rfl, B, n7, e7, rfl, hM7, o0, o1, o2, o3⟩ := hcut
                      have HM7 := Lib.hid hM7
                      have v6 := hM7.y.bx
                      have v0 := v6.c0
                      have v1 := v6.c1
                      have v2 := v6.c2
                      have v3 := v6.c3
                      have v4 := v6.c4
                      clear v6 hM7
                      go_wp2_with (fail)
                      refine (K2.out _ HM7.out.y.row.is_).mono ?_
                      rintro x8 w8 ⟨D8, n8, e8, rfl, hD8, hf8, x8⟩
                      have HM8 := Lib.hid (HM7.out.setY hf8 hD8 x8)
                      have v6 := (HM7.out.y.ext x8).bx
                      clear o0 o1 o2 o3 v0 v1 v2 v3 v4
                      have v0 := v6.c0
                      have z0 := v6.fz 0
                      have v1 := v6.c1
                      have z1 := v6.fz 1
                      have v2 := v6.c2
                      have z2 := v6.fz 2
                      have v3 := v6.c3
                      have z3 := v6.fz 3
                      have v4 := v6.c4
                      have z4 := v6.fz 4
                      have lf8 := v6.lt
                      clear K2 HM7 v6 x8 hf8 hD8
                      go_wp2_with (fail)
                      go_meet
                      exact ⟨_, rfl, R1, E, B, n7, e7, D8, n8, e8, rfl, rfl, hRl, HM8.out⟩
                · have fk1 : (kd == 1) = false := by rw [beq_eq_false_iff_ne]; exact hk1
                  clear hk1
                  by_cases hk2 : kd = 2
                  · subst hk2
                    as_aux_lemma =>
                      obtain ⟨R1, hR1⟩ : ∃ R1, Rounds.told r o.index o.op o.e = R1 := ⟨_, rfl⟩
                      obtain ⟨E, hE⟩ : ∃ E, Rounds.toldE r o.index = E := ⟨_, rfl⟩
                      have hRl : R1.marks.length = N := by rw [← hR1, told_len']; exact HRL.out
                      have k1 := told_any W6 r D N e HM6.out.a.row.is_ (by omega) o.index o.op o.e
                      have k2 := fun (W : World) (hi : Is W D2 m2 e2 r.marks) => refTold_any W r D2 m2 e2 hi (by have := hi.len; have := HRL.out; omega) o.index o.op o.e
                      rw [hR1, hE] at k1 k2
                      have K1 := Lib.hid k1
                      have K2 := Lib.hid k2
                      clear k1 k2 hR1 hE
                      go_upto_region 22 with (fail)
                      go_cut [15] (fun s15 wx => ∃ wv : World, wv = wx ∧ ∃ (B : Option Addr) (n7 e7 : Nat), s15 = .int .i64 E ∧ Mid w wx g f h r R1 r D N e B n7 e7 D2 m2 e2 Aw N cw ∧ wx.cell? ⟨q, 0, none⟩ = some (.int .i64 2) ∧ wx.cell? ⟨q, 1, none⟩ = some (.int .i64 o.index) ∧ wx.cell? ⟨q, 2, none⟩ = some (.int .u8 o.op) ∧ wx.cell? ⟨q, 3, none⟩ = some (.int .i64 o.e))
                      case first =>
                        go_wp2_with (fail)
                        refine K1.out.mono ?_
                        rintro x9 w9 ⟨D9, n9, e9, rfl, hD9, hf9, x9⟩
                        have HM7 := Lib.hid (HM6.out.setX hf9 hD9 x9)
                        have p0 := Lib.hid (cell_five (q := h) (x9.cell o0) qh.symm (.int .i64 R1.stripe) (.int .i64 R1.version) (.int .i64 R1.need) (.int .i64 R1.phase) (.slice D9 n9 e9))
                        have p1 := Lib.hid (cell_five (q := h) (x9.cell o1) qh.symm (.int .i64 R1.stripe) (.int .i64 R1.version) (.int .i64 R1.need) (.int .i64 R1.phase) (.slice D9 n9 e9))
                        have p2 := Lib.hid (cell_five (q := h) (x9.cell o2) qh.symm (.int .i64 R1.stripe) (.int .i64 R1.version) (.int .i64 R1.need) (.int .i64 R1.phase) (.slice D9 n9 e9))
                        have p3 := Lib.hid (cell_five (q := h) (x9.cell o3) qh.symm (.int .i64 R1.stripe) (.int .i64 R1.version) (.int .i64 R1.need) (.int .i64 R1.phase) (.slice D9 n9 e9))
                        have u6 := (HM6.out.x.ext x9).bx
                        have u0 := u6.c0
                        have z0 := u6.fz 0
                        have u1 := u6.c1
                        have z1 := u6.fz 1
                        have u2 := u6.c2
                        have z2 := u6.fz 2
                        have u3 := u6.c3
                        have z3 := u6.fz 3
                        have u4 := u6.c4
                        have z4 := u6.fz 4
                        have lh9 := u6.lt
                        clear K1 K2 HM6 HOB u6 x9 hf9 hD9 a0 a1 a2 a3 a4 o0 o1 o2 o3
                        go_wp2_with (fail)
                        go_meet
                        exact ⟨_, rfl, D9, n9, e9, rfl, HM7.out, p0.out, p1.out, p2.out, p3.out⟩
                      case rest =>
                        clear o0 o1 o2 o3 a0 a1 a2 a3 a4 HM6 HOB K1
                        obtain ⟨W7, rfl, B, n7, e7, rfl, hM7, o0, o1, o2, o3⟩ := hcut
                        have HM7 := Lib.hid hM7
                        have v6 := hM7.y.bx
                        have v0 := v6.c0
                        have v1 := v6.c1
                        have v2 := v6.c2
                        have v3 := v6.c3
                        have v4 := v6.c4
                        clear v6 hM7
                        go_wp2_with (fail)
                        refine (K2.out _ HM7.out.y.row.is_).mono ?_
                        rintro x8 w8 ⟨D8, n8, e8, rfl, hD8, hf8, x8⟩
                        have HM8 := Lib.hid (HM7.out.setY hf8 hD8 x8)
                        have v6 := (HM7.out.y.ext x8).bx
                        clear o0 o1 o2 o3 v0 v1 v2 v3 v4
                        have v0 := v6.c0
                        have z0 := v6.fz 0
                        have v1 := v6.c1
                        have z1 := v6.fz 1
                        have v2 := v6.c2
                        have z2 := v6.fz 2
                        have v3 := v6.c3
                        have z3 := v6.fz 3
                        have v4 := v6.c4
                        have z4 := v6.fz 4
                        have lf8 := v6.lt
                        clear K2 HM7 v6 x8 hf8 hD8
                        go_wp2_with (fail)
                        go_meet
                        exact ⟨_, rfl, R1, E, B, n7, e7, D8, n8, e8, rfl, rfl, hRl, HM8.out⟩
                  · have fk2 : (kd == 2) = false := by rw [beq_eq_false_iff_ne]; exact hk2
                    clear hk2
                    by_cases hk3 : kd = 3
                    · subst hk3
                      as_aux_lemma =>
                        obtain ⟨R1, hR1⟩ : ∃ R1, Rounds.told r o.index o.op o.e = R1 := ⟨_, rfl⟩
                        obtain ⟨E, hE⟩ : ∃ E, Rounds.toldE r o.index = E := ⟨_, rfl⟩
                        have hRl : R1.marks.length = N := by rw [← hR1, told_len']; exact HRL.out
                        have k1 := told_any W6 r D N e HM6.out.a.row.is_ (by omega) o.index o.op o.e
                        have k2 := fun (W : World) (hi : Is W D2 m2 e2 r.marks) => refTold_any W r D2 m2 e2 hi (by have := hi.len; have := HRL.out; omega) o.index o.op o.e
                        rw [hR1, hE] at k1 k2
                        have K1 := Lib.hid k1
                        have K2 := Lib.hid k2
                        clear k1 k2 hR1 hE
                        go_upto_region 22 with (fail)
                        go_cut [15] (fun s15 wx => ∃ wv : World, wv = wx ∧ ∃ (B : Option Addr) (n7 e7 : Nat), s15 = .int .i64 E ∧ Mid w wx g f h r R1 r D N e B n7 e7 D2 m2 e2 Aw N cw ∧ wx.cell? ⟨q, 0, none⟩ = some (.int .i64 3) ∧ wx.cell? ⟨q, 1, none⟩ = some (.int .i64 o.index) ∧ wx.cell? ⟨q, 2, none⟩ = some (.int .u8 o.op) ∧ wx.cell? ⟨q, 3, none⟩ = some (.int .i64 o.e))
                        case first =>
                          go_wp2_with (fail)
                          refine K1.out.mono ?_
                          rintro x9 w9 ⟨D9, n9, e9, rfl, hD9, hf9, x9⟩
                          have HM7 := Lib.hid (HM6.out.setX hf9 hD9 x9)
                          have p0 := Lib.hid (cell_five (q := h) (x9.cell o0) qh.symm (.int .i64 R1.stripe) (.int .i64 R1.version) (.int .i64 R1.need) (.int .i64 R1.phase) (.slice D9 n9 e9))
                          have p1 := Lib.hid (cell_five (q := h) (x9.cell o1) qh.symm (.int .i64 R1.stripe) (.int .i64 R1.version) (.int .i64 R1.need) (.int .i64 R1.phase) (.slice D9 n9 e9))
                          have p2 := Lib.hid (cell_five (q := h) (x9.cell o2) qh.symm (.int .i64 R1.stripe) (.int .i64 R1.version) (.int .i64 R1.need) (.int .i64 R1.phase) (.slice D9 n9 e9))
                          have p3 := Lib.hid (cell_five (q := h) (x9.cell o3) qh.symm (.int .i64 R1.stripe) (.int .i64 R1.version) (.int .i64 R1.need) (.int .i64 R1.phase) (.slice D9 n9 e9))
                          have u6 := (HM6.out.x.ext x9).bx
                          have u0 := u6.c0
                          have z0 := u6.fz 0
                          have u1 := u6.c1
                          have z1 := u6.fz 1
                          have u2 := u6.c2
                          have z2 := u6.fz 2
                          have u3 := u6.c3
                          have z3 := u6.fz 3
                          have u4 := u6.c4
                          have z4 := u6.fz 4
                          have lh9 := u6.lt
                          clear K1 K2 HM6 HOB u6 x9 hf9 hD9 a0 a1 a2 a3 a4 o0 o1 o2 o3
                          go_wp2_with (fail)
                          go_meet
                          exact ⟨_, rfl, D9, n9, e9, rfl, HM7.out, p0.out, p1.out, p2.out, p3.out⟩
                        case rest =>
                          clear o0 o1 o2 o3 a0 a1 a2 a3 a4 HM6 HOB K1
                          obtain ⟨W7, rfl, B, n7, e7, rfl, hM7, o0, o1, o2, o3⟩ := hcut
                          have HM7 := Lib.hid hM7
                          have v6 := hM7.y.bx
                          have v0 := v6.c0
                          have v1 := v6.c1
                          have v2 := v6.c2
                          have v3 := v6.c3
                          have v4 := v6.c4
                          clear v6 hM7
                          go_wp2_with (fail)
                          refine (K2.out _ HM7.out.y.row.is_).mono ?_
                          rintro x8 w8 ⟨D8, n8, e8, rfl, hD8, hf8, x8⟩
                          have HM8 := Lib.hid (HM7.out.setY hf8 hD8 x8)
                          have v6 := (HM7.out.y.ext x8).bx
                          clear o0 o1 o2 o3 v0 v1 v2 v3 v4
                          have v0 := v6.c0
                          have z0 := v6.fz 0
                          have v1 := v6.c1
                          have z1 := v6.fz 1
                          have v2 := v6.c2
                          have z2 := v6.fz 2
                          have v3 := v6.c3
                          have z3 := v6.fz 3
                          have v4 := v6.c4
                          have z4 := v6.fz 4
                          have lf8 := v6.lt
                          clear K2 HM7 v6 x8 hf8 hD8
                          go_wp2_with (fail)
                          go_meet
                          exact ⟨_, rfl, R1, E, B, n7, e7, D8, n8, e8, rfl, rfl, hRl, HM8.out⟩
                    · have fk3 : (kd == 3) = false := by rw [beq_eq_false_iff_ne]; exact hk3
                      clear hk3
                      by_cases hk4 : kd = 4
                      · subst hk4
                        as_aux_lemma =>
                          obtain ⟨R1, hR1⟩ : ∃ R1, Rounds.told r o.index o.op o.e = R1 := ⟨_, rfl⟩
                          obtain ⟨E, hE⟩ : ∃ E, Rounds.toldE r o.index = E := ⟨_, rfl⟩
                          have hRl : R1.marks.length = N := by rw [← hR1, told_len']; exact HRL.out
                          have k1 := told_any W6 r D N e HM6.out.a.row.is_ (by omega) o.index o.op o.e
                          have k2 := fun (W : World) (hi : Is W D2 m2 e2 r.marks) => refTold_any W r D2 m2 e2 hi (by have := hi.len; have := HRL.out; omega) o.index o.op o.e
                          rw [hR1, hE] at k1 k2
                          have K1 := Lib.hid k1
                          have K2 := Lib.hid k2
                          clear k1 k2 hR1 hE
                          go_upto_region 22 with (fail)
                          go_cut [15] (fun s15 wx => ∃ wv : World, wv = wx ∧ ∃ (B : Option Addr) (n7 e7 : Nat), s15 = .int .i64 E ∧ Mid w wx g f h r R1 r D N e B n7 e7 D2 m2 e2 Aw N cw ∧ wx.cell? ⟨q, 0, none⟩ = some (.int .i64 4) ∧ wx.cell? ⟨q, 1, none⟩ = some (.int .i64 o.index) ∧ wx.cell? ⟨q, 2, none⟩ = some (.int .u8 o.op) ∧ wx.cell? ⟨q, 3, none⟩ = some (.int .i64 o.e))
                          case first =>
                            go_wp2_with (fail)
                            refine K1.out.mono ?_
                            rintro x9 w9 ⟨D9, n9, e9, rfl, hD9, hf9, x9⟩
                            have HM7 := Lib.hid (HM6.out.setX hf9 hD9 x9)
                            have p0 := Lib.hid (cell_five (q := h) (x9.cell o0) qh.symm (.int .i64 R1.stripe) (.int .i64 R1.version) (.int .i64 R1.need) (.int .i64 R1.phase) (.slice D9 n9 e9))
                            have p1 := Lib.hid (cell_five (q := h) (x9.cell o1) qh.symm (.int .i64 R1.stripe) (.int .i64 R1.version) (.int .i64 R1.need) (.int .i64 R1.phase) (.slice D9 n9 e9))
                            have p2 := Lib.hid (cell_five (q := h) (x9.cell o2) qh.symm (.int .i64 R1.stripe) (.int .i64 R1.version) (.int .i64 R1.need) (.int .i64 R1.phase) (.slice D9 n9 e9))
                            have p3 := Lib.hid (cell_five (q := h) (x9.cell o3) qh.symm (.int .i64 R1.stripe) (.int .i64 R1.version) (.int .i64 R1.need) (.int .i64 R1.phase) (.slice D9 n9 e9))
                            have u6 := (HM6.out.x.ext x9).bx
                            have u0 := u6.c0
                            have z0 := u6.fz 0
                            have u1 := u6.c1
                            have z1 := u6.fz 1
                            have u2 := u6.c2
                            have z2 := u6.fz 2
                            have u3 := u6.c3
                            have z3 := u6.fz 3
                            have u4 := u6.c4
                            have z4 := u6.fz 4
                            have lh9 := u6.lt
                            clear K1 K2 HM6 HOB u6 x9 hf9 hD9 a0 a1 a2 a3 a4 o0 o1 o2 o3
                            go_wp2_with (fail)
                            go_meet
                            exact ⟨_, rfl, D9, n9, e9, rfl, HM7.out, p0.out, p1.out, p2.out, p3.out⟩
                          case rest =>
                            clear o0 o1 o2 o3 a0 a1 a2 a3 a4 HM6 HOB K1
                            obtain ⟨W7, rfl, B, n7, e7, rfl, hM7, o0, o1, o2, o3⟩ := hcut
                            have HM7 := Lib.hid hM7
                            have v6 := hM7.y.bx
                            have v0 := v6.c0
                            have v1 := v6.c1
                            have v2 := v6.c2
                            have v3 := v6.c3
                            have v4 := v6.c4
                            clear v6 hM7
                            go_wp2_with (fail)
                            refine (K2.out _ HM7.out.y.row.is_).mono ?_
                            rintro x8 w8 ⟨D8, n8, e8, rfl, hD8, hf8, x8⟩
                            have HM8 := Lib.hid (HM7.out.setY hf8 hD8 x8)
                            have v6 := (HM7.out.y.ext x8).bx
                            clear o0 o1 o2 o3 v0 v1 v2 v3 v4
                            have v0 := v6.c0
                            have z0 := v6.fz 0
                            have v1 := v6.c1
                            have z1 := v6.fz 1
                            have v2 := v6.c2
                            have z2 := v6.fz 2
                            have v3 := v6.c3
                            have z3 := v6.fz 3
                            have v4 := v6.c4
                            have z4 := v6.fz 4
                            have lf8 := v6.lt
                            clear K2 HM7 v6 x8 hf8 hD8
                            go_wp2_with (fail)
                            go_meet
                            exact ⟨_, rfl, R1, E, B, n7, e7, D8, n8, e8, rfl, rfl, hRl, HM8.out⟩
                      · have fk4 : (kd == 4) = false := by rw [beq_eq_false_iff_ne]; exact hk4
                        clear hk4
                        by_cases hk5 : kd = 5
                        · subst hk5
                          as_aux_lemma =>
                            obtain ⟨R1, hR1⟩ : ∃ R1, Rounds.told r o.index o.op o.e = R1 := ⟨_, rfl⟩
                            obtain ⟨E, hE⟩ : ∃ E, Rounds.toldE r o.index = E := ⟨_, rfl⟩
                            have hRl : R1.marks.length = N := by rw [← hR1, told_len']; exact HRL.out
                            have k1 := told_any W6 r D N e HM6.out.a.row.is_ (by omega) o.index o.op o.e
                            have k2 := fun (W : World) (hi : Is W D2 m2 e2 r.marks) => refTold_any W r D2 m2 e2 hi (by have := hi.len; have := HRL.out; omega) o.index o.op o.e
                            rw [hR1, hE] at k1 k2
                            have K1 := Lib.hid k1
                            have K2 := Lib.hid k2
                            clear k1 k2 hR1 hE
                            go_upto_region 22 with (fail)
                            go_cut [15] (fun s15 wx => ∃ wv : World, wv = wx ∧ ∃ (B : Option Addr) (n7 e7 : Nat), s15 = .int .i64 E ∧ Mid w wx g f h r R1 r D N e B n7 e7 D2 m2 e2 Aw N cw ∧ wx.cell? ⟨q, 0, none⟩ = some (.int .i64 5) ∧ wx.cell? ⟨q, 1, none⟩ = some (.int .i64 o.index) ∧ wx.cell? ⟨q, 2, none⟩ = some (.int .u8 o.op) ∧ wx.cell? ⟨q, 3, none⟩ = some (.int .i64 o.e))
                            case first =>
                              go_wp2_with (fail)
                              refine K1.out.mono ?_
                              rintro x9 w9 ⟨D9, n9, e9, rfl, hD9, hf9, x9⟩
                              have HM7 := Lib.hid (HM6.out.setX hf9 hD9 x9)
                              have p0 := Lib.hid (cell_five (q := h) (x9.cell o0) qh.symm (.int .i64 R1.stripe) (.int .i64 R1.version) (.int .i64 R1.need) (.int .i64 R1.phase) (.slice D9 n9 e9))
                              have p1 := Lib.hid (cell_five (q := h) (x9.cell o1) qh.symm (.int .i64 R1.stripe) (.int .i64 R1.version) (.int .i64 R1.need) (.int .i64 R1.phase) (.slice D9 n9 e9))
                              have p2 := Lib.hid (cell_five (q := h) (x9.cell o2) qh.symm (.int .i64 R1.stripe) (.int .i64 R1.version) (.int .i64 R1.need) (.int .i64 R1.phase) (.slice D9 n9 e9))
                              have p3 := Lib.hid (cell_five (q := h) (x9.cell o3) qh.symm (.int .i64 R1.stripe) (.int .i64 R1.version) (.int .i64 R1.need) (.int .i64 R1.phase) (.slice D9 n9 e9))
                              have u6 := (HM6.out.x.ext x9).bx
                              have u0 := u6.c0
                              have z0 := u6.fz 0
                              have u1 := u6.c1
                              have z1 := u6.fz 1
                              have u2 := u6.c2
                              have z2 := u6.fz 2
                              have u3 := u6.c3
                              have z3 := u6.fz 3
                              have u4 := u6.c4
                              have z4 := u6.fz 4
                              have lh9 := u6.lt
                              clear K1 K2 HM6 HOB u6 x9 hf9 hD9 a0 a1 a2 a3 a4 o0 o1 o2 o3
                              go_wp2_with (fail)
                              go_meet
                              exact ⟨_, rfl, D9, n9, e9, rfl, HM7.out, p0.out, p1.out, p2.out, p3.out⟩
                            case rest =>
                              clear o0 o1 o2 o3 a0 a1 a2 a3 a4 HM6 HOB K1
                              obtain ⟨W7, rfl, B, n7, e7, rfl, hM7, o0, o1, o2, o3⟩ := hcut
                              have HM7 := Lib.hid hM7
                              have v6 := hM7.y.bx
                              have v0 := v6.c0
                              have v1 := v6.c1
                              have v2 := v6.c2
                              have v3 := v6.c3
                              have v4 := v6.c4
                              clear v6 hM7
                              go_wp2_with (fail)
                              refine (K2.out _ HM7.out.y.row.is_).mono ?_
                              rintro x8 w8 ⟨D8, n8, e8, rfl, hD8, hf8, x8⟩
                              have HM8 := Lib.hid (HM7.out.setY hf8 hD8 x8)
                              have v6 := (HM7.out.y.ext x8).bx
                              clear o0 o1 o2 o3 v0 v1 v2 v3 v4
                              have v0 := v6.c0
                              have z0 := v6.fz 0
                              have v1 := v6.c1
                              have z1 := v6.fz 1
                              have v2 := v6.c2
                              have z2 := v6.fz 2
                              have v3 := v6.c3
                              have z3 := v6.fz 3
                              have v4 := v6.c4
                              have z4 := v6.fz 4
                              have lf8 := v6.lt
                              clear K2 HM7 v6 x8 hf8 hD8
                              go_wp2_with (fail)
                              go_meet
                              exact ⟨_, rfl, R1, E, B, n7, e7, D8, n8, e8, rfl, rfl, hRl, HM8.out⟩
                        · have fk5 : (kd == 5) = false := by rw [beq_eq_false_iff_ne]; exact hk5
                          clear hk5
                          by_cases hk6 : kd = 6
                          · subst hk6
                            as_aux_lemma =>
                              obtain ⟨R1, hR1⟩ : ∃ R1, Rounds.told r o.index o.op o.e = R1 := ⟨_, rfl⟩
                              obtain ⟨E, hE⟩ : ∃ E, Rounds.toldE r o.index = E := ⟨_, rfl⟩
                              have hRl : R1.marks.length = N := by rw [← hR1, told_len']; exact HRL.out
                              have k1 := told_any W6 r D N e HM6.out.a.row.is_ (by omega) o.index o.op o.e
                              have k2 := fun (W : World) (hi : Is W D2 m2 e2 r.marks) => refTold_any W r D2 m2 e2 hi (by have := hi.len; have := HRL.out; omega) o.index o.op o.e
                              rw [hR1, hE] at k1 k2
                              have K1 := Lib.hid k1
                              have K2 := Lib.hid k2
                              clear k1 k2 hR1 hE
                              go_upto_region 22 with (fail)
                              go_cut [15] (fun s15 wx => ∃ wv : World, wv = wx ∧ ∃ (B : Option Addr) (n7 e7 : Nat), s15 = .int .i64 E ∧ Mid w wx g f h r R1 r D N e B n7 e7 D2 m2 e2 Aw N cw ∧ wx.cell? ⟨q, 0, none⟩ = some (.int .i64 6) ∧ wx.cell? ⟨q, 1, none⟩ = some (.int .i64 o.index) ∧ wx.cell? ⟨q, 2, none⟩ = some (.int .u8 o.op) ∧ wx.cell? ⟨q, 3, none⟩ = some (.int .i64 o.e))
                              case first =>
                                go_wp2_with (fail)
                                refine K1.out.mono ?_
                                rintro x9 w9 ⟨D9, n9, e9, rfl, hD9, hf9, x9⟩
                                have HM7 := Lib.hid (HM6.out.setX hf9 hD9 x9)
                                have p0 := Lib.hid (cell_five (q := h) (x9.cell o0) qh.symm (.int .i64 R1.stripe) (.int .i64 R1.version) (.int .i64 R1.need) (.int .i64 R1.phase) (.slice D9 n9 e9))
                                have p1 := Lib.hid (cell_five (q := h) (x9.cell o1) qh.symm (.int .i64 R1.stripe) (.int .i64 R1.version) (.int .i64 R1.need) (.int .i64 R1.phase) (.slice D9 n9 e9))
                                have p2 := Lib.hid (cell_five (q := h) (x9.cell o2) qh.symm (.int .i64 R1.stripe) (.int .i64 R1.version) (.int .i64 R1.need) (.int .i64 R1.phase) (.slice D9 n9 e9))
                                have p3 := Lib.hid (cell_five (q := h) (x9.cell o3) qh.symm (.int .i64 R1.stripe) (.int .i64 R1.version) (.int .i64 R1.need) (.int .i64 R1.phase) (.slice D9 n9 e9))
                                have u6 := (HM6.out.x.ext x9).bx
                                have u0 := u6.c0
                                have z0 := u6.fz 0
                                have u1 := u6.c1
                                have z1 := u6.fz 1
                                have u2 := u6.c2
                                have z2 := u6.fz 2
                                have u3 := u6.c3
                                have z3 := u6.fz 3
                                have u4 := u6.c4
                                have z4 := u6.fz 4
                                have lh9 := u6.lt
                                clear K1 K2 HM6 HOB u6 x9 hf9 hD9 a0 a1 a2 a3 a4 o0 o1 o2 o3
                                go_wp2_with (fail)
                                go_meet
                                exact ⟨_, rfl, D9, n9, e9, rfl, HM7.out, p0.out, p1.out, p2.out, p3.out⟩
                              case rest =>
                                clear o0 o1 o2 o3 a0 a1 a2 a3 a4 HM6 HOB K1
                                obtain ⟨W7, rfl, B, n7, e7, rfl, hM7, o0, o1, o2, o3⟩ := hcut
                                have HM7 := Lib.hid hM7
                                have v6 := hM7.y.bx
                                have v0 := v6.c0
                                have v1 := v6.c1
                                have v2 := v6.c2
                                have v3 := v6.c3
                                have v4 := v6.c4
                                clear v6 hM7
                                go_wp2_with (fail)
                                refine (K2.out _ HM7.out.y.row.is_).mono ?_
                                rintro x8 w8 ⟨D8, n8, e8, rfl, hD8, hf8, x8⟩
                                have HM8 := Lib.hid (HM7.out.setY hf8 hD8 x8)
                                have v6 := (HM7.out.y.ext x8).bx
                                clear o0 o1 o2 o3 v0 v1 v2 v3 v4
                                have v0 := v6.c0
                                have z0 := v6.fz 0
                                have v1 := v6.c1
                                have z1 := v6.fz 1
                                have v2 := v6.c2
                                have z2 := v6.fz 2
                                have v3 := v6.c3
                                have z3 := v6.fz 3
                                have v4 := v6.c4
                                have z4 := v6.fz 4
                                have lf8 := v6.lt
                                clear K2 HM7 v6 x8 hf8 hD8
                                go_wp2_with (fail)
                                go_meet
                                exact ⟨_, rfl, R1, E, B, n7, e7, D8, n8, e8, rfl, rfl, hRl, HM8.out⟩
                          · have fk6 : (kd == 6) = false := by rw [beq_eq_false_iff_ne]; exact hk6
                            clear hk6
                            by_cases hk7 : kd = 7
                            · subst hk7
                              as_aux_lemma =>
                                obtain ⟨R1, hR1⟩ : ∃ R1, Rounds.publish r = R1 := ⟨_, rfl⟩
                                obtain ⟨E, hE⟩ : ∃ E, Rounds.turnedE r [2] = E := ⟨_, rfl⟩
                                have hRl : R1.marks.length = N := by rw [← hR1, (show (Rounds.publish r).marks.length = r.marks.length from (Rounds.kept_turned r 3 [2]).len)]; exact HRL.out
                                have k1 := publish_any W6 r D N e HM6.out.a.row.is_ (by omega)
                                have k2 := fun (W : World) (hi : Is W D2 m2 e2 r.marks) => refPublish_any W r D2 m2 e2 hi
                                rw [hR1, hE] at k1 k2
                                have K1 := Lib.hid k1
                                have K2 := Lib.hid k2
                                clear k1 k2 hR1 hE
                                go_upto_region 25 with (fail)
                                go_cut [15] (fun s15 wx => ∃ wv : World, wv = wx ∧ ∃ (B : Option Addr) (n7 e7 : Nat), s15 = .int .i64 E ∧ Mid w wx g f h r R1 r D N e B n7 e7 D2 m2 e2 Aw N cw ∧ wx.cell? ⟨q, 0, none⟩ = some (.int .i64 7) ∧ wx.cell? ⟨q, 1, none⟩ = some (.int .i64 o.index) ∧ wx.cell? ⟨q, 2, none⟩ = some (.int .u8 o.op) ∧ wx.cell? ⟨q, 3, none⟩ = some (.int .i64 o.e))
                                case first =>
                                  go_wp2_with (fail)
                                  refine K1.out.mono ?_
                                  rintro x9 w9 ⟨D9, n9, e9, rfl, hD9, hf9, x9⟩
                                  have HM7 := Lib.hid (HM6.out.setX hf9 hD9 x9)
                                  have p0 := Lib.hid (cell_five (q := h) (x9.cell o0) qh.symm (.int .i64 R1.stripe) (.int .i64 R1.version) (.int .i64 R1.need) (.int .i64 R1.phase) (.slice D9 n9 e9))
                                  have p1 := Lib.hid (cell_five (q := h) (x9.cell o1) qh.symm (.int .i64 R1.stripe) (.int .i64 R1.version) (.int .i64 R1.need) (.int .i64 R1.phase) (.slice D9 n9 e9))
                                  have p2 := Lib.hid (cell_five (q := h) (x9.cell o2) qh.symm (.int .i64 R1.stripe) (.int .i64 R1.version) (.int .i64 R1.need) (.int .i64 R1.phase) (.slice D9 n9 e9))
                                  have p3 := Lib.hid (cell_five (q := h) (x9.cell o3) qh.symm (.int .i64 R1.stripe) (.int .i64 R1.version) (.int .i64 R1.need) (.int .i64 R1.phase) (.slice D9 n9 e9))
                                  have u6 := (HM6.out.x.ext x9).bx
                                  have u0 := u6.c0
                                  have z0 := u6.fz 0
                                  have u1 := u6.c1
                                  have z1 := u6.fz 1
                                  have u2 := u6.c2
                                  have z2 := u6.fz 2
                                  have u3 := u6.c3
                                  have z3 := u6.fz 3
                                  have u4 := u6.c4
                                  have z4 := u6.fz 4
                                  have lh9 := u6.lt
                                  clear K1 K2 HM6 HOB u6 x9 hf9 hD9 a0 a1 a2 a3 a4 o0 o1 o2 o3
                                  go_wp2_with (fail)
                                  go_meet
                                  exact ⟨_, rfl, D9, n9, e9, rfl, HM7.out, p0.out, p1.out, p2.out, p3.out⟩
                                case rest =>
                                  clear o0 o1 o2 o3 a0 a1 a2 a3 a4 HM6 HOB K1
                                  obtain ⟨W7, rfl, B, n7, e7, rfl, hM7, o0, o1, o2, o3⟩ := hcut
                                  have HM7 := Lib.hid hM7
                                  have v6 := hM7.y.bx
                                  have v0 := v6.c0
                                  have v1 := v6.c1
                                  have v2 := v6.c2
                                  have v3 := v6.c3
                                  have v4 := v6.c4
                                  clear v6 hM7
                                  go_wp2_with (fail)
                                  refine (K2.out _ HM7.out.y.row.is_).mono ?_
                                  rintro x8 w8 ⟨D8, n8, e8, rfl, hD8, hf8, x8⟩
                                  have HM8 := Lib.hid (HM7.out.setY hf8 hD8 x8)
                                  have v6 := (HM7.out.y.ext x8).bx
                                  clear o0 o1 o2 o3 v0 v1 v2 v3 v4
                                  have v0 := v6.c0
                                  have z0 := v6.fz 0
                                  have v1 := v6.c1
                                  have z1 := v6.fz 1
                                  have v2 := v6.c2
                                  have z2 := v6.fz 2
                                  have v3 := v6.c3
                                  have z3 := v6.fz 3
                                  have v4 := v6.c4
                                  have z4 := v6.fz 4
                                  have lf8 := v6.lt
                                  clear K2 HM7 v6 x8 hf8 hD8
                                  go_wp2_with (fail)
                                  go_meet
                                  exact ⟨_, rfl, R1, E, B, n7, e7, D8, n8, e8, rfl, rfl, hRl, HM8.out⟩
                            · have fk7 : (kd == 7) = false := by rw [beq_eq_false_iff_ne]; exact hk7
                              clear hk7
                              by_cases hk8 : kd = 8
                              · subst hk8
                                as_aux_lemma =>
                                  obtain ⟨R1, hR1⟩ : ∃ R1, Rounds.give r = R1 := ⟨_, rfl⟩
                                  obtain ⟨E, hE⟩ : ∃ E, Rounds.turnedE r [1, 2] = E := ⟨_, rfl⟩
                                  have hRl : R1.marks.length = N := by rw [← hR1, (show (Rounds.give r).marks.length = r.marks.length from (Rounds.kept_turned r 5 [1, 2]).len)]; exact HRL.out
                                  have k1 := give_any W6 r D N e HM6.out.a.row.is_ (by omega)
                                  have k2 := fun (W : World) (hi : Is W D2 m2 e2 r.marks) => refGive_any W r D2 m2 e2 hi
                                  rw [hR1, hE] at k1 k2
                                  have K1 := Lib.hid k1
                                  have K2 := Lib.hid k2
                                  clear k1 k2 hR1 hE
                                  go_upto_region 28 with (fail)
                                  go_cut [15] (fun s15 wx => ∃ wv : World, wv = wx ∧ ∃ (B : Option Addr) (n7 e7 : Nat), s15 = .int .i64 E ∧ Mid w wx g f h r R1 r D N e B n7 e7 D2 m2 e2 Aw N cw ∧ wx.cell? ⟨q, 0, none⟩ = some (.int .i64 8) ∧ wx.cell? ⟨q, 1, none⟩ = some (.int .i64 o.index) ∧ wx.cell? ⟨q, 2, none⟩ = some (.int .u8 o.op) ∧ wx.cell? ⟨q, 3, none⟩ = some (.int .i64 o.e))
                                  case first =>
                                    go_wp2_with (fail)
                                    refine K1.out.mono ?_
                                    rintro x9 w9 ⟨D9, n9, e9, rfl, hD9, hf9, x9⟩
                                    have HM7 := Lib.hid (HM6.out.setX hf9 hD9 x9)
                                    have p0 := Lib.hid (cell_five (q := h) (x9.cell o0) qh.symm (.int .i64 R1.stripe) (.int .i64 R1.version) (.int .i64 R1.need) (.int .i64 R1.phase) (.slice D9 n9 e9))
                                    have p1 := Lib.hid (cell_five (q := h) (x9.cell o1) qh.symm (.int .i64 R1.stripe) (.int .i64 R1.version) (.int .i64 R1.need) (.int .i64 R1.phase) (.slice D9 n9 e9))
                                    have p2 := Lib.hid (cell_five (q := h) (x9.cell o2) qh.symm (.int .i64 R1.stripe) (.int .i64 R1.version) (.int .i64 R1.need) (.int .i64 R1.phase) (.slice D9 n9 e9))
                                    have p3 := Lib.hid (cell_five (q := h) (x9.cell o3) qh.symm (.int .i64 R1.stripe) (.int .i64 R1.version) (.int .i64 R1.need) (.int .i64 R1.phase) (.slice D9 n9 e9))
                                    have u6 := (HM6.out.x.ext x9).bx
                                    have u0 := u6.c0
                                    have z0 := u6.fz 0
                                    have u1 := u6.c1
                                    have z1 := u6.fz 1
                                    have u2 := u6.c2
                                    have z2 := u6.fz 2
                                    have u3 := u6.c3
                                    have z3 := u6.fz 3
                                    have u4 := u6.c4
                                    have z4 := u6.fz 4
                                    have lh9 := u6.lt
                                    clear K1 K2 HM6 HOB u6 x9 hf9 hD9 a0 a1 a2 a3 a4 o0 o1 o2 o3
                                    go_wp2_with (fail)
                                    go_meet
                                    exact ⟨_, rfl, D9, n9, e9, rfl, HM7.out, p0.out, p1.out, p2.out, p3.out⟩
                                  case rest =>
                                    clear o0 o1 o2 o3 a0 a1 a2 a3 a4 HM6 HOB K1
                                    obtain ⟨W7, rfl, B, n7, e7, rfl, hM7, o0, o1, o2, o3⟩ := hcut
                                    have HM7 := Lib.hid hM7
                                    have v6 := hM7.y.bx
                                    have v0 := v6.c0
                                    have v1 := v6.c1
                                    have v2 := v6.c2
                                    have v3 := v6.c3
                                    have v4 := v6.c4
                                    clear v6 hM7
                                    go_wp2_with (fail)
                                    refine (K2.out _ HM7.out.y.row.is_).mono ?_
                                    rintro x8 w8 ⟨D8, n8, e8, rfl, hD8, hf8, x8⟩
                                    have HM8 := Lib.hid (HM7.out.setY hf8 hD8 x8)
                                    have v6 := (HM7.out.y.ext x8).bx
                                    clear o0 o1 o2 o3 v0 v1 v2 v3 v4
                                    have v0 := v6.c0
                                    have z0 := v6.fz 0
                                    have v1 := v6.c1
                                    have z1 := v6.fz 1
                                    have v2 := v6.c2
                                    have z2 := v6.fz 2
                                    have v3 := v6.c3
                                    have z3 := v6.fz 3
                                    have v4 := v6.c4
                                    have z4 := v6.fz 4
                                    have lf8 := v6.lt
                                    clear K2 HM7 v6 x8 hf8 hD8
                                    go_wp2_with (fail)
                                    go_meet
                                    exact ⟨_, rfl, R1, E, B, n7, e7, D8, n8, e8, rfl, rfl, hRl, HM8.out⟩
                              · have fk8 : (kd == 8) = false := by rw [beq_eq_false_iff_ne]; exact hk8
                                clear hk8
                                by_cases hk9 : kd = 9
                                · subst hk9
                                  as_aux_lemma =>
                                    obtain ⟨R1, hR1⟩ : ∃ R1, Rounds.lose r o.index = R1 := ⟨_, rfl⟩
                                    obtain ⟨E, hE⟩ : ∃ E, Rounds.toldE r o.index = E := ⟨_, rfl⟩
                                    have hRl : R1.marks.length = N := by rw [← hR1, (Rounds.kept_lose r o.index).len]; exact HRL.out
                                    have k1 := lose_any W6 r D N e HM6.out.a.row.is_ (by omega) o.index
                                    have k2 := fun (W : World) (hi : Is W D2 m2 e2 r.marks) => refLose_any W r D2 m2 e2 hi (by have := hi.len; have := HRL.out; omega) o.index
                                    rw [hR1, hE] at k1 k2
                                    have K1 := Lib.hid k1
                                    have K2 := Lib.hid k2
                                    clear k1 k2 hR1 hE
                                    go_upto_region 31 with (fail)
                                    go_cut [15] (fun s15 wx => ∃ wv : World, wv = wx ∧ ∃ (B : Option Addr) (n7 e7 : Nat), s15 = .int .i64 E ∧ Mid w wx g f h r R1 r D N e B n7 e7 D2 m2 e2 Aw N cw ∧ wx.cell? ⟨q, 0, none⟩ = some (.int .i64 9) ∧ wx.cell? ⟨q, 1, none⟩ = some (.int .i64 o.index) ∧ wx.cell? ⟨q, 2, none⟩ = some (.int .u8 o.op) ∧ wx.cell? ⟨q, 3, none⟩ = some (.int .i64 o.e))
                                    case first =>
                                      go_wp2_with (fail)
                                      refine K1.out.mono ?_
                                      rintro x9 w9 ⟨D9, n9, e9, rfl, hD9, hf9, x9⟩
                                      have HM7 := Lib.hid (HM6.out.setX hf9 hD9 x9)
                                      have p0 := Lib.hid (cell_five (q := h) (x9.cell o0) qh.symm (.int .i64 R1.stripe) (.int .i64 R1.version) (.int .i64 R1.need) (.int .i64 R1.phase) (.slice D9 n9 e9))
                                      have p1 := Lib.hid (cell_five (q := h) (x9.cell o1) qh.symm (.int .i64 R1.stripe) (.int .i64 R1.version) (.int .i64 R1.need) (.int .i64 R1.phase) (.slice D9 n9 e9))
                                      have p2 := Lib.hid (cell_five (q := h) (x9.cell o2) qh.symm (.int .i64 R1.stripe) (.int .i64 R1.version) (.int .i64 R1.need) (.int .i64 R1.phase) (.slice D9 n9 e9))
                                      have p3 := Lib.hid (cell_five (q := h) (x9.cell o3) qh.symm (.int .i64 R1.stripe) (.int .i64 R1.version) (.int .i64 R1.need) (.int .i64 R1.phase) (.slice D9 n9 e9))
                                      have u6 := (HM6.out.x.ext x9).bx
                                      have u0 := u6.c0
                                      have z0 := u6.fz 0
                                      have u1 := u6.c1
                                      have z1 := u6.fz 1
                                      have u2 := u6.c2
                                      have z2 := u6.fz 2
                                      have u3 := u6.c3
                                      have z3 := u6.fz 3
                                      have u4 := u6.c4
                                      have z4 := u6.fz 4
                                      have lh9 := u6.lt
                                      clear K1 K2 HM6 HOB u6 x9 hf9 hD9 a0 a1 a2 a3 a4 o0 o1 o2 o3
                                      go_wp2_with (fail)
                                      go_meet
                                      exact ⟨_, rfl, D9, n9, e9, rfl, HM7.out, p0.out, p1.out, p2.out, p3.out⟩
                                    case rest =>
                                      clear o0 o1 o2 o3 a0 a1 a2 a3 a4 HM6 HOB K1
                                      obtain ⟨W7, rfl, B, n7, e7, rfl, hM7, o0, o1, o2, o3⟩ := hcut
                                      have HM7 := Lib.hid hM7
                                      have v6 := hM7.y.bx
                                      have v0 := v6.c0
                                      have v1 := v6.c1
                                      have v2 := v6.c2
                                      have v3 := v6.c3
                                      have v4 := v6.c4
                                      clear v6 hM7
                                      go_wp2_with (fail)
                                      refine (K2.out _ HM7.out.y.row.is_).mono ?_
                                      rintro x8 w8 ⟨D8, n8, e8, rfl, hD8, hf8, x8⟩
                                      have HM8 := Lib.hid (HM7.out.setY hf8 hD8 x8)
                                      have v6 := (HM7.out.y.ext x8).bx
                                      clear o0 o1 o2 o3 v0 v1 v2 v3 v4
                                      have v0 := v6.c0
                                      have z0 := v6.fz 0
                                      have v1 := v6.c1
                                      have z1 := v6.fz 1
                                      have v2 := v6.c2
                                      have z2 := v6.fz 2
                                      have v3 := v6.c3
                                      have z3 := v6.fz 3
                                      have v4 := v6.c4
                                      have z4 := v6.fz 4
                                      have lf8 := v6.lt
                                      clear K2 HM7 v6 x8 hf8 hD8
                                      go_wp2_with (fail)
                                      go_meet
                                      exact ⟨_, rfl, R1, E, B, n7, e7, D8, n8, e8, rfl, rfl, hRl, HM8.out⟩
                                · have fk9 : (kd == 9) = false := by rw [beq_eq_false_iff_ne]; exact hk9
                                  clear hk9
                                  go_wp2_with (fail)
                                  go_meet
                                  exact ⟨_, rfl, r, 0, D, N, e, D2, m2, e2, rfl, rfl, HRL.out, HM6.out⟩
          case rest =>
            obtain ⟨wv, rfl, R1, E, D1, n1, e1, D3, n3, e3, rfl, rfl, hRl, hM⟩ := hcut
            have hn1 : N = n1 := by rw [← hM.x.row.is_.len]; exact hRl.symm
            have hn3 : N = n3 := by rw [← hM.y.row.is_.len]; exact hRl.symm
            subst hn1
            subst hn3
            have eEE : (E != E) = false := by simp
            have HC1 := Lib.hid (fun (W : World) (hW : Ext wv W) => (show Calls Try.prog 21 #[rval R1 D1 N e1, rval R1 D3 N e3] W (fun x w' => x = .returned (.bool true) ∧ Ext wv w') from (sameRound_any W R1 R1 D1 D3 N e1 N e3 (hM.x.row.is_.ext hW) (hM.y.row.is_.ext hW)).mono (fun x w' h => ⟨by rw [h.1, decide_eq_true rfl], hW.trans h.2⟩)))
            have HC2 := Lib.hid (fun (W : World) (hW : Ext wv W) => (show Calls Try.prog 29 #[.slice D N e, .slice Aw N cw] W (fun x w' => x = .returned (.bool true) ∧ Ext wv w') from (sameInts_any W D Aw N e N cw r.marks r.marks (hM.a.row.is_.ext hW) (hM.u.is_.ext hW)).mono (fun x w' h => ⟨by rw [h.1, decide_eq_true rfl], hW.trans h.2.ext⟩)))
            obtain ⟨bR, hbR⟩ : ∃ b, decide (Rounds.Right R1) = b := ⟨_, rfl⟩
            have HC3 := Lib.hid (fun (W : World) (hW : Ext wv W) => (show Calls Try.prog 15 #[rval R1 D1 N e1] W (fun x w' => x = .returned (.bool bR) ∧ Ext wv w') from (right_any W R1 D1 N e1 (hM.x.row.is_.ext hW)).mono (fun x w' h => ⟨by rw [h.1, hbR], hW.trans h.2⟩)))
            have HC4 := Lib.hid (fun (W : World) (hW : Ext wv W) => (show Calls Try.prog 30 #[rval R1 D3 N e3] W (fun x w' => x = .returned (.bool bR) ∧ Ext wv w') from (refRight_any W R1 D3 N e3 (hM.y.row.is_.ext hW)).mono (fun x w' h => ⟨by rw [h.1, hbR], hW.trans h.2⟩)))
            obtain ⟨L, hL⟩ : ∃ L, Rounds.wants R1 = L := ⟨_, rfl⟩
            have HC5 := Lib.hid (fun (W : World) (hW : Ext wv W) => (show Calls Try.prog 22 #[rval R1 D1 N e1] W (fun x w' => ∃ A n c, x = .returned (.slice A n c) ∧ Ws w' A n c L ∧ Ext W w' ∧ Ext wv w') from (wants_any W R1 D1 N e1 (hM.x.row.is_.ext hW)).mono (fun x w' ⟨A, n, c, h1, h2, h3⟩ => ⟨A, n, c, h1, by rw [← hL]; exact h2, h3, hW.trans h3⟩)))
            have HC6 := Lib.hid (fun (W : World) (hW : Ext wv W) => (show Calls Try.prog 32 #[rval R1 D3 N e3] W (fun x w' => ∃ A n c, x = .returned (.slice A n c) ∧ Ws w' A n c L ∧ Ext W w' ∧ Ext wv w') from (refWants_any W R1 D3 N e3 (hM.y.row.is_.ext hW)).mono (fun x w' ⟨A, n, c, h1, h2, h3⟩ => ⟨A, n, c, h1, by rw [← hL]; exact h2, h3, hW.trans h3⟩)))
            have HC7 := Lib.hid (fun (W : World) (hW : Ext wv W) (A B : Option Addr) (n c m d : Nat) (hx : Ws W A n c L) (hy : Ws W B m d L) => (show Calls Try.prog 31 #[.slice A n c, .slice B m d] W (fun x w' => x = .returned (.bool true) ∧ Ext wv w') from (sameWants_any W A B n c m d L L hx hy).mono (fun x w' h => ⟨by rw [h.1, decide_eq_true rfl], hW.trans h.2.ext⟩)))
            have hS : ∀ W : World, Ext wv W → (W.cell? ⟨h, 0, none⟩ = some (.int .i64 R1.stripe) ∧ W.cell? ⟨h, 1, none⟩ = some (.int .i64 R1.version) ∧ W.cell? ⟨h, 2, none⟩ = some (.int .i64 R1.need) ∧ W.cell? ⟨h, 3, none⟩ = some (.int .i64 R1.phase) ∧ W.cell? ⟨h, 4, none⟩ = some (.slice D1 N e1) ∧ W.cell? ⟨f, 0, none⟩ = some (.int .i64 R1.stripe) ∧ W.cell? ⟨f, 1, none⟩ = some (.int .i64 R1.version) ∧ W.cell? ⟨f, 2, none⟩ = some (.int .i64 R1.need) ∧ W.cell? ⟨f, 3, none⟩ = some (.int .i64 R1.phase) ∧ W.cell? ⟨f, 4, none⟩ = some (.slice D3 N e3) ∧ W.cell? ⟨g, 4, none⟩ = some (.slice D N e)) :=
              fun W hW => ⟨hW.cell hM.x.bx.c0, hW.cell hM.x.bx.c1, hW.cell hM.x.bx.c2, hW.cell hM.x.bx.c3, hW.cell hM.x.bx.c4, hW.cell hM.y.bx.c0, hW.cell hM.y.bx.c1, hW.cell hM.y.bx.c2, hW.cell hM.y.bx.c3, hW.cell hM.y.bx.c4, hW.cell hM.a.bx.c4⟩
            have HS := Lib.hid hS
            have HM := Lib.hid hM
            have HRl := Lib.hid hRl
            clear hS hM hbR hL HRL hRl hl5
            go_wp2_with (fail)
            go_cut [183] (fun s183 wx => ∃ wy : World, wy = wx ∧ s183 = .bool false ∧ Ext wv wx)
            case first =>
              as_aux_lemma =>
                go_region_held3 (fun W => W.cell? ⟨h, 0, none⟩ = some (.int .i64 R1.stripe) ∧ W.cell? ⟨h, 1, none⟩ = some (.int .i64 R1.version) ∧ W.cell? ⟨h, 2, none⟩ = some (.int .i64 R1.need) ∧ W.cell? ⟨h, 3, none⟩ = some (.int .i64 R1.phase) ∧ W.cell? ⟨h, 4, none⟩ = some (.slice D1 N e1) ∧ W.cell? ⟨f, 0, none⟩ = some (.int .i64 R1.stripe) ∧ W.cell? ⟨f, 1, none⟩ = some (.int .i64 R1.version) ∧ W.cell? ⟨f, 2, none⟩ = some (.int .i64 R1.need) ∧ W.cell? ⟨f, 3, none⟩ = some (.int .i64 R1.phase) ∧ W.cell? ⟨f, 4, none⟩ = some (.slice D3 N e3) ∧ W.cell? ⟨g, 4, none⟩ = some (.slice D N e))
                  (first | (refine HS.out _ ?_; (first | assumption | (with_reducible exact Ext.drew _))))
                  (first
                    | ((with_reducible refine (HC1.out _ ?_).mono ?_); (focus (first | assumption | (with_reducible exact Ext.drew _))); rintro x9 w9 ⟨rfl, x9⟩)
                    | ((with_reducible refine (HC2.out _ ?_).mono ?_); (focus (first | assumption | (with_reducible exact Ext.drew _))); rintro x9 w9 ⟨rfl, x9⟩)
                    | ((with_reducible refine (HC3.out _ ?_).mono ?_); (focus (first | assumption | (with_reducible exact Ext.drew _))); rintro x9 w9 ⟨rfl, x9⟩)
                    | ((with_reducible refine (HC4.out _ ?_).mono ?_); (focus (first | assumption | (with_reducible exact Ext.drew _))); rintro x9 w9 ⟨rfl, x9⟩)
                    | ((with_reducible refine (HC5.out _ ?_).mono ?_); (focus (first | assumption | (with_reducible exact Ext.drew _))); rintro x9 w9 ⟨Ap, np, cp, rfl, hp, xp, x9⟩)
                    | ((with_reducible refine (HC6.out _ ?_).mono ?_); (focus (first | assumption | (with_reducible exact Ext.drew _))); rintro x9 w9 ⟨Aq, nq, cq, rfl, hq, xq, x9⟩)
                    | ((with_reducible refine (HC7.out _ ?_ _ _ _ _ _ _ ?_ ?_).mono ?_); (focus assumption); (focus (first | assumption | exact hp.ext xq)); (focus (first | assumption | exact hq.ext xp)); rintro x9 w9 ⟨rfl, x9⟩))
                all_goals
                  go_wp2_with (fail)
                  go_meet
                  exact ⟨_, rfl, rfl, by assumption⟩
            case rest =>
              obtain ⟨wy, rfl, rfl, xy⟩ := hcut
              have HM9 := Lib.hid (HM.out.on xy)
              have u6 := HM9.out.x.bx
              have v6 := HM9.out.a.bx
              clear HC1 HC2 HC3 HC4 HC5 HC6 HC7 HS HM xy
              have u0 := u6.c0
              have v0 := v6.c0
              have z0 := v6.fz 0
              have u1 := u6.c1
              have v1 := v6.c1
              have z1 := v6.fz 1
              have u2 := u6.c2
              have v2 := v6.c2
              have z2 := v6.fz 2
              have u3 := u6.c3
              have v3 := v6.c3
              have z3 := v6.fz 3
              have u4 := u6.c4
              have v4 := v6.c4
              have z4 := v6.fz 4
              have lg9 := v6.lt
              clear u6 v6
              go_wp2_with (fail)
              obtain ⟨hA9, hY9, hx9⟩ := HM9.out.close
              refine ⟨⟨z + 1, R1, D1, e1, D3, N, e3, by omega, by omega, by omega, rfl, HRl.out, hA9, hY9, hx9⟩, by simp only [intOf]; omega⟩
        · have q2 : ¬ z < 60 := hz62
          go_wp2_with (fail)
          refine (awake_any wr).mono ?_
          rintro x9 w9 ⟨rfl, x9⟩
          go_wp2_with (fail)
          go_ret
          exact ⟨rfl, hx.trans x9⟩
      · have q1 : ¬ z < n := hzn2
        go_wp2_with (fail)
        refine (awake_any wr).mono ?_
        rintro x9 w9 ⟨rfl, x9⟩
        go_wp2_with (fail)
        go_ret
        exact ⟨rfl, hx.trans x9⟩
end roundTells
end Go.Proofs.Ytgfhpgomlocllaa
