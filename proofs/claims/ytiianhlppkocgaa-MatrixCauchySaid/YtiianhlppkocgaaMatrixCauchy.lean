/- MatrixCauchy's walk. -/
import Derived.Test.YtiianhlppkocgaaMatPart
import Derived.Test.YtiianhlppkocgaaMatAwake
import Derived.Test.YtiianhlppkocgaaStep
import Derived.Test.YtiianhlppkocgaaOpen
import Derived.Deep.CutBlock
import Derived.Deep.DeepCutAuto
import Derived.Deep.RegionHeld3
namespace Go.Proofs.Ytiianhlppkocgaa
open Go.ChangeShapes Go.WideShapes Go.ChangeAt Go.RowKit

namespace matrixCauchy
set_option maxRecDepth 100000 in
set_option maxHeartbeats 4000000 in
theorem walk {H : Type} {enc : TypeId × Value → H} {base : Nat} (w : World) (a0 a1 : Int) (v2 : Value) (d2 : DataW H) (p2 : List MemPlace) (v3 : Value) (d3 : DataW H) (p3 : List MemPlace)
    (w0 : (Lit.int .u8 a0).wf = true) (w1 : (Lit.int .u8 a1).wf = true)
    (o2 : Value.okWide Try.prog w .any base 54 v2) (h2 : DataW.Trod enc Try.prog w 0 (fun _ => true) true 54 v2 d2 p2)
    (o3 : Value.okWide Try.prog w .any base 54 v3) (h3 : DataW.Trod enc Try.prog w 0 (fun _ => true) true 54 v3 d3 p3) :
    Calls Try.prog 5 #[.int .u8 a0, .int .u8 a1, v2, v3] w fun e w' => e = .returned (.bool true) ∧ Ext w w' := by
  obtain ⟨i0, hi0, hz0, hz1, hz2⟩ := info_parts bytes_info
  obtain ⟨i1, hi1, hy0, hy1, hy2⟩ := info_parts u8_info
  obtain ⟨b0, rfl⟩ := wf_u8 w0
  obtain ⟨b1, rfl⟩ := wf_u8 w1
  obtain ⟨A2, n2, c2, rfl⟩ := okWide_slice Try.underlying54 o2
  obtain ⟨A3, n3, c3, rfl⟩ := okWide_slice Try.underlying54 o3
  obtain ⟨f2, g2⟩ := Bls.of_trod Try.underlying54 Try.underlying4 (by kernel_rfl) h2
  obtain ⟨f3, g3⟩ := Bls.of_trod Try.underlying54 Try.underlying4 (by kernel_rfl) h3
  clear w0 w1 o2 o3 h2 h3
  obtain ⟨n, hn⟩ : ∃ n, 1 + b0.toNat % 60 = n := ⟨_, rfl⟩
  obtain ⟨k, hk⟩ : ∃ k, 1 + b1.toNat % 60 = k := ⟨_, rfl⟩
  have hn1 : 1 ≤ n ∧ n ≤ 60 := by omega
  have hk1 : 1 ≤ k ∧ k ≤ 60 := by omega
  have en : (1 + (b0.toNat : Int) % 60) = (n : Int) := by omega
  have ek : (1 + (b1.toNat : Int) % 60) = (k : Int) := by omega
  have EN := Lib.hid en
  have EK := Lib.hid ek
  have RC := Lib.hid (Gm.cauchy_rect n k)
  have lx := b0.toNat_lt
  have ly := b1.toNat_lt
  clear en ek hn hk
  go_enter Try.func5, Try.ntmps5
  try dsimp only [List.append]
  go_wp2_with (fail)
  refine (new_any _).mono ?_
  rintro e w1 ⟨rfl, hf, y1⟩
  generalize hb : w.heap.size = fb at *
  have Hb := Lib.hid hb
  clear hb
  have y0 := y1
  replace g2 := g2.ext y0
  replace g3 := g3.ext y0
  have x0 := y0
  clear y0
  clear y1
  go_wp2_with (fail)
  rw [EN.out, EK.out]
  refine ((cauchy_ok fb _ n k hf hn1.1 hk1.1 (by omega)).mono fun _ _ h => h.r rfl RC.out.len rfl).mono ?_
  rintro e u1 ⟨Am, cm, rfl, hm, y1⟩
  have y0 := y1
  replace g2 := g2.ext y0
  replace g3 := g3.ext y0
  replace hf := hf.ext y0
  replace x0 := Ext.trans x0 y0
  clear y0
  clear y1
  go_wp2_with (fail)
  refine (some_any _ n _ _ _ f2 g2 hn1.1 (by omega)).mono ?_
  rintro e u2 ⟨A4, m4, c4, L4, rfl, his4, hr4, y1⟩
  clear g2
  have y0 := y1
  replace g3 := g3.ext y0
  replace hf := hf.ext y0
  replace hm := hm.ext y0
  replace x0 := Ext.trans x0 y0
  clear y0
  clear y1
  go_wp2_with (fail)
  refine (some_any _ k _ _ _ f3 g3 hk1.1 (by omega)).mono ?_
  rintro e u3 ⟨A5, m5, c5, L5, rfl, his5, hr5, y1⟩
  clear g3
  have y0 := y1
  replace hf := hf.ext y0
  replace hm := hm.ext y0
  replace his4 := his4.ext y0
  replace x0 := Ext.trans x0 y0
  clear y0
  clear y1
  have hl4 := his4.len
  have hl5 := his5.len
  have h14 : 1 ≤ m4 := by have := hr4.pl.pos; omega
  have h15 : 1 ≤ m5 := by have := hr5.pl.pos; omega
  have h44 := hr4.le
  have h55 := hr5.le
  obtain ⟨q, hq⟩ : ∃ q, min (min m4 m5) 12 = q := ⟨_, rfl⟩
  have hq1 : 1 ≤ q := by omega
  have hq4 : q ≤ m4 := by omega
  have hq5 : q ≤ m5 := by omega
  have hq12 : q ≤ 12 := by omega
  have HFULL := Lib.hid (part_full (q := q) hr4 hr5 (by omega) hq1 (by omega) (by omega))
  have RPM := Lib.hid (partM_rect (Gm.cauchy n k) L4 L5 q q)
  have HR4 := Lib.hid hr4
  have HR5 := Lib.hid hr5
  have HL4 := Lib.hid hl4
  have HL5 := Lib.hid hl5
  obtain ⟨wo, rfl⟩ : ∃ wo : World, wo = u3 := ⟨_, rfl⟩
  clear hr4 hr5
  have hm4 : m4 ≤ 60 := by omega
  have hm5 : m5 ≤ 60 := by omega
  clear hl4 hl5 h44 h55
  have HM := Lib.hid hm
  have H4 := Lib.hid his4
  have H5 := Lib.hid his5
  have HF := Lib.hid hf
  have X0 := Lib.hid x0
  clear hm his4 his5 hf x0
  go_upto_region 8 with (fail)
  go_cut [16, 17] (fun s16 s17 wx => ∃ wv : World, wv = wx ∧ wo = wx ∧ s17 = .slice none 0 0 ∧ s16 = .int .i64 (q : Int))
  case first =>
    have HQ := Lib.hid hq
    clear hq
    rcases Nat.lt_or_ge m5 m4 with k1 | k1
    · have k1' : (m5 : Int) < m4 := by omega
      rcases Nat.lt_or_ge 12 m5 with k2 | k2
      · have k2' : (12 : Int) < m5 := by omega
        go_wp2_with (fail)
        go_meet
        exact ⟨_, rfl, rfl, rfl, by have := HQ.out; rw [← this]; congr 1; omega⟩
      · have k2' : ¬ (12 : Int) < m5 := by omega
        go_wp2_with (fail)
        go_meet
        exact ⟨_, rfl, rfl, rfl, by have := HQ.out; rw [← this]; congr 1; omega⟩
    · have k1' : ¬ (m5 : Int) < m4 := by omega
      rcases Nat.lt_or_ge 12 m4 with k2 | k2
      · have k2' : (12 : Int) < m4 := by omega
        go_wp2_with (fail)
        go_meet
        exact ⟨_, rfl, rfl, rfl, by have := HQ.out; rw [← this]; congr 1; omega⟩
      · have k2' : ¬ (12 : Int) < m4 := by omega
        go_wp2_with (fail)
        go_meet
        exact ⟨_, rfl, rfl, rfl, by have := HQ.out; rw [← this]; congr 1; omega⟩
  case rest =>
    obtain ⟨wv, rfl, rfl, rfl, rfl⟩ := hcut
    clear hq
    generalize Gm.cauchy n k = m at *
    obtain ⟨N2, hN2⟩ : ∃ N2, wo.heap.size = N2 := ⟨_, rfl⟩
    have HN2 := Lib.hid hN2
    have hsz0 : N2 ≤ wo.heap.size := by omega
    clear hN2
    go_wp2_with (fail)
    go_loopw [17, 18] (fun v s wr => ∃ (t : Nat) (cs : List Value), t ≤ q ∧ s = .int .i64 t ∧ Mq wr N2 (Hot N2 v) v t cs (partM m L4 L5 q t) ∧ Ext wo wr ∧ N2 ≤ wr.heap.size) (fun _ s _ => q - (intOf s).toNat)
    case atStart => exact ⟨0, [], by omega, rfl, Mq.nil _ _ _, Ext.refl wo, hsz0⟩
    case round =>
      obtain ⟨t, cs, ht, rfl, hQ, hx, hsz⟩ := hrel
      clear hsz0
      by_cases hlt : t < q
      · have q1 : (t : Int) < q := by omega
        obtain ⟨wp, rfl⟩ : ∃ wp : World, wp = wr := ⟨_, rfl⟩
        obtain ⟨p, hp, hpn⟩ := HR4.out.nat (show t < L4.length by rw [HL4.out]; omega)
        obtain ⟨bI, oI, rfl, hcI⟩ := (H4.out.ext hx).rd.intAt (show t < m4 by omega)
        rw [hp] at hcI
        obtain ⟨bM, oM, Ai, ni, ci, rfl, hcM, hbi⟩ := (HM.out.ext hx).at_ hpn
        have hni : ni = k := by rw [← hbi.len]; exact RC.out.wid p hpn
        subst hni
        have hrow : ∀ j, partTo m L4 L5 t (j + 1) = partTo m L4 L5 t j ++ [Gf.get (Gm.row m p) (Il.get L5 j).toNat] := fun j => by rw [partTo_succ, hp, Int.toNat_natCast]
        have HROW := Lib.hid hrow
        have HQ := Lib.hid hQ
        have HBI := Lib.hid hbi
        have hmi := hbi.max
        have hli := hbi.le
        have hszp := hsz
        clear hp hQ hbi hrow
        go_wp2_with (fail)
        go_loopw [19, 20] (fun v s wr => ∃ j : Nat, j ≤ q ∧ s = .int .i64 j ∧ wr.ownsRow wp.heap.size 5 1 v j (bcells (partTo m L4 L5 t j)) ∧ Ext wp wr) (fun _ s _ => q - (intOf s).toNat)
        case atStart => exact ⟨0, by omega, rfl, World.ownsRow_nil _ _ _ _, Ext.refl wp⟩
        case round =>
          obtain ⟨j, hj, rfl, ho, hy⟩ := hrel
          by_cases hjq : j < q
          · have q2 : (j : Int) < q := by omega
            obtain ⟨p2, hp2, hpk⟩ := HR5.out.nat (show j < L5.length by rw [HL5.out]; omega)
            obtain ⟨bJ, oJ, rfl, hcJ⟩ := (H5.out.ext hx).rd.intAt (show j < m5 by omega)
            rw [hp2] at hcJ
            obtain ⟨bB, oB, rfl, hcB⟩ := HBI.out.rd.byte hpk
            obtain ⟨g, hg⟩ : ∃ g, Gf.get (Gm.row m p) p2 = g := ⟨_, rfl⟩
            rw [hg] at hcB
            have hr1 := HROW.out j
            rw [hp2, Int.toNat_natCast, hg] at hr1
            have HR1 := Lib.hid hr1
            have HS := Lib.hid (fun (W : World) (hW : Ext wp W) => (⟨hW.cell hcI, hW.cell hcM, hW.cell hcJ, hW.cell hcB⟩ : W.cell? ⟨bI, oI + t, none⟩ = some (.int .i64 (p : Int)) ∧ W.cell? ⟨bM, oM + p, none⟩ = some (.slice (some ⟨bB, oB, none⟩) ni ci) ∧ W.cell? ⟨bJ, oJ + j, none⟩ = some (.int .i64 (p2 : Int)) ∧ W.cell? ⟨bB, oB + p2, none⟩ = some (.int .u8 (g.toNat : Int))))
            obtain ⟨wi, rfl⟩ : ∃ wi : World, wi = wr := ⟨_, rfl⟩
            have hHO := Lib.hid ho
            have HY := Lib.hid hy
            clear hcJ hcB hp2 hg hr1 ho hcI hcM hy
            have hsi := HY.out.size
            have e1 : (t : Int) < m4 := by omega
            have e2 : (j : Int) < m5 := by omega
            have e3 : (p : Int) < n := by omega
            have e4 : (p2 : Int) < ni := by omega
            have e5 : (0 : Int) ≤ t := by omega
            have e6 : (0 : Int) ≤ j := by omega
            have e7 : (0 : Int) ≤ p := by omega
            have e8 : (0 : Int) ≤ p2 := by omega
            have S4 := Lib.hid (ownsRow_ext hHO.out ((Ext.alloc wi (.cells #[.int .u8 (g.toNat : Int)] 5)).thenDrew))
            have S5 := Lib.hid (show Rd ((wi.alloc (.cells #[.int .u8 (g.toNat : Int)] 5)).drew) 1 (some ⟨wi.heap.size, 0, none⟩) 1 [.int .u8 (g.toNat : Int)] from (Rd.lit wi #[.int .u8 (g.toNat : Int)] 5).ext (Ext.drew _))
            have S6 := Lib.hid (show ∀ u ∈ [Value.int .u8 (g.toNat : Int)], u.oneCell' = true by simp [Value.oneCell'])
            have S1 := Lib.hid (show (j + 1) * 1 ≤ 140737488355328 by omega)
            have S2 := Lib.hid (show j + 1 ≤ maxLen by unfold maxLen; omega)
            have S3 := Lib.hid (show wp.heap.size ≤ ((wi.alloc (.cells #[.int .u8 (g.toNat : Int)] 5)).drew).heap.size by simp; omega)
            go_wp2_with (fail)
            go_region_held3 (fun W => W.cell? ⟨bI, oI + t, none⟩ = some (.int .i64 (p : Int)) ∧ W.cell? ⟨bM, oM + p, none⟩ = some (.slice (some ⟨bB, oB, none⟩) ni ci) ∧ W.cell? ⟨bJ, oJ + j, none⟩ = some (.int .i64 (p2 : Int)) ∧ W.cell? ⟨bB, oB + p2, none⟩ = some (.int .u8 (g.toNat : Int)))
              (first | (refine HS.out _ ?_; (repeat (first | assumption | exact HY.out | apply Ext.thenDrew | apply Ext.thenDrewN | apply Ext.thenAlloc))) | go_keep)
              ((refine step_append_rd _ (by rfl) (.tmp 82) (.tmp 96) 26 (by rfl) wp.heap.size 5 i1 _ 1 1 Try.underlying26 hi1 hy0 hy1 hy2 rfl (by omega) u19 j (bcells (partTo m L4 L5 t j)) (by rfl) S4.out (some ⟨wi.heap.size, 0, none⟩) 1 1 [.int .u8 (g.toNat : Int)] (by rfl) S5.out S6.out S1.out S2.out S3.out ?_; intro v5 w5 hown hgr hat; have y5 := ((HY.out.thenAlloc _).thenDrew).ofGrown hgr (own_row S4.out)))
            go_wp2_with (fail)
            refine ⟨⟨j + 1, by omega, by go_num, ?_, y5⟩, by simp [intOf]; omega⟩
            rw [HR1.out, bcells_append]; exact hown
          · obtain rfl : j = q := by omega
            have q2 : ¬ (j : Int) < j := by omega
            obtain ⟨Ar, cr, rfl, _, _⟩ := ownsRow_slice ho
            have hys := hy.size
            have hro : wr.ownsRow wp.heap.size 5 1 (.slice Ar (partTo m L4 L5 t j).length cr) (partTo m L4 L5 t j).length (bcells (partTo m L4 L5 t j)) := by rw [partTo_length]; exact ho
            have HO := Lib.hid hro
            have ow4 := ownsRow_ext (ownsRow_ext HQ.out.own hy) (Ext.alloc wr (.cells #[.slice Ar j cr] 26))
            have HO4 := Lib.hid ow4
            have hne : ∀ q, u17.ownBlock = some q → N2 ≤ q := own_row HQ.out.own
            have HNE := Lib.hid hne
            clear ow4 ho hro hne
            go_wp2_with (at_builtin; refine wpList_append_rd _ rfl (.tmp 98) (.tmp 100) 25 rfl N2 26 i0 _ 1 24 Try.underlying25 hi0 hz0 hz1 hz2 rfl (by omega) u17 t cs rfl HO4.out (some ⟨wr.heap.size, 0, none⟩) 1 1 [.slice Ar j cr] rfl (Rd.lit _ #[.slice Ar j cr] _) (by simp [Value.oneCell']) (by omega) (by unfold maxLen; omega) (by simp; omega) ?_; intro v5 w5 hown hgr hat)
            have hpl := partTo_length m L4 L5 t j
            have hown' : w5.ownsRow N2 26 1 v5 (t + 1) (cs ++ [.slice Ar (partTo m L4 L5 t j).length cr]) := by rw [hpl]; exact hown
            have hsn2 := HQ.out.snoc hy HO.out (Nat.le_refl _) hsz (Ext.alloc wr (.cells #[.slice Ar j cr] 26)) hown' hgr hat
            rw [← partM_succ] at hsn2
            refine ⟨⟨t + 1, _, by omega, by go_num, hsn2, ?_, ?_⟩, by simp [intOf]; omega⟩
            · exact ((hx.trans hy).thenAlloc _).ofGrown hgr (fun q hq => by have := HNE.out q hq; have := HN2.out; omega)
            · have := hgr.size; simp at this; omega
      · obtain rfl : t = q := by omega
        have q1 : ¬ (t : Int) < t := by omega
        obtain ⟨Ap, cp, rfl, hpart⟩ := hQ.mx
        have hf := HF.out.ext hx
        have x0 := X0.out.trans hx
        have HT := Lib.hid (show 1 ≤ t ∧ t ≤ 255 by omega)
        clear hQ hx
        generalize partM m L4 L5 t t = pm at *
        go_wp2_with (fail)
        refine (invert_r _ _ _ t _ pm hf hpart RPM.out HT.out HFULL.out).mono ?_
        rintro e v3 ⟨Ax, cx, rfl, hx, y1⟩
        have y0 := y1
        replace hf := hf.ext y0
        replace hpart := hpart.ext y0
        replace x0 := Ext.trans x0 y0
        clear y0
        clear y1
        go_wp2_with (fail)
        refine (rank_r _ _ _ t _ t pm hf hpart RPM.out HT.out HT.out t HFULL.out).mono ?_
        rintro e v4 ⟨rfl, y1⟩
        have y0 := y1
        replace hf := hf.ext y0
        replace hpart := hpart.ext y0
        replace hx := hx.ext y0
        replace x0 := Ext.trans x0 y0
        clear y0
        clear y1
        go_wp2_with (fail)
        refine (mul_r _ _ _ _ t _ t _ t pm (Gm.invert pm) hf hpart hx RPM.out (Gm.inv_rect RPM.out HT.out.1 HFULL.out) HT.out HT.out HT.out).mono ?_
        rintro e v5 ⟨A9, c9, rfl, h9, y1⟩
        have y0 := y1
        replace hf := hf.ext y0
        replace hpart := hpart.ext y0
        replace hx := hx.ext y0
        replace x0 := Ext.trans x0 y0
        clear y0
        clear y1
        go_wp2_with (fail)
        refine (unit_r _ t HT.out.1 HT.out.2).mono ?_
        rintro e v6 ⟨Au, cu, rfl, hu, y1⟩
        have y0 := y1
        replace hf := hf.ext y0
        replace hpart := hpart.ext y0
        replace hx := hx.ext y0
        replace h9 := h9.ext y0
        replace x0 := Ext.trans x0 y0
        clear y0
        clear y1
        go_wp2_with (fail)
        refine (same_r _ _ _ t _ t _ _ _ h9 hu (Gm.inv_right RPM.out HT.out.1 HFULL.out)).mono ?_
        rintro e v7 ⟨rfl, y1⟩
        have y0 := y1
        replace hf := hf.ext y0
        replace hpart := hpart.ext y0
        replace hx := hx.ext y0
        replace h9 := h9.ext y0
        replace hu := hu.ext y0
        replace x0 := Ext.trans x0 y0
        clear y0
        clear y1
        go_wp2_with (fail)
        refine (awake_any3 _).mono ?_
        rintro e v8 ⟨rfl, y1⟩
        have y0 := y1
        replace hf := hf.ext y0
        replace hpart := hpart.ext y0
        replace hx := hx.ext y0
        replace h9 := h9.ext y0
        replace hu := hu.ext y0
        replace x0 := Ext.trans x0 y0
        clear y0
        clear y1
        go_wp2_with (fail)
        go_ret
        exact ⟨rfl, x0⟩
end matrixCauchy
end Go.Proofs.Ytiianhlppkocgaa
