/- PlaceBack's walk: a move and its way back leave all nodes as they were; two moves may be done in either order; for every input. -/
import Derived.Test.YtkanlbkfbkkknaaPlaceOpen
import Derived.Test.YtkanlbkfbkkknaaPlaceAwake
import Derived.Test.YtkanlbkfbkkknaaPlBack
namespace Go.Proofs.Ytkanlbkfbkkknaa
open Go.ChangeShapes Go.WideShapes Go.ChangeAt Go.RowKit

namespace placeBack
theorem wf_nat {a : Int} (h : (Lit.int .u8 a).wf = true) : ∃ x : UInt8, a = (x.toNat : Int) := wf_u8 h

set_option maxRecDepth 100000 in
set_option maxHeartbeats 4000000 in
theorem walk {H : Type} {enc : TypeId × Value → H} {base : Nat} (w : World) (v0 : Value) (d0 : DataW H) (p0 : List MemPlace) (v1 : Value) (d1 : DataW H) (p1 : List MemPlace) (a2 a3 : Int)
    (o0 : Value.okWide Try.prog w .any base 22 v0) (h0 : DataW.Trod enc Try.prog w 0 (fun _ => true) true 22 v0 d0 p0)
    (o1 : Value.okWide Try.prog w .any base 23 v1) (h1 : DataW.Trod enc Try.prog w 0 (fun _ => true) true 23 v1 d1 p1)
    (w2 : (Lit.int .u8 a2).wf = true) (w3 : (Lit.int .u8 a3).wf = true) :
    Calls Try.prog 5 #[v0, v1, .int .u8 a2, .int .u8 a3] w fun e w' => e = .returned (.bool true) ∧ Ext w w' := by
  obtain ⟨x, y, z, rfl⟩ := open_u8x3 Try.underlying22 Try.underlying5 (by kernel_rfl) (by kernel_rfl) o0 h0
  obtain ⟨A, n, c, rfl⟩ := okWide_slice Try.underlying23 o1
  obtain ⟨ms, hm⟩ := Ms.of_trod Try.underlying23 Try.underlying61 Try.underlying5 (by kernel_rfl) (by kernel_rfl) h1
  obtain ⟨a, rfl⟩ := wf_u8 w2
  obtain ⟨b, rfl⟩ := wf_u8 w3
  clear o0 h0 o1 h1 w2 w3
  have la := a.toNat_lt
  have lb := b.toNat_lt
  obtain ⟨hall, hlow, hlen⟩ := Pl.placedTo_facts x y z ms 8 (Nat.le_refl _)
  have hl40 : (Pl.placed x y z ms).length ≤ 40 := by have : (Pl.placed x y z ms).length = 1 + z.toNat % 40 := hlen; omega
  have HALL := Lib.hid (show Pl.All (Pl.placed x y z ms) from hall)
  have HLOW := Lib.hid (show Pl.Low (Pl.placed x y z ms) 9 from hlow)
  clear hall hlow hlen
  go_enter Try.func5, Try.ntmps5
  try dsimp only [List.append]
  go_wp2_with (fail)
  refine (placed_any _ x y z A n c ms (hm.ext (Ext.alloc _ _))).mono ?_
  rintro r w1 ⟨B, m, d, rfl, hp, x1⟩
  have x1 := (Ext.alloc w _).trans x1
  have hund := Pl.placed_under x y z ms
  generalize Pl.placed x y z ms = l at *
  obtain ⟨ia, ha, ha1, ha2⟩ : ∃ i : Int, (a.toNat : Int) % 40 = i ∧ 0 ≤ i ∧ i < 40 := ⟨_, rfl, by omega, by omega⟩
  obtain ⟨ib, hb, hb1, hb2⟩ : ∃ i : Int, 40 + (a.toNat : Int) % 9 = i ∧ 40 ≤ i ∧ i < 49 := ⟨_, rfl, by omega, by omega⟩
  obtain ⟨ic, hc, hc1, hc2⟩ : ∃ i : Int, (b.toNat : Int) % 40 = i ∧ 0 ≤ i ∧ i < 40 := ⟨_, rfl, by omega, by omega⟩
  have HC := Lib.hid hc
  have hab : ia ≠ ib := by omega
  have m1 : Pl.MayMove l ia ib := Pl.mayMove_fresh HLOW.out (by omega) (by omega) (by omega) hab (hund.out hb1)
  have al1 := Pl.moved_all HALL.out m1
  have lo1 := Pl.moved_low (a := ia) (b := ib) HLOW.out
  have m2 : Pl.MayMove (Pl.moved l ia ib) ib ia := Pl.mayMove_fresh lo1 (by omega) (by omega) (by omega) (Ne.symm hab) (Pl.moved_no_elder HALL.out hab)
  have gb := Pl.groups_back (l := l) (a := ia) (b := ib) (hund.out hb1)
  have bk : ∀ g, g < l.length → Pl.pget (Pl.moved (Pl.moved l ia ib) ib ia) g = ((Pl.pget l g).1 + (if ia ∈ (Pl.pget l g).2 then 2 else 0), (Pl.pget l g).2) := by
    intro g hg
    rw [Pl.moved_get (by rw [Pl.moved_length]; exact hg), Pl.moved_get hg]
    exact Pl.moved_back (hund.out hb1 _ (Pl.pget_mem hg))
  have BK := Lib.hid bk
  have GB := Lib.hid gb
  have M1 := Lib.hid m1
  have M2 := Lib.hid m2
  have AL1 := Lib.hid al1
  have LO1 := Lib.hid lo1
  have UND := Lib.hid hund
  have HAB := Lib.hid hab
  clear bk gb m1 m2 al1 lo1 hund hab hc
  go_wp2_with (fail)
  clear ha hb la lb
  refine (move_ok w1 B m d l hp ia ib HALL.out M1.out).mono ?_
  rintro r w2 ⟨v, s, rfl, hv, hs⟩
  obtain ⟨B1, e1, rfl, hq⟩ := hv.ps
  obtain ⟨B2, e2, rfl, hg⟩ := hs.is
  have hp2 := hp.ext hv.ext
  have X2 := Lib.hid (x1.trans hv.ext)
  clear hv hs hp x1 hm
  go_wp2_with (fail)
  refine (move_ok w2 B1 _ e1 _ hq ib ia AL1.out M2.out).mono ?_
  rintro r w3 ⟨v, s, rfl, hv, hs⟩
  obtain ⟨B3, e3, rfl, hn⟩ := hv.ps
  obtain ⟨B4, e4, rfl, hk⟩ := hs.is
  have hp3 := hp2.ext hv.ext
  have hq3 := hq.ext hv.ext
  have hg3 := hg.ext hv.ext
  have X3 := Lib.hid (X2.out.trans hv.ext)
  clear hv hs hp2 hq hg
  rw [← GB.out] at hk ⊢
  have hnl : (Pl.moved (Pl.moved l ia ib) ib ia).length = m := by rw [Pl.moved_length, Pl.moved_length]; exact hp3.len
  rw [hnl] at hn ⊢
  have L := Lib.hid hp3.len
  clear hnl
  go_wp2_with (fail)
  refine (sameInts_any w3 B2 B4 _ e2 _ e4 _ _ hg3 hk).mono ?_
  rintro r w4 ⟨rfl, hd⟩
  rw [decide_eq_true rfl]
  have x4 := Dr.ext hd
  have hp4 := hp3.ext x4
  have hq4 := hq3.ext x4
  have hn4 := hn.ext x4
  have X4 := Lib.hid (X3.out.trans x4)
  have hmx := hp4.max
  have hle := hp4.le
  have hnx := hn4.max
  have hnle := hn4.le
  clear hd hp3 hq3 hn hg3 hk x4
  go_wp2_with (fail)
  go_loopw [84] (fun i wr => ∃ g : Nat, g ≤ m ∧ i = .int .i64 g ∧ Ext w4 wr) (fun i _ => m - (intOf i).toNat)
  case atStart => exact ⟨0, by omega, rfl, Ext.refl w4⟩
  case round =>
    obtain ⟨g, hg, rfl, hx⟩ := hrel
    by_cases hlt : g < m
    · have q1 : (g : Int) < m := by omega
      have hgl2 : g < l.length := by rw [L.out]; exact hlt
      obtain ⟨b1, o1, A1, n1, c1, rfl, r1, r2, i1⟩ := (hp4.ext hx).rd g hlt
      obtain ⟨b2, o2, A2, n2, c2, rfl, s1, s2, i2⟩ := (hn4.ext hx).rd g hlt
      rw [BK.out g hgl2] at s1 i2
      have hlo := HLOW.out _ (Pl.pget_mem hgl2)
      have hlo1 := (HALL.out.2.2 _ (Pl.pget_mem hgl2)).1.2.2.1
      generalize Pl.pget l g = p at *
      obtain ⟨ep, np⟩ := p
      simp only at r1 i1 s1 i2 hlo hlo1
      have HI := Lib.hid (fun W (h : Ext wr W) => pIndex_any W ep A1 n1 c1 np ia (i1.ext h))
      have HS := Lib.hid (fun W (h : Ext wr W) => sameInts_any W A2 A1 n2 c2 n1 c1 np np (i2.ext h) (i1.ext h))
      rw [decide_eq_true (show np = np from rfl)] at HS
      by_cases hin : ia ∈ np
      · obtain ⟨ii, j1, j2, _, _⟩ := Pl.idx_pos hin
        rw [j1] at HI
        rw [if_pos hin] at s1
        have z1 : ((ep + 2 : Int) != ep + 2) = false := by simp
        clear j1 hin
        go_wp2_with (fail)
        refine (HI.out wr (Ext.refl wr)).mono ?_
        rintro r w6 ⟨rfl, x6⟩
        have r1 := x6.cell r1
        have r2 := x6.cell r2
        have s1 := x6.cell s1
        have s2 := x6.cell s2
        have HS2 := Lib.hid (fun W (h : Ext w6 W) => HS.out W (x6.trans h))
        have xx := hx.trans x6
        go_wp2
        go_quiet ((go_at_call 19; exact Calls.quiet_of (HS2.out _ (Ext.drewN _ _))))
        go_wp2
        exact ⟨⟨g + 1, by omega, by go_num, xx.thenDrewN _⟩, by simp [intOf]; omega⟩
      · rw [Pl.idx_none_of hin] at HI
        rw [if_neg hin, Int.add_zero] at s1
        have z1 : ((ep : Int) != ep) = false := by simp
        clear hin
        go_wp2_with (fail)
        refine (HI.out wr (Ext.refl wr)).mono ?_
        rintro r w6 ⟨rfl, x6⟩
        have r1 := x6.cell r1
        have r2 := x6.cell r2
        have s1 := x6.cell s1
        have s2 := x6.cell s2
        have HS2 := Lib.hid (fun W (h : Ext w6 W) => HS.out W (x6.trans h))
        have xx := hx.trans x6
        go_wp2
        go_quiet ((go_at_call 19; exact Calls.quiet_of (HS2.out _ (Ext.drewN _ _))))
        go_wp2
        exact ⟨⟨g + 1, by omega, by go_num, xx.thenDrewN _⟩, by simp [intOf]; omega⟩
    · have q1 : ¬ (g : Int) < m := by omega
      have X5 := Lib.hid (X4.out.trans hx)
      have hp5 := hp4.ext hx
      have hq5 := hq4.ext hx
      clear hp4 hq4 hn4 hx BK
      by_cases hca : ic = ia
      · have e0 : ((ic : Int) == ia) = true := by rw [hca]; simp
        have hc := HC.out
        clear hca
        go_wp2_with (fail)
        refine (awake_any _).mono ?_
        rintro r w5 ⟨rfl, x5⟩
        go_wp2_with (fail)
        go_ret
        exact ⟨rfl, X5.out.trans x5⟩
      · have e0 : ((ic : Int) == ia) = false := by rw [beq_eq_false_iff_ne]; exact hca
        have hc := HC.out
        have NE := Lib.hid hca
        have M3 := Lib.hid (Pl.mayMove_fresh (a := ic) (b := 60) LO1.out (by omega) (by omega) (by omega) (by omega) (Pl.moved_keeps_out (UND.out.out (b := 60) (by omega)) (by omega)))
        have M4 := Lib.hid (Pl.mayMove_fresh (a := ic) (b := 60) HLOW.out (by omega) (by omega) (by omega) (by omega) (UND.out.out (by omega)))
        have AL4 := Lib.hid (Pl.moved_all HALL.out M4.out)
        have M5 := Lib.hid (Pl.mayMove_fresh (a := ia) (b := ib) (Pl.moved_low (a := ic) (b := 60) HLOW.out) (by omega) (by omega) (by omega) HAB.out (Pl.moved_keeps_out (UND.out.out hb1) (by omega)))
        have CO := Lib.hid (Pl.moved_commute (l := l) (a := ia) (b := ib) (c := ic) (d := 60) (fun e => NE.out e.symm) (by omega) (by omega))
        clear hca
        go_wp2_with (fail)
        clear hc
        refine (move_ok wr B1 _ e1 _ hq5 ic 60 AL1.out M3.out).mono ?_
        rintro r w6 ⟨v, s, rfl, hv, _⟩
        obtain ⟨B5, e5, rfl, hr1⟩ := hv.ps
        have hp6 := hp5.ext hv.ext
        have X6 := Lib.hid (X5.out.trans hv.ext)
        clear hv hp5 hq5
        go_wp2_with (fail)
        refine (move_ok w6 B m d l hp6 ic 60 HALL.out M4.out).mono ?_
        rintro r w7 ⟨v, s, rfl, hv, _⟩
        obtain ⟨B6, e6, rfl, hr2⟩ := hv.ps
        have hr1 := hr1.ext hv.ext
        have X7 := Lib.hid (X6.out.trans hv.ext)
        clear hv hp6
        go_wp2_with (fail)
        refine (move_ok w7 B6 _ e6 _ hr2 ia ib AL4.out M5.out).mono ?_
        rintro r w8 ⟨v, s, rfl, hv, _⟩
        obtain ⟨B7, e7, rfl, hr3⟩ := hv.ps
        have hr1 := hr1.ext hv.ext
        have X8 := Lib.hid (X7.out.trans hv.ext)
        clear hv hr2
        go_wp2_with (fail)
        refine (samePlaces_any w8 B5 B7 _ e5 _ e7 _ _ hr1 hr3).mono ?_
        rintro r w9 ⟨rfl, hd⟩
        rw [decide_eq_true CO.out]
        go_wp2_with (fail)
        refine (awake_any _).mono ?_
        rintro r w10 ⟨rfl, x10⟩
        go_wp2_with (fail)
        go_ret
        exact ⟨rfl, (X8.out.trans (Dr.ext hd)).trans x10⟩
end placeBack
end Go.Proofs.Ytkanlbkfbkkknaa
