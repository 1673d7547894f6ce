/- JournalTwice's walk. -/
import Derived.Test.YtaaegbccejjjcaaCt28
import Derived.Test.YtaaegbccejjjcaaJourAwake
namespace Go.Proofs.Ytaaegbccejjjcaa
open Go.ChangeShapes Go.WideShapes Go.ChangeAt Go.RowKit Go.Maps Go.Sort Go.Shelf

namespace journalTwice
set_option maxRecDepth 100000 in
set_option maxHeartbeats 4000000 in
theorem walk {H : Type} {enc : TypeId × Value → H} {base : Nat} (W : World) (a0 : Int) (v1 : Value) (d1 : DataW H) (p1 : List MemPlace) (u0 : (Lit.int .u8 a0).wf = true) (o1 : Value.okWide Try.prog W .any base 22 v1) (h1 : DataW.Trod enc Try.prog W 0 (fun _ => true) true 22 v1 d1 p1) :
    Calls Try.prog 7 #[.int .u8 a0, v1] W fun e W' => e = .returned (.bool true) ∧ Ext W W' := by
  obtain ⟨A, n, c, q, rfl, hos⟩ := os24_open o1 h1
  obtain ⟨x, rfl⟩ := wf_u8 u0
  have hle := hos.le
  have hmx := hos.max
  have OS := Lib.hid hos
  have hx256 : x.toNat < 256 := x.toNat_lt
  clear o1 h1 u0 hos
  go_enter Try.func7, Try.ntmps7
  try dsimp only [List.append]
  go_wp2_with (fail)
  obtain ⟨nn, hnn⟩ : ∃ nn : Nat, 8 + (x.toNat : Int) % 53 = (nn : Int) := ⟨8 + x.toNat % 53, by omega⟩
  have hn8 : 8 ≤ nn ∧ nn ≤ 65536 := by omega
  have hnew := new_dl W nn (by omega) (by omega)
  rw [hnn]
  clear hnn hx256
  with_reducible refine hnew.mono ?_
  rintro e w1 ⟨g, m, b, rfl, d1⟩
  have ho := open_new W w1 g m b nn d1 hn8.1 hn8.2
  clear hnew d1
  go_wp2_with (fail)
  with_reducible refine ho.mono ?_
  rintro e w2 ⟨pa, oa, da, rfl, la, aa⟩
  have LA := Lib.hid la
  have AA := Lib.hid aa
  clear ho la aa
  have ho := open_lv W w2 g m b _ da _ LA.out.dl LA.out.at_
  go_wp2_with (fail)
  with_reducible refine ho.mono ?_
  rintro e w3 ⟨pb, ob, rfl, lb, xb, _, _⟩
  have OVB := Lib.hid lb.ov
  have L3 := Lib.hid (LA.out.then xb)
  clear ho lb xb LA
  go_wp2_with (fail)
  go_loopw [7, 9, 11] (fun sa sb s wr => ∃ (k pa pb N : Nat) (o : Option Nat) (j : Jo.J) (d : Disks.D), k ≤ n ∧ sa = .pointer (some ⟨pa, 0, none⟩) ∧ sb = .pointer (some ⟨pb, 0, none⟩) ∧ s = .int .i64 (k : Int) ∧ RowKit.Hid (Lv W wr pa g m b N o j d) ∧ RowKit.Hid (Ov wr pb g) ∧ RowKit.Hid (d.arm = -1 ∧ N ≤ 1 + 8 * k ∧ j.life ≤ 1 + k ∧ k ≤ 40)) (fun _ _ s _ => 40 - (intOf s).toNat)
  case atStart => exact ⟨0, pa, pb, 1, oa, _, da, Nat.zero_le _, rfl, rfl, rfl, L3, OVB, Lib.hid ⟨AA.out, Nat.le_refl _, Nat.le_refl _, Nat.zero_le _⟩⟩
  case round =>
    clear L3 OVB AA
    obtain ⟨k, pa, pb, N, o, j, d, hk, rfl, rfl, rfl, L, OV, NF⟩ := hrel
    by_cases hlt : k < n
    · have i1 : (k : Int) < n := by omega
      by_cases h40 : k < 40
      · have i2 : (k : Int) < 40 := by omega
        obtain ⟨bq, off, rfl, hld⟩ := (OS.out.ext L.out.ext).load hlt
        have LD := Lib.hid hld
        have hdo := do_lv L.out NF.out.1 (q k) (OS.out.bs hlt).1 (N' := N + 8) (Nat.le_refl _) (by have := NF.out; unfold maxLen; omega) (by have := NF.out; omega)
        have HDO := Lib.hid hdo
        clear hld hdo
        go_wp2_with (first
          | ((with_reducible refine opIs ⟨some 52, .load 35 (.tmp 51), _, _, _, _⟩ ?_); refine wpList_loadR rfl 35 (.tmp 51) rfl rfl LD.out ?_))
        with_reducible refine HDO.out.mono ?_
        rintro e w4 ⟨f, o4, j4, d4, rfl, l4, a4, lf4, _, _⟩
        have L4 := Lib.hid l4
        have NF4 := Lib.hid (show d4.arm = -1 ∧ N + 8 ≤ 1 + 8 * (k + 1) ∧ j4.life ≤ 1 + (k + 1) ∧ k + 1 ≤ 40 by have := NF.out; omega)
        clear l4 a4 lf4 HDO LD
        have ho := open_lv W w4 g m b _ d4 _ L4.out.dl L4.out.at_
        go_wp2_with (fail)
        with_reducible refine ho.mono ?_
        rintro e w5 ⟨pc, oc, rfl, lc, xc, _, _⟩
        have L5 := Lib.hid (L4.out.then xc)
        have C5 := Lib.hid lc
        clear ho lc xc L4
        have hb := base_lv L5.out
        go_wp2_with (fail)
        with_reducible refine hb.mono ?_
        rintro e w6 ⟨A6, c6, rfl, b6, _, x6⟩
        have L6 := Lib.hid (L5.out.then x6)
        have C6 := Lib.hid (C5.out.then x6)
        have B6 := Lib.hid b6
        clear hb b6 x6 C5 L5
        have hr := recs_lv L6.out
        go_wp2_with (fail)
        with_reducible refine hr.mono ?_
        rintro e w7 ⟨A7, c7, rfl, m7, _, x7⟩
        have L7 := Lib.hid (L6.out.then x7)
        have C7 := Lib.hid (C6.out.then x7)
        have hs := same_lv C7.out A6 j4.base.length c6 j4.base (B6.out.ext x7) A7 j4.recs.length c7 j4.recs m7 (z := true) (decide_eq_true ⟨rfl, rfl⟩)
        clear hr m7 x7 C6 L6 B6
        go_wp2_with (fail)
        with_reducible refine hs.mono ?_
        rintro e w8 ⟨rfl, x8⟩
        have L8 := Lib.hid (L7.out.then x8)
        have C8 := Lib.hid (C7.out.then x8)
        clear hs x8 L7 C7
        go_wp2_with (fail)
        exact ⟨⟨k + 1, pc, pa, N + 8, oc, j4, d4, by omega, rfl, rfl, by go_num, C8, Lib.hid L8.out.ov, NF4⟩, by simp [intOf]; omega⟩
      · have i2 : ¬ (k : Int) < 40 := by omega
        have hov := over_ov OV.out
        have haw := awake24 wr
        go_wp2_with (fail)
        with_reducible refine hov.mono ?_
        rintro e w2 ⟨rfl, rfl⟩
        clear hov
        go_wp2_with (fail)
        with_reducible refine haw.mono ?_
        rintro e w2 ⟨rfl, x2⟩
        have X2 := Lib.hid (L.out.ext.trans x2)
        clear haw x2
        go_wp2_with (fail)
        go_ret
        exact ⟨rfl, X2.out⟩
    · have i1 : ¬ (k : Int) < n := by omega
      have hov := over_ov OV.out
      have haw := awake24 wr
      go_wp2_with (fail)
      with_reducible refine hov.mono ?_
      rintro e w2 ⟨rfl, rfl⟩
      clear hov
      go_wp2_with (fail)
      with_reducible refine haw.mono ?_
      rintro e w2 ⟨rfl, x2⟩
      have X2 := Lib.hid (L.out.ext.trans x2)
      clear haw x2
      go_wp2_with (fail)
      go_ret
      exact ⟨rfl, X2.out⟩
end journalTwice
end Go.Proofs.Ytaaegbccejjjcaa
