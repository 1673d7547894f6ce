/- JournalTells' walk. -/
import Derived.Test.YtaaegbccejjjcaaCt32
import Derived.Test.YtaaegbccejjjcaaRegTwo
namespace Go.Proofs.Ytaaegbccejjjcaa
open Go.ChangeShapes Go.WideShapes Go.ChangeAt Go.RowKit Go.Maps Go.Sort Go.Shelf
set_option linter.unusedSimpArgs false

namespace journalTells
set_option maxRecDepth 100000 in
set_option maxHeartbeats 8000000 in
theorem walk {H : Type} {enc : TypeId × Value → H} {base : Nat} (W : World) (a0 : Int) (v1 : Value) (d1 : DataW H) (p1 : List MemPlace) (u0 : (Lit.int .u8 a0).wf = true) (o1 : Value.okWide Try.prog W .any base 22 v1) (h1 : DataW.Trod enc Try.prog W 0 (fun _ => true) true 22 v1 d1 p1) :
    Calls Try.prog 5 #[.int .u8 a0, v1] W fun e W' => e = .returned (.bool true) ∧ Ext W W' := by
  obtain ⟨A0, n, c0, q, rfl, hos⟩ := os24_open o1 h1
  obtain ⟨z, rfl⟩ := wf_u8 u0
  have hle := hos.le
  have hmx := hos.max
  have OS := Lib.hid hos
  have hx256 : z.toNat < 256 := z.toNat_lt
  clear o1 h1 u0 hos
  go_enter Try.func5, Try.ntmps5
  try dsimp only [List.append]
  go_wp2_with (fail)
  obtain ⟨nn, hnn⟩ : ∃ nn : Nat, 1 + (z.toNat : Int) % 60 = (nn : Int) := ⟨1 + z.toNat % 60, by omega⟩
  have hn1 : 1 ≤ nn ∧ nn ≤ 60 := by omega
  have hnew := new_dl W nn (by omega) (by omega)
  rw [hnn]
  clear hnn hx256
  with_reducible refine hnew.mono ?_
  rintro e w1 ⟨g, m, b, rfl, d1⟩
  have D1 := Lib.hid d1
  clear hnew d1
  by_cases h8 : nn < 8
  · have t1 : (nn : Int) < 8 := by omega
    have ho := open_small w1 g m b 0 (Disks.new nn) D1.out.ds (by show 1 ≤ (List.replicate nn _).length; rw [List.length_replicate]; omega) (by show (List.replicate nn _).length < 8; rw [List.length_replicate]; omega)
    go_wp2_with (fail)
    with_reducible refine ho.mono ?_
    rintro e w2 ⟨rfl, x2⟩
    have X2 := Lib.hid (D1.out.ext.trans x2)
    have haw := awake24 w2
    clear ho x2
    go_wp2_with (fail)
    with_reducible refine haw.mono ?_
    rintro e w3 ⟨rfl, x3⟩
    have X3 := Lib.hid (X2.out.trans x3)
    clear haw x3
    go_wp2_with (fail)
    go_ret
    exact ⟨rfl, X3.out⟩
  · have t1 : ¬ (nn : Int) < 8 := by omega
    have ho := open_new W w1 g m b nn D1.out (by omega) (by omega)
    go_wp2_with (fail)
    with_reducible refine ho.mono ?_
    rintro e w2 ⟨p, oa, da, rfl, la, aa⟩
    have LA := Lib.hid la
    have AA := Lib.hid aa
    clear ho la aa
    obtain ⟨hf, hhf⟩ : ∃ hf, nn / 2 = hf := ⟨_, rfl⟩
    have hf4 : 4 ≤ hf ∧ hf ≤ 30 := by omega
    have EQ2 : (nn : Int).tdiv 2 = (hf : Int) := by rw [Int.tdiv_eq_ediv_of_nonneg (by omega)]; omega
    rw [hhf] at LA
    clear hhf
    obtain ⟨x, hx⟩ : ∃ x, w2.heap.size = x := ⟨_, rfl⟩
    have hra := run_alloc_st w2
    have sz := Sx.zero w2
    have x3 := Ext.alloc w2 zst
    obtain ⟨w3, hw3⟩ : ∃ w3, w2.alloc zst = w3 := ⟨_, rfl⟩
    rw [hw3, hx] at hra sz
    rw [hw3] at x3
    have HXW := Lib.hid (show W.heap.size ≤ x by rw [← hx]; exact LA.out.ext.size)
    have NHX := Lib.hid (show ¬ Hot p g m b oa x from fun z => by have := LA.out.jn.lt x z; omega)
    obtain ⟨w4, hs4, sx4, ch4⟩ := st_store sz (hf : Int) (.slice none 0 0) (.slice none 0 0) rfl rfl
    have L4 := Lib.hid ((LA.out.then x3).box sz NHX.out HXW.out ch4)
    have k0 := sx4.c0
    have k1 := sx4.c1
    have k2 := sx4.c2
    have SX4 := Lib.hid sx4
    have SZ4 : RowKit.Hid (Sz (fun q => Hot p g m b oa q ∨ q = x) w4 (.agg (sc (hf : Int) (.slice none 0 0) (.slice none 0 0)).toArray) (Jo.J.first hf).st) := Lib.hid ⟨none, 0, none, 0, rfl, fun W' _ => bs_none24 W', Mz.none _ _⟩
    have hh : Calls Try.prog 20 #[.pointer (some ⟨p, 0, none⟩), .agg #[.int .i64 (hf : Int), .slice none 0 0, .slice none 0 0]] w4 fun e w' => e = .returned (.bool true) ∧ Ext w4 w' := has_yes L4.out SZ4.out.sm
    have RA := Lib.hid hra
    have HS4 := Lib.hid hs4
    clear hra sz x3 hw3 hx hs4 sx4 ch4 LA D1
    go_wp2_with (first
      | ((with_reducible refine opIs ⟨some 10, .alloc 45, _, _, _, _⟩ ?_); refine wpList_allocR rfl 45 rfl _ RA.out ?_)
      | ((with_reducible refine opIs ⟨none, .store 45 (.tmp 10) (.tmp 43), _, _, _, _⟩ ?_); refine wpList_storeR rfl 45 (.tmp 10) (.tmp 43) rfl rfl rfl HS4.out ?_))
    with_reducible refine hh.mono ?_
    rintro e w5 ⟨rfl, x5⟩
    have L5 := Lib.hid (L4.out.then x5)
    have B5 : RowKit.Hid (Sx w5 x ((Jo.J.first hf).half : Int) (.slice none (Jo.J.first hf).base.length 0) (.slice none (Jo.J.first hf).recs.length 0) ∧ Sz (fun q => Hot p g m b oa q ∨ q = x) w5 (.agg (sc ((Jo.J.first hf).half : Int) (.slice none (Jo.J.first hf).base.length 0) (.slice none (Jo.J.first hf).recs.length 0)).toArray) (Jo.J.first hf).st ∧ ¬ Hot p g m b oa x) := Lib.hid ⟨SX4.out.ext x5, SZ4.out.next (Ch.of x5 _), NHX.out⟩
    clear hh x5 k0 k1 k2 L4 SX4 SZ4 RA HS4 NHX
    go_wp2_with (fail)
    go_loopw [11] (fun s wr => ∃ (k N : Nat) (o : Option Nat) (j : Jo.J) (d : Disks.D) (A : Option Addr) (c : Nat) (B : Option Addr) (e : Nat), k ≤ n ∧ s = .int .i64 (k : Int) ∧ RowKit.Hid (Lv W wr p g m b N o j d) ∧ RowKit.Hid (Sx wr x (j.half : Int) (.slice A j.base.length c) (.slice B j.recs.length e) ∧ Sz (fun q => Hot p g m b o q ∨ q = x) wr (.agg (sc (j.half : Int) (.slice A j.base.length c) (.slice B j.recs.length e)).toArray) j.st ∧ ¬ Hot p g m b o x) ∧ RowKit.Hid (d.arm = -1 ∧ N ≤ 1 + 8 * k ∧ j.life ≤ 1 + k ∧ k ≤ 40)) (fun s _ => 40 - (intOf s).toNat)
    case atStart => exact ⟨0, 1, oa, Jo.J.first hf, da, none, 0, none, 0, Nat.zero_le _, rfl, L5, B5, Lib.hid ⟨AA.out, Nat.le_refl _, Nat.le_refl _, Nat.zero_le _⟩⟩
    case round =>
      clear L5 B5 AA
      obtain ⟨k, N, o, j, d, A, c, B, e, hk, rfl, L, BX, NF⟩ := hrel
      by_cases hlt : k < n
      · have i1 : (k : Int) < n := by omega
        by_cases h40 : k < 40
        · have i2 : (k : Int) < 40 := by omega
          obtain ⟨bq, off, rfl, _⟩ := OS.out.load hlt
          have HC0 : RowKit.Hid (∀ Wx, Ext W Wx → Wx.cell? ⟨bq, off + k * 2, none⟩ = some (.int .i64 (q k).kind) ∧ Wx.cell? ⟨bq, off + k * 2 + 1, none⟩ = some (.slice (q k).A (q k).m (q k).c)) := Lib.hid fun Wx hx => by
            obtain ⟨b2, o2, e2, h0, h1, _⟩ := (OS.out.ext hx).at_ k hlt
            cases e2
            exact ⟨h0, h1⟩
          have HLD : RowKit.Hid (∀ Wx, Ext W Wx → (Instr.loadAt 35 (.pointer (some ⟨bq, off + k * 2, none⟩))).run Try.prog Wx = .ok (oval24 (q k)) Wx) := Lib.hid fun Wx hx => by
            obtain ⟨b2, o2, e2, hl⟩ := (OS.out.ext hx).load hlt
            cases e2
            exact hl
          have HQ := Lib.hid (OS.out.bs hlt).1
          obtain ⟨RS, hRS⟩ : ∃ RS, Jo.refS j (pick (q k).kind 3) ((q k).l.take 400) = RS := ⟨_, rfl⟩
          obtain ⟨F, hF⟩ : ∃ F, Jo.refF j (pick (q k).kind 3) ((q k).l.take 400) = F := ⟨_, rfl⟩
          have HRF : RowKit.Hid (∀ (Wx : World) (Z : Nat → Prop), (∀ q, Z q → q < Wx.heap.size) → Ext wr Wx → (∀ q, q < wr.heap.size → Z q → (Hot p g m b o q ∨ q = x)) → Calls Try.prog 21 #[.agg #[.int .i64 (j.half : Int), .slice A j.base.length c, .slice B j.recs.length e], oval24 (q k)] Wx (GivesSt Z Wx RS F)) := Lib.hid fun Wx Z hz hx hy => by
            have := ref_any Wx Z hz j d L.out.at_ _ (BX.out.2.1.down hx hy) (q k) (HQ.out.ext (L.out.ext.trans hx))
            rw [hRS, hF] at this
            exact this
          have HRS := Lib.hid hRS
          have HFF := Lib.hid hF
          have SXR := Lib.hid (fun (Wx : World) (hx : Ext wr Wx) => BX.out.1.ext hx)
          have HZX := Lib.hid (show ∀ q, (Hot p g m b o q ∨ q = x) → q < wr.heap.size from fun q z => by
            rcases z with z | z
            · exact L.out.jn.lt q z
            · rw [z]; exact BX.out.1.lt)
          clear hRS hF
          go_wp2_with (fail)
          have hS0 : (fun Wx : World => Hid (Ext wr Wx)) wr.drew := Lib.hid (Ext.drew wr)
          refine wp_region_T (S := (fun Wx : World => Hid (Ext wr Wx))) 10 rfl rfl ?_
          refine takeC [] (i := 0) (v := ?_) rfl (by kernel_rfl) (by kernel_rfl) (by kernel_rfl) (by kernel_rfl) (by decide) (fun _ _ _ h => h) (by kernel_rfl) (Or.inl ⟨by kernel_rfl, ?_⟩) (by assumption) ?_
          rotate_left
          · (intro W9 hSw; (have a0 := (SXR.out _ hSw.out).c0; have a1 := (SXR.out _ hSw.out).c1; have a2 := (SXR.out _ hSw.out).c2; clear hSw; skip); go_simp; (try with_reducible rfl))
          try simp only [Act.put, List.getElem_toArray, List.getElem_cons_succ, List.getElem_cons_zero, List.setIfInBounds_toArray, List.set_cons_zero, List.set_cons_succ]
          refine takeC [] (i := 1) (v := ?_) rfl (by kernel_rfl) (by kernel_rfl) (by kernel_rfl) (by kernel_rfl) (by decide) (fun _ _ _ h => h) (by kernel_rfl) (Or.inl ⟨by kernel_rfl, ?_⟩) (by assumption) ?_
          rotate_left
          · (intro W9 hSw; go_simp; (try with_reducible rfl))
          try simp only [Act.put, List.getElem_toArray, List.getElem_cons_succ, List.getElem_cons_zero, List.setIfInBounds_toArray, List.set_cons_zero, List.set_cons_succ]
          refine takeC [] (i := 2) (v := ?_) rfl (by kernel_rfl) (by kernel_rfl) (by kernel_rfl) (by kernel_rfl) (by decide) (fun _ _ _ h => h) (by kernel_rfl) (Or.inl ⟨by kernel_rfl, ?_⟩) (by assumption) ?_
          rotate_left
          · (intro W9 hSw; go_simp; (try with_reducible rfl))
          try simp only [Act.put, List.getElem_toArray, List.getElem_cons_succ, List.getElem_cons_zero, List.setIfInBounds_toArray, List.set_cons_zero, List.set_cons_succ]
          refine takeC [] (i := 3) (v := ?_) rfl (by kernel_rfl) (by kernel_rfl) (by kernel_rfl) (by kernel_rfl) (by decide) (fun _ _ _ h => h) (by kernel_rfl) (Or.inl ⟨by kernel_rfl, ?_⟩) (by assumption) ?_
          rotate_left
          · (intro W9 hSw; go_simp; (try with_reducible rfl))
          try simp only [Act.put, List.getElem_toArray, List.getElem_cons_succ, List.getElem_cons_zero, List.setIfInBounds_toArray, List.set_cons_zero, List.set_cons_succ]
          refine takeC [] (i := 4) (v := ?_) rfl (by kernel_rfl) (by kernel_rfl) (by kernel_rfl) (by kernel_rfl) (by decide) (fun _ _ _ h => h) (by kernel_rfl) (Or.inl ⟨by kernel_rfl, ?_⟩) (by assumption) ?_
          rotate_left
          · (intro W9 hSw; (have a := (HC0.out _ (L.out.ext.trans hSw.out)).1; have a2 := (HC0.out _ (L.out.ext.trans hSw.out)).2; clear hSw; skip); go_simp; (try with_reducible rfl))
          try simp only [Act.put, List.getElem_toArray, List.getElem_cons_succ, List.getElem_cons_zero, List.setIfInBounds_toArray, List.set_cons_zero, List.set_cons_succ]
          refine twoT (i := 5) (j := 9) rfl rfl (by kernel_rfl) (fun K hK => ?_) (fun K hK => ?_)
          · rw [if_pos (by kernel_rfl)]
            have hrf := HRF.out wr.drew (fun q => Hot p g m b o q ∨ q = x) HZX.out (Ext.drew wr) (fun q _ z => z)
            go_wp2_with (fail)
            with_reducible refine hrf.mono ?_
            rintro e w5 ⟨v5, rfl, x5, s5⟩
            have hS5 : (fun Wx : World => Hid (Ext wr Wx)) w5 := Lib.hid (hS0.out.trans x5)
            have S5 := Lib.hid s5
            clear x5 s5 hrf
            go_wp2_with (fail)
            refine hK.out _ _ (fun _ => hS5) ?_
            clear hK K
            try simp only [Act.put, List.getElem_toArray, List.getElem_cons_succ, List.getElem_cons_zero, List.setIfInBounds_toArray, List.set_cons_zero, List.set_cons_succ]
            refine takeC [] (i := 6) (v := ?_) rfl (by kernel_rfl) (by kernel_rfl) (by kernel_rfl) (by kernel_rfl) (by decide) (fun _ _ _ h => h) (by kernel_rfl) (Or.inl ⟨by kernel_rfl, ?_⟩) (by assumption) ?_
            rotate_left
            · (intro W9 hSw; go_simp; (try with_reducible rfl))
            try simp only [Act.put, List.getElem_toArray, List.getElem_cons_succ, List.getElem_cons_zero, List.setIfInBounds_toArray, List.set_cons_zero, List.set_cons_succ]
            refine takeC [] (i := 7) (v := ?_) rfl (by kernel_rfl) (by kernel_rfl) (by kernel_rfl) (by kernel_rfl) (by decide) (fun _ _ _ h => h) (by kernel_rfl) (Or.inl ⟨by kernel_rfl, ?_⟩) (by assumption) ?_
            rotate_left
            · (intro W9 hSw; go_simp; (try with_reducible rfl))
            try simp only [Act.put, List.getElem_toArray, List.getElem_cons_succ, List.getElem_cons_zero, List.setIfInBounds_toArray, List.set_cons_zero, List.set_cons_succ]
            refine pureT (i := 8) (v := ?_) rfl (by kernel_rfl) (by kernel_rfl) (by kernel_rfl) (by decide) (fun _ _ _ h => h) (Or.inl ⟨by kernel_rfl, ?_⟩) (fun _ => by assumption) ?_
            rotate_left
            · (intro W9 hSw; go_simp; (try with_reducible rfl))
            try simp only [Act.put, List.getElem_toArray, List.getElem_cons_succ, List.getElem_cons_zero, List.setIfInBounds_toArray, List.set_cons_zero, List.set_cons_succ]
            refine oneT (i := 9) rfl (by kernel_rfl) (fun K hK => ?_)
            rw [if_pos (by kernel_rfl)]
            obtain ⟨y, hy⟩ : ∃ y, w5.heap.size = y := ⟨_, rfl⟩
            have hra := run_alloc_st w5
            have sy := Sx.zero w5
            have x9 := Ext.alloc w5 zst
            obtain ⟨w9, hw9⟩ : ∃ w9, w5.alloc zst = w9 := ⟨_, rfl⟩
            rw [hw9, hy] at hra sy
            rw [hw9] at x9
            have hS9 : (fun Wx : World => Hid (Ext wr Wx)) w9 := Lib.hid (hS5.out.trans x9)
            have YL := Lib.hid (show wr.heap.size ≤ y by rw [← hy]; exact hS5.out.size)
            have SY := Lib.hid sy
            have SS : RowKit.Hid (Sz (fun q => (Hot p g m b o q ∨ q = x) ∨ q = y) w9 v5 RS) := Lib.hid (S5.out.down x9 (fun q hq z => by
              rcases z with z | z
              · exact z
              · omega))
            have RAY := Lib.hid hra
            clear hra sy x9 hy hw9
            refine wp_allocR 45 rfl _ RAY.out rfl ?_
            clear RAY
            refine hK.out _ _ (fun _ => hS9) ?_
            clear hK K
            try simp only [Act.put, List.getElem_toArray, List.getElem_cons_succ, List.getElem_cons_zero, List.setIfInBounds_toArray, List.set_cons_zero, List.set_cons_succ]
            refine oneT (i := 10) rfl (by kernel_rfl) (fun K hK => ?_)
            rw [if_pos (by kernel_rfl)]
            obtain ⟨A5, c5, B5, e5, ev5, _, _⟩ := id SS.out
            obtain ⟨w10, hs10, sx10, ch10⟩ := st_store (w := w9) SY.out (RS.half : Int) (.slice A5 RS.base.length c5) (.slice B5 RS.recs.length e5) rfl rfl
            rw [← ev5] at hs10
            have SXY := Lib.hid sx10
            have SZ10 : RowKit.Hid (Sz (fun q => Hot p g m b o q ∨ q = x) w10 v5 RS) := Lib.hid ((SS.out.next (ch10.mono (fun q _ z => .inr z))).down (Ext.refl _) (fun q _ z => .inl z))
            have X10 := Lib.hid (show Ext wr w10 from ch10.ext hS9.out (fun q z => by rw [show q = y from z]; exact YL.out))
            have EV5 := Lib.hid ev5
            refine wp_storeR 45 (.tmp 12) (.tmp 69) rfl rfl rfl hs10 rfl ?_
            clear hs10 sx10 ch10 ev5 SS SY
            refine hK.out _ _ (fun h => absurd (show true = false from h) (by decide)) ?_
            clear hK K
            try simp only [Act.put, List.getElem_toArray, List.getElem_cons_succ, List.getElem_cons_zero, List.setIfInBounds_toArray, List.set_cons_zero, List.set_cons_succ]
            refine oneT (i := 11) rfl (by kernel_rfl) (fun K hK => ?_)
            rw [if_pos (by kernel_rfl)]
            go_wp2_with (fail)
            refine hK.out _ _ (fun h => absurd (show true = false from h) (by decide)) ?_
            clear hK K
            try simp only [Act.put, List.getElem_toArray, List.getElem_cons_succ, List.getElem_cons_zero, List.setIfInBounds_toArray, List.set_cons_zero, List.set_cons_succ]
            refine doneT (by kernel_rfl) ?_ _
            clear hS0 hS5 hS9 S5 HRF SXR HZX HC0
            have L10 := Lib.hid (L.out.then X10.out)
            have BX10 := Lib.hid (BX.out.1.ext X10.out)
            have hdo := do_lv L10.out NF.out.1 (q k) HQ.out (N' := N + 8) (Nat.le_refl _) (by have := NF.out; unfold maxLen; omega) (by have := NF.out; omega)
            have LD := Lib.hid (HLD.out w10 L10.out.ext)
            have HDO := Lib.hid hdo
            clear hdo HLD
            go_wp2_with (first
              | ((with_reducible refine opIs ⟨some 75, .load 35 (.tmp 74), _, _, _, _⟩ ?_); refine wpList_loadR rfl 35 (.tmp 74) rfl rfl LD.out ?_))
            with_reducible refine HDO.out.mono ?_
            rintro e w11 ⟨f, o11, j11, d11, rfl, l11, a11, lf11, ch11, ho11, hor⟩
            have hFR : f = F ∧ RS = j11.st := by
              rw [← HRS.out, ← HFF.out]
              unfold Jo.refS Jo.refF
              rcases hor with ⟨rfl, hn, rfl⟩ | ⟨rfl, hy, rfl⟩
              · rw [if_neg hn, if_neg hn]; exact ⟨rfl, rfl⟩
              · rw [if_pos hy, if_pos hy]; exact ⟨rfl, rfl⟩
            obtain ⟨rfl, hrs⟩ := hFR
            have L11 := Lib.hid l11
            have NF11 := Lib.hid (show d11.arm = -1 ∧ N + 8 ≤ 1 + 8 * (k + 1) ∧ j11.life ≤ 1 + (k + 1) ∧ k + 1 ≤ 40 by have := NF.out; omega)
            have NHX := Lib.hid (show ¬ Hot p g m b o11 x from fun z => BX.out.2.2 (Hot.mono ho11 x (Nat.lt_of_lt_of_le BX.out.1.lt X10.out.size) z))
            have SXX := Lib.hid (BX10.out.ch ch11 BX.out.2.2)
            have SYY := Lib.hid (SXY.out.ch ch11 (fun z => by have h1 := L.out.jn.lt _ z; have h2 := YL.out; omega))
            have SZ11 : RowKit.Hid (Sz (fun q => Hot p g m b o11 q ∨ q = x) w11 v5 RS) := Lib.hid (SZ10.out.turn (ch11.mono (fun q _ z => .inl z)) (fun q hq z => by
              rcases z with z | z
              · exact .inl (Hot.mono ho11 q hq z)
              · exact .inr z))
            rw [hrs] at SZ11 SYY EV5
            obtain ⟨w12, hs12, sx12, ch12⟩ := st_store SXX.out (j11.st.half : Int) (.slice A5 j11.st.base.length c5) (.slice B5 j11.st.recs.length e5) rfl rfl
            have L12 := Lib.hid (L11.out.box SXX.out NHX.out HXW.out ch12)
            have HS12 := Lib.hid hs12
            have HLY := Lib.hid SYY.out.load
            have BX12 : RowKit.Hid (Sx w12 x (j11.half : Int) (.slice A5 j11.base.length c5) (.slice B5 j11.recs.length e5) ∧ Sz (fun q => Hot p g m b o11 q ∨ q = x) w12 (.agg (sc (j11.half : Int) (.slice A5 j11.base.length c5) (.slice B5 j11.recs.length e5)).toArray) j11.st ∧ ¬ Hot p g m b o11 x) := Lib.hid ⟨sx12, EV5.out ▸ SZ11.out.next (ch12.mono (fun q _ z => .inr z)), NHX.out⟩
            clear l11 a11 lf11 ch11 ho11 hor hrs hs12 sx12 ch12 HDO LD L10 BX10 L11 SXX SYY SZ11 SZ10 SXY NHX EV5 BX L HRS HFF X10
            have ho := open_lv W w12 g m b _ d11 _ L12.out.dl L12.out.at_
            go_wp2_with (first
              | ((with_reducible refine opIs ⟨some 79, .load 45 (.tmp 12), _, _, _, _⟩ ?_); refine wpList_loadR rfl 45 (.tmp 12) rfl rfl HLY.out ?_)
              | ((with_reducible refine opIs ⟨none, .store 45 (.tmp 10) (.tmp 79), _, _, _, _⟩ ?_); refine wpList_storeR rfl 45 (.tmp 10) (.tmp 79) rfl rfl rfl HS12.out ?_))
            with_reducible refine ho.mono ?_
            rintro e w13 ⟨pc, oc, rfl, lc, xc, _, _⟩
            have L13 := Lib.hid (L12.out.then xc)
            have C13 := Lib.hid lc
            have BX13 := Lib.hid (show Sx w13 x (j11.half : Int) (.slice A5 j11.base.length c5) (.slice B5 j11.recs.length e5) ∧ Sz (fun q => Hot p g m b o11 q ∨ q = x) w13 (.agg (sc (j11.half : Int) (.slice A5 j11.base.length c5) (.slice B5 j11.recs.length e5)).toArray) j11.st ∧ ¬ Hot p g m b o11 x from ⟨BX12.out.1.ext xc, BX12.out.2.1.next (Ch.of xc _), BX12.out.2.2⟩)
            clear ho lc xc L12 BX12 HS12 HLY
            have k0 := BX13.out.1.c0
            have k1 := BX13.out.1.c1
            have k2 := BX13.out.1.c2
            have hh : Calls Try.prog 20 #[.pointer (some ⟨p, 0, none⟩), .agg #[.int .i64 (j11.half : Int), .slice A5 j11.base.length c5, .slice B5 j11.recs.length e5]] w13 fun e w' => e = .returned (.bool true) ∧ Ext w13 w' := has_yes L13.out BX13.out.2.1.sm
            go_wp2_with (fail)
            with_reducible refine hh.mono ?_
            rintro e w14 ⟨rfl, x14⟩
            have L14 := Lib.hid (L13.out.then x14)
            have C14 := Lib.hid (C13.out.then x14)
            have BX14 := Lib.hid (show Sx w14 x (j11.half : Int) (.slice A5 j11.base.length c5) (.slice B5 j11.recs.length e5) ∧ Sz (fun q => Hot p g m b o11 q ∨ q = x) w14 (.agg (sc (j11.half : Int) (.slice A5 j11.base.length c5) (.slice B5 j11.recs.length e5)).toArray) j11.st ∧ ¬ Hot p g m b o11 x from ⟨BX13.out.1.ext x14, BX13.out.2.1.next (Ch.of x14 _), BX13.out.2.2⟩)
            clear hh x14 k0 k1 k2 L13 C13 BX13
            have hov := over_ov L14.out.ov
            have k0 := BX14.out.1.c0
            have k1 := BX14.out.1.c1
            have k2 := BX14.out.1.c2
            have hh : Calls Try.prog 20 #[.pointer (some ⟨pc, 0, none⟩), .agg #[.int .i64 (j11.half : Int), .slice A5 j11.base.length c5, .slice B5 j11.recs.length e5]] w14 fun e w' => e = .returned (.bool true) ∧ Ext w14 w' := has_yes C14.out BX14.out.2.1.sm
            go_wp2_with (fail)
            with_reducible refine hov.mono ?_
            rintro e wp ⟨rfl, rfl⟩
            clear hov
            go_wp2_with (fail)
            with_reducible refine hh.mono ?_
            rintro e w15 ⟨rfl, x15⟩
            have L15 := Lib.hid (L14.out.then x15)
            have BX15 := Lib.hid (show Sx w15 x (j11.half : Int) (.slice A5 j11.base.length c5) (.slice B5 j11.recs.length e5) ∧ Sz (fun q => Hot p g m b o11 q ∨ q = x) w15 (.agg (sc (j11.half : Int) (.slice A5 j11.base.length c5) (.slice B5 j11.recs.length e5)).toArray) j11.st ∧ ¬ Hot p g m b o11 x from ⟨BX14.out.1.ext x15, BX14.out.2.1.next (Ch.of x15 _), BX14.out.2.2⟩)
            clear hh x15 k0 k1 k2 L14 C14 BX14
            go_wp2_with (fail)
            exact ⟨⟨k + 1, N + 8, o11, j11, d11, A5, c5, B5, e5, by omega, by go_num, L15, BX15, NF11⟩, by simp [intOf]; omega⟩
          · rw [if_pos (by kernel_rfl)]
            obtain ⟨y, hy⟩ : ∃ y, wr.heap.size = y := ⟨_, rfl⟩
            have hra := run_alloc_st wr.drew
            have sy := Sx.zero wr.drew
            have x8 := Ext.alloc wr.drew zst
            obtain ⟨w8, hw8⟩ : ∃ w8, wr.drew.alloc zst = w8 := ⟨_, rfl⟩
            have hyd : wr.drew.heap.size = y := hy
            rw [hw8, hyd] at hra sy
            rw [hw8] at x8
            have hS8 : (fun Wx : World => Hid (Ext wr Wx)) w8 := Lib.hid (hS0.out.trans x8)
            have YL := Lib.hid (show wr.heap.size ≤ y by omega)
            have SY8 := Lib.hid sy
            have RAY := Lib.hid hra
            clear hra sy x8 hy hw8 hyd
            refine wp_allocR 45 rfl _ RAY.out rfl ?_
            clear RAY
            refine hK.out _ _ (fun _ => hS8) ?_
            clear hK K
            try simp only [Act.put, List.getElem_toArray, List.getElem_cons_succ, List.getElem_cons_zero, List.setIfInBounds_toArray, List.set_cons_zero, List.set_cons_succ]
            refine oneT (i := 5) rfl (by kernel_rfl) (fun K hK => ?_)
            rw [if_pos (by kernel_rfl)]
            have hrf := HRF.out w8 (fun q => (Hot p g m b o q ∨ q = x) ∨ q = y) (fun q z => by
              rcases z with z | z
              · exact Nat.lt_of_lt_of_le (HZX.out q z) hS8.out.size
              · rw [z]; exact SY8.out.lt) hS8.out (fun q hq z => by
              rcases z with z | z
              · exact z
              · have := YL.out; omega)
            go_wp2_with (fail)
            with_reducible refine hrf.mono ?_
            rintro e w9 ⟨v5, rfl, x5, s5⟩
            have hS9 : (fun Wx : World => Hid (Ext wr Wx)) w9 := Lib.hid (hS8.out.trans x5)
            have SS := Lib.hid s5
            have SY := Lib.hid (SY8.out.ext x5)
            clear x5 s5 hrf SY8
            go_wp2_with (fail)
            refine hK.out _ _ (fun _ => hS9) ?_
            clear hK K
            try simp only [Act.put, List.getElem_toArray, List.getElem_cons_succ, List.getElem_cons_zero, List.setIfInBounds_toArray, List.set_cons_zero, List.set_cons_succ]
            refine takeC [] (i := 6) (v := ?_) rfl (by kernel_rfl) (by kernel_rfl) (by kernel_rfl) (by kernel_rfl) (by decide) (fun _ _ _ h => h) (by kernel_rfl) (Or.inl ⟨by kernel_rfl, ?_⟩) (by assumption) ?_
            rotate_left
            · (intro W9 hSw; go_simp; (try with_reducible rfl))
            try simp only [Act.put, List.getElem_toArray, List.getElem_cons_succ, List.getElem_cons_zero, List.setIfInBounds_toArray, List.set_cons_zero, List.set_cons_succ]
            refine takeC [] (i := 7) (v := ?_) rfl (by kernel_rfl) (by kernel_rfl) (by kernel_rfl) (by kernel_rfl) (by decide) (fun _ _ _ h => h) (by kernel_rfl) (Or.inl ⟨by kernel_rfl, ?_⟩) (by assumption) ?_
            rotate_left
            · (intro W9 hSw; go_simp; (try with_reducible rfl))
            try simp only [Act.put, List.getElem_toArray, List.getElem_cons_succ, List.getElem_cons_zero, List.setIfInBounds_toArray, List.set_cons_zero, List.set_cons_succ]
            refine pureT (i := 8) (v := ?_) rfl (by kernel_rfl) (by kernel_rfl) (by kernel_rfl) (by decide) (fun _ _ _ h => h) (Or.inl ⟨by kernel_rfl, ?_⟩) (fun _ => by assumption) ?_
            rotate_left
            · (intro W9 hSw; go_simp; (try with_reducible rfl))
            try simp only [Act.put, List.getElem_toArray, List.getElem_cons_succ, List.getElem_cons_zero, List.setIfInBounds_toArray, List.set_cons_zero, List.set_cons_succ]
            refine oneT (i := 10) rfl (by kernel_rfl) (fun K hK => ?_)
            rw [if_pos (by kernel_rfl)]
            obtain ⟨A5, c5, B5, e5, ev5, _, _⟩ := id SS.out
            obtain ⟨w10, hs10, sx10, ch10⟩ := st_store (w := w9) SY.out (RS.half : Int) (.slice A5 RS.base.length c5) (.slice B5 RS.recs.length e5) rfl rfl
            rw [← ev5] at hs10
            have SXY := Lib.hid sx10
            have SZ10 : RowKit.Hid (Sz (fun q => Hot p g m b o q ∨ q = x) w10 v5 RS) := Lib.hid ((SS.out.next (ch10.mono (fun q _ z => .inr z))).down (Ext.refl _) (fun q _ z => .inl z))
            have X10 := Lib.hid (show Ext wr w10 from ch10.ext hS9.out (fun q z => by rw [show q = y from z]; exact YL.out))
            have EV5 := Lib.hid ev5
            refine wp_storeR 45 (.tmp 12) (.tmp 69) rfl rfl rfl hs10 rfl ?_
            clear hs10 sx10 ch10 ev5 SS SY
            refine hK.out _ _ (fun h => absurd (show true = false from h) (by decide)) ?_
            clear hK K
            try simp only [Act.put, List.getElem_toArray, List.getElem_cons_succ, List.getElem_cons_zero, List.setIfInBounds_toArray, List.set_cons_zero, List.set_cons_succ]
            refine oneT (i := 11) rfl (by kernel_rfl) (fun K hK => ?_)
            rw [if_pos (by kernel_rfl)]
            go_wp2_with (fail)
            refine hK.out _ _ (fun h => absurd (show true = false from h) (by decide)) ?_
            clear hK K
            try simp only [Act.put, List.getElem_toArray, List.getElem_cons_succ, List.getElem_cons_zero, List.setIfInBounds_toArray, List.set_cons_zero, List.set_cons_succ]
            refine doneT (by kernel_rfl) ?_ _
            clear hS0 hS8 hS9 HRF SXR HZX HC0
            have L10 := Lib.hid (L.out.then X10.out)
            have BX10 := Lib.hid (BX.out.1.ext X10.out)
            have hdo := do_lv L10.out NF.out.1 (q k) HQ.out (N' := N + 8) (Nat.le_refl _) (by have := NF.out; unfold maxLen; omega) (by have := NF.out; omega)
            have LD := Lib.hid (HLD.out w10 L10.out.ext)
            have HDO := Lib.hid hdo
            clear hdo HLD
            go_wp2_with (first
              | ((with_reducible refine opIs ⟨some 75, .load 35 (.tmp 74), _, _, _, _⟩ ?_); refine wpList_loadR rfl 35 (.tmp 74) rfl rfl LD.out ?_))
            with_reducible refine HDO.out.mono ?_
            rintro e w11 ⟨f, o11, j11, d11, rfl, l11, a11, lf11, ch11, ho11, hor⟩
            have hFR : f = F ∧ RS = j11.st := by
              rw [← HRS.out, ← HFF.out]
              unfold Jo.refS Jo.refF
              rcases hor with ⟨rfl, hn, rfl⟩ | ⟨rfl, hy, rfl⟩
              · rw [if_neg hn, if_neg hn]; exact ⟨rfl, rfl⟩
              · rw [if_pos hy, if_pos hy]; exact ⟨rfl, rfl⟩
            obtain ⟨rfl, hrs⟩ := hFR
            have L11 := Lib.hid l11
            have NF11 := Lib.hid (show d11.arm = -1 ∧ N + 8 ≤ 1 + 8 * (k + 1) ∧ j11.life ≤ 1 + (k + 1) ∧ k + 1 ≤ 40 by have := NF.out; omega)
            have NHX := Lib.hid (show ¬ Hot p g m b o11 x from fun z => BX.out.2.2 (Hot.mono ho11 x (Nat.lt_of_lt_of_le BX.out.1.lt X10.out.size) z))
            have SXX := Lib.hid (BX10.out.ch ch11 BX.out.2.2)
            have SYY := Lib.hid (SXY.out.ch ch11 (fun z => by have h1 := L.out.jn.lt _ z; have h2 := YL.out; omega))
            have SZ11 : RowKit.Hid (Sz (fun q => Hot p g m b o11 q ∨ q = x) w11 v5 RS) := Lib.hid (SZ10.out.turn (ch11.mono (fun q _ z => .inl z)) (fun q hq z => by
              rcases z with z | z
              · exact .inl (Hot.mono ho11 q hq z)
              · exact .inr z))
            rw [hrs] at SZ11 SYY EV5
            obtain ⟨w12, hs12, sx12, ch12⟩ := st_store SXX.out (j11.st.half : Int) (.slice A5 j11.st.base.length c5) (.slice B5 j11.st.recs.length e5) rfl rfl
            have L12 := Lib.hid (L11.out.box SXX.out NHX.out HXW.out ch12)
            have HS12 := Lib.hid hs12
            have HLY := Lib.hid SYY.out.load
            have BX12 : RowKit.Hid (Sx w12 x (j11.half : Int) (.slice A5 j11.base.length c5) (.slice B5 j11.recs.length e5) ∧ Sz (fun q => Hot p g m b o11 q ∨ q = x) w12 (.agg (sc (j11.half : Int) (.slice A5 j11.base.length c5) (.slice B5 j11.recs.length e5)).toArray) j11.st ∧ ¬ Hot p g m b o11 x) := Lib.hid ⟨sx12, EV5.out ▸ SZ11.out.next (ch12.mono (fun q _ z => .inr z)), NHX.out⟩
            clear l11 a11 lf11 ch11 ho11 hor hrs hs12 sx12 ch12 HDO LD L10 BX10 L11 SXX SYY SZ11 SZ10 SXY NHX EV5 BX L HRS HFF X10
            have ho := open_lv W w12 g m b _ d11 _ L12.out.dl L12.out.at_
            go_wp2_with (first
              | ((with_reducible refine opIs ⟨some 79, .load 45 (.tmp 12), _, _, _, _⟩ ?_); refine wpList_loadR rfl 45 (.tmp 12) rfl rfl HLY.out ?_)
              | ((with_reducible refine opIs ⟨none, .store 45 (.tmp 10) (.tmp 79), _, _, _, _⟩ ?_); refine wpList_storeR rfl 45 (.tmp 10) (.tmp 79) rfl rfl rfl HS12.out ?_))
            with_reducible refine ho.mono ?_
            rintro e w13 ⟨pc, oc, rfl, lc, xc, _, _⟩
            have L13 := Lib.hid (L12.out.then xc)
            have C13 := Lib.hid lc
            have BX13 := Lib.hid (show Sx w13 x (j11.half : Int) (.slice A5 j11.base.length c5) (.slice B5 j11.recs.length e5) ∧ Sz (fun q => Hot p g m b o11 q ∨ q = x) w13 (.agg (sc (j11.half : Int) (.slice A5 j11.base.length c5) (.slice B5 j11.recs.length e5)).toArray) j11.st ∧ ¬ Hot p g m b o11 x from ⟨BX12.out.1.ext xc, BX12.out.2.1.next (Ch.of xc _), BX12.out.2.2⟩)
            clear ho lc xc L12 BX12 HS12 HLY
            have k0 := BX13.out.1.c0
            have k1 := BX13.out.1.c1
            have k2 := BX13.out.1.c2
            have hh : Calls Try.prog 20 #[.pointer (some ⟨p, 0, none⟩), .agg #[.int .i64 (j11.half : Int), .slice A5 j11.base.length c5, .slice B5 j11.recs.length e5]] w13 fun e w' => e = .returned (.bool true) ∧ Ext w13 w' := has_yes L13.out BX13.out.2.1.sm
            go_wp2_with (fail)
            with_reducible refine hh.mono ?_
            rintro e w14 ⟨rfl, x14⟩
            have L14 := Lib.hid (L13.out.then x14)
            have C14 := Lib.hid (C13.out.then x14)
            have BX14 := Lib.hid (show Sx w14 x (j11.half : Int) (.slice A5 j11.base.length c5) (.slice B5 j11.recs.length e5) ∧ Sz (fun q => Hot p g m b o11 q ∨ q = x) w14 (.agg (sc (j11.half : Int) (.slice A5 j11.base.length c5) (.slice B5 j11.recs.length e5)).toArray) j11.st ∧ ¬ Hot p g m b o11 x from ⟨BX13.out.1.ext x14, BX13.out.2.1.next (Ch.of x14 _), BX13.out.2.2⟩)
            clear hh x14 k0 k1 k2 L13 C13 BX13
            have hov := over_ov L14.out.ov
            have k0 := BX14.out.1.c0
            have k1 := BX14.out.1.c1
            have k2 := BX14.out.1.c2
            have hh : Calls Try.prog 20 #[.pointer (some ⟨pc, 0, none⟩), .agg #[.int .i64 (j11.half : Int), .slice A5 j11.base.length c5, .slice B5 j11.recs.length e5]] w14 fun e w' => e = .returned (.bool true) ∧ Ext w14 w' := has_yes C14.out BX14.out.2.1.sm
            go_wp2_with (fail)
            with_reducible refine hov.mono ?_
            rintro e wp ⟨rfl, rfl⟩
            clear hov
            go_wp2_with (fail)
            with_reducible refine hh.mono ?_
            rintro e w15 ⟨rfl, x15⟩
            have L15 := Lib.hid (L14.out.then x15)
            have BX15 := Lib.hid (show Sx w15 x (j11.half : Int) (.slice A5 j11.base.length c5) (.slice B5 j11.recs.length e5) ∧ Sz (fun q => Hot p g m b o11 q ∨ q = x) w15 (.agg (sc (j11.half : Int) (.slice A5 j11.base.length c5) (.slice B5 j11.recs.length e5)).toArray) j11.st ∧ ¬ Hot p g m b o11 x from ⟨BX14.out.1.ext x15, BX14.out.2.1.next (Ch.of x15 _), BX14.out.2.2⟩)
            clear hh x15 k0 k1 k2 L14 C14 BX14
            go_wp2_with (fail)
            exact ⟨⟨k + 1, N + 8, o11, j11, d11, A5, c5, B5, e5, by omega, by go_num, L15, BX15, NF11⟩, by simp [intOf]; omega⟩
        · have i2 : ¬ (k : Int) < 40 := by omega
          have haw := awake24 wr
          go_wp2_with (fail)
          with_reducible refine haw.mono ?_
          rintro e w2 ⟨rfl, x2⟩
          have X2 := Lib.hid (L.out.ext.trans x2)
          clear haw x2
          go_wp2_with (fail)
          go_ret
          exact ⟨rfl, X2.out⟩
      · have i1 : ¬ (k : Int) < n := by omega
        have haw := awake24 wr
        go_wp2_with (fail)
        with_reducible refine haw.mono ?_
        rintro e w2 ⟨rfl, x2⟩
        have X2 := Lib.hid (L.out.ext.trans x2)
        clear haw x2
        go_wp2_with (fail)
        go_ret
        exact ⟨rfl, X2.out⟩
end journalTells
end Go.Proofs.Ytaaegbccejjjcaa
