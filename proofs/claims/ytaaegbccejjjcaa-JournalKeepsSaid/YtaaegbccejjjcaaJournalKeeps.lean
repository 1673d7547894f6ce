/- JournalKeeps' walk. -/
import Derived.Test.YtaaegbccejjjcaaCt33
import Derived.Deep.DeepCutAuto
import Derived.Deep.CutBlock
namespace Go.Proofs.Ytaaegbccejjjcaa
open Go.ChangeShapes Go.WideShapes Go.ChangeAt Go.RowKit Go.Maps Go.Sort Go.Shelf
set_option linter.unusedSimpArgs false

namespace journalKeeps
set_option maxRecDepth 100000 in
set_option maxHeartbeats 16000000 in
theorem walk {H : Type} {enc : TypeId × Value → H} {base : Nat} (W : World) (a0 : Int) (v1 : Value) (d1 : DataW H) (p1 : List MemPlace) (u0 : (Lit.int .u8 a0).wf = true) (o1 : Value.okWide Try.prog W .any base 54 v1) (h1 : DataW.Trod enc Try.prog W 0 (fun _ => true) true 54 v1 d1 p1) :
    Calls Try.prog 8 #[.int .u8 a0, v1] W fun e W' => e = .returned (.bool true) ∧ Ext W W' := by
  obtain ⟨A0, n, c0, fl, rfl, hls⟩ := ls24_open o1 h1
  obtain ⟨x, rfl⟩ := wf_u8 u0
  obtain ⟨ti, hi1, hy0, hy1, hy2⟩ := info_parts bytes_info24
  have hle := hls.le
  have hmx := hls.max
  have LS := Lib.hid hls
  have hx256 : x.toNat < 256 := x.toNat_lt
  clear o1 h1 u0 hls
  go_enter Try.func8, Try.ntmps8
  try dsimp only [List.append]
  go_wp2_with (fail)
  obtain ⟨nn, hnn⟩ : ∃ nn : Nat, 8 + (x.toNat : Int) % 53 = (nn : Int) := ⟨8 + x.toNat % 53, by omega⟩
  have hn8 : 8 ≤ nn ∧ nn ≤ 60 := by omega
  have hnew := new_dl W nn (by omega) (by omega)
  rw [hnn]
  clear hnn hx256
  with_reducible refine hnew.mono ?_
  rintro e w1 ⟨g, m, b, rfl, d1⟩
  have ho := open_new W w1 g m b nn d1 hn8.1 (by omega)
  clear hnew d1
  go_wp2_with (fail)
  with_reducible refine ho.mono ?_
  rintro e w2 ⟨pa, oa, da, rfl, la, _⟩
  have LA := Lib.hid la
  clear ho la
  go_wp2_with (fail)
  go_loopw [7, 8, 9, 11] (fun s7 s8 s9 s wr => ∃ (k N p : Nat) (o : Option Nat) (j : Jo.J) (d : Disks.D) (A7 : Option Addr) (n7 c7 : Nat) (A8 : Option Addr) (n8 c8 : Nat), k ≤ n ∧ s7 = .slice A7 n7 c7 ∧ s8 = .slice A8 n8 c8 ∧ s9 = .pointer (some ⟨p, 0, none⟩) ∧ s = .int .i64 (k : Int) ∧ RowKit.Hid (Lv W wr p g m b N o j d) ∧ RowKit.Hid (Kb (Hot p g m b o) wr A7 n7 c7 A8 n8 c8 j) ∧ RowKit.Hid (N ≤ 1 + 130 * k ∧ j.life ≤ 1 + 16 * k ∧ k ≤ 6)) (fun _ _ _ s _ => 6 - (intOf s).toNat)
  case atStart => exact ⟨0, 1, pa, oa, Jo.J.first (nn / 2), da, none, 0, 0, none, 0, 0, Nat.zero_le _, rfl, rfl, rfl, rfl, LA, Lib.hid ⟨fun W' _ => bs_none24 W', Mz.none _ _⟩, Lib.hid ⟨Nat.le_refl _, Nat.le_refl _, Nat.zero_le _⟩⟩
  case round =>
    clear LA
    obtain ⟨k, N, p, o, j, d, A7, n7, c7, A8, n8, c8, hk, rfl, rfl, rfl, rfl, L, K, NF⟩ := hrel
    by_cases hlt : k < n
    · have i1 : (k : Int) < n := by omega
      by_cases h6 : k < 6
      · have i2 : (k : Int) < 6 := by omega
        obtain ⟨bq, off, rfl, _⟩ := LS.out.load hlt
        have HC : RowKit.Hid (∀ Wx, Ext W Wx → Wx.cell? ⟨bq, off + k * 4, none⟩ = some (.slice (fl k).A (fl k).n (fl k).c) ∧ Wx.cell? ⟨bq, off + k * 4 + 1, none⟩ = some (.int .u8 ((fl k).arm.toNat : Int)) ∧ Wx.cell? ⟨bq, off + k * 4 + 2, none⟩ = some (.slice (fl k).B (fl k).m (fl k).e) ∧ Lo24 Wx (fl k)) := Lib.hid fun Wx hx => by
          obtain ⟨b2, o2, e2, h0, h1, h2, _, h4⟩ := (LS.out.ext hx).at_ k hlt
          cases e2
          exact ⟨h0, h1, h2, h4⟩
        have HLD : RowKit.Hid (∀ Wx, Ext W Wx → (Instr.loadAt 57 (.pointer (some ⟨bq, off + k * 4, none⟩))).run Try.prog Wx = .ok (lval (fl k)) Wx) := Lib.hid fun Wx hx => by
          obtain ⟨b2, o2, e2, hl⟩ := (LS.out.ext hx).load hlt
          cases e2
          exact hl
        have LO := Lib.hid (HC.out W (Ext.refl W)).2.2.2
        have kc1 := (HC.out wr L.out.ext).2.1
        have har : (fl k).arm.toNat < 256 := (fl k).arm.toNat_lt
        go_upto_if 49 with (fail)
        go_cut [] (fun wx => ∃ (wv : World) (d2 : Disks.D), wv = wx ∧ RowKit.Hid (Lv W wx p g m b N o j d2) ∧ RowKit.Hid (Kb (Hot p g m b o) wx A7 n7 c7 A8 n8 c8 j))
        case first =>
          by_cases h0 : (fl k).arm.toNat = 0
          · have t1 : ¬ (0 : Int) < ((fl k).arm.toNat : Int) := by omega
            go_wp2_with (fail)
            go_meet
            exact ⟨_, d, rfl, L, K⟩
          · have t1 : (0 : Int) < ((fl k).arm.toNat : Int) := by omega
            have harm := L.out.jn.ds.arm ((fl k).arm.toNat : Int) (by omega) rfl
            go_wp2_with (fail)
            with_reducible refine harm.mono ?_
            rintro e w3 ⟨rfl, d3, kp3⟩
            have L3 := Lib.hid (L.out.disk kp3 d3 (L.out.at_.arm (n := ((fl k).arm.toNat : Int)) (by omega)))
            have K3 := Lib.hid (K.out.turn (Ch.kp kp3 (Hot.disk ..)) (fun _ _ z => z))
            clear harm d3 kp3
            go_wp2_with (fail)
            go_meet
            exact ⟨_, _, rfl, L3, K3⟩
        case rest =>
          clear kc1
          obtain ⟨wv, d2, rfl, L2, K2⟩ := hcut
          clear L K
          go_wp2_with (fail)
          go_loopw [7, 8, 12, 13, 14] (fun s7 s8 s12 s13 s14 wr => ∃ (k2 N2 : Nat) (o2 : Option Nat) (j2 : Jo.J) (d2 : Disks.D) (A7 : Option Addr) (n7 c7 : Nat) (A8 : Option Addr) (n8 c8 : Nat), s7 = .slice A7 n7 c7 ∧ s8 = .slice A8 n8 c8 ∧ s12 = .slice A7 n7 c7 ∧ s13 = .slice A8 n8 c8 ∧ s14 = .int .i64 (k2 : Int) ∧ RowKit.Hid (Lv W wr p g m b N2 o2 j2 d2) ∧ RowKit.Hid (Kb (Hot p g m b o2) wr A7 n7 c7 A8 n8 c8 j2) ∧ RowKit.Hid (N2 ≤ N + 8 * k2 ∧ j2.life ≤ j.life + k2 ∧ k2 ≤ 15)) (fun _ _ _ _ s _ => 15 - (intOf s).toNat)
          case atStart => exact ⟨0, N, o, j, d2, A7, n7, c7, A8, n8, c8, rfl, rfl, rfl, rfl, rfl, L2, K2, Lib.hid ⟨Nat.le_refl _, Nat.le_refl _, Nat.zero_le _⟩⟩
          case round =>
            clear L2 K2
            obtain ⟨k2, N2, o2, j2, d2, A7, n7, c7, A8, n8, c8, rfl, rfl, rfl, rfl, rfl, L2, K2, NF2⟩ := hrel
            have kc0 := (HC.out wr L2.out.ext).1
            have D2 := Lib.hid L2.out.dl
            by_cases hlt2 : k2 < (fl k).n
            · have i3 : (k2 : Int) < ((fl k).n : Int) := by omega
              by_cases h15 : k2 < 15
              · have i4 : (k2 : Int) < 15 := by omega
                obtain ⟨bo, oo, eA, hld⟩ := (LO.out.ops.ext L2.out.ext).load hlt2
                rw [eA] at kc0
                have HQ0 := Lib.hid (LO.out.ops.bs hlt2).1
                obtain ⟨q, hq⟩ : ∃ q, (fl k).o k2 = q := ⟨_, rfl⟩
                rw [hq] at hld HQ0
                obtain ⟨y, wa, wb, ra, sa, ox, xb, hyl⟩ := op24_new wr q
                have RA := Lib.hid ra
                have SA := Lib.hid sa
                have LDO := Lib.hid hld
                have OX := Lib.hid ox
                have LDX := Lib.hid ox.load
                have L3 := Lib.hid (L2.out.then xb)
                have K3 := Lib.hid (K2.out.ext xb)
                have YL := Lib.hid (show wr.heap.size ≤ y from hyl)
                have NHY := Lib.hid (show ¬ Hot p g m b o2 y from fun z => by have := L2.out.jn.lt y z; omega)
                have hdo := do_any24 wb p g m b N2 o2 j2 d2 L3.out.jn L3.out.at_ q (HQ0.out.ext L3.out.ext) (L3.out.cold HQ0.out) (N2 + 8) (Nat.le_refl _) (by have := NF.out; have := NF2.out; unfold maxLen; omega) (by have := NF.out; have := NF2.out; omega)
                have HDO := Lib.hid hdo
                clear hq ra sa hld ox xb hyl hdo L2 K2 D2
                go_wp2_with (first
                  | ((with_reducible refine opIs ⟨some 81, .load 35 (.tmp 80), _, _, _, _⟩ ?_); refine wpList_loadR rfl 35 (.tmp 80) rfl rfl LDO.out ?_)
                  | ((with_reducible refine opIs ⟨some 15, .alloc 35, _, _, _, _⟩ ?_); refine wpList_allocR rfl 35 rfl _ RA.out ?_)
                  | ((with_reducible refine opIs ⟨none, .store 35 (.tmp 15) (.tmp 81), _, _, _, _⟩ ?_); refine wpList_storeR rfl 35 (.tmp 15) (.tmp 81) rfl rfl rfl SA.out ?_)
                  | ((with_reducible refine opIs ⟨some 83, .load 35 (.tmp 82), _, _, _, _⟩ ?_); refine wpList_loadR rfl 35 (.tmp 82) rfl rfl LDX.out ?_)
                  | ((with_reducible refine opIs ⟨some 83, .load 35 (.tmp 15), _, _, _, _⟩ ?_); refine wpList_loadR rfl 35 (.tmp 15) rfl rfl LDX.out ?_))
                with_reducible refine HDO.out.mono ?_
                rintro e w4 ⟨f, d4, o4, rfl, he, _, ho4, jn4, ch4⟩
                have K4 := Lib.hid (show Kb (Hot p g m b o4) w4 A7 n7 c7 A8 n8 c8 j2 from K3.out.turn ch4 (Hot.mono ho4))
                have OX4 := Lib.hid (OX.out.ch ch4 NHY.out)
                have X4 := Lib.hid (show Ext W w4 from ch4.ext L3.out.ext L3.out.lo)
                have HOTL := Lib.hid (show ∀ q, Hot p g m b o4 q → q < w4.heap.size from fun q z => jn4.lt q z)
                have LO4 := Lib.hid (show ∀ q, Hot p g m b o4 q → W.heap.size ≤ q from fun q z => by
                  have h1 := L3.out.ext.size
                  rcases z with z | z | z | z | z
                  · exact L3.out.lo q (.inl z)
                  · exact L3.out.lo q (.inr (.inl z))
                  · exact L3.out.lo q (.inr (.inr (.inl z)))
                  · exact L3.out.lo q (.inr (.inr (.inr (.inl z))))
                  · rcases ho4 with e | e
                    · rw [e] at z; exact L3.out.lo q (.inr (.inr (.inr (.inr z))))
                    · have := e q z; omega)
                have HE := Lib.hid he
                have JN4 := Lib.hid jn4
                have SMJ := Lib.hid L3.out.at_.small
                have A2 := Lib.hid L3.out.at_
                clear he jn4 ch4 HDO LDO LDX RA SA ho4 L3 K3 kc0
                by_cases h5 : f = 5
                · subst h5
                  have hd : d4 = d2 := by
                    rcases HE.out with ⟨_, _, h⟩ | ⟨h, _⟩ | ⟨h, _⟩
                    · exact h
                    · omega
                    · omega
                  have L4 : RowKit.Hid (Lv W w4 p g m b (N2 + 8) o4 j2 d4) := Lib.hid ⟨(by have := JN4.out; rw [if_neg (show ¬ ((5 : Int) = 0) by omega)] at this; exact this), (by rw [hd]; exact A2.out), X4.out, LO4.out⟩
                  clear hd HE JN4 A2 X4 LO4
                  go_wp2_with (fail)
                  exact ⟨⟨k2 + 1, N2 + 8, o4, j2, d4, A7, n7, c7, A8, n8, c8, rfl, rfl, rfl, rfl, by go_num, L4, K4, Lib.hid (by have := NF2.out; exact ⟨by omega, by omega, by omega⟩)⟩, by simp [intOf]; omega⟩
                · have e5 : (f == 5) = false := by rw [beq_eq_false_iff_ne]; exact h5
                  have kx0 := OX4.out.c0
                  have kx1 := OX4.out.c1
                  have hpk : Calls Try.prog 14 #[.int .i64 q.kind, .int .i64 3] w4 fun r w' => r = .returned (.int .i64 (pick q.kind 3)) ∧ w4 = w' := pick_any w4 q.kind 3 (by omega)
                  obtain ⟨kk, hkk⟩ : ∃ kk, pick q.kind 3 = kk := ⟨_, rfl⟩
                  rw [hkk] at hpk HE JN4
                  obtain ⟨jn, hjn⟩ : ∃ jn, Jo.doJ j2 kk (q.l.take 400) = jn := ⟨_, rfl⟩
                  have LJ := Lib.hid (show jn.life ≤ j2.life + 1 by rw [← hjn]; exact doJ_life _ _ _)
                  have HJN := Lib.hid hjn
                  rw [hjn] at JN4
                  obtain ⟨mm, hmm⟩ : ∃ mm, min q.m 400 = mm := ⟨_, rfl⟩
                  have HSH : RowKit.Hid (∀ Wx, Calls Try.prog 15 #[.slice q.A q.m q.c] Wx fun e w' => e = .returned (.slice q.A mm q.c) ∧ Wx = w') := Lib.hid fun Wx => hmm ▸ short_size Wx q.A q.m q.c HQ0.out.le HQ0.out.max
                  have QZ : RowKit.Hid (Bz (Hot p g m b o4) w4 q.A mm q.c (q.l.take 400)) := Lib.hid (Bz.of (hmm ▸ (HQ0.out.ext X4.out).short) (Cold.old (hmm ▸ HQ0.out.short) X4.out LO4.out))
                  clear hkk hjn hmm
                  go_wp2_with (fail)
                  with_reducible refine hpk.mono ?_
                  rintro e wp ⟨rfl, rfl⟩
                  clear hpk
                  obtain ⟨zb, hz⟩ : ∃ zb, (kk == 2) = zb := ⟨_, rfl⟩
                  go_upto_if 92 with (fail)
                  go_cut [7, 8] (fun s7 s8 wx => ∃ (wv : World) (B7 : Option Addr) (m7 e7 : Nat) (B8 : Option Addr) (m8 e8 : Nat), wv = wx ∧ s7 = .slice B7 m7 e7 ∧ s8 = .slice B8 m8 e8 ∧ RowKit.Hid (Ext w4 wx) ∧ RowKit.Hid (Kb (Hot p g m b o4) wx B7 m7 e7 B8 m8 e8 jn))
                  case first =>
                    cases zb with
                    | true =>
                      have HK2 := Lib.hid (show kk = 2 by simpa using hz)
                      clear hz
                      go_wp2_with (fail)
                      with_reducible refine (HSH.out _).mono ?_
                      rintro e wp ⟨rfl, rfl⟩
                      go_wp2_with (fail)
                      go_meet
                      refine ⟨_, q.A, mm, q.c, none, 0, 0, rfl, rfl, rfl, Lib.hid (Ext.refl _), Lib.hid ?_⟩
                      rw [← HJN.out, HK2.out, Jo.doJ_cp]
                      exact ⟨QZ.out, Mz.none _ _⟩
                    | false =>
                      have HK2 := Lib.hid (show kk ≠ 2 by simpa using hz)
                      clear hz
                      obtain ⟨cs, CL, rds, rows⟩ := K4.out.recs.rows
                      have CSL := Lib.hid CL
                      have RDS := Lib.hid rds
                      have ROWS := Lib.hid rows
                      have N8L := Lib.hid K4.out.recs.len
                      have N8 := Lib.hid (show n8 ≤ 65536 by have h1 := SMJ.out.2.1; have h2 := K4.out.recs.len; omega)
                      have ONE := Lib.hid (show ∀ u ∈ cs, u.oneCell' = true from fun u hu => by
                        obtain ⟨i, hi, rfl⟩ := List.mem_iff_getElem.1 hu
                        obtain ⟨A3, m3, c3, e3, _⟩ := rows i (by omega)
                        rw [List.getElem?_eq_getElem hi] at e3
                        injection e3 with e3
                        rw [e3]
                        rfl)
                      clear CL rds rows kx0 kx1
                      go_wp2_with (fail)
                      have hS0 : (fun Wx : World => Hid (Ext w4 Wx)) w4.drew := Lib.hid (Ext.drew w4)
                      refine wp_region_T (S := (fun Wx : World => Hid (Ext w4 Wx))) 5 rfl rfl ?_
                      refine takeC [2] (i := 1) (v := ?_) rfl (by kernel_rfl) (by kernel_rfl) (by kernel_rfl) (by kernel_rfl) (by decide) (fun _ _ _ h => h) (by kernel_rfl) (Or.inl ⟨by kernel_rfl, ?_⟩) (by assumption) ?_
                      rotate_left
                      · (intro W9 hSw; go_simp; (try with_reducible rfl))
                      try simp only [Act.put, List.getElem_toArray, List.getElem_cons_succ, List.getElem_cons_zero, List.setIfInBounds_toArray, List.set_cons_zero, List.set_cons_succ]
                      refine takeC [4] (i := 3) (v := ?_) rfl (by kernel_rfl) (by kernel_rfl) (by kernel_rfl) (by kernel_rfl) (by decide) (fun _ _ _ h => h) (by kernel_rfl) (Or.inl ⟨by kernel_rfl, ?_⟩) (by assumption) ?_
                      rotate_left
                      · (intro W9 hSw; go_simp; (try with_reducible rfl))
                      try simp only [Act.put, List.getElem_toArray, List.getElem_cons_succ, List.getElem_cons_zero, List.setIfInBounds_toArray, List.set_cons_zero, List.set_cons_succ]
                      refine takeC [] (i := 4) (v := ?_) rfl (by kernel_rfl) (by kernel_rfl) (by kernel_rfl) (by kernel_rfl) (by decide) (fun _ _ _ h => h) (by kernel_rfl) (Or.inl ⟨by kernel_rfl, ?_⟩) (by assumption) ?_
                      rotate_left
                      · (intro W9 hSw; (have a := (OX4.out.ext hSw.out).c1; clear hSw; skip); go_simp; (try with_reducible rfl))
                      try simp only [Act.put, List.getElem_toArray, List.getElem_cons_succ, List.getElem_cons_zero, List.setIfInBounds_toArray, List.set_cons_zero, List.set_cons_succ]
                      refine oneT (i := 0) rfl (by kernel_rfl) (fun K hK => ?_)
                      rw [if_pos (by kernel_rfl)]
                      go_wp2_with (fail)
                      have hS1 : (fun Wx : World => Hid (Ext w4 Wx)) (w4.drew.alloc (.cells #[] 32)) := Lib.hid (hS0.out.thenAlloc _)
                      refine hK.out _ _ (fun _ => hS1) ?_
                      clear hK K
                      try simp only [Act.put, List.getElem_toArray, List.getElem_cons_succ, List.getElem_cons_zero, List.setIfInBounds_toArray, List.set_cons_zero, List.set_cons_succ]
                      refine oneT (i := 2) rfl (by kernel_rfl) (fun K hK => ?_)
                      refine step_append_rd _ rfl (.tmp 96) (.tmp 97) 41 rfl w4.heap.size 32 ti _ 1 24 Try.underlying41 hi1 hy0 hy1 hy2 rfl (by omega) (.slice (some ⟨w4.heap.size, 0, none⟩) 0 0) 0 [] (by simp [Act.eval])
                        (World.ownsRow_lit w4.drew #[] 0 (Nat.le_refl _) (by unfold maxLen; omega) rfl) A8 n8 c8 cs (by simp [Act.eval]) (RDS.out _ (Ch.of hS1.out _)) ONE.out (by have := N8.out; omega) (by have := N8.out; unfold maxLen; omega) (by simp [World.size_alloc]) ?_
                      intro v7 w7 hown7 hg7 hat7
                      rw [Nat.zero_add, List.nil_append] at hown7
                      obtain ⟨E7, ee7, rfl, _, _⟩ := ownsRow_slice hown7
                      have x7 : Ext w4 w7 := by
                        refine hS1.out.ofGrown hg7 (fun q hq => ?_)
                        have hq : some w4.heap.size = some q := hq
                        injection hq with hq
                        omega
                      have hS7 : (fun Wx : World => Hid (Ext w4 Wx)) w7 := Lib.hid x7
                      have OW7 := Lib.hid hown7
                      clear hown7 hg7 hat7 x7
                      refine hK.out _ _ (fun _ => hS7) ?_
                      clear hK K
                      try simp only [Act.put, List.getElem_toArray, List.getElem_cons_succ, List.getElem_cons_zero, List.setIfInBounds_toArray, List.set_cons_zero, List.set_cons_succ]
                      refine oneT (i := 5) rfl (by kernel_rfl) (fun K hK => ?_)
                      rw [if_pos (by kernel_rfl)]
                      go_wp2_with (fail)
                      with_reducible refine (HSH.out _).mono ?_
                      rintro e wp ⟨rfl, rfl⟩
                      go_wp2_with (fail)
                      refine hK.out _ _ (fun h => absurd (show true = false from h) (by decide)) ?_
                      clear hK K
                      try simp only [Act.put, List.getElem_toArray, List.getElem_cons_succ, List.getElem_cons_zero, List.setIfInBounds_toArray, List.set_cons_zero, List.set_cons_succ]
                      refine oneT (i := 6) rfl (by kernel_rfl) (fun K hK => ?_)
                      rw [if_pos (by kernel_rfl)]
                      go_wp2_with (fail)
                      have hS8 : (fun Wx : World => Hid (Ext w4 Wx)) (w7.alloc (.cells #[.slice q.A mm q.c] 32)) := Lib.hid (hS7.out.thenAlloc _)
                      refine hK.out _ _ (fun h => absurd (show true = false from h) (by decide)) ?_
                      clear hK K
                      try simp only [Act.put, List.getElem_toArray, List.getElem_cons_succ, List.getElem_cons_zero, List.setIfInBounds_toArray, List.set_cons_zero, List.set_cons_succ]
                      refine oneT (i := 7) rfl (by kernel_rfl) (fun K hK => ?_)
                      refine step_append_rd _ rfl (.tmp 98) (.tmp 102) 41 rfl w4.heap.size 32 ti _ 1 24 Try.underlying41 hi1 hy0 hy1 hy2 rfl (by omega) (.slice E7 n8 ee7) n8 cs (by simp [Act.eval])
                        (ownsRow_ext OW7.out (Ext.alloc _ _)) (some ⟨w7.heap.size, 0, none⟩) 1 1 [.slice q.A mm q.c] (by simp [Act.eval]) (Rd.lit w7 _ _) (by simp [Value.oneCell']) (by have := N8.out; omega) (by have := N8.out; unfold maxLen; omega) (by have h1 := hS8.out.size; exact h1) ?_
                      intro v9 w9 hown9 hg9 hat9
                      obtain ⟨E9, ee9, rfl, hle9, hmx9⟩ := ownsRow_slice hown9
                      have x9 : Ext w4 w9 := hS8.out.ofGrown hg9 (fun q hq => own_row OW7.out q hq)
                      have hS9 : (fun Wx : World => Hid (Ext w4 Wx)) w9 := Lib.hid x9
                      have MZ9 : RowKit.Hid (Mz (Hot p g m b o4) w9 E9 (n8 + 1) ee9 (j2.recs ++ [q.l.take 400])) := Lib.hid ⟨by rw [List.length_append, N8L.out]; rfl, hle9, hmx9, cs ++ [.slice q.A mm q.c], (by rw [List.length_append, CSL.out]; rfl), fun W2 hW => Rd.of_own (own_ch hown9 hW (fun q hq z => by have h3 := own_row hown9 q hq; have := HOTL.out q z; omega)), fun i hi => by
                        by_cases hik : i < n8
                        · obtain ⟨A3, m3, c3, e3, b3⟩ := ROWS.out i hik
                          have er : Gm.row (j2.recs ++ [q.l.take 400]) i = Gm.row j2.recs i := by simp [Gm.row, List.getElem?_append, N8L.out, hik]
                          rw [er]
                          exact ⟨A3, m3, c3, by rw [List.getElem?_append_left (by rw [CSL.out]; exact hik)]; exact e3, b3.turn (Ch.of x9 _) (fun _ _ z => z)⟩
                        · obtain rfl : i = n8 := by omega
                          have er : Gm.row (j2.recs ++ [q.l.take 400]) i = q.l.take 400 := by simp [Gm.row, ← N8L.out]
                          rw [er]
                          exact ⟨q.A, mm, q.c, by rw [List.getElem?_append_right (by rw [CSL.out]; exact Nat.le_refl _), CSL.out, Nat.sub_self]; rfl, QZ.out.turn (Ch.of x9 _) (fun _ _ z => z)⟩⟩
                      clear hown9 hg9 hat9 x9
                      refine hK.out _ _ (fun h => absurd (show true = false from h) (by decide)) ?_
                      clear hK K
                      try simp only [Act.put, List.getElem_toArray, List.getElem_cons_succ, List.getElem_cons_zero, List.setIfInBounds_toArray, List.set_cons_zero, List.set_cons_succ]
                      refine oneT (i := 8) rfl (by kernel_rfl) (fun K hK => ?_)
                      rw [if_pos (by kernel_rfl)]
                      go_wp2_with (fail)
                      refine hK.out _ _ (fun h => absurd (show true = false from h) (by decide)) ?_
                      clear hK K
                      try simp only [Act.put, List.getElem_toArray, List.getElem_cons_succ, List.getElem_cons_zero, List.setIfInBounds_toArray, List.set_cons_zero, List.set_cons_succ]
                      refine doneT (by kernel_rfl) ?_ _
                      clear hS0 hS1 hS7 hS8
                      go_wp2_with (fail)
                      go_meet
                      refine ⟨_, A7, n7, c7, E9, n8 + 1, ee9, rfl, rfl, rfl, hS9, Lib.hid ?_⟩
                      rw [← HJN.out, show Jo.doJ j2 kk (q.l.take 400) = j2.append (q.l.take 400) from if_neg HK2.out]
                      exact ⟨K4.out.base.turn (Ch.of hS9.out _) (fun _ _ z => z), MZ9.out⟩
                  case rest =>
                    clear hz
                    obtain ⟨wv, B7, m7, e7, B8, m8, e8, rfl, rfl, rfl, X5, KN⟩ := hcut
                    have KO := Lib.hid (K4.out.ext X5.out)
                    have OX5 := Lib.hid (OX4.out.ext X5.out)
                    have JN5 := Lib.hid (JN4.out.ext X5.out)
                    have XW := Lib.hid (X4.out.trans X5.out)
                    clear kx0 kx1 K4 OX4 JN4 X4 X5 QZ HSH SMJ
                    by_cases hf0 : f = 0
                    · subst hf0
                      have L5 : RowKit.Hid (Lv W wv p g m b (N2 + 8) o4 jn d4) := Lib.hid ⟨(by have := JN5.out; rw [if_pos rfl] at this; exact this), (by
                        rcases HE.out with ⟨h, _⟩ | ⟨_, _, h⟩ | ⟨h, _⟩
                        · omega
                        · rw [← HJN.out]; exact h
                        · omega), XW.out, LO4.out⟩
                      clear HE JN5 XW LO4 KO OX5
                      have hs := same_lv L5.out B7 m7 e7 _ KN.out.base.bs B8 m8 e8 _ KN.out.recs.mx (z := true) (decide_eq_true ⟨rfl, rfl⟩)
                      go_wp2_with (fail)
                      with_reducible refine hs.mono ?_
                      rintro e w6 ⟨rfl, x6⟩
                      have L6 := Lib.hid (L5.out.then x6)
                      have K6 := Lib.hid (KN.out.ext x6)
                      clear hs x6 L5 KN
                      go_wp2_with (fail)
                      exact ⟨⟨k2 + 1, N2 + 8, o4, jn, d4, B7, m7, e7, B8, m8, e8, rfl, rfl, rfl, rfl, by go_num, L6, K6, Lib.hid (by have := NF2.out; have := LJ.out; exact ⟨by omega, by omega, by omega⟩)⟩, by simp [intOf]; omega⟩
                    · have hf15 : f = 15 := by
                        rcases HE.out with ⟨h, _⟩ | ⟨h, _⟩ | ⟨h, _⟩
                        · exact absurd h h5
                        · exact absurd h hf0
                        · exact h
                      subst hf15
                      have hB : Jo.Broken d4 j2 jn := by
                        rcases HE.out with ⟨h, _⟩ | ⟨h, _⟩ | ⟨_, _, _, h⟩
                        · omega
                        · omega
                        · rw [← HJN.out]; exact h
                      have HB := Lib.hid hB
                      have JV : RowKit.Hid (Jn wv p g m b (N2 + 8) o4 j2 true d4) := Lib.hid (by have := JN5.out; rw [if_neg (show ¬ ((15 : Int) = 0) by omega)] at this; exact this)
                      have hov := over_any JV.out
                      have hdv : Calls Try.prog 13 #[.pointer (some ⟨p, 0, none⟩), .agg #[.int .i64 q.kind, .slice q.A q.m q.c]] wv fun e w' => e = .returned (.int .i64 17) ∧ Ext wv w' := do_over wv p g m b _ o4 j2 d4 JV.out q (HQ0.out.ext XW.out)
                      have kx0 := OX5.out.c0
                      have kx1 := OX5.out.c1
                      have DV : RowKit.Hid (Dl W wv g m b (N2 + 8) d4) := Lib.hid ⟨JV.out.ds, XW.out, LO4.out g (.inr (.inl rfl)), LO4.out m (.inr (.inr (.inl rfl))), LO4.out b (.inr (.inr (.inr (.inl rfl))))⟩
                      clear hB HE JN5 XW OX5 JV h5 hf0 e5
                      go_wp2_with (fail)
                      with_reducible refine hov.mono ?_
                      rintro e wp ⟨rfl, rfl⟩
                      clear hov
                      go_wp2_with (fail)
                      with_reducible refine hdv.mono ?_
                      rintro e w6 ⟨rfl, x6⟩
                      have D6 := Lib.hid (DV.out.then x6)
                      have KN6 := Lib.hid (KN.out.ext x6)
                      have KO6 := Lib.hid (KO.out.ext x6)
                      clear hdv x6 DV KN KO kx0 kx1
                      rcases HB.out.crash (fl k).keeps with hat | hat
                      · skip
                        have hkb := LO.out.keeps.ext D6.out.ext
                        have kc2 := (HC.out _ D6.out.ext).2.2.1
                        have hcr := D6.out.ds.crash' (fl k).B (fl k).m (fl k).e (fl k).keeps hkb (LO.out.keeps.awy D6.out.lo) rfl
                        clear hkb
                        go_wp2_with (fail)
                        with_reducible refine hcr.mono ?_
                        rintro e v1 ⟨rfl, d5, kp5⟩
                        have H5 := Lib.hid (D6.out.turn d5 kp5)
                        have KP5 := Lib.hid kp5
                        have KA := Lib.hid (show Kb (Dz g m b) v1 B7 m7 e7 B8 m8 e8 _ from KN6.out.turn ((Ch.dz KP5.out).mono (fun q _ z => dz_hot q z)) (fun q _ z => dz_hot q z))
                        have KC := Lib.hid (show Kb (Dz g m b) v1 A7 n7 c7 A8 n8 c8 _ from KO6.out.turn ((Ch.dz KP5.out).mono (fun q _ z => dz_hot q z)) (fun q _ z => dz_hot q z))
                        clear hcr d5 kp5 kc2
                        have hop := opened_any W v1 g m b _ _ j2 H5.out hat (fl k) LO.out.keeps
                        have LDL := Lib.hid (HLD.out v1 H5.out.ext)
                        go_wp2_with (first
                          | ((with_reducible refine opIs ⟨some 134, .load 57 (.tmp 133), _, _, _, _⟩ ?_); refine wpList_loadR rfl 57 (.tmp 133) rfl rfl LDL.out ?_))
                        with_reducible refine hop.mono ?_
                        rintro e v2 ⟨p2, oo2, d6, N6, rfl, l6, hN6, ch6, _, _⟩
                        have L6 := Lib.hid l6
                        have N6L := Lib.hid hN6
                        have K6 := Lib.hid (KA.out.turn ch6 (fun _ _ z => z))
                        have O6 := Lib.hid (KC.out.turn ch6 (fun _ _ z => z))
                        clear hop l6 hN6 ch6 LDL H5
                        obtain ⟨z1, hz1⟩ : ∃ z1, decide (j2.base = jn.base ∧ j2.recs = jn.recs) = z1 := ⟨_, rfl⟩
                        have hs := same_lv L6.out B7 m7 e7 _ K6.out.base.bs B8 m8 e8 _ K6.out.recs.mx hz1
                        clear hz1
                        cases z1 with
                        | true =>
                          go_wp2_with (fail)
                          with_reducible refine hs.mono ?_
                          rintro e v3 ⟨rfl, x7⟩
                          have L7 := Lib.hid (L6.out.then x7)
                          clear hs x7 L6 K6
                          have hb := base_lv L7.out
                          go_wp2_with (fail)
                          with_reducible refine hb.mono ?_
                          rintro e v4 ⟨B9, e9, rfl, b9, nw9, x9⟩
                          have L8 := Lib.hid (L7.out.then x9)
                          have BZ9 := Lib.hid (Bz.of (Z := Hot p2 g m b oo2) b9 (fun hn0 q hq => ⟨b9.block hn0 hq, fun z => by have h1 := nw9 q hq; have h2 := L7.out.jn.lt q z; omega⟩))
                          clear hb b9 nw9 x9
                          have hr := recs_lv L8.out
                          go_wp2_with (fail)
                          with_reducible refine hr.mono ?_
                          rintro e v5 ⟨A10, e10, rfl, _, r10, x10⟩
                          have L9 := Lib.hid (L8.out.then x10)
                          have K9 : RowKit.Hid (Kb (Hot p2 g m b oo2) v5 B9 _ e9 A10 _ e10 j2) := Lib.hid ⟨BZ9.out.turn (Ch.of x10 _) (fun _ _ z => z), RwN.mz r10 (fun q z => L8.out.jn.lt q z) rfl⟩
                          clear hr r10 x10 L7 L8 BZ9
                          go_wp2_with (fail)
                          exact ⟨⟨k + 1, N6, p2, oo2, j2, d6, B9, _, e9, A10, _, e10, by omega, rfl, rfl, rfl, by go_num, L9, K9, Lib.hid (by have h1 := NF.out; have h2 := NF2.out; have h3 := N6L.out; exact ⟨by omega, by omega, by omega⟩)⟩, by simp [intOf]; omega⟩
                        | false =>
                          go_wp2_with (fail)
                          with_reducible refine hs.mono ?_
                          rintro e v3 ⟨rfl, x7⟩
                          have L6b := Lib.hid (L6.out.then x7)
                          have O6b := Lib.hid (O6.out.ext x7)
                          clear hs x7 L6 K6
                          have hs := same_lv L6b.out A7 n7 c7 _ O6b.out.base.bs A8 n8 c8 _ O6b.out.recs.mx (z := true) (decide_eq_true ⟨rfl, rfl⟩)
                          go_wp2_with (fail)
                          with_reducible refine hs.mono ?_
                          rintro e v3b ⟨rfl, x7⟩
                          have L7 := Lib.hid (L6b.out.then x7)
                          clear hs x7 L6b O6b
                          have hb := base_lv L7.out
                          go_wp2_with (fail)
                          with_reducible refine hb.mono ?_
                          rintro e v4 ⟨B9, e9, rfl, b9, nw9, x9⟩
                          have L8 := Lib.hid (L7.out.then x9)
                          have BZ9 := Lib.hid (Bz.of (Z := Hot p2 g m b oo2) b9 (fun hn0 q hq => ⟨b9.block hn0 hq, fun z => by have h1 := nw9 q hq; have h2 := L7.out.jn.lt q z; omega⟩))
                          clear hb b9 nw9 x9
                          have hr := recs_lv L8.out
                          go_wp2_with (fail)
                          with_reducible refine hr.mono ?_
                          rintro e v5 ⟨A10, e10, rfl, _, r10, x10⟩
                          have L9 := Lib.hid (L8.out.then x10)
                          have K9 : RowKit.Hid (Kb (Hot p2 g m b oo2) v5 B9 _ e9 A10 _ e10 j2) := Lib.hid ⟨BZ9.out.turn (Ch.of x10 _) (fun _ _ z => z), RwN.mz r10 (fun q z => L8.out.jn.lt q z) rfl⟩
                          clear hr r10 x10 L7 L8 BZ9
                          go_wp2_with (fail)
                          exact ⟨⟨k + 1, N6, p2, oo2, j2, d6, B9, _, e9, A10, _, e10, by omega, rfl, rfl, rfl, by go_num, L9, K9, Lib.hid (by have h1 := NF.out; have h2 := NF2.out; have h3 := N6L.out; exact ⟨by omega, by omega, by omega⟩)⟩, by simp [intOf]; omega⟩
                      · skip
                        have hkb := LO.out.keeps.ext D6.out.ext
                        have kc2 := (HC.out _ D6.out.ext).2.2.1
                        have hcr := D6.out.ds.crash' (fl k).B (fl k).m (fl k).e (fl k).keeps hkb (LO.out.keeps.awy D6.out.lo) rfl
                        clear hkb
                        go_wp2_with (fail)
                        with_reducible refine hcr.mono ?_
                        rintro e v1 ⟨rfl, d5, kp5⟩
                        have H5 := Lib.hid (D6.out.turn d5 kp5)
                        have KP5 := Lib.hid kp5
                        have KA := Lib.hid (show Kb (Dz g m b) v1 B7 m7 e7 B8 m8 e8 _ from KN6.out.turn ((Ch.dz KP5.out).mono (fun q _ z => dz_hot q z)) (fun q _ z => dz_hot q z))
                        have KC := Lib.hid (show Kb (Dz g m b) v1 A7 n7 c7 A8 n8 c8 _ from KO6.out.turn ((Ch.dz KP5.out).mono (fun q _ z => dz_hot q z)) (fun q _ z => dz_hot q z))
                        clear hcr d5 kp5 kc2
                        have hop := opened_any W v1 g m b _ _ jn H5.out hat (fl k) LO.out.keeps
                        have LDL := Lib.hid (HLD.out v1 H5.out.ext)
                        go_wp2_with (first
                          | ((with_reducible refine opIs ⟨some 134, .load 57 (.tmp 133), _, _, _, _⟩ ?_); refine wpList_loadR rfl 57 (.tmp 133) rfl rfl LDL.out ?_))
                        with_reducible refine hop.mono ?_
                        rintro e v2 ⟨p2, oo2, d6, N6, rfl, l6, hN6, ch6, _, _⟩
                        have L6 := Lib.hid l6
                        have N6L := Lib.hid hN6
                        have K6 := Lib.hid (KA.out.turn ch6 (fun _ _ z => z))
                        have O6 := Lib.hid (KC.out.turn ch6 (fun _ _ z => z))
                        clear hop l6 hN6 ch6 LDL H5
                        have hs := same_lv L6.out B7 m7 e7 _ K6.out.base.bs B8 m8 e8 _ K6.out.recs.mx (z := true) (decide_eq_true ⟨rfl, rfl⟩)
                        go_wp2_with (fail)
                        with_reducible refine hs.mono ?_
                        rintro e v3 ⟨rfl, x7⟩
                        have L7 := Lib.hid (L6.out.then x7)
                        clear hs x7 L6 K6
                        have hb := base_lv L7.out
                        go_wp2_with (fail)
                        with_reducible refine hb.mono ?_
                        rintro e v4 ⟨B9, e9, rfl, b9, nw9, x9⟩
                        have L8 := Lib.hid (L7.out.then x9)
                        have BZ9 := Lib.hid (Bz.of (Z := Hot p2 g m b oo2) b9 (fun hn0 q hq => ⟨b9.block hn0 hq, fun z => by have h1 := nw9 q hq; have h2 := L7.out.jn.lt q z; omega⟩))
                        clear hb b9 nw9 x9
                        have hr := recs_lv L8.out
                        go_wp2_with (fail)
                        with_reducible refine hr.mono ?_
                        rintro e v5 ⟨A10, e10, rfl, _, r10, x10⟩
                        have L9 := Lib.hid (L8.out.then x10)
                        have K9 : RowKit.Hid (Kb (Hot p2 g m b oo2) v5 B9 _ e9 A10 _ e10 jn) := Lib.hid ⟨BZ9.out.turn (Ch.of x10 _) (fun _ _ z => z), RwN.mz r10 (fun q z => L8.out.jn.lt q z) rfl⟩
                        clear hr r10 x10 L7 L8 BZ9
                        go_wp2_with (fail)
                        exact ⟨⟨k + 1, N6, p2, oo2, jn, d6, B9, _, e9, A10, _, e10, by omega, rfl, rfl, rfl, by go_num, L9, K9, Lib.hid (by have h1 := NF.out; have h2 := NF2.out; have h3 := N6L.out; have h4 := LJ.out; exact ⟨by omega, by omega, by omega⟩)⟩, by simp [intOf]; omega⟩
              · have i4 : ¬ (k2 : Int) < 15 := by omega
                have hkb := LO.out.keeps.ext D2.out.ext
                have kc2 := (HC.out _ D2.out.ext).2.2.1
                have hcr := D2.out.ds.crash' (fl k).B (fl k).m (fl k).e (fl k).keeps hkb (LO.out.keeps.awy D2.out.lo) rfl
                clear hkb
                go_wp2_with (fail)
                with_reducible refine hcr.mono ?_
                rintro e v1 ⟨rfl, d5, kp5⟩
                have H5 := Lib.hid (D2.out.turn d5 kp5)
                have KP5 := Lib.hid kp5
                have KA := Lib.hid (show Kb (Dz g m b) v1 A7 n7 c7 A8 n8 c8 _ from K2.out.turn ((Ch.dz KP5.out).mono (fun q _ z => dz_hot q z)) (fun q _ z => dz_hot q z))
                clear hcr d5 kp5 kc2
                have hop := opened_any W v1 g m b _ _ j2 H5.out (L2.out.at_.crash (fl k).keeps) (fl k) LO.out.keeps
                have LDL := Lib.hid (HLD.out v1 H5.out.ext)
                go_wp2_with (first
                  | ((with_reducible refine opIs ⟨some 134, .load 57 (.tmp 133), _, _, _, _⟩ ?_); refine wpList_loadR rfl 57 (.tmp 133) rfl rfl LDL.out ?_))
                with_reducible refine hop.mono ?_
                rintro e v2 ⟨p2, oo2, d6, N6, rfl, l6, hN6, ch6, _, _⟩
                have L6 := Lib.hid l6
                have N6L := Lib.hid hN6
                have K6 := Lib.hid (KA.out.turn ch6 (fun _ _ z => z))
                clear hop l6 hN6 ch6 LDL H5
                have hs := same_lv L6.out A7 n7 c7 _ K6.out.base.bs A8 n8 c8 _ K6.out.recs.mx (z := true) (decide_eq_true ⟨rfl, rfl⟩)
                go_wp2_with (fail)
                with_reducible refine hs.mono ?_
                rintro e v3 ⟨rfl, x7⟩
                have L7 := Lib.hid (L6.out.then x7)
                clear hs x7 L6 K6
                have hb := base_lv L7.out
                go_wp2_with (fail)
                with_reducible refine hb.mono ?_
                rintro e v4 ⟨B9, e9, rfl, b9, nw9, x9⟩
                have L8 := Lib.hid (L7.out.then x9)
                have BZ9 := Lib.hid (Bz.of (Z := Hot p2 g m b oo2) b9 (fun hn0 q hq => ⟨b9.block hn0 hq, fun z => by have h1 := nw9 q hq; have h2 := L7.out.jn.lt q z; omega⟩))
                clear hb b9 nw9 x9
                have hr := recs_lv L8.out
                go_wp2_with (fail)
                with_reducible refine hr.mono ?_
                rintro e v5 ⟨A10, e10, rfl, _, r10, x10⟩
                have L9 := Lib.hid (L8.out.then x10)
                have K9 : RowKit.Hid (Kb (Hot p2 g m b oo2) v5 B9 _ e9 A10 _ e10 j2) := Lib.hid ⟨BZ9.out.turn (Ch.of x10 _) (fun _ _ z => z), RwN.mz r10 (fun q z => L8.out.jn.lt q z) rfl⟩
                clear hr r10 x10 L7 L8 BZ9
                go_wp2_with (fail)
                exact ⟨⟨k + 1, N6, p2, oo2, j2, d6, B9, _, e9, A10, _, e10, by omega, rfl, rfl, rfl, by go_num, L9, K9, Lib.hid (by have h1 := NF.out; have h2 := NF2.out; have h3 := N6L.out; exact ⟨by omega, by omega, by omega⟩)⟩, by simp [intOf]; omega⟩
            · have i3 : ¬ (k2 : Int) < ((fl k).n : Int) := by omega
              have hkb := LO.out.keeps.ext D2.out.ext
              have kc2 := (HC.out _ D2.out.ext).2.2.1
              have hcr := D2.out.ds.crash' (fl k).B (fl k).m (fl k).e (fl k).keeps hkb (LO.out.keeps.awy D2.out.lo) rfl
              clear hkb
              go_wp2_with (fail)
              with_reducible refine hcr.mono ?_
              rintro e v1 ⟨rfl, d5, kp5⟩
              have H5 := Lib.hid (D2.out.turn d5 kp5)
              have KP5 := Lib.hid kp5
              have KA := Lib.hid (show Kb (Dz g m b) v1 A7 n7 c7 A8 n8 c8 _ from K2.out.turn ((Ch.dz KP5.out).mono (fun q _ z => dz_hot q z)) (fun q _ z => dz_hot q z))
              clear hcr d5 kp5 kc2
              have hop := opened_any W v1 g m b _ _ j2 H5.out (L2.out.at_.crash (fl k).keeps) (fl k) LO.out.keeps
              have LDL := Lib.hid (HLD.out v1 H5.out.ext)
              go_wp2_with (first
                | ((with_reducible refine opIs ⟨some 134, .load 57 (.tmp 133), _, _, _, _⟩ ?_); refine wpList_loadR rfl 57 (.tmp 133) rfl rfl LDL.out ?_))
              with_reducible refine hop.mono ?_
              rintro e v2 ⟨p2, oo2, d6, N6, rfl, l6, hN6, ch6, _, _⟩
              have L6 := Lib.hid l6
              have N6L := Lib.hid hN6
              have K6 := Lib.hid (KA.out.turn ch6 (fun _ _ z => z))
              clear hop l6 hN6 ch6 LDL H5
              have hs := same_lv L6.out A7 n7 c7 _ K6.out.base.bs A8 n8 c8 _ K6.out.recs.mx (z := true) (decide_eq_true ⟨rfl, rfl⟩)
              go_wp2_with (fail)
              with_reducible refine hs.mono ?_
              rintro e v3 ⟨rfl, x7⟩
              have L7 := Lib.hid (L6.out.then x7)
              clear hs x7 L6 K6
              have hb := base_lv L7.out
              go_wp2_with (fail)
              with_reducible refine hb.mono ?_
              rintro e v4 ⟨B9, e9, rfl, b9, nw9, x9⟩
              have L8 := Lib.hid (L7.out.then x9)
              have BZ9 := Lib.hid (Bz.of (Z := Hot p2 g m b oo2) b9 (fun hn0 q hq => ⟨b9.block hn0 hq, fun z => by have h1 := nw9 q hq; have h2 := L7.out.jn.lt q z; omega⟩))
              clear hb b9 nw9 x9
              have hr := recs_lv L8.out
              go_wp2_with (fail)
              with_reducible refine hr.mono ?_
              rintro e v5 ⟨A10, e10, rfl, _, r10, x10⟩
              have L9 := Lib.hid (L8.out.then x10)
              have K9 : RowKit.Hid (Kb (Hot p2 g m b oo2) v5 B9 _ e9 A10 _ e10 j2) := Lib.hid ⟨BZ9.out.turn (Ch.of x10 _) (fun _ _ z => z), RwN.mz r10 (fun q z => L8.out.jn.lt q z) rfl⟩
              clear hr r10 x10 L7 L8 BZ9
              go_wp2_with (fail)
              exact ⟨⟨k + 1, N6, p2, oo2, j2, d6, B9, _, e9, A10, _, e10, by omega, rfl, rfl, rfl, by go_num, L9, K9, Lib.hid (by have h1 := NF.out; have h2 := NF2.out; have h3 := N6L.out; exact ⟨by omega, by omega, by omega⟩)⟩, by simp [intOf]; omega⟩
      · have i2 : ¬ (k : Int) < 6 := by omega
        have haw := awake24 wr
        go_wp2_with (fail)
        with_reducible refine haw.mono ?_
        rintro e w2 ⟨rfl, x2⟩
        have X2 := Lib.hid (L.out.ext.trans x2)
        clear haw x2
        go_wp2_with (fail)
        go_ret
        exact ⟨rfl, X2.out⟩
    · have i1 : ¬ (k : Int) < n := by omega
      have haw := awake24 wr
      go_wp2_with (fail)
      with_reducible refine haw.mono ?_
      rintro e w2 ⟨rfl, x2⟩
      have X2 := Lib.hid (L.out.ext.trans x2)
      clear haw x2
      go_wp2_with (fail)
      go_ret
      exact ⟨rfl, X2.out⟩
end journalKeeps
end Go.Proofs.Ytaaegbccejjjcaa
