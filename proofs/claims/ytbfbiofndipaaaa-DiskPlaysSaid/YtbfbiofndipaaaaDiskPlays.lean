/- DiskPlays' walk. -/
import Derived.Test.YtbfbiofndipaaaaCt29
import Derived.Test.YtbfbiofndipaaaaCt2
namespace Go.Proofs.Ytbfbiofndipaaaa
open Go.ChangeShapes Go.WideShapes Go.ChangeAt Go.RowKit Go.Maps Go.Sort Go.Shelf
set_option linter.unusedSimpArgs false

set_option maxRecDepth 100000 in
set_option maxHeartbeats 16000000 in
theorem plays_any (w : World) (se : Int) (A : Option Addr) (n c : Nat) (o : Nat → Op05) (ho : Os05 w A n c o) :
    Calls Try.prog 7 #[.int .i64 se, .slice A n c] w fun e w' => e = .returned (.bool true) ∧ Ext w w' := by
  have q1 := ho.le
  have q2 := ho.max
  have OS := Lib.hid ho
  clear ho
  by_cases h20 : 20 < se
  · go_enter Try.func7, Try.ntmps7
    go_wp2_with (fail)
    with_reducible refine (awake_any5 w).mono ?_
    rintro e w1 ⟨rfl, x1⟩
    go_wp2_with (fail)
    go_ret
    exact ⟨rfl, x1⟩
  · by_cases h1 : se < 1
    · go_enter Try.func7, Try.ntmps7
      go_wp2_with (fail)
      with_reducible refine (dkNew_no w se (Or.inl h1)).mono ?_
      rintro e w1 ⟨rfl, rfl⟩
      go_wp2_with (fail)
      with_reducible refine (ref5New_no w se (Or.inl h1)).mono ?_
      rintro e w2 ⟨rfl, x2⟩
      go_wp2_with (fail)
      with_reducible refine (awake_any5 _).mono ?_
      rintro e w3 ⟨rfl, x3⟩
      go_wp2_with (fail)
      go_ret
      exact ⟨rfl, (x2.thenAlloc _).trans x3⟩
    · obtain ⟨M, rfl⟩ : ∃ M : Nat, se = (M : Int) := ⟨se.toNat, by omega⟩
      have hM1 : 1 ≤ M := by omega
      have hM2 : M ≤ 20 := by omega
      clear h1
      go_enter Try.func7, Try.ntmps7
      go_wp2_with (fail)
      with_reducible refine (dsNew w M hM1 (by omega)).mono ?_
      rintro e w1 ⟨g, rfl, m, b, d1, x1, g1, m1, b1⟩
      have lts := d1.lts
      go_wp2_with (fail)
      with_reducible refine (ref5New_ok w1 g m b lts M hM1 hM2).mono ?_
      rintro e w2 ⟨A2, c2, rfl, x2, r2⟩
      have l2 := x2.size
      obtain ⟨p, hp⟩ : ∃ p, w2.heap.size = p := ⟨_, rfl⟩
      go_upto_region 7 with (fail)
      have v3 := Vd.new w2 A2 M c2 (Disks.new M).arm (Disks.new M).down
      rw [hp] at v3
      have START : Hid (∃ (A : Option Addr) (c : Nat) (d : Disks.D), Pw w (w2.alloc (.cells #[.slice A2 M c2, .int .i64 (Disks.new M).arm, .bool (Disks.new M).down] 54)) g m b p 0 A c M d d) := Lib.hid ⟨A2, c2, _, (d1.ext x2).ext (Ext.alloc _ _), v3, r2.ext (Ext.alloc _ _), (x1.trans x2).thenAlloc _⟩
      have LI : Hid (Lie5 w g m b p) := Lib.hid ⟨g1, m1, b1, by have := x1.size; omega, by omega, by omega, by omega⟩
      have HPL := Lib.hid (show g < p ∧ m < p ∧ b < p from by omega)
      clear d1 x1 g1 m1 b1 x2 r2 l2 lts v3 hp
      go_wp2_with (fail)
      go_loopw [9] (fun i wr => ∃ k : Nat, k ≤ n ∧ k ≤ 80 ∧ i = .int .i64 k ∧ Hid (∃ (A : Option Addr) (c : Nat) (d : Disks.D), Pw w wr g m b p k A c M d d)) (fun i _ => n - (intOf i).toNat)
      case atStart => exact ⟨0, by omega, by omega, rfl, START⟩
      case round =>
        obtain ⟨k, hkn, hk80, rfl, HR⟩ := hrel
        obtain ⟨w100, hw⟩ : ∃ w100, w100 = wr := ⟨_, rfl⟩
        subst hw
        clear START
        obtain ⟨A1, c1, d, hP⟩ := HR.out
        have P100 := Lib.hid hP
        clear HR hP
        by_cases h80 : k < 80
        · by_cases hlt : k < n
          · have i1 : (k : Int) < n := by omega
            have i2 : (k : Int) < 80 := by omega
            obtain ⟨z, off, rfl, hl⟩ := (OS.out.ext P100.out.ext).load hlt
            have HB0 := Lib.hid (OS.out.bls hlt)
            obtain ⟨q, hoo⟩ : ∃ oo, o k = oo := ⟨_, rfl⟩
            rw [hoo] at hl HB0
            obtain ⟨w101, hs, ob, xb⟩ := op_copy w100 q
            obtain ⟨OV, hOV⟩ : ∃ OV, oval q = OV := ⟨_, rfl⟩
            rw [hOV] at hl hs
            have HL := Lib.hid hl
            obtain ⟨po, hp⟩ : ∃ p, w100.heap.size = p := ⟨_, rfl⟩
            rw [hp] at hs ob
            have HSP := Lib.hid hs
            have PO := Lib.hid (show po ≠ g ∧ po ≠ m ∧ po ≠ b from by have := P100.out.ds.lts; omega)
            have HPP := Lib.hid hp
            have OB101 := Lib.hid ob
            have P101 := Lib.hid (P100.out.ext' xb)
            clear hl hs hOV hoo ob xb hp P100
            have o0 := OB101.out.c0
            have o1 := OB101.out.c1
            have o2 := OB101.out.c2
            have o3 := OB101.out.c3
            have o4 := OB101.out.c4
            have o5 := OB101.out.c5
            by_cases hm : 100 < q.m
            · have j1 : (100 : Int) < q.m := by omega
              go_wp2_with (first
                | ((with_reducible refine opIs ⟨some 59, .load 31 (.tmp 58), _, _, _, _⟩ ?_); refine wpList_loadR rfl 31 (.tmp 58) rfl rfl HL.out ?_)
                | ((with_reducible refine opIs ⟨some 10, .alloc 31, _, _, _, _⟩ ?_); refine wpList_allocR rfl 31 rfl _ (run_alloc_op _) ?_; rw [HPP.out])
                | ((with_reducible refine opIs ⟨none, .store 31 (.tmp 10) (.tmp 59), _, _, _, _⟩ ?_); refine wpList_storeR rfl 31 (.tmp 10) (.tmp 59) rfl rfl rfl HSP.out ?_))
              exact ⟨⟨k + 1, by omega, by omega, by go_num, Lib.hid ⟨_, _, _, P101.out.mono (by omega)⟩⟩, by simp [intOf]; omega⟩
            · have j1 : ¬ (100 : Int) < q.m := by omega
              by_cases hn : 1000 < q.n
              · go_wp2_with (first
                  | ((with_reducible refine opIs ⟨some 59, .load 31 (.tmp 58), _, _, _, _⟩ ?_); refine wpList_loadR rfl 31 (.tmp 58) rfl rfl HL.out ?_)
                  | ((with_reducible refine opIs ⟨some 10, .alloc 31, _, _, _, _⟩ ?_); refine wpList_allocR rfl 31 rfl _ (run_alloc_op _) ?_; rw [HPP.out])
                  | ((with_reducible refine opIs ⟨none, .store 31 (.tmp 10) (.tmp 59), _, _, _, _⟩ ?_); refine wpList_storeR rfl 31 (.tmp 10) (.tmp 59) rfl rfl rfl HSP.out ?_))
                exact ⟨⟨k + 1, by omega, by omega, by go_num, Lib.hid ⟨_, _, _, P101.out.mono (by omega)⟩⟩, by simp [intOf]; omega⟩
              · have OK := Lib.hid P101.out.ds.ok
                go_upto_block 2 with (first
                  | ((with_reducible refine opIs ⟨some 59, .load 31 (.tmp 58), _, _, _, _⟩ ?_); refine wpList_loadR rfl 31 (.tmp 58) rfl rfl HL.out ?_)
                  | ((with_reducible refine opIs ⟨some 10, .alloc 31, _, _, _, _⟩ ?_); refine wpList_allocR rfl 31 rfl _ (run_alloc_op _) ?_; rw [HPP.out])
                  | ((with_reducible refine opIs ⟨none, .store 31 (.tmp 10) (.tmp 59), _, _, _, _⟩ ?_); refine wpList_storeR rfl 31 (.tmp 10) (.tmp 59) rfl rfl rfl HSP.out ?_))
                go_cut [11, 12, 13, 14] (fun s11 s12 s13 s14 wx => ∃ wv : World, wv = wx ∧ ∃ (er : Int) (A1 : Option Addr) (n1 c1 : Nat) (A2 : Option Addr) (n2 c2 : Nat) (l : List UInt8) (A3 : Option Addr) (c3 : Nat) (d1 : Disks.D), s11 = .int .i64 er ∧ s12 = .int .i64 er ∧ s13 = .slice A1 n1 c1 ∧ s14 = .slice A2 n2 c2 ∧ RowKit.Hid (Bs wx A1 n1 c1 l) ∧ RowKit.Hid (Bs wx A2 n2 c2 l) ∧ RowKit.Hid (Pw w wx g m b p (k + 1) A3 c3 M d1 d1))
                case first =>
                  rcases (show (q.kind = 1 ∨ q.kind = 2 ∨ q.kind = 3 ∨ q.kind = 4) ∨ (q.kind = 5 ∨ q.kind = 6) ∨ q.kind = 7 ∨ q.kind = 8 ∨ q.kind = 9 ∨ (q.kind = 10 ∨ q.kind = 11) ∨ q.kind = 12 ∨ (q.kind ≠ 1 ∧ q.kind ≠ 2 ∧ q.kind ≠ 3 ∧ q.kind ≠ 4 ∧ q.kind ≠ 5 ∧ q.kind ≠ 6 ∧ q.kind ≠ 7 ∧ q.kind ≠ 8 ∧ q.kind ≠ 9 ∧ q.kind ≠ 10 ∧ q.kind ≠ 11 ∧ q.kind ≠ 12) by omega) with (hk | hk | hk | hk) | (hk | hk) | hk | hk | hk | (hk | hk) | hk | hk
                  · as_aux_lemma =>
                    have t1 : (q.kind == 1) = true := by rw [hk]; rfl
                    clear o0 hk
                    obtain ⟨d1, hd1⟩ : ∃ d1, Disks.writeD d q.i (rep q.b) = d1 := ⟨_, rfl⟩
                    obtain ⟨er, her⟩ : ∃ er, Disks.writeE d q.i (rep q.b) = er := ⟨_, rfl⟩
                    have HD := Lib.hid hd1
                    have HE := Lib.hid her
                    clear hd1 her o1 o2 o3 o4 o5
                    go_upto_region 19 with (fail)
                    have hS : (fun W : World => Hid (Ob5 W po q)) w101.drew := Lib.hid (OB101.out.ext (Ext.drew w101))
                    refine wp_region_T (S := (fun W : World => Hid (Ob5 W po q))) 6 rfl rfl ?_
                    refine takeC [] (i := 0) (v := ?_) rfl (by kernel_rfl) (by kernel_rfl) (by kernel_rfl) (by kernel_rfl) (by decide) (fun _ _ _ h => h) (by kernel_rfl) (Or.inl ⟨by kernel_rfl, ?_⟩) (by assumption) ?_
                    rotate_left
                    · (intro W9 hSw; go_simp; (try with_reducible rfl))
                    try simp only [Act.put, List.setIfInBounds_toArray, List.set_cons_zero, List.set_cons_succ]
                    refine takeC [2] (i := 1) (v := ?_) rfl (by kernel_rfl) (by kernel_rfl) (by kernel_rfl) (by kernel_rfl) (by decide) (fun _ _ _ h => h) (by kernel_rfl) (Or.inl ⟨by kernel_rfl, ?_⟩) (by assumption) ?_
                    rotate_left
                    · (intro W9 hSw; go_simp; (try with_reducible rfl))
                    try simp only [Act.put, List.setIfInBounds_toArray, List.set_cons_zero, List.set_cons_succ]
                    refine takeC [] (i := 2) (v := ?_) rfl (by kernel_rfl) (by kernel_rfl) (by kernel_rfl) (by kernel_rfl) (by decide) (fun _ _ _ h => h) (by kernel_rfl) (Or.inl ⟨by kernel_rfl, ?_⟩) (by assumption) ?_
                    rotate_left
                    · (intro W9 hSw; (have k9 := hSw.out.c1); go_simp; (try with_reducible rfl))
                    try simp only [Act.put, List.setIfInBounds_toArray, List.set_cons_zero, List.set_cons_succ]
                    refine takeC [5,4] (i := 3) (v := ?_) rfl (by kernel_rfl) (by kernel_rfl) (by kernel_rfl) (by kernel_rfl) (by decide) (fun _ _ _ h => h) (by kernel_rfl) (Or.inl ⟨by kernel_rfl, ?_⟩) (by assumption) ?_
                    rotate_left
                    · (intro W9 hSw; go_simp; (try with_reducible rfl))
                    try simp only [Act.put, List.setIfInBounds_toArray, List.set_cons_zero, List.set_cons_succ]
                    refine takeC [5] (i := 4) (v := ?_) rfl (by kernel_rfl) (by kernel_rfl) (by kernel_rfl) (by kernel_rfl) (by decide) (fun _ _ _ h => h) (by kernel_rfl) (Or.inl ⟨by kernel_rfl, ?_⟩) (by assumption) ?_
                    rotate_left
                    · (intro W9 hSw; (have k9 := hSw.out.c4); go_simp; (try with_reducible rfl))
                    try simp only [Act.put, List.setIfInBounds_toArray, List.set_cons_zero, List.set_cons_succ]
                    refine oneT (i := 5) rfl (by kernel_rfl) (fun K hK => ?_)
                    rw [if_pos (by kernel_rfl)]
                    go_wp2_with (fail)
                    with_reducible refine (of_any5 _ q.b).mono ?_
                    rintro e w105 ⟨pa, rfl, oa⟩
                    have OA := Lib.hid oa
                    have P105 := Lib.hid ((P101.out.ext' (Ext.drew w101)).ext' oa.ext)
                    have AW := Lib.hid (Awy.fresh (o := 0) (P101.out.ext' (Ext.drew w101)).ds oa.le)
                    have hS5 : (fun W : World => Hid (Ob5 W po q)) w105 := Lib.hid ((OB101.out.ext (Ext.drew _)).ext oa.ext)
                    clear oa
                    go_wp2_with (fail)
                    refine hK.out _ _ (fun _ => hS5) ?_
                    clear hK K
                    try simp only [Act.put, List.setIfInBounds_toArray, List.set_cons_zero, List.set_cons_succ]
                    refine oneT (i := 6) rfl (by kernel_rfl) (fun K hK => ?_)
                    rw [if_pos (by kernel_rfl)]
                    go_wp2_with (fail)
                    have hc := P105.out.ds.write (by unfold maxLen; omega) q.i _ _ _ (rep q.b) (OA.out.bs (by rw [rep_len]; omega) (rep_len _)) AW.out HE.out HD.out
                    with_reducible refine hc.mono ?_
                    rintro e w102 ⟨rfl, dk, kk⟩
                    have OB102 := Lib.hid (hS5.out.kp kk PO.out.1 PO.out.2.1 PO.out.2.2)
                    have P102 := Lib.hid (P105.out.kp LI.out kk dk)
                    clear dk kk hc
                    go_wp2_with (fail)
                    refine hK.out _ _ (fun h => absurd (show true = false from h) (by decide)) ?_
                    clear hK K
                    try simp only [Act.put, List.setIfInBounds_toArray, List.set_cons_zero, List.set_cons_succ]
                    refine oneT (i := 7) rfl (by kernel_rfl) (fun K hK => ?_)
                    rw [if_pos (by kernel_rfl)]
                    go_wp2_with (fail)
                    refine hK.out _ _ (fun h => absurd (show true = false from h) (by decide)) ?_
                    clear hK K
                    try simp only [Act.put, List.setIfInBounds_toArray, List.set_cons_zero, List.set_cons_succ]
                    refine doneT (by kernel_rfl) ?_ _
                    go_upto_region 20 with (fail)
                    have hS1 : (fun W : World => Hid (Ob5 W po q ∧ Vd W p A1 M c1 d.arm d.down)) w102.drew := Lib.hid ⟨OB102.out.ext (Ext.drew w102), P102.out.vd.ext (Ext.drew w102)⟩
                    refine wp_region_T (S := (fun W : World => Hid (Ob5 W po q ∧ Vd W p A1 M c1 d.arm d.down))) 10 rfl rfl ?_
                    refine takeC [] (i := 0) (v := ?_) rfl (by kernel_rfl) (by kernel_rfl) (by kernel_rfl) (by kernel_rfl) (by decide) (fun _ _ _ h => h) (by kernel_rfl) (Or.inl ⟨by kernel_rfl, ?_⟩) (by assumption) ?_
                    rotate_left
                    · (intro W9 hSw; (have kv0 := hSw.out.2.c0; have kv1 := hSw.out.2.c1; have kv2 := hSw.out.2.c2; clear hSw; skip); go_simp; (try with_reducible rfl))
                    try simp only [Act.put, List.setIfInBounds_toArray, List.set_cons_zero, List.set_cons_succ]
                    refine takeC [] (i := 1) (v := ?_) rfl (by kernel_rfl) (by kernel_rfl) (by kernel_rfl) (by kernel_rfl) (by decide) (fun _ _ _ h => h) (by kernel_rfl) (Or.inl ⟨by kernel_rfl, ?_⟩) (by assumption) ?_
                    rotate_left
                    · (intro W9 hSw; go_simp; (try with_reducible rfl))
                    try simp only [Act.put, List.setIfInBounds_toArray, List.set_cons_zero, List.set_cons_succ]
                    refine takeC [] (i := 2) (v := ?_) rfl (by kernel_rfl) (by kernel_rfl) (by kernel_rfl) (by kernel_rfl) (by decide) (fun _ _ _ h => h) (by kernel_rfl) (Or.inl ⟨by kernel_rfl, ?_⟩) (by assumption) ?_
                    rotate_left
                    · (intro W9 hSw; (have k9 := hSw.out.1.c1); go_simp; (try with_reducible rfl))
                    try simp only [Act.put, List.setIfInBounds_toArray, List.set_cons_zero, List.set_cons_succ]
                    refine takeC [] (i := 3) (v := ?_) rfl (by kernel_rfl) (by kernel_rfl) (by kernel_rfl) (by kernel_rfl) (by decide) (fun _ _ _ h => h) (by kernel_rfl) (Or.inl ⟨by kernel_rfl, ?_⟩) (by assumption) ?_
                    rotate_left
                    · (intro W9 hSw; go_simp; (try with_reducible rfl))
                    try simp only [Act.put, List.setIfInBounds_toArray, List.set_cons_zero, List.set_cons_succ]
                    refine takeC [] (i := 4) (v := ?_) rfl (by kernel_rfl) (by kernel_rfl) (by kernel_rfl) (by kernel_rfl) (by decide) (fun _ _ _ h => h) (by kernel_rfl) (Or.inl ⟨by kernel_rfl, ?_⟩) (by assumption) ?_
                    rotate_left
                    · (intro W9 hSw; (have k9 := hSw.out.1.c4); go_simp; (try with_reducible rfl))
                    try simp only [Act.put, List.setIfInBounds_toArray, List.set_cons_zero, List.set_cons_succ]
                    refine oneT (i := 5) rfl (by kernel_rfl) (fun K hK => ?_)
                    rw [if_pos (by kernel_rfl)]
                    go_wp2_with (fail)
                    with_reducible refine (of_any5 _ q.b).mono ?_
                    rintro e w106 ⟨pa2, rfl, oa⟩
                    have OA2 := Lib.hid oa
                    have P106 := Lib.hid ((P102.out.ext' (Ext.drew w102)).ext' oa.ext)
                    have hS6 : (fun W : World => Hid (Ob5 W po q ∧ Vd W p A1 M c1 d.arm d.down)) w106 := Lib.hid ⟨(OB102.out.ext (Ext.drew _)).ext oa.ext, P106.out.vd⟩
                    clear oa
                    go_wp2_with (fail)
                    refine hK.out _ _ (fun _ => hS6) ?_
                    clear hK K
                    try simp only [Act.put, List.setIfInBounds_toArray, List.set_cons_zero, List.set_cons_succ]
                    refine oneT (i := 6) rfl (by kernel_rfl) (fun K hK => ?_)
                    rw [if_pos (by kernel_rfl)]
                    go_wp2_with (fail)
                    have hr := ref5Write w106 g m b A1 M c1 d P106.out.rf P106.out.lts OK.out q.i _ _ _ (rep q.b) (OA2.out.bs (by rw [rep_len]; omega) (rep_len _)) (by omega)
                    rw [HD.out, HE.out] at hr
                    unfold Gives5 rval at hr
                    with_reducible refine hr.mono ?_
                    rintro e w103 ⟨A3, c3, rfl, x3, r3⟩
                    have V3 := Lib.hid (P106.out.vd.ext x3)
                    have hS7 : (fun W : World => Hid (Ob5 W po q ∧ Vd W p A1 M c1 d.arm d.down)) w103 := Lib.hid ⟨hS6.out.1.ext x3, V3.out⟩
                    have PE := Lib.hid (P106.out.put LI.out x3 r3)
                    clear hr x3 r3
                    go_wp2_with (fail)
                    refine hK.out _ _ (fun _ => hS7) ?_
                    clear hK K
                    try simp only [Act.put, List.setIfInBounds_toArray, List.set_cons_zero, List.set_cons_succ]
                    refine takeC [] (i := 7) (v := ?_) rfl (by kernel_rfl) (by kernel_rfl) (by kernel_rfl) (by kernel_rfl) (by decide) (fun _ _ _ h => h) (by kernel_rfl) (Or.inl ⟨by kernel_rfl, ?_⟩) (by assumption) ?_
                    rotate_left
                    · (intro W9 hSw; go_simp; (try with_reducible rfl))
                    try simp only [Act.put, List.setIfInBounds_toArray, List.set_cons_zero, List.set_cons_succ]
                    refine takeC [] (i := 8) (v := ?_) rfl (by kernel_rfl) (by kernel_rfl) (by kernel_rfl) (by kernel_rfl) (by decide) (fun _ _ _ h => h) (by kernel_rfl) (Or.inl ⟨by kernel_rfl, ?_⟩) (by assumption) ?_
                    rotate_left
                    · (intro W9 hSw; go_simp; (try with_reducible rfl))
                    try simp only [Act.put, List.setIfInBounds_toArray, List.set_cons_zero, List.set_cons_succ]
                    refine pureT (i := 9) (v := ?_) rfl (by kernel_rfl) (by kernel_rfl) (by kernel_rfl) (by decide) (fun _ _ _ h => h) (Or.inl ⟨by kernel_rfl, ?_⟩) (fun _ => by assumption) ?_
                    rotate_left
                    · (intro W9 hSw; go_simp; (try with_reducible rfl))
                    try simp only [Act.put, List.setIfInBounds_toArray, List.set_cons_zero, List.set_cons_succ]
                    refine oneT (i := 10) rfl (by kernel_rfl) (fun K hK => ?_)
                    rw [if_pos (by kernel_rfl)]
                    have kv0 := V3.out.c0
                    have kv1 := V3.out.c1
                    have kv2 := V3.out.c2
                    have fz0 := V3.out.fz 0
                    have fz1 := V3.out.fz 1
                    have fz2 := V3.out.fz 2
                    go_wp2_with (fail)
                    refine hK.out _ _ (fun h => absurd (show true = false from h) (by decide)) ?_
                    clear hK K
                    try simp only [Act.put, List.setIfInBounds_toArray, List.set_cons_zero, List.set_cons_succ]
                    refine oneT (i := 11) rfl (by kernel_rfl) (fun K hK => ?_)
                    rw [if_pos (by kernel_rfl)]
                    go_wp2_with (fail)
                    refine hK.out _ _ (fun h => absurd (show true = false from h) (by decide)) ?_
                    clear hK K
                    try simp only [Act.put, List.setIfInBounds_toArray, List.set_cons_zero, List.set_cons_succ]
                    refine doneT (by kernel_rfl) ?_ _
                    go_wp2_with (fail)
                    go_meet
                    exact ⟨_, rfl, _, _, _, _, _, _, _, [], _, _, _, rfl, rfl, rfl, rfl, Lib.hid (bs_nil _), Lib.hid (bs_nil _), PE⟩
                  · as_aux_lemma =>
                    have t1 : (q.kind == 1) = false := by rw [hk]; rfl
                    have t2 : (q.kind == 2) = true := by rw [hk]; rfl
                    clear o0 hk
                    obtain ⟨d1, hd1⟩ : ∃ d1, Disks.writeD d q.i (rep q.b) = d1 := ⟨_, rfl⟩
                    obtain ⟨er, her⟩ : ∃ er, Disks.writeE d q.i (rep q.b) = er := ⟨_, rfl⟩
                    have HD := Lib.hid hd1
                    have HE := Lib.hid her
                    clear hd1 her o1 o2 o3 o4 o5
                    go_upto_region 19 with (fail)
                    have hS : (fun W : World => Hid (Ob5 W po q)) w101.drew := Lib.hid (OB101.out.ext (Ext.drew w101))
                    refine wp_region_T (S := (fun W : World => Hid (Ob5 W po q))) 6 rfl rfl ?_
                    refine takeC [] (i := 0) (v := ?_) rfl (by kernel_rfl) (by kernel_rfl) (by kernel_rfl) (by kernel_rfl) (by decide) (fun _ _ _ h => h) (by kernel_rfl) (Or.inl ⟨by kernel_rfl, ?_⟩) (by assumption) ?_
                    rotate_left
                    · (intro W9 hSw; go_simp; (try with_reducible rfl))
                    try simp only [Act.put, List.setIfInBounds_toArray, List.set_cons_zero, List.set_cons_succ]
                    refine takeC [2] (i := 1) (v := ?_) rfl (by kernel_rfl) (by kernel_rfl) (by kernel_rfl) (by kernel_rfl) (by decide) (fun _ _ _ h => h) (by kernel_rfl) (Or.inl ⟨by kernel_rfl, ?_⟩) (by assumption) ?_
                    rotate_left
                    · (intro W9 hSw; go_simp; (try with_reducible rfl))
                    try simp only [Act.put, List.setIfInBounds_toArray, List.set_cons_zero, List.set_cons_succ]
                    refine takeC [] (i := 2) (v := ?_) rfl (by kernel_rfl) (by kernel_rfl) (by kernel_rfl) (by kernel_rfl) (by decide) (fun _ _ _ h => h) (by kernel_rfl) (Or.inl ⟨by kernel_rfl, ?_⟩) (by assumption) ?_
                    rotate_left
                    · (intro W9 hSw; (have k9 := hSw.out.c1); go_simp; (try with_reducible rfl))
                    try simp only [Act.put, List.setIfInBounds_toArray, List.set_cons_zero, List.set_cons_succ]
                    refine takeC [5,4] (i := 3) (v := ?_) rfl (by kernel_rfl) (by kernel_rfl) (by kernel_rfl) (by kernel_rfl) (by decide) (fun _ _ _ h => h) (by kernel_rfl) (Or.inl ⟨by kernel_rfl, ?_⟩) (by assumption) ?_
                    rotate_left
                    · (intro W9 hSw; go_simp; (try with_reducible rfl))
                    try simp only [Act.put, List.setIfInBounds_toArray, List.set_cons_zero, List.set_cons_succ]
                    refine takeC [5] (i := 4) (v := ?_) rfl (by kernel_rfl) (by kernel_rfl) (by kernel_rfl) (by kernel_rfl) (by decide) (fun _ _ _ h => h) (by kernel_rfl) (Or.inl ⟨by kernel_rfl, ?_⟩) (by assumption) ?_
                    rotate_left
                    · (intro W9 hSw; (have k9 := hSw.out.c4); go_simp; (try with_reducible rfl))
                    try simp only [Act.put, List.setIfInBounds_toArray, List.set_cons_zero, List.set_cons_succ]
                    refine oneT (i := 5) rfl (by kernel_rfl) (fun K hK => ?_)
                    rw [if_pos (by kernel_rfl)]
                    go_wp2_with (fail)
                    with_reducible refine (of_any5 _ q.b).mono ?_
                    rintro e w105 ⟨pa, rfl, oa⟩
                    have OA := Lib.hid oa
                    have P105 := Lib.hid ((P101.out.ext' (Ext.drew w101)).ext' oa.ext)
                    have AW := Lib.hid (Awy.fresh (o := 0) (P101.out.ext' (Ext.drew w101)).ds oa.le)
                    have hS5 : (fun W : World => Hid (Ob5 W po q)) w105 := Lib.hid ((OB101.out.ext (Ext.drew _)).ext oa.ext)
                    clear oa
                    go_wp2_with (fail)
                    refine hK.out _ _ (fun _ => hS5) ?_
                    clear hK K
                    try simp only [Act.put, List.setIfInBounds_toArray, List.set_cons_zero, List.set_cons_succ]
                    refine oneT (i := 6) rfl (by kernel_rfl) (fun K hK => ?_)
                    rw [if_pos (by kernel_rfl)]
                    go_wp2_with (fail)
                    have hc := P105.out.ds.write (by unfold maxLen; omega) q.i _ _ _ (rep q.b) (OA.out.bs (by rw [rep_len]; omega) (rep_len _)) AW.out HE.out HD.out
                    with_reducible refine hc.mono ?_
                    rintro e w102 ⟨rfl, dk, kk⟩
                    have OB102 := Lib.hid (hS5.out.kp kk PO.out.1 PO.out.2.1 PO.out.2.2)
                    have P102 := Lib.hid (P105.out.kp LI.out kk dk)
                    clear dk kk hc
                    go_wp2_with (fail)
                    refine hK.out _ _ (fun h => absurd (show true = false from h) (by decide)) ?_
                    clear hK K
                    try simp only [Act.put, List.setIfInBounds_toArray, List.set_cons_zero, List.set_cons_succ]
                    refine oneT (i := 7) rfl (by kernel_rfl) (fun K hK => ?_)
                    rw [if_pos (by kernel_rfl)]
                    go_wp2_with (fail)
                    refine hK.out _ _ (fun h => absurd (show true = false from h) (by decide)) ?_
                    clear hK K
                    try simp only [Act.put, List.setIfInBounds_toArray, List.set_cons_zero, List.set_cons_succ]
                    refine doneT (by kernel_rfl) ?_ _
                    go_upto_region 20 with (fail)
                    have hS1 : (fun W : World => Hid (Ob5 W po q ∧ Vd W p A1 M c1 d.arm d.down)) w102.drew := Lib.hid ⟨OB102.out.ext (Ext.drew w102), P102.out.vd.ext (Ext.drew w102)⟩
                    refine wp_region_T (S := (fun W : World => Hid (Ob5 W po q ∧ Vd W p A1 M c1 d.arm d.down))) 10 rfl rfl ?_
                    refine takeC [] (i := 0) (v := ?_) rfl (by kernel_rfl) (by kernel_rfl) (by kernel_rfl) (by kernel_rfl) (by decide) (fun _ _ _ h => h) (by kernel_rfl) (Or.inl ⟨by kernel_rfl, ?_⟩) (by assumption) ?_
                    rotate_left
                    · (intro W9 hSw; (have kv0 := hSw.out.2.c0; have kv1 := hSw.out.2.c1; have kv2 := hSw.out.2.c2; clear hSw; skip); go_simp; (try with_reducible rfl))
                    try simp only [Act.put, List.setIfInBounds_toArray, List.set_cons_zero, List.set_cons_succ]
                    refine takeC [] (i := 1) (v := ?_) rfl (by kernel_rfl) (by kernel_rfl) (by kernel_rfl) (by kernel_rfl) (by decide) (fun _ _ _ h => h) (by kernel_rfl) (Or.inl ⟨by kernel_rfl, ?_⟩) (by assumption) ?_
                    rotate_left
                    · (intro W9 hSw; go_simp; (try with_reducible rfl))
                    try simp only [Act.put, List.setIfInBounds_toArray, List.set_cons_zero, List.set_cons_succ]
                    refine takeC [] (i := 2) (v := ?_) rfl (by kernel_rfl) (by kernel_rfl) (by kernel_rfl) (by kernel_rfl) (by decide) (fun _ _ _ h => h) (by kernel_rfl) (Or.inl ⟨by kernel_rfl, ?_⟩) (by assumption) ?_
                    rotate_left
                    · (intro W9 hSw; (have k9 := hSw.out.1.c1); go_simp; (try with_reducible rfl))
                    try simp only [Act.put, List.setIfInBounds_toArray, List.set_cons_zero, List.set_cons_succ]
                    refine takeC [] (i := 3) (v := ?_) rfl (by kernel_rfl) (by kernel_rfl) (by kernel_rfl) (by kernel_rfl) (by decide) (fun _ _ _ h => h) (by kernel_rfl) (Or.inl ⟨by kernel_rfl, ?_⟩) (by assumption) ?_
                    rotate_left
                    · (intro W9 hSw; go_simp; (try with_reducible rfl))
                    try simp only [Act.put, List.setIfInBounds_toArray, List.set_cons_zero, List.set_cons_succ]
                    refine takeC [] (i := 4) (v := ?_) rfl (by kernel_rfl) (by kernel_rfl) (by kernel_rfl) (by kernel_rfl) (by decide) (fun _ _ _ h => h) (by kernel_rfl) (Or.inl ⟨by kernel_rfl, ?_⟩) (by assumption) ?_
                    rotate_left
                    · (intro W9 hSw; (have k9 := hSw.out.1.c4); go_simp; (try with_reducible rfl))
                    try simp only [Act.put, List.setIfInBounds_toArray, List.set_cons_zero, List.set_cons_succ]
                    refine oneT (i := 5) rfl (by kernel_rfl) (fun K hK => ?_)
                    rw [if_pos (by kernel_rfl)]
                    go_wp2_with (fail)
                    with_reducible refine (of_any5 _ q.b).mono ?_
                    rintro e w106 ⟨pa2, rfl, oa⟩
                    have OA2 := Lib.hid oa
                    have P106 := Lib.hid ((P102.out.ext' (Ext.drew w102)).ext' oa.ext)
                    have hS6 : (fun W : World => Hid (Ob5 W po q ∧ Vd W p A1 M c1 d.arm d.down)) w106 := Lib.hid ⟨(OB102.out.ext (Ext.drew _)).ext oa.ext, P106.out.vd⟩
                    clear oa
                    go_wp2_with (fail)
                    refine hK.out _ _ (fun _ => hS6) ?_
                    clear hK K
                    try simp only [Act.put, List.setIfInBounds_toArray, List.set_cons_zero, List.set_cons_succ]
                    refine oneT (i := 6) rfl (by kernel_rfl) (fun K hK => ?_)
                    rw [if_pos (by kernel_rfl)]
                    go_wp2_with (fail)
                    have hr := ref5Write w106 g m b A1 M c1 d P106.out.rf P106.out.lts OK.out q.i _ _ _ (rep q.b) (OA2.out.bs (by rw [rep_len]; omega) (rep_len _)) (by omega)
                    rw [HD.out, HE.out] at hr
                    unfold Gives5 rval at hr
                    with_reducible refine hr.mono ?_
                    rintro e w103 ⟨A3, c3, rfl, x3, r3⟩
                    have V3 := Lib.hid (P106.out.vd.ext x3)
                    have hS7 : (fun W : World => Hid (Ob5 W po q ∧ Vd W p A1 M c1 d.arm d.down)) w103 := Lib.hid ⟨hS6.out.1.ext x3, V3.out⟩
                    have PE := Lib.hid (P106.out.put LI.out x3 r3)
                    clear hr x3 r3
                    go_wp2_with (fail)
                    refine hK.out _ _ (fun _ => hS7) ?_
                    clear hK K
                    try simp only [Act.put, List.setIfInBounds_toArray, List.set_cons_zero, List.set_cons_succ]
                    refine takeC [] (i := 7) (v := ?_) rfl (by kernel_rfl) (by kernel_rfl) (by kernel_rfl) (by kernel_rfl) (by decide) (fun _ _ _ h => h) (by kernel_rfl) (Or.inl ⟨by kernel_rfl, ?_⟩) (by assumption) ?_
                    rotate_left
                    · (intro W9 hSw; go_simp; (try with_reducible rfl))
                    try simp only [Act.put, List.setIfInBounds_toArray, List.set_cons_zero, List.set_cons_succ]
                    refine takeC [] (i := 8) (v := ?_) rfl (by kernel_rfl) (by kernel_rfl) (by kernel_rfl) (by kernel_rfl) (by decide) (fun _ _ _ h => h) (by kernel_rfl) (Or.inl ⟨by kernel_rfl, ?_⟩) (by assumption) ?_
                    rotate_left
                    · (intro W9 hSw; go_simp; (try with_reducible rfl))
                    try simp only [Act.put, List.setIfInBounds_toArray, List.set_cons_zero, List.set_cons_succ]
                    refine pureT (i := 9) (v := ?_) rfl (by kernel_rfl) (by kernel_rfl) (by kernel_rfl) (by decide) (fun _ _ _ h => h) (Or.inl ⟨by kernel_rfl, ?_⟩) (fun _ => by assumption) ?_
                    rotate_left
                    · (intro W9 hSw; go_simp; (try with_reducible rfl))
                    try simp only [Act.put, List.setIfInBounds_toArray, List.set_cons_zero, List.set_cons_succ]
                    refine oneT (i := 10) rfl (by kernel_rfl) (fun K hK => ?_)
                    rw [if_pos (by kernel_rfl)]
                    have kv0 := V3.out.c0
                    have kv1 := V3.out.c1
                    have kv2 := V3.out.c2
                    have fz0 := V3.out.fz 0
                    have fz1 := V3.out.fz 1
                    have fz2 := V3.out.fz 2
                    go_wp2_with (fail)
                    refine hK.out _ _ (fun h => absurd (show true = false from h) (by decide)) ?_
                    clear hK K
                    try simp only [Act.put, List.setIfInBounds_toArray, List.set_cons_zero, List.set_cons_succ]
                    refine oneT (i := 11) rfl (by kernel_rfl) (fun K hK => ?_)
                    rw [if_pos (by kernel_rfl)]
                    go_wp2_with (fail)
                    refine hK.out _ _ (fun h => absurd (show true = false from h) (by decide)) ?_
                    clear hK K
                    try simp only [Act.put, List.setIfInBounds_toArray, List.set_cons_zero, List.set_cons_succ]
                    refine doneT (by kernel_rfl) ?_ _
                    go_wp2_with (fail)
                    go_meet
                    exact ⟨_, rfl, _, _, _, _, _, _, _, [], _, _, _, rfl, rfl, rfl, rfl, Lib.hid (bs_nil _), Lib.hid (bs_nil _), PE⟩
                  · as_aux_lemma =>
                    have t1 : (q.kind == 1) = false := by rw [hk]; rfl
                    have t2 : (q.kind == 2) = false := by rw [hk]; rfl
                    have t3 : (q.kind == 3) = true := by rw [hk]; rfl
                    clear o0 hk
                    obtain ⟨d1, hd1⟩ : ∃ d1, Disks.writeD d q.i (rep q.b) = d1 := ⟨_, rfl⟩
                    obtain ⟨er, her⟩ : ∃ er, Disks.writeE d q.i (rep q.b) = er := ⟨_, rfl⟩
                    have HD := Lib.hid hd1
                    have HE := Lib.hid her
                    clear hd1 her o1 o2 o3 o4 o5
                    go_upto_region 19 with (fail)
                    have hS : (fun W : World => Hid (Ob5 W po q)) w101.drew := Lib.hid (OB101.out.ext (Ext.drew w101))
                    refine wp_region_T (S := (fun W : World => Hid (Ob5 W po q))) 6 rfl rfl ?_
                    refine takeC [] (i := 0) (v := ?_) rfl (by kernel_rfl) (by kernel_rfl) (by kernel_rfl) (by kernel_rfl) (by decide) (fun _ _ _ h => h) (by kernel_rfl) (Or.inl ⟨by kernel_rfl, ?_⟩) (by assumption) ?_
                    rotate_left
                    · (intro W9 hSw; go_simp; (try with_reducible rfl))
                    try simp only [Act.put, List.setIfInBounds_toArray, List.set_cons_zero, List.set_cons_succ]
                    refine takeC [2] (i := 1) (v := ?_) rfl (by kernel_rfl) (by kernel_rfl) (by kernel_rfl) (by kernel_rfl) (by decide) (fun _ _ _ h => h) (by kernel_rfl) (Or.inl ⟨by kernel_rfl, ?_⟩) (by assumption) ?_
                    rotate_left
                    · (intro W9 hSw; go_simp; (try with_reducible rfl))
                    try simp only [Act.put, List.setIfInBounds_toArray, List.set_cons_zero, List.set_cons_succ]
                    refine takeC [] (i := 2) (v := ?_) rfl (by kernel_rfl) (by kernel_rfl) (by kernel_rfl) (by kernel_rfl) (by decide) (fun _ _ _ h => h) (by kernel_rfl) (Or.inl ⟨by kernel_rfl, ?_⟩) (by assumption) ?_
                    rotate_left
                    · (intro W9 hSw; (have k9 := hSw.out.c1); go_simp; (try with_reducible rfl))
                    try simp only [Act.put, List.setIfInBounds_toArray, List.set_cons_zero, List.set_cons_succ]
                    refine takeC [5,4] (i := 3) (v := ?_) rfl (by kernel_rfl) (by kernel_rfl) (by kernel_rfl) (by kernel_rfl) (by decide) (fun _ _ _ h => h) (by kernel_rfl) (Or.inl ⟨by kernel_rfl, ?_⟩) (by assumption) ?_
                    rotate_left
                    · (intro W9 hSw; go_simp; (try with_reducible rfl))
                    try simp only [Act.put, List.setIfInBounds_toArray, List.set_cons_zero, List.set_cons_succ]
                    refine takeC [5] (i := 4) (v := ?_) rfl (by kernel_rfl) (by kernel_rfl) (by kernel_rfl) (by kernel_rfl) (by decide) (fun _ _ _ h => h) (by kernel_rfl) (Or.inl ⟨by kernel_rfl, ?_⟩) (by assumption) ?_
                    rotate_left
                    · (intro W9 hSw; (have k9 := hSw.out.c4); go_simp; (try with_reducible rfl))
                    try simp only [Act.put, List.setIfInBounds_toArray, List.set_cons_zero, List.set_cons_succ]
                    refine oneT (i := 5) rfl (by kernel_rfl) (fun K hK => ?_)
                    rw [if_pos (by kernel_rfl)]
                    go_wp2_with (fail)
                    with_reducible refine (of_any5 _ q.b).mono ?_
                    rintro e w105 ⟨pa, rfl, oa⟩
                    have OA := Lib.hid oa
                    have P105 := Lib.hid ((P101.out.ext' (Ext.drew w101)).ext' oa.ext)
                    have AW := Lib.hid (Awy.fresh (o := 0) (P101.out.ext' (Ext.drew w101)).ds oa.le)
                    have hS5 : (fun W : World => Hid (Ob5 W po q)) w105 := Lib.hid ((OB101.out.ext (Ext.drew _)).ext oa.ext)
                    clear oa
                    go_wp2_with (fail)
                    refine hK.out _ _ (fun _ => hS5) ?_
                    clear hK K
                    try simp only [Act.put, List.setIfInBounds_toArray, List.set_cons_zero, List.set_cons_succ]
                    refine oneT (i := 6) rfl (by kernel_rfl) (fun K hK => ?_)
                    rw [if_pos (by kernel_rfl)]
                    go_wp2_with (fail)
                    have hc := P105.out.ds.write (by unfold maxLen; omega) q.i _ _ _ (rep q.b) (OA.out.bs (by rw [rep_len]; omega) (rep_len _)) AW.out HE.out HD.out
                    with_reducible refine hc.mono ?_
                    rintro e w102 ⟨rfl, dk, kk⟩
                    have OB102 := Lib.hid (hS5.out.kp kk PO.out.1 PO.out.2.1 PO.out.2.2)
                    have P102 := Lib.hid (P105.out.kp LI.out kk dk)
                    clear dk kk hc
                    go_wp2_with (fail)
                    refine hK.out _ _ (fun h => absurd (show true = false from h) (by decide)) ?_
                    clear hK K
                    try simp only [Act.put, List.setIfInBounds_toArray, List.set_cons_zero, List.set_cons_succ]
                    refine oneT (i := 7) rfl (by kernel_rfl) (fun K hK => ?_)
                    rw [if_pos (by kernel_rfl)]
                    go_wp2_with (fail)
                    refine hK.out _ _ (fun h => absurd (show true = false from h) (by decide)) ?_
                    clear hK K
                    try simp only [Act.put, List.setIfInBounds_toArray, List.set_cons_zero, List.set_cons_succ]
                    refine doneT (by kernel_rfl) ?_ _
                    go_upto_region 20 with (fail)
                    have hS1 : (fun W : World => Hid (Ob5 W po q ∧ Vd W p A1 M c1 d.arm d.down)) w102.drew := Lib.hid ⟨OB102.out.ext (Ext.drew w102), P102.out.vd.ext (Ext.drew w102)⟩
                    refine wp_region_T (S := (fun W : World => Hid (Ob5 W po q ∧ Vd W p A1 M c1 d.arm d.down))) 10 rfl rfl ?_
                    refine takeC [] (i := 0) (v := ?_) rfl (by kernel_rfl) (by kernel_rfl) (by kernel_rfl) (by kernel_rfl) (by decide) (fun _ _ _ h => h) (by kernel_rfl) (Or.inl ⟨by kernel_rfl, ?_⟩) (by assumption) ?_
                    rotate_left
                    · (intro W9 hSw; (have kv0 := hSw.out.2.c0; have kv1 := hSw.out.2.c1; have kv2 := hSw.out.2.c2; clear hSw; skip); go_simp; (try with_reducible rfl))
                    try simp only [Act.put, List.setIfInBounds_toArray, List.set_cons_zero, List.set_cons_succ]
                    refine takeC [] (i := 1) (v := ?_) rfl (by kernel_rfl) (by kernel_rfl) (by kernel_rfl) (by kernel_rfl) (by decide) (fun _ _ _ h => h) (by kernel_rfl) (Or.inl ⟨by kernel_rfl, ?_⟩) (by assumption) ?_
                    rotate_left
                    · (intro W9 hSw; go_simp; (try with_reducible rfl))
                    try simp only [Act.put, List.setIfInBounds_toArray, List.set_cons_zero, List.set_cons_succ]
                    refine takeC [] (i := 2) (v := ?_) rfl (by kernel_rfl) (by kernel_rfl) (by kernel_rfl) (by kernel_rfl) (by decide) (fun _ _ _ h => h) (by kernel_rfl) (Or.inl ⟨by kernel_rfl, ?_⟩) (by assumption) ?_
                    rotate_left
                    · (intro W9 hSw; (have k9 := hSw.out.1.c1); go_simp; (try with_reducible rfl))
                    try simp only [Act.put, List.setIfInBounds_toArray, List.set_cons_zero, List.set_cons_succ]
                    refine takeC [] (i := 3) (v := ?_) rfl (by kernel_rfl) (by kernel_rfl) (by kernel_rfl) (by kernel_rfl) (by decide) (fun _ _ _ h => h) (by kernel_rfl) (Or.inl ⟨by kernel_rfl, ?_⟩) (by assumption) ?_
                    rotate_left
                    · (intro W9 hSw; go_simp; (try with_reducible rfl))
                    try simp only [Act.put, List.setIfInBounds_toArray, List.set_cons_zero, List.set_cons_succ]
                    refine takeC [] (i := 4) (v := ?_) rfl (by kernel_rfl) (by kernel_rfl) (by kernel_rfl) (by kernel_rfl) (by decide) (fun _ _ _ h => h) (by kernel_rfl) (Or.inl ⟨by kernel_rfl, ?_⟩) (by assumption) ?_
                    rotate_left
                    · (intro W9 hSw; (have k9 := hSw.out.1.c4); go_simp; (try with_reducible rfl))
                    try simp only [Act.put, List.setIfInBounds_toArray, List.set_cons_zero, List.set_cons_succ]
                    refine oneT (i := 5) rfl (by kernel_rfl) (fun K hK => ?_)
                    rw [if_pos (by kernel_rfl)]
                    go_wp2_with (fail)
                    with_reducible refine (of_any5 _ q.b).mono ?_
                    rintro e w106 ⟨pa2, rfl, oa⟩
                    have OA2 := Lib.hid oa
                    have P106 := Lib.hid ((P102.out.ext' (Ext.drew w102)).ext' oa.ext)
                    have hS6 : (fun W : World => Hid (Ob5 W po q ∧ Vd W p A1 M c1 d.arm d.down)) w106 := Lib.hid ⟨(OB102.out.ext (Ext.drew _)).ext oa.ext, P106.out.vd⟩
                    clear oa
                    go_wp2_with (fail)
                    refine hK.out _ _ (fun _ => hS6) ?_
                    clear hK K
                    try simp only [Act.put, List.setIfInBounds_toArray, List.set_cons_zero, List.set_cons_succ]
                    refine oneT (i := 6) rfl (by kernel_rfl) (fun K hK => ?_)
                    rw [if_pos (by kernel_rfl)]
                    go_wp2_with (fail)
                    have hr := ref5Write w106 g m b A1 M c1 d P106.out.rf P106.out.lts OK.out q.i _ _ _ (rep q.b) (OA2.out.bs (by rw [rep_len]; omega) (rep_len _)) (by omega)
                    rw [HD.out, HE.out] at hr
                    unfold Gives5 rval at hr
                    with_reducible refine hr.mono ?_
                    rintro e w103 ⟨A3, c3, rfl, x3, r3⟩
                    have V3 := Lib.hid (P106.out.vd.ext x3)
                    have hS7 : (fun W : World => Hid (Ob5 W po q ∧ Vd W p A1 M c1 d.arm d.down)) w103 := Lib.hid ⟨hS6.out.1.ext x3, V3.out⟩
                    have PE := Lib.hid (P106.out.put LI.out x3 r3)
                    clear hr x3 r3
                    go_wp2_with (fail)
                    refine hK.out _ _ (fun _ => hS7) ?_
                    clear hK K
                    try simp only [Act.put, List.setIfInBounds_toArray, List.set_cons_zero, List.set_cons_succ]
                    refine takeC [] (i := 7) (v := ?_) rfl (by kernel_rfl) (by kernel_rfl) (by kernel_rfl) (by kernel_rfl) (by decide) (fun _ _ _ h => h) (by kernel_rfl) (Or.inl ⟨by kernel_rfl, ?_⟩) (by assumption) ?_
                    rotate_left
                    · (intro W9 hSw; go_simp; (try with_reducible rfl))
                    try simp only [Act.put, List.setIfInBounds_toArray, List.set_cons_zero, List.set_cons_succ]
                    refine takeC [] (i := 8) (v := ?_) rfl (by kernel_rfl) (by kernel_rfl) (by kernel_rfl) (by kernel_rfl) (by decide) (fun _ _ _ h => h) (by kernel_rfl) (Or.inl ⟨by kernel_rfl, ?_⟩) (by assumption) ?_
                    rotate_left
                    · (intro W9 hSw; go_simp; (try with_reducible rfl))
                    try simp only [Act.put, List.setIfInBounds_toArray, List.set_cons_zero, List.set_cons_succ]
                    refine pureT (i := 9) (v := ?_) rfl (by kernel_rfl) (by kernel_rfl) (by kernel_rfl) (by decide) (fun _ _ _ h => h) (Or.inl ⟨by kernel_rfl, ?_⟩) (fun _ => by assumption) ?_
                    rotate_left
                    · (intro W9 hSw; go_simp; (try with_reducible rfl))
                    try simp only [Act.put, List.setIfInBounds_toArray, List.set_cons_zero, List.set_cons_succ]
                    refine oneT (i := 10) rfl (by kernel_rfl) (fun K hK => ?_)
                    rw [if_pos (by kernel_rfl)]
                    have kv0 := V3.out.c0
                    have kv1 := V3.out.c1
                    have kv2 := V3.out.c2
                    have fz0 := V3.out.fz 0
                    have fz1 := V3.out.fz 1
                    have fz2 := V3.out.fz 2
                    go_wp2_with (fail)
                    refine hK.out _ _ (fun h => absurd (show true = false from h) (by decide)) ?_
                    clear hK K
                    try simp only [Act.put, List.setIfInBounds_toArray, List.set_cons_zero, List.set_cons_succ]
                    refine oneT (i := 11) rfl (by kernel_rfl) (fun K hK => ?_)
                    rw [if_pos (by kernel_rfl)]
                    go_wp2_with (fail)
                    refine hK.out _ _ (fun h => absurd (show true = false from h) (by decide)) ?_
                    clear hK K
                    try simp only [Act.put, List.setIfInBounds_toArray, List.set_cons_zero, List.set_cons_succ]
                    refine doneT (by kernel_rfl) ?_ _
                    go_wp2_with (fail)
                    go_meet
                    exact ⟨_, rfl, _, _, _, _, _, _, _, [], _, _, _, rfl, rfl, rfl, rfl, Lib.hid (bs_nil _), Lib.hid (bs_nil _), PE⟩
                  · as_aux_lemma =>
                    have t1 : (q.kind == 1) = false := by rw [hk]; rfl
                    have t2 : (q.kind == 2) = false := by rw [hk]; rfl
                    have t3 : (q.kind == 3) = false := by rw [hk]; rfl
                    have t4 : (q.kind == 4) = true := by rw [hk]; rfl
                    clear o0 hk
                    obtain ⟨d1, hd1⟩ : ∃ d1, Disks.writeD d q.i (rep q.b) = d1 := ⟨_, rfl⟩
                    obtain ⟨er, her⟩ : ∃ er, Disks.writeE d q.i (rep q.b) = er := ⟨_, rfl⟩
                    have HD := Lib.hid hd1
                    have HE := Lib.hid her
                    clear hd1 her o1 o2 o3 o4 o5
                    go_upto_region 19 with (fail)
                    have hS : (fun W : World => Hid (Ob5 W po q)) w101.drew := Lib.hid (OB101.out.ext (Ext.drew w101))
                    refine wp_region_T (S := (fun W : World => Hid (Ob5 W po q))) 6 rfl rfl ?_
                    refine takeC [] (i := 0) (v := ?_) rfl (by kernel_rfl) (by kernel_rfl) (by kernel_rfl) (by kernel_rfl) (by decide) (fun _ _ _ h => h) (by kernel_rfl) (Or.inl ⟨by kernel_rfl, ?_⟩) (by assumption) ?_
                    rotate_left
                    · (intro W9 hSw; go_simp; (try with_reducible rfl))
                    try simp only [Act.put, List.setIfInBounds_toArray, List.set_cons_zero, List.set_cons_succ]
                    refine takeC [2] (i := 1) (v := ?_) rfl (by kernel_rfl) (by kernel_rfl) (by kernel_rfl) (by kernel_rfl) (by decide) (fun _ _ _ h => h) (by kernel_rfl) (Or.inl ⟨by kernel_rfl, ?_⟩) (by assumption) ?_
                    rotate_left
                    · (intro W9 hSw; go_simp; (try with_reducible rfl))
                    try simp only [Act.put, List.setIfInBounds_toArray, List.set_cons_zero, List.set_cons_succ]
                    refine takeC [] (i := 2) (v := ?_) rfl (by kernel_rfl) (by kernel_rfl) (by kernel_rfl) (by kernel_rfl) (by decide) (fun _ _ _ h => h) (by kernel_rfl) (Or.inl ⟨by kernel_rfl, ?_⟩) (by assumption) ?_
                    rotate_left
                    · (intro W9 hSw; (have k9 := hSw.out.c1); go_simp; (try with_reducible rfl))
                    try simp only [Act.put, List.setIfInBounds_toArray, List.set_cons_zero, List.set_cons_succ]
                    refine takeC [5,4] (i := 3) (v := ?_) rfl (by kernel_rfl) (by kernel_rfl) (by kernel_rfl) (by kernel_rfl) (by decide) (fun _ _ _ h => h) (by kernel_rfl) (Or.inl ⟨by kernel_rfl, ?_⟩) (by assumption) ?_
                    rotate_left
                    · (intro W9 hSw; go_simp; (try with_reducible rfl))
                    try simp only [Act.put, List.setIfInBounds_toArray, List.set_cons_zero, List.set_cons_succ]
                    refine takeC [5] (i := 4) (v := ?_) rfl (by kernel_rfl) (by kernel_rfl) (by kernel_rfl) (by kernel_rfl) (by decide) (fun _ _ _ h => h) (by kernel_rfl) (Or.inl ⟨by kernel_rfl, ?_⟩) (by assumption) ?_
                    rotate_left
                    · (intro W9 hSw; (have k9 := hSw.out.c4); go_simp; (try with_reducible rfl))
                    try simp only [Act.put, List.setIfInBounds_toArray, List.set_cons_zero, List.set_cons_succ]
                    refine oneT (i := 5) rfl (by kernel_rfl) (fun K hK => ?_)
                    rw [if_pos (by kernel_rfl)]
                    go_wp2_with (fail)
                    with_reducible refine (of_any5 _ q.b).mono ?_
                    rintro e w105 ⟨pa, rfl, oa⟩
                    have OA := Lib.hid oa
                    have P105 := Lib.hid ((P101.out.ext' (Ext.drew w101)).ext' oa.ext)
                    have AW := Lib.hid (Awy.fresh (o := 0) (P101.out.ext' (Ext.drew w101)).ds oa.le)
                    have hS5 : (fun W : World => Hid (Ob5 W po q)) w105 := Lib.hid ((OB101.out.ext (Ext.drew _)).ext oa.ext)
                    clear oa
                    go_wp2_with (fail)
                    refine hK.out _ _ (fun _ => hS5) ?_
                    clear hK K
                    try simp only [Act.put, List.setIfInBounds_toArray, List.set_cons_zero, List.set_cons_succ]
                    refine oneT (i := 6) rfl (by kernel_rfl) (fun K hK => ?_)
                    rw [if_pos (by kernel_rfl)]
                    go_wp2_with (fail)
                    have hc := P105.out.ds.write (by unfold maxLen; omega) q.i _ _ _ (rep q.b) (OA.out.bs (by rw [rep_len]; omega) (rep_len _)) AW.out HE.out HD.out
                    with_reducible refine hc.mono ?_
                    rintro e w102 ⟨rfl, dk, kk⟩
                    have OB102 := Lib.hid (hS5.out.kp kk PO.out.1 PO.out.2.1 PO.out.2.2)
                    have P102 := Lib.hid (P105.out.kp LI.out kk dk)
                    clear dk kk hc
                    go_wp2_with (fail)
                    refine hK.out _ _ (fun h => absurd (show true = false from h) (by decide)) ?_
                    clear hK K
                    try simp only [Act.put, List.setIfInBounds_toArray, List.set_cons_zero, List.set_cons_succ]
                    refine oneT (i := 7) rfl (by kernel_rfl) (fun K hK => ?_)
                    rw [if_pos (by kernel_rfl)]
                    go_wp2_with (fail)
                    refine hK.out _ _ (fun h => absurd (show true = false from h) (by decide)) ?_
                    clear hK K
                    try simp only [Act.put, List.setIfInBounds_toArray, List.set_cons_zero, List.set_cons_succ]
                    refine doneT (by kernel_rfl) ?_ _
                    go_upto_region 20 with (fail)
                    have hS1 : (fun W : World => Hid (Ob5 W po q ∧ Vd W p A1 M c1 d.arm d.down)) w102.drew := Lib.hid ⟨OB102.out.ext (Ext.drew w102), P102.out.vd.ext (Ext.drew w102)⟩
                    refine wp_region_T (S := (fun W : World => Hid (Ob5 W po q ∧ Vd W p A1 M c1 d.arm d.down))) 10 rfl rfl ?_
                    refine takeC [] (i := 0) (v := ?_) rfl (by kernel_rfl) (by kernel_rfl) (by kernel_rfl) (by kernel_rfl) (by decide) (fun _ _ _ h => h) (by kernel_rfl) (Or.inl ⟨by kernel_rfl, ?_⟩) (by assumption) ?_
                    rotate_left
                    · (intro W9 hSw; (have kv0 := hSw.out.2.c0; have kv1 := hSw.out.2.c1; have kv2 := hSw.out.2.c2; clear hSw; skip); go_simp; (try with_reducible rfl))
                    try simp only [Act.put, List.setIfInBounds_toArray, List.set_cons_zero, List.set_cons_succ]
                    refine takeC [] (i := 1) (v := ?_) rfl (by kernel_rfl) (by kernel_rfl) (by kernel_rfl) (by kernel_rfl) (by decide) (fun _ _ _ h => h) (by kernel_rfl) (Or.inl ⟨by kernel_rfl, ?_⟩) (by assumption) ?_
                    rotate_left
                    · (intro W9 hSw; go_simp; (try with_reducible rfl))
                    try simp only [Act.put, List.setIfInBounds_toArray, List.set_cons_zero, List.set_cons_succ]
                    refine takeC [] (i := 2) (v := ?_) rfl (by kernel_rfl) (by kernel_rfl) (by kernel_rfl) (by kernel_rfl) (by decide) (fun _ _ _ h => h) (by kernel_rfl) (Or.inl ⟨by kernel_rfl, ?_⟩) (by assumption) ?_
                    rotate_left
                    · (intro W9 hSw; (have k9 := hSw.out.1.c1); go_simp; (try with_reducible rfl))
                    try simp only [Act.put, List.setIfInBounds_toArray, List.set_cons_zero, List.set_cons_succ]
                    refine takeC [] (i := 3) (v := ?_) rfl (by kernel_rfl) (by kernel_rfl) (by kernel_rfl) (by kernel_rfl) (by decide) (fun _ _ _ h => h) (by kernel_rfl) (Or.inl ⟨by kernel_rfl, ?_⟩) (by assumption) ?_
                    rotate_left
                    · (intro W9 hSw; go_simp; (try with_reducible rfl))
                    try simp only [Act.put, List.setIfInBounds_toArray, List.set_cons_zero, List.set_cons_succ]
                    refine takeC [] (i := 4) (v := ?_) rfl (by kernel_rfl) (by kernel_rfl) (by kernel_rfl) (by kernel_rfl) (by decide) (fun _ _ _ h => h) (by kernel_rfl) (Or.inl ⟨by kernel_rfl, ?_⟩) (by assumption) ?_
                    rotate_left
                    · (intro W9 hSw; (have k9 := hSw.out.1.c4); go_simp; (try with_reducible rfl))
                    try simp only [Act.put, List.setIfInBounds_toArray, List.set_cons_zero, List.set_cons_succ]
                    refine oneT (i := 5) rfl (by kernel_rfl) (fun K hK => ?_)
                    rw [if_pos (by kernel_rfl)]
                    go_wp2_with (fail)
                    with_reducible refine (of_any5 _ q.b).mono ?_
                    rintro e w106 ⟨pa2, rfl, oa⟩
                    have OA2 := Lib.hid oa
                    have P106 := Lib.hid ((P102.out.ext' (Ext.drew w102)).ext' oa.ext)
                    have hS6 : (fun W : World => Hid (Ob5 W po q ∧ Vd W p A1 M c1 d.arm d.down)) w106 := Lib.hid ⟨(OB102.out.ext (Ext.drew _)).ext oa.ext, P106.out.vd⟩
                    clear oa
                    go_wp2_with (fail)
                    refine hK.out _ _ (fun _ => hS6) ?_
                    clear hK K
                    try simp only [Act.put, List.setIfInBounds_toArray, List.set_cons_zero, List.set_cons_succ]
                    refine oneT (i := 6) rfl (by kernel_rfl) (fun K hK => ?_)
                    rw [if_pos (by kernel_rfl)]
                    go_wp2_with (fail)
                    have hr := ref5Write w106 g m b A1 M c1 d P106.out.rf P106.out.lts OK.out q.i _ _ _ (rep q.b) (OA2.out.bs (by rw [rep_len]; omega) (rep_len _)) (by omega)
                    rw [HD.out, HE.out] at hr
                    unfold Gives5 rval at hr
                    with_reducible refine hr.mono ?_
                    rintro e w103 ⟨A3, c3, rfl, x3, r3⟩
                    have V3 := Lib.hid (P106.out.vd.ext x3)
                    have hS7 : (fun W : World => Hid (Ob5 W po q ∧ Vd W p A1 M c1 d.arm d.down)) w103 := Lib.hid ⟨hS6.out.1.ext x3, V3.out⟩
                    have PE := Lib.hid (P106.out.put LI.out x3 r3)
                    clear hr x3 r3
                    go_wp2_with (fail)
                    refine hK.out _ _ (fun _ => hS7) ?_
                    clear hK K
                    try simp only [Act.put, List.setIfInBounds_toArray, List.set_cons_zero, List.set_cons_succ]
                    refine takeC [] (i := 7) (v := ?_) rfl (by kernel_rfl) (by kernel_rfl) (by kernel_rfl) (by kernel_rfl) (by decide) (fun _ _ _ h => h) (by kernel_rfl) (Or.inl ⟨by kernel_rfl, ?_⟩) (by assumption) ?_
                    rotate_left
                    · (intro W9 hSw; go_simp; (try with_reducible rfl))
                    try simp only [Act.put, List.setIfInBounds_toArray, List.set_cons_zero, List.set_cons_succ]
                    refine takeC [] (i := 8) (v := ?_) rfl (by kernel_rfl) (by kernel_rfl) (by kernel_rfl) (by kernel_rfl) (by decide) (fun _ _ _ h => h) (by kernel_rfl) (Or.inl ⟨by kernel_rfl, ?_⟩) (by assumption) ?_
                    rotate_left
                    · (intro W9 hSw; go_simp; (try with_reducible rfl))
                    try simp only [Act.put, List.setIfInBounds_toArray, List.set_cons_zero, List.set_cons_succ]
                    refine pureT (i := 9) (v := ?_) rfl (by kernel_rfl) (by kernel_rfl) (by kernel_rfl) (by decide) (fun _ _ _ h => h) (Or.inl ⟨by kernel_rfl, ?_⟩) (fun _ => by assumption) ?_
                    rotate_left
                    · (intro W9 hSw; go_simp; (try with_reducible rfl))
                    try simp only [Act.put, List.setIfInBounds_toArray, List.set_cons_zero, List.set_cons_succ]
                    refine oneT (i := 10) rfl (by kernel_rfl) (fun K hK => ?_)
                    rw [if_pos (by kernel_rfl)]
                    have kv0 := V3.out.c0
                    have kv1 := V3.out.c1
                    have kv2 := V3.out.c2
                    have fz0 := V3.out.fz 0
                    have fz1 := V3.out.fz 1
                    have fz2 := V3.out.fz 2
                    go_wp2_with (fail)
                    refine hK.out _ _ (fun h => absurd (show true = false from h) (by decide)) ?_
                    clear hK K
                    try simp only [Act.put, List.setIfInBounds_toArray, List.set_cons_zero, List.set_cons_succ]
                    refine oneT (i := 11) rfl (by kernel_rfl) (fun K hK => ?_)
                    rw [if_pos (by kernel_rfl)]
                    go_wp2_with (fail)
                    refine hK.out _ _ (fun h => absurd (show true = false from h) (by decide)) ?_
                    clear hK K
                    try simp only [Act.put, List.setIfInBounds_toArray, List.set_cons_zero, List.set_cons_succ]
                    refine doneT (by kernel_rfl) ?_ _
                    go_wp2_with (fail)
                    go_meet
                    exact ⟨_, rfl, _, _, _, _, _, _, _, [], _, _, _, rfl, rfl, rfl, rfl, Lib.hid (bs_nil _), Lib.hid (bs_nil _), PE⟩
                  · as_aux_lemma =>
                    have t1 : (q.kind == 1) = false := by rw [hk]; rfl
                    have t2 : (q.kind == 2) = false := by rw [hk]; rfl
                    have t3 : (q.kind == 3) = false := by rw [hk]; rfl
                    have t4 : (q.kind == 4) = false := by rw [hk]; rfl
                    have t5 : (q.kind == 5) = true := by rw [hk]; rfl
                    clear o0 hk
                    obtain ⟨d1, hd1⟩ : ∃ d1, Disks.flushD d = d1 := ⟨_, rfl⟩
                    obtain ⟨er, her⟩ : ∃ er, Disks.flushE d = er := ⟨_, rfl⟩
                    have hc := P101.out.ds.flush her hd1
                    go_wp2_with (fail)
                    with_reducible refine hc.mono ?_
                    rintro e w102 ⟨rfl, dk, kk⟩
                    have OB102 := Lib.hid (OB101.out.kp kk PO.out.1 PO.out.2.1 PO.out.2.2)
                    have P102 := Lib.hid ((P101.out.kp LI.out kk dk).mono (N' := k + 1) (by omega))
                    clear dk kk hc o1 o2 o3 o4 o5
                    have o0 := OB102.out.c0
                    have o1 := OB102.out.c1
                    have o2 := OB102.out.c2
                    have o3 := OB102.out.c3
                    have o4 := OB102.out.c4
                    have o5 := OB102.out.c5
                    have kv0 := P102.out.vd.c0
                    have kv1 := P102.out.vd.c1
                    have kv2 := P102.out.vd.c2
                    have hr := ref5Flush w102 g m b A1 M c1 d P102.out.rf P102.out.lts OK.out
                    rw [hd1, her] at hr
                    unfold Gives5 rval at hr
                    clear hd1 her
                    go_wp2_with (fail)
                    with_reducible refine hr.mono ?_
                    rintro e w103 ⟨A3, c3, rfl, x3, r3⟩
                    have V3 := Lib.hid (P102.out.vd.ext x3)
                    clear kv0 kv1 kv2 o0 o1 o2 o3 o4 o5 hr
                    have kv0 := V3.out.c0
                    have kv1 := V3.out.c1
                    have kv2 := V3.out.c2
                    have fz0 := V3.out.fz 0
                    have fz1 := V3.out.fz 1
                    have fz2 := V3.out.fz 2
                    have PE := Lib.hid (P102.out.put LI.out x3 r3)
                    clear x3 r3
                    go_wp2_with (fail)
                    go_meet
                    exact ⟨_, rfl, _, _, _, _, _, _, _, [], _, _, _, rfl, rfl, rfl, rfl, Lib.hid (bs_nil _), Lib.hid (bs_nil _), PE⟩
                  · as_aux_lemma =>
                    have t1 : (q.kind == 1) = false := by rw [hk]; rfl
                    have t2 : (q.kind == 2) = false := by rw [hk]; rfl
                    have t3 : (q.kind == 3) = false := by rw [hk]; rfl
                    have t4 : (q.kind == 4) = false := by rw [hk]; rfl
                    have t5 : (q.kind == 5) = false := by rw [hk]; rfl
                    have t6 : (q.kind == 6) = true := by rw [hk]; rfl
                    clear o0 hk
                    obtain ⟨d1, hd1⟩ : ∃ d1, Disks.flushD d = d1 := ⟨_, rfl⟩
                    obtain ⟨er, her⟩ : ∃ er, Disks.flushE d = er := ⟨_, rfl⟩
                    have hc := P101.out.ds.flush her hd1
                    go_wp2_with (fail)
                    with_reducible refine hc.mono ?_
                    rintro e w102 ⟨rfl, dk, kk⟩
                    have OB102 := Lib.hid (OB101.out.kp kk PO.out.1 PO.out.2.1 PO.out.2.2)
                    have P102 := Lib.hid ((P101.out.kp LI.out kk dk).mono (N' := k + 1) (by omega))
                    clear dk kk hc o1 o2 o3 o4 o5
                    have o0 := OB102.out.c0
                    have o1 := OB102.out.c1
                    have o2 := OB102.out.c2
                    have o3 := OB102.out.c3
                    have o4 := OB102.out.c4
                    have o5 := OB102.out.c5
                    have kv0 := P102.out.vd.c0
                    have kv1 := P102.out.vd.c1
                    have kv2 := P102.out.vd.c2
                    have hr := ref5Flush w102 g m b A1 M c1 d P102.out.rf P102.out.lts OK.out
                    rw [hd1, her] at hr
                    unfold Gives5 rval at hr
                    clear hd1 her
                    go_wp2_with (fail)
                    with_reducible refine hr.mono ?_
                    rintro e w103 ⟨A3, c3, rfl, x3, r3⟩
                    have V3 := Lib.hid (P102.out.vd.ext x3)
                    clear kv0 kv1 kv2 o0 o1 o2 o3 o4 o5 hr
                    have kv0 := V3.out.c0
                    have kv1 := V3.out.c1
                    have kv2 := V3.out.c2
                    have fz0 := V3.out.fz 0
                    have fz1 := V3.out.fz 1
                    have fz2 := V3.out.fz 2
                    have PE := Lib.hid (P102.out.put LI.out x3 r3)
                    clear x3 r3
                    go_wp2_with (fail)
                    go_meet
                    exact ⟨_, rfl, _, _, _, _, _, _, _, [], _, _, _, rfl, rfl, rfl, rfl, Lib.hid (bs_nil _), Lib.hid (bs_nil _), PE⟩
                  · as_aux_lemma =>
                    have t1 : (q.kind == 1) = false := by rw [hk]; rfl
                    have t2 : (q.kind == 2) = false := by rw [hk]; rfl
                    have t3 : (q.kind == 3) = false := by rw [hk]; rfl
                    have t4 : (q.kind == 4) = false := by rw [hk]; rfl
                    have t5 : (q.kind == 5) = false := by rw [hk]; rfl
                    have t6 : (q.kind == 6) = false := by rw [hk]; rfl
                    have t7 : (q.kind == 7) = true := by rw [hk]; rfl
                    clear o0 hk
                    have hrd : Calls Try.prog 24 #[dptr g, .int .i64 q.i] w101 fun e w' => ∃ B nb cb, e = .returned (.tuple #[.slice B nb cb, .int .i64 (Disks.there d q.i)]) ∧ Bs w' B nb cb (Disks.readB d q.i) ∧ Ext w101 w' := reads5 P101.out.ds q.i
                    have hr2 := fun (W : World) (hW : Rf W g m b A1 M c1 d) => ref5Read W g m b A1 M c1 d hW OK.out q.i
                    obtain ⟨er, her⟩ : ∃ er, Disks.there d q.i = er := ⟨_, rfl⟩
                    rw [her] at hrd hr2
                    unfold rval at hr2
                    have HR2 := Lib.hid hr2
                    clear her hr2
                    go_wp2_with (fail)
                    with_reducible refine hrd.mono ?_
                    rintro e w102 ⟨B1, nb1, cb1, rfl, bs1, x2⟩
                    have OB102 := Lib.hid (OB101.out.ext x2)
                    have P102 := Lib.hid (P101.out.ext' x2)
                    have BS1 := Lib.hid bs1
                    clear x2 bs1 hrd o1 o2 o3 o4 o5
                    have o0 := OB102.out.c0
                    have o1 := OB102.out.c1
                    have o2 := OB102.out.c2
                    have o3 := OB102.out.c3
                    have o4 := OB102.out.c4
                    have o5 := OB102.out.c5
                    have kv0 := P102.out.vd.c0
                    have kv1 := P102.out.vd.c1
                    have kv2 := P102.out.vd.c2
                    go_wp2_with (fail)
                    with_reducible refine (HR2.out w102 P102.out.rf).mono ?_
                    rintro e w103 ⟨B2, nb2, cb2, rfl, bs2, x3⟩
                    have PE := Lib.hid ((P102.out.ext' x3).mono (N' := k + 1) (by omega))
                    have BS2 := Lib.hid bs2
                    have BS3 := Lib.hid (BS1.out.ext x3)
                    clear x3 bs2
                    go_wp2_with (fail)
                    go_meet
                    exact ⟨_, rfl, _, _, _, _, _, _, _, _, _, _, _, rfl, rfl, rfl, rfl, BS3, BS2, PE⟩
                  · as_aux_lemma =>
                    have t1 : (q.kind == 1) = false := by rw [hk]; rfl
                    have t2 : (q.kind == 2) = false := by rw [hk]; rfl
                    have t3 : (q.kind == 3) = false := by rw [hk]; rfl
                    have t4 : (q.kind == 4) = false := by rw [hk]; rfl
                    have t5 : (q.kind == 5) = false := by rw [hk]; rfl
                    have t6 : (q.kind == 6) = false := by rw [hk]; rfl
                    have t7 : (q.kind == 7) = false := by rw [hk]; rfl
                    have t8 : (q.kind == 8) = true := by rw [hk]; rfl
                    clear o0 hk
                    obtain ⟨d1, hd1⟩ : ∃ d1, Disks.spoilD d q.i q.at_ q.b = d1 := ⟨_, rfl⟩
                    obtain ⟨er, her⟩ : ∃ er, Disks.spoilE d q.i q.at_ = er := ⟨_, rfl⟩
                    have hc := P101.out.ds.spoil q.i q.at_ q.b her hd1
                    go_wp2_with (fail)
                    with_reducible refine hc.mono ?_
                    rintro e w102 ⟨rfl, dk, kk⟩
                    have OB102 := Lib.hid (OB101.out.kp kk PO.out.1 PO.out.2.1 PO.out.2.2)
                    have P102 := Lib.hid ((P101.out.kp LI.out kk dk).mono (N' := k + 1) (by omega))
                    clear dk kk hc o1 o2 o3 o4 o5
                    have o0 := OB102.out.c0
                    have o1 := OB102.out.c1
                    have o2 := OB102.out.c2
                    have o3 := OB102.out.c3
                    have o4 := OB102.out.c4
                    have o5 := OB102.out.c5
                    have kv0 := P102.out.vd.c0
                    have kv1 := P102.out.vd.c1
                    have kv2 := P102.out.vd.c2
                    have hr := ref5Spoil w102 g m b A1 M c1 d P102.out.rf P102.out.lts OK.out q.i q.at_ q.b
                    rw [hd1, her] at hr
                    unfold Gives5 rval at hr
                    clear hd1 her
                    go_wp2_with (fail)
                    with_reducible refine hr.mono ?_
                    rintro e w103 ⟨A3, c3, rfl, x3, r3⟩
                    have V3 := Lib.hid (P102.out.vd.ext x3)
                    clear kv0 kv1 kv2 o0 o1 o2 o3 o4 o5 hr
                    have kv0 := V3.out.c0
                    have kv1 := V3.out.c1
                    have kv2 := V3.out.c2
                    have fz0 := V3.out.fz 0
                    have fz1 := V3.out.fz 1
                    have fz2 := V3.out.fz 2
                    have PE := Lib.hid (P102.out.put LI.out x3 r3)
                    clear x3 r3
                    go_wp2_with (fail)
                    go_meet
                    exact ⟨_, rfl, _, _, _, _, _, _, _, [], _, _, _, rfl, rfl, rfl, rfl, Lib.hid (bs_nil _), Lib.hid (bs_nil _), PE⟩
                  · as_aux_lemma =>
                    have t1 : (q.kind == 1) = false := by rw [hk]; rfl
                    have t2 : (q.kind == 2) = false := by rw [hk]; rfl
                    have t3 : (q.kind == 3) = false := by rw [hk]; rfl
                    have t4 : (q.kind == 4) = false := by rw [hk]; rfl
                    have t5 : (q.kind == 5) = false := by rw [hk]; rfl
                    have t6 : (q.kind == 6) = false := by rw [hk]; rfl
                    have t7 : (q.kind == 7) = false := by rw [hk]; rfl
                    have t8 : (q.kind == 8) = false := by rw [hk]; rfl
                    have t9 : (q.kind == 9) = true := by rw [hk]; rfl
                    clear o0 hk
                    obtain ⟨d1, hd1⟩ : ∃ d1, Disks.armD d q.n = d1 := ⟨_, rfl⟩
                    have hc := P101.out.ds.arm q.n (wf_top HB0.out.2.n) hd1
                    go_wp2_with (fail)
                    with_reducible refine hc.mono ?_
                    rintro e w102 ⟨rfl, dk, kk⟩
                    have OB102 := Lib.hid (OB101.out.kp kk PO.out.1 PO.out.2.1 PO.out.2.2)
                    have P102 := Lib.hid ((P101.out.kp LI.out kk dk).mono (N' := k + 1) (by omega))
                    clear dk kk hc o1 o2 o3 o4 o5
                    have o0 := OB102.out.c0
                    have o1 := OB102.out.c1
                    have o2 := OB102.out.c2
                    have o3 := OB102.out.c3
                    have o4 := OB102.out.c4
                    have o5 := OB102.out.c5
                    have kv0 := P102.out.vd.c0
                    have kv1 := P102.out.vd.c1
                    have kv2 := P102.out.vd.c2
                    have hr := ref5Arm w102 A1 M c1 d q.n
                    rw [hd1] at hr
                    unfold rval at hr
                    go_wp2_with (fail)
                    with_reducible refine hr.mono ?_
                    rintro e w103 ⟨rfl, x3⟩
                    have V3 := Lib.hid (P102.out.vd.ext x3)
                    clear kv0 kv1 kv2 o0 o1 o2 o3 o4 o5 hr
                    have kv0 := V3.out.c0
                    have kv1 := V3.out.c1
                    have kv2 := V3.out.c2
                    have fz0 := V3.out.fz 0
                    have fz1 := V3.out.fz 1
                    have fz2 := V3.out.fz 2
                    have PE := Lib.hid (P102.out.put LI.out x3 (A' := A1) (c' := c1) (by rw [← hd1]; exact (P102.out.rf.ext x3).like (Disks5_arm_med _ _) (Disks5_arm_cac _ _)))
                    clear x3 hd1
                    go_wp2_with (fail)
                    go_meet
                    exact ⟨_, rfl, _, _, _, _, _, _, _, [], _, _, _, rfl, rfl, rfl, rfl, Lib.hid (bs_nil _), Lib.hid (bs_nil _), PE⟩
                  · as_aux_lemma =>
                    have t1 : (q.kind == 1) = false := by rw [hk]; rfl
                    have t2 : (q.kind == 2) = false := by rw [hk]; rfl
                    have t3 : (q.kind == 3) = false := by rw [hk]; rfl
                    have t4 : (q.kind == 4) = false := by rw [hk]; rfl
                    have t5 : (q.kind == 5) = false := by rw [hk]; rfl
                    have t6 : (q.kind == 6) = false := by rw [hk]; rfl
                    have t7 : (q.kind == 7) = false := by rw [hk]; rfl
                    have t8 : (q.kind == 8) = false := by rw [hk]; rfl
                    have t9 : (q.kind == 9) = false := by rw [hk]; rfl
                    have t10 : (q.kind == 10) = true := by rw [hk]; rfl
                    clear o0 hk
                    obtain ⟨d1, hd1⟩ : ∃ d1, Disks.crashD d q.l = d1 := ⟨_, rfl⟩
                    have hc := P101.out.ds.crash' q.A q.m q.c q.l (HB0.out.1.ext P101.out.ext) (Bls.awy HB0.out.1 ⟨LI.out.lg, LI.out.lm, LI.out.lb⟩) hd1
                    go_wp2_with (fail)
                    with_reducible refine hc.mono ?_
                    rintro e w102 ⟨rfl, dk, kk⟩
                    have OB102 := Lib.hid (OB101.out.kp kk PO.out.1 PO.out.2.1 PO.out.2.2)
                    have P102 := Lib.hid ((P101.out.kp LI.out kk dk).mono (N' := k + 1) (by omega))
                    clear dk kk hc o1 o2 o3 o4 o5
                    have o0 := OB102.out.c0
                    have o1 := OB102.out.c1
                    have o2 := OB102.out.c2
                    have o3 := OB102.out.c3
                    have o4 := OB102.out.c4
                    have o5 := OB102.out.c5
                    have kv0 := P102.out.vd.c0
                    have kv1 := P102.out.vd.c1
                    have kv2 := P102.out.vd.c2
                    have hr := ref5Crash w102 g m b A1 M c1 d P102.out.rf P102.out.lts OK.out q.A q.m q.c q.l (HB0.out.1.ext P102.out.ext) (by omega)
                    rw [hd1] at hr
                    unfold Gives5c rval at hr
                    clear hd1
                    go_wp2_with (fail)
                    with_reducible refine hr.mono ?_
                    rintro e w103 ⟨A3, c3, rfl, x3, r3⟩
                    have V3 := Lib.hid (P102.out.vd.ext x3)
                    clear kv0 kv1 kv2 o0 o1 o2 o3 o4 o5 hr
                    have kv0 := V3.out.c0
                    have kv1 := V3.out.c1
                    have kv2 := V3.out.c2
                    have fz0 := V3.out.fz 0
                    have fz1 := V3.out.fz 1
                    have fz2 := V3.out.fz 2
                    have PE := Lib.hid (P102.out.put LI.out x3 r3)
                    clear x3 r3
                    go_wp2_with (fail)
                    go_meet
                    exact ⟨_, rfl, _, _, _, _, _, _, _, [], _, _, _, rfl, rfl, rfl, rfl, Lib.hid (bs_nil _), Lib.hid (bs_nil _), PE⟩
                  · as_aux_lemma =>
                    have t1 : (q.kind == 1) = false := by rw [hk]; rfl
                    have t2 : (q.kind == 2) = false := by rw [hk]; rfl
                    have t3 : (q.kind == 3) = false := by rw [hk]; rfl
                    have t4 : (q.kind == 4) = false := by rw [hk]; rfl
                    have t5 : (q.kind == 5) = false := by rw [hk]; rfl
                    have t6 : (q.kind == 6) = false := by rw [hk]; rfl
                    have t7 : (q.kind == 7) = false := by rw [hk]; rfl
                    have t8 : (q.kind == 8) = false := by rw [hk]; rfl
                    have t9 : (q.kind == 9) = false := by rw [hk]; rfl
                    have t10 : (q.kind == 10) = false := by rw [hk]; rfl
                    have t11 : (q.kind == 11) = true := by rw [hk]; rfl
                    clear o0 hk
                    obtain ⟨d1, hd1⟩ : ∃ d1, Disks.crashD d q.l = d1 := ⟨_, rfl⟩
                    have hc := P101.out.ds.crash' q.A q.m q.c q.l (HB0.out.1.ext P101.out.ext) (Bls.awy HB0.out.1 ⟨LI.out.lg, LI.out.lm, LI.out.lb⟩) hd1
                    go_wp2_with (fail)
                    with_reducible refine hc.mono ?_
                    rintro e w102 ⟨rfl, dk, kk⟩
                    have OB102 := Lib.hid (OB101.out.kp kk PO.out.1 PO.out.2.1 PO.out.2.2)
                    have P102 := Lib.hid ((P101.out.kp LI.out kk dk).mono (N' := k + 1) (by omega))
                    clear dk kk hc o1 o2 o3 o4 o5
                    have o0 := OB102.out.c0
                    have o1 := OB102.out.c1
                    have o2 := OB102.out.c2
                    have o3 := OB102.out.c3
                    have o4 := OB102.out.c4
                    have o5 := OB102.out.c5
                    have kv0 := P102.out.vd.c0
                    have kv1 := P102.out.vd.c1
                    have kv2 := P102.out.vd.c2
                    have hr := ref5Crash w102 g m b A1 M c1 d P102.out.rf P102.out.lts OK.out q.A q.m q.c q.l (HB0.out.1.ext P102.out.ext) (by omega)
                    rw [hd1] at hr
                    unfold Gives5c rval at hr
                    clear hd1
                    go_wp2_with (fail)
                    with_reducible refine hr.mono ?_
                    rintro e w103 ⟨A3, c3, rfl, x3, r3⟩
                    have V3 := Lib.hid (P102.out.vd.ext x3)
                    clear kv0 kv1 kv2 o0 o1 o2 o3 o4 o5 hr
                    have kv0 := V3.out.c0
                    have kv1 := V3.out.c1
                    have kv2 := V3.out.c2
                    have fz0 := V3.out.fz 0
                    have fz1 := V3.out.fz 1
                    have fz2 := V3.out.fz 2
                    have PE := Lib.hid (P102.out.put LI.out x3 r3)
                    clear x3 r3
                    go_wp2_with (fail)
                    go_meet
                    exact ⟨_, rfl, _, _, _, _, _, _, _, [], _, _, _, rfl, rfl, rfl, rfl, Lib.hid (bs_nil _), Lib.hid (bs_nil _), PE⟩
                  · as_aux_lemma =>
                    have t1 : (q.kind == 1) = false := by rw [hk]; rfl
                    have t2 : (q.kind == 2) = false := by rw [hk]; rfl
                    have t3 : (q.kind == 3) = false := by rw [hk]; rfl
                    have t4 : (q.kind == 4) = false := by rw [hk]; rfl
                    have t5 : (q.kind == 5) = false := by rw [hk]; rfl
                    have t6 : (q.kind == 6) = false := by rw [hk]; rfl
                    have t7 : (q.kind == 7) = false := by rw [hk]; rfl
                    have t8 : (q.kind == 8) = false := by rw [hk]; rfl
                    have t9 : (q.kind == 9) = false := by rw [hk]; rfl
                    have t10 : (q.kind == 10) = false := by rw [hk]; rfl
                    have t11 : (q.kind == 11) = false := by rw [hk]; rfl
                    have t12 : (q.kind == 12) = true := by rw [hk]; rfl
                    clear o0 hk
                    by_cases hq0 : q.n < 0
                    · as_aux_lemma =>
                      have hq1 : ¬ 0 < q.n := by omega
                      obtain ⟨qs, w104, hmk, ob4⟩ := nine_bs w101 0 (by omega)
                      have HMK := Lib.hid hmk
                      have OBL := Lib.hid ob4
                      have OB104 := Lib.hid (OB101.out.ext ob4.ext)
                      have P104 := Lib.hid (P101.out.ext' ob4.ext)
                      have AW := Lib.hid (Awy.fresh (o := 0) P101.out.ds ob4.le)
                      obtain ⟨LB, hLB⟩ : ∃ LB, List.replicate 0 (0 : UInt8) = LB := ⟨_, rfl⟩
                      have BL := Lib.hid (ob4.bs (by rw [List.length_replicate]; omega) (List.length_replicate ..))
                      rw [hLB] at BL
                      obtain ⟨d1, hd1⟩ : ∃ d1, Disks.writeD d q.i LB = d1 := ⟨_, rfl⟩
                      obtain ⟨er, her⟩ : ∃ er, Disks.writeE d q.i LB = er := ⟨_, rfl⟩
                      clear hLB ob4
                      have o0x := OB104.out.c0
                      have o1x := OB104.out.c1
                      have o2x := OB104.out.c2
                      have o3x := OB104.out.c3
                      have o4x := OB104.out.c4
                      have o5x := OB104.out.c5
                      have hmk := HMK.out
                      rw [show ((0 : Nat) : Int) = max q.n 0 by omega] at hmk
                      go_upto_region 40 with (fail)
                      clear o1 o2 o3 o4 o5 hmk
                      have o1 := OB104.out.c1
                      have o2 := OB104.out.c2
                      have o3 := OB104.out.c3
                      have o4 := OB104.out.c4
                      have o5 := OB104.out.c5
                      clear o0x o1x o2x o3x o4x o5x
                      have hc := P104.out.ds.write (by unfold maxLen; omega) q.i _ _ _ LB BL.out AW.out her hd1
                      go_wp2_with (fail)
                      with_reducible refine hc.mono ?_
                      rintro e w102 ⟨rfl, dk, kk⟩
                      have OB102 := Lib.hid (OB104.out.kp kk PO.out.1 PO.out.2.1 PO.out.2.2)
                      have P102 := Lib.hid ((P104.out.kp LI.out kk dk).mono (N' := k + 1) (by omega))
                      have BL2 := Lib.hid (BL.out.kp kk AW.out)
                      clear dk kk hc o1 o2 o3 o4 o5
                      have o0 := OB102.out.c0
                      have o1 := OB102.out.c1
                      have o2 := OB102.out.c2
                      have o3 := OB102.out.c3
                      have o4 := OB102.out.c4
                      have o5 := OB102.out.c5
                      have kv0 := P102.out.vd.c0
                      have kv1 := P102.out.vd.c1
                      have kv2 := P102.out.vd.c2
                      have hr := ref5Write w102 g m b A1 M c1 d P102.out.rf P102.out.lts OK.out q.i _ _ _ LB BL2.out (by omega)
                      rw [hd1, her] at hr
                      unfold Gives5 rval at hr
                      clear hd1 her
                      go_wp2_with (fail)
                      with_reducible refine hr.mono ?_
                      rintro e w103 ⟨A3, c3, rfl, x3, r3⟩
                      have V3 := Lib.hid (P102.out.vd.ext x3)
                      clear kv0 kv1 kv2 o0 o1 o2 o3 o4 o5 hr
                      have kv0 := V3.out.c0
                      have kv1 := V3.out.c1
                      have kv2 := V3.out.c2
                      have fz0 := V3.out.fz 0
                      have fz1 := V3.out.fz 1
                      have fz2 := V3.out.fz 2
                      have PE := Lib.hid (P102.out.put LI.out x3 r3)
                      clear x3 r3
                      go_wp2_with (fail)
                      go_meet
                      exact ⟨_, rfl, _, _, _, _, _, _, _, [], _, _, _, rfl, rfl, rfl, rfl, Lib.hid (bs_nil _), Lib.hid (bs_nil _), PE⟩
                    · as_aux_lemma =>
                      obtain ⟨v, hv⟩ : ∃ v : Nat, q.n = (v : Int) := ⟨q.n.toNat, by omega⟩
                      have hv1 : v ≤ 1000 := by omega
                      have hv2 : ¬ (v : Int) < 0 := by omega
                      rw [hv] at o3
                      obtain ⟨qs, w104, hmk, ob4⟩ := nine_bs w101 v hv1
                      have HMK := Lib.hid hmk
                      have OBL := Lib.hid ob4
                      have OB104 := Lib.hid (OB101.out.ext ob4.ext)
                      have P104 := Lib.hid (P101.out.ext' ob4.ext)
                      have AW := Lib.hid (Awy.fresh (o := 0) P101.out.ds ob4.le)
                      obtain ⟨LB, hLB⟩ : ∃ LB, List.replicate v (0 : UInt8) = LB := ⟨_, rfl⟩
                      have BL := Lib.hid (ob4.bs (by rw [List.length_replicate]; omega) (List.length_replicate ..))
                      rw [hLB] at BL
                      obtain ⟨d1, hd1⟩ : ∃ d1, Disks.writeD d q.i LB = d1 := ⟨_, rfl⟩
                      obtain ⟨er, her⟩ : ∃ er, Disks.writeE d q.i LB = er := ⟨_, rfl⟩
                      clear hLB ob4
                      have o0x := OB104.out.c0
                      have o1x := OB104.out.c1
                      have o2x := OB104.out.c2
                      have o3x := OB104.out.c3
                      have o4x := OB104.out.c4
                      have o5x := OB104.out.c5
                      have hmk := HMK.out
                      go_upto_region 40 with (fail)
                      clear o1 o2 o3 o4 o5 hmk
                      have o1 := OB104.out.c1
                      have o2 := OB104.out.c2
                      have o3 := OB104.out.c3
                      have o4 := OB104.out.c4
                      have o5 := OB104.out.c5
                      clear o0x o1x o2x o3x o4x o5x
                      have hc := P104.out.ds.write (by unfold maxLen; omega) q.i _ _ _ LB BL.out AW.out her hd1
                      go_wp2_with (fail)
                      with_reducible refine hc.mono ?_
                      rintro e w102 ⟨rfl, dk, kk⟩
                      have OB102 := Lib.hid (OB104.out.kp kk PO.out.1 PO.out.2.1 PO.out.2.2)
                      have P102 := Lib.hid ((P104.out.kp LI.out kk dk).mono (N' := k + 1) (by omega))
                      have BL2 := Lib.hid (BL.out.kp kk AW.out)
                      clear dk kk hc o1 o2 o3 o4 o5
                      have o0 := OB102.out.c0
                      have o1 := OB102.out.c1
                      have o2 := OB102.out.c2
                      have o3 := OB102.out.c3
                      have o4 := OB102.out.c4
                      have o5 := OB102.out.c5
                      have kv0 := P102.out.vd.c0
                      have kv1 := P102.out.vd.c1
                      have kv2 := P102.out.vd.c2
                      have hr := ref5Write w102 g m b A1 M c1 d P102.out.rf P102.out.lts OK.out q.i _ _ _ LB BL2.out (by omega)
                      rw [hd1, her] at hr
                      unfold Gives5 rval at hr
                      clear hd1 her
                      go_wp2_with (fail)
                      with_reducible refine hr.mono ?_
                      rintro e w103 ⟨A3, c3, rfl, x3, r3⟩
                      have V3 := Lib.hid (P102.out.vd.ext x3)
                      clear kv0 kv1 kv2 o0 o1 o2 o3 o4 o5 hr
                      have kv0 := V3.out.c0
                      have kv1 := V3.out.c1
                      have kv2 := V3.out.c2
                      have fz0 := V3.out.fz 0
                      have fz1 := V3.out.fz 1
                      have fz2 := V3.out.fz 2
                      have PE := Lib.hid (P102.out.put LI.out x3 r3)
                      clear x3 r3
                      go_wp2_with (fail)
                      go_meet
                      exact ⟨_, rfl, _, _, _, _, _, _, _, [], _, _, _, rfl, rfl, rfl, rfl, Lib.hid (bs_nil _), Lib.hid (bs_nil _), PE⟩
                  · as_aux_lemma =>
                    obtain ⟨n1, n2, n3, n4, n5, n6, n7, n8, n9, n10, n11, n12⟩ := hk
                    have t1 : (q.kind == 1) = false := beq_eq_false_iff_ne.2 n1
                    have t2 : (q.kind == 2) = false := beq_eq_false_iff_ne.2 n2
                    have t3 : (q.kind == 3) = false := beq_eq_false_iff_ne.2 n3
                    have t4 : (q.kind == 4) = false := beq_eq_false_iff_ne.2 n4
                    have t5 : (q.kind == 5) = false := beq_eq_false_iff_ne.2 n5
                    have t6 : (q.kind == 6) = false := beq_eq_false_iff_ne.2 n6
                    have t7 : (q.kind == 7) = false := beq_eq_false_iff_ne.2 n7
                    have t8 : (q.kind == 8) = false := beq_eq_false_iff_ne.2 n8
                    have t9 : (q.kind == 9) = false := beq_eq_false_iff_ne.2 n9
                    have t10 : (q.kind == 10) = false := beq_eq_false_iff_ne.2 n10
                    have t11 : (q.kind == 11) = false := beq_eq_false_iff_ne.2 n11
                    have t12 : (q.kind == 12) = false := beq_eq_false_iff_ne.2 n12
                    clear o0 n1 n2 n3 n4 n5 n6 n7 n8 n9 n10 n11 n12
                    have PE := Lib.hid (P101.out.mono (N' := k + 1) (by omega))
                    go_wp2_with (fail)
                    go_meet
                    exact ⟨_, rfl, _, _, _, _, _, _, _, [], _, _, _, rfl, rfl, rfl, rfl, Lib.hid (bs_nil _), Lib.hid (bs_nil _), PE⟩
                case rest =>
                  as_aux_lemma =>
                    obtain ⟨w110, rfl, er, B1, nb1, cb1, B2, nb2, cb2, l, A3, c3, d1, rfl, rfl, rfl, rfl, BS1, BS2, PE⟩ := hcut
                    have hsb := sameBytes5 _ B1 B2 nb1 cb1 nb2 cb2 l l BS1.out BS2.out
                    rw [beq_self_eq_true] at hsb
                    have kv0 := PE.out.vd.c0
                    have kv1 := PE.out.vd.c1
                    have kv2 := PE.out.vd.c2
                    have hsd := sameDisk5 _ g m b (k + 1) A3 M c3 d1 PE.out.ds PE.out.rf
                    unfold rval at hsd
                    have hne : (er != er) = false := by simp
                    clear o1 o2 o3 o4 o5 o0
                    go_wp2_with (fail)
                    with_reducible refine hsb.mono ?_
                    rintro e w111 ⟨rfl, rfl⟩
                    go_wp2_with (fail)
                    with_reducible refine hsd.mono ?_
                    rintro e w112 ⟨rfl, x1⟩
                    have PF := Lib.hid (PE.out.ext' x1)
                    clear x1 hsd hsb kv0 kv1 kv2
                    go_wp2_with (fail)
                    exact ⟨⟨k + 1, by omega, by omega, by go_num, Lib.hid ⟨_, _, _, PF.out⟩⟩, by simp [intOf]; omega⟩
          · have i1 : ¬ (k : Int) < n := by omega
            go_wp2_with (fail)
            with_reducible refine (awake_any5 _).mono ?_
            rintro e w3 ⟨rfl, x3⟩
            go_wp2_with (fail)
            go_ret
            exact ⟨rfl, P100.out.ext.trans x3⟩
        · have i2 : ¬ (k : Int) < 80 := by omega
          by_cases hlt : k < n
          · have i1 : (k : Int) < n := by omega
            go_wp2_with (fail)
            with_reducible refine (awake_any5 _).mono ?_
            rintro e w3 ⟨rfl, x3⟩
            go_wp2_with (fail)
            go_ret
            exact ⟨rfl, P100.out.ext.trans x3⟩
          · have i1 : ¬ (k : Int) < n := by omega
            go_wp2_with (fail)
            with_reducible refine (awake_any5 _).mono ?_
            rintro e w3 ⟨rfl, x3⟩
            go_wp2_with (fail)
            go_ret
            exact ⟨rfl, P100.out.ext.trans x3⟩
set_option maxRecDepth 100000 in
theorem diskPlays.walk {H : Type} {enc : TypeId × Value → H} {base : Nat} (w : World) (a0 : Int) (v1 : Value) (d1 : DataW H) (p1 : List MemPlace) (w0 : (Lit.int .i64 a0).wf = true) (o1 : Value.okWide Try.prog w .any base 22 v1) (h1 : DataW.Trod enc Try.prog w 0 (fun _ => true) true 22 v1 d1 p1) :
    Calls Try.prog 7 #[.int .i64 a0, v1] w fun e w' => e = .returned (.bool true) ∧ Below w.heap.size w w' := by
  obtain ⟨A, n, c, o, rfl, ho⟩ := os05_open o1 h1
  exact plays_any w a0 A n c o ho
end Go.Proofs.Ytbfbiofndipaaaa
