/- ScrubTells' walk. -/
import Derived.Test.YtkclimblcipmlaaRef16I
import Derived.Test.YtkclimblcipmlaaScOps
import Derived.Test.YtkclimblcipmlaaScAwake
import Derived.Test.YtkclimblcipmlaaExq
import Derived.Test.YtkclimblcipmlaaRegTwo
import Derived.Deep.Fields
namespace Go.Proofs.Ytkclimblcipmlaa
open Go.ChangeShapes Go.WideShapes Go.ChangeAt Go.RowKit

set_option maxRecDepth 100000 in
set_option maxHeartbeats 8000000 in
theorem scrubTells_any (w : World) (s0 : Scrubs.S) (A : Option Addr) (n c : Nat) (B : Option Addr) (m d : Nat) (A1 : Option Addr) (q c1 : Nat) (op : Nat → Op16) (hu : Is w A n c s0.urged) (hb : Is w B m d s0.busy) (hos : Oss w A1 q c1 op) :
    Calls Try.prog 4 #[sval s0.cur s0.queue (.slice A n c) (.slice B m d), .slice A1 q c1] w fun e w' => e = .returned (.bool true) ∧ Ext w w' := by
  have q1 := hu.max
  have q2 := hu.le
  have q3 := hb.max
  have q4 := hb.le
  have q5 := hos.max
  have q6 := hos.le
  have x0 : Ext w (w.alloc (.cells #[.int .i64 s0.cur, .bool s0.queue, .slice A n c, .slice B m d] 24)) := Ext.alloc _ _
  have X0 := Lib.hid x0
  have LU := Lib.hid hu.len
  have LB := Lib.hid hb.len
  have HOS := Lib.hid hos
  have ls0 : Ls w.heap.size w s0 A n c B m d := ⟨hu, hb, hu.lo (Nat.le_refl _) w, hb.lo (Nat.le_refl _) w⟩
  have LS0 := Lib.hid ls0
  clear hu hb hos x0 ls0
  by_cases hn : 60 < n
  · have g1 : (60 : Int) < n := by omega
    clear hn
    go_enter Try.func4, Try.ntmps4
    try dsimp only [List.append]
    go_wp2_with (fail)
    refine (awake_any16 _).mono ?_
    rintro e w9 ⟨rfl, x9⟩
    go_wp2_with (fail)
    go_ret
    exact ⟨rfl, X0.out.trans x9⟩
  have g1 : ¬ (60 : Int) < n := by omega
  by_cases hm : 60 < m
  · have g2 : (60 : Int) < m := by omega
    clear hm
    go_enter Try.func4, Try.ntmps4
    try dsimp only [List.append]
    go_wp2_with (fail)
    refine (awake_any16 _).mono ?_
    rintro e w9 ⟨rfl, x9⟩
    go_wp2_with (fail)
    go_ret
    exact ⟨rfl, X0.out.trans x9⟩
  have g2 : ¬ (60 : Int) < m := by omega
  have HSH0 := Lib.hid (show Scrubs.Short s0 from ⟨by rw [LU.out]; omega, by rw [LB.out]; omega⟩)
  clear hn hm
  go_enter Try.func4, Try.ntmps4
  try dsimp only [List.append]
  go_upto_region 4 with (fail)
  have t2 : Hs w.heap.size ((w.alloc (.cells #[.int .i64 s0.cur, .bool s0.queue, .slice A n c, .slice B m d] 24)).alloc (.cells #[.int .i64 s0.cur, .bool s0.queue, .slice A n c, .slice B m d] 24)) w.heap.size s0 := ⟨A, n, c, B, m, d, (Sb.new w _ _ _ _ rfl).ext (Ext.alloc _ _), LS0.out.ext (X0.out.thenAlloc _)⟩
  have t5 : Hs w.heap.size ((w.alloc (.cells #[.int .i64 s0.cur, .bool s0.queue, .slice A n c, .slice B m d] 24)).alloc (.cells #[.int .i64 s0.cur, .bool s0.queue, .slice A n c, .slice B m d] 24)) (w.heap.size + 1) s0 := ⟨A, n, c, B, m, d, Sb.new _ _ _ _ _ (by simp), LS0.out.ext (X0.out.thenAlloc _)⟩
  have xA := X0.out.thenAlloc (.cells #[.int .i64 s0.cur, .bool s0.queue, .slice A n c, .slice B m d] 24)
  obtain ⟨wA, hwA⟩ : ∃ wA, (w.alloc (.cells #[.int .i64 s0.cur, .bool s0.queue, .slice A n c, .slice B m d] 24)).alloc (.cells #[.int .i64 s0.cur, .bool s0.queue, .slice A n c, .slice B m d] 24) = wA := ⟨_, rfl⟩
  rw [hwA] at t2 t5 xA ⊢
  obtain ⟨b0, hb0⟩ : ∃ b0, w.heap.size = b0 := ⟨_, rfl⟩
  rw [hb0] at t2 t5 ⊢
  have T2 := Lib.hid t2
  have T5 := Lib.hid t5
  have XA := Lib.hid xA
  have HB0 := Lib.hid hb0
  clear t2 t5 xA hwA hb0 X0 LS0 LU LB
  go_upto_block 0 with (fail)
  go_cut [] (fun wx => ∃ wv : World, wv = wx ∧ Ext w wx)
  case rest =>
    obtain ⟨w6, rfl, x6⟩ := hcut
    go_wp2_with (fail)
    refine (awake_any16 _).mono ?_
    rintro e w9 ⟨rfl, x9⟩
    go_wp2_with (fail)
    go_ret
    exact ⟨rfl, x6.trans x9⟩
  case first =>
    go_wp2_with (fail)
    go_loopw [6, 7, 8, 9, 10, 11, 12, 13, 14, 57, 60, 67, 74, 79, 86, 93, 96, 103, 110] (fun s6 s7 _ _ _ _ _ _ _ _ _ _ _ _ _ _ _ _ _ wr => ∃ (t : Int) (s : Scrubs.S) (C : Option Addr) (L e : Nat) (l : List Int), s7 = .int .i64 t ∧ s6 = .slice C L e ∧ -1 ≤ t ∧ t ≤ q ∧ t ≤ 100 ∧ RowKit.Hid (Is w C L e l) ∧ RowKit.Hid (Scrubs.Short s) ∧ RowKit.Hid (Hs b0 wr b0 s) ∧ RowKit.Hid (Hs b0 wr (b0 + 1) s) ∧ RowKit.Hid (Ext w wr)) (fun _ s7 _ _ _ _ _ _ _ _ _ _ _ _ _ _ _ _ _ _ => (100 - intOf s7).toNat)
    case atStart => exact ⟨-1, s0, none, 0, 0, [], rfl, rfl, by omega, by omega, by omega, Lib.hid (Is.none w), HSH0, T2, T5, XA⟩
    case round =>
      obtain ⟨t, s, C, L, e, l, rfl, rfl, ht0, htq, ht1, HI, HSH, H2, H5, HX⟩ := hrel
      by_cases hlt : t < q
      · by_cases h100 : t < 100
        · clear T2 T5 XA HSH0
          obtain ⟨wo, rfl⟩ : ∃ wo : World, wo = wr := ⟨_, rfl⟩
          obtain ⟨A2, n2, c2, B2, m2, d2, sb2, ls2⟩ := H2.out
          have q7 := ls2.u.max
          have q8 := ls2.u.le
          have q9 := ls2.b.max
          have q10 := ls2.b.le
          have hl1 : n2 ≤ 1000 := by have := HSH.out.1; have := ls2.u.len; omega
          have hl2 : m2 ≤ 1000 := by have := HSH.out.2; have := ls2.b.len; omega
          have HC1 := Lib.hid (fun (W : World) (hW : Ext wo W) => copyInts_any W A2 n2 c2 s.urged (ls2.u.ext hW) (by omega))
          have HC2 := Lib.hid (fun (W : World) (hW : Ext wo W) => copyInts_any W B2 m2 d2 s.busy (ls2.b.ext hW) (by omega))
          have j0 := sb2.c0
          have j1 := sb2.c1
          have j2 := sb2.c2
          have j3 := sb2.c3
          have HG2 := Lib.hid (show b0 + 2 ≤ wo.heap.size by have := H5.out.lt; omega)
          have SB2 := Lib.hid sb2
          have LS2 := Lib.hid ls2
          clear sb2 ls2
          go_upto_region 8 with (fail)
          go_cut [8] (fun s8 wx => ∃ wv : World, wv = wx ∧ ∃ g8, s8 = .pointer (some ⟨g8, 0, none⟩) ∧ RowKit.Hid (Hs b0 wx g8 s) ∧ RowKit.Hid (b0 + 2 ≤ g8) ∧ RowKit.Hid (Ext wo wx))
          case first =>
            have HSS := Lib.hid (fun (W : World) (hW : Ext wo W) => (⟨hW.cell j0, hW.cell j1, hW.cell j2, hW.cell j3⟩ : (fun W : World => W.cell? ⟨b0, 0, none⟩ = some (.int .i64 s.cur) ∧ W.cell? ⟨b0, 1, none⟩ = some (.bool s.queue) ∧ W.cell? ⟨b0, 2, none⟩ = some (.slice A2 n2 c2) ∧ W.cell? ⟨b0, 3, none⟩ = some (.slice B2 m2 d2)) W))
            refine wp_region_T (S := (fun W : World => W.cell? ⟨b0, 0, none⟩ = some (.int .i64 s.cur) ∧ W.cell? ⟨b0, 1, none⟩ = some (.bool s.queue) ∧ W.cell? ⟨b0, 2, none⟩ = some (.slice A2 n2 c2) ∧ W.cell? ⟨b0, 3, none⟩ = some (.slice B2 m2 d2))) 12 (n := 13) rfl rfl ?_
            have hHeld : (fun W : World => W.cell? ⟨b0, 0, none⟩ = some (.int .i64 s.cur) ∧ W.cell? ⟨b0, 1, none⟩ = some (.bool s.queue) ∧ W.cell? ⟨b0, 2, none⟩ = some (.slice A2 n2 c2) ∧ W.cell? ⟨b0, 3, none⟩ = some (.slice B2 m2 d2)) wo.drew := HSS.out _ (Ext.drew _)
            refine takeT (i := 0) (v := ?_) rfl (by kernel_rfl) (by kernel_rfl) (by kernel_rfl) (by kernel_rfl) (by decide) (fun _ _ _ h => h) (by kernel_rfl) (Or.inl ⟨by rfl, ?_⟩) (by assumption) ?_
            rotate_left
            · (intro W9 hSw; (try dsimp only at hSw); go_simp; (try with_reducible rfl))
            try simp only [Act.put, List.setIfInBounds_toArray, List.set_cons_zero, List.set_cons_succ]
            refine takeT (i := 1) (v := ?_) rfl (by kernel_rfl) (by kernel_rfl) (by kernel_rfl) (by kernel_rfl) (by decide) (fun _ _ _ h => h) (by kernel_rfl) (Or.inl ⟨by rfl, ?_⟩) (by assumption) ?_
            rotate_left
            · (intro W9 hSw; (try dsimp only at hSw); go_simp; (try with_reducible rfl))
            try simp only [Act.put, List.setIfInBounds_toArray, List.set_cons_zero, List.set_cons_succ]
            refine takeT (i := 2) (v := ?_) rfl (by kernel_rfl) (by kernel_rfl) (by kernel_rfl) (by kernel_rfl) (by decide) (fun _ _ _ h => h) (by kernel_rfl) (Or.inl ⟨by rfl, ?_⟩) (by assumption) ?_
            rotate_left
            · (intro W9 hSw; (try dsimp only at hSw); go_simp; (try with_reducible rfl))
            try simp only [Act.put, List.setIfInBounds_toArray, List.set_cons_zero, List.set_cons_succ]
            refine takeT (i := 3) (v := ?_) rfl (by kernel_rfl) (by kernel_rfl) (by kernel_rfl) (by kernel_rfl) (by decide) (fun _ _ _ h => h) (by kernel_rfl) (Or.inl ⟨by rfl, ?_⟩) (by assumption) ?_
            rotate_left
            · (intro W9 hSw; (try dsimp only at hSw); go_simp; (try with_reducible rfl))
            try simp only [Act.put, List.setIfInBounds_toArray, List.set_cons_zero, List.set_cons_succ]
            refine takeT (i := 4) (v := ?_) rfl (by kernel_rfl) (by kernel_rfl) (by kernel_rfl) (by kernel_rfl) (by decide) (fun _ _ _ h => h) (by kernel_rfl) (Or.inl ⟨by rfl, ?_⟩) (by assumption) ?_
            rotate_left
            · (intro W9 hSw; (try dsimp only at hSw); go_simp; (try with_reducible rfl))
            try simp only [Act.put, List.setIfInBounds_toArray, List.set_cons_zero, List.set_cons_succ]
            refine takeT (i := 5) (v := ?_) rfl (by kernel_rfl) (by kernel_rfl) (by kernel_rfl) (by kernel_rfl) (by decide) (fun _ _ _ h => h) (by kernel_rfl) (Or.inl ⟨by rfl, ?_⟩) (by assumption) ?_
            rotate_left
            · (intro W9 hSw; (try dsimp only at hSw); go_simp; (try with_reducible rfl))
            try simp only [Act.put, List.setIfInBounds_toArray, List.set_cons_zero, List.set_cons_succ]
            refine takeT (i := 7) (v := ?_) rfl (by kernel_rfl) (by kernel_rfl) (by kernel_rfl) (by kernel_rfl) (by decide) (fun _ _ _ h => h) (by kernel_rfl) (Or.inl ⟨by rfl, ?_⟩) (by assumption) ?_
            rotate_left
            · (intro W9 hSw; (try dsimp only at hSw); go_simp; (try with_reducible rfl))
            try simp only [Act.put, List.setIfInBounds_toArray, List.set_cons_zero, List.set_cons_succ]
            refine takeT (i := 8) (v := ?_) rfl (by kernel_rfl) (by kernel_rfl) (by kernel_rfl) (by kernel_rfl) (by decide) (fun _ _ _ h => h) (by kernel_rfl) (Or.inl ⟨by rfl, ?_⟩) (by assumption) ?_
            rotate_left
            · (intro W9 hSw; (try dsimp only at hSw); go_simp; (try with_reducible rfl))
            try simp only [Act.put, List.setIfInBounds_toArray, List.set_cons_zero, List.set_cons_succ]
            refine twoT (i := 6) (j := 11) rfl rfl (by kernel_rfl) ?_ ?_
            ·
              intro K hK
              rw [if_pos (by kernel_rfl)]
              go_wp2_with (((with_reducible refine (HC1.out _ (Ext.drew _)).mono ?_); (rintro e w3 ⟨v3, rfl, hv3⟩; obtain ⟨A3, c3, rfl, hi3⟩ := hv3.is; have z1 : Ext wo w3 := (Ext.drew _).trans hv3.ext; have L1 := Lib.hid hi3; have F1 := Lib.hid (Fr.lo (b0 := b0) (own_fr hv3.own (Nat.zero_le _))); have XC := Lib.hid hv3.ext; clear hv3 hi3)))
              clear XC
              refine hK.out _ _ (fun _ => HSS.out _ z1) ?_
              clear hK K hHeld
              have hHeld := HSS.out _ z1
              try simp only [Act.put, List.setIfInBounds_toArray, List.set_cons_zero, List.set_cons_succ]
              refine twoT (i := 9) (j := 11) rfl rfl (by kernel_rfl) ?_ ?_
              ·
                intro K hK
                rw [if_pos (by kernel_rfl)]
                go_wp2_with (((with_reducible refine (HC2.out _ (z1)).mono ?_); (rintro e w4 ⟨v4, rfl, hv4⟩; obtain ⟨A4, c4, rfl, hi4⟩ := hv4.is; have z2 : Ext wo w4 := (z1).trans hv4.ext; have L2 := Lib.hid hi4; have F2 := Lib.hid (Fr.lo (b0 := b0) (own_fr hv4.own (Nat.zero_le _))); have XC := Lib.hid hv4.ext; clear hv4 hi4)))
                have L1 := Lib.hid (L1.out.ext XC.out)
                have F1 := Lib.hid (F1.out.ext XC.out)
                clear XC
                refine hK.out _ _ (fun _ => HSS.out _ z2) ?_
                clear hK K hHeld
                have hHeld := HSS.out _ z2
                try simp only [Act.put, List.setIfInBounds_toArray, List.set_cons_zero, List.set_cons_succ]
                refine takeT (i := 10) (v := ?_) rfl (by kernel_rfl) (by kernel_rfl) (by kernel_rfl) (by kernel_rfl) (by decide) (fun _ _ _ h => h) (by kernel_rfl) (Or.inl ⟨by rfl, ?_⟩) (by assumption) ?_
                rotate_left
                · (intro W9 hSw; (try dsimp only at hSw); go_simp; (try with_reducible rfl))
                try simp only [Act.put, List.setIfInBounds_toArray, List.set_cons_zero, List.set_cons_succ]
                refine oneT (i := 11) rfl (by kernel_rfl) (fun K hK => ?_)
                rw [if_pos (by kernel_rfl)]
                go_wp2_with (fail)
                have xa : Ext wo (w4.alloc (.cells #[.int .i64 0, .bool false, .slice none 0 0, .slice none 0 0] 24)) := (z2).thenAlloc _
                have nb : Sb (w4.alloc (.cells #[.int .i64 0, .bool false, .slice none 0 0, .slice none 0 0] 24)) w4.heap.size 0 false (.slice none 0 0) (.slice none 0 0) := Sb.new _ _ _ _ _ rfl
                have hgo : wo.heap.size ≤ w4.heap.size := (z2).size
                have hgz : b0 + 2 ≤ w4.heap.size := by have := HG2.out; omega
                have hxq := Ext.alloc w4 (.cells #[.int .i64 0, .bool false, .slice none 0 0, .slice none 0 0] 24)
                obtain ⟨g8, hg8⟩ : ∃ g8, w4.heap.size = g8 := ⟨_, rfl⟩
                obtain ⟨wa, hwa⟩ : ∃ wa, w4.alloc (.cells #[.int .i64 0, .bool false, .slice none 0 0, .slice none 0 0] 24) = wa := ⟨_, rfl⟩
                rw [hg8] at nb hgz ⊢
                rw [hwa] at nb xa hxq ⊢
                have NB := Lib.hid nb
                have HGZ := Lib.hid hgz
                have HXGO := Lib.hid (show wo.heap.size ≤ g8 by rw [← hg8]; exact hgo)
                have L1 := Lib.hid (L1.out.ext hxq)
                have F1 := Lib.hid (F1.out.ext hxq)
                have L2 := Lib.hid (L2.out.ext hxq)
                have F2 := Lib.hid (F2.out.ext hxq)
                clear nb hgz hgo hg8 hwa hxq
                refine hK.out _ _ (fun _ => HSS.out _ xa) ?_
                clear hK K hHeld
                have hHeld := HSS.out _ xa
                try simp only [Act.put, List.setIfInBounds_toArray, List.set_cons_zero, List.set_cons_succ]
                have nb := NB.out
                have t0 := nb.c0
                have t1 := nb.c1
                have t2 := nb.c2
                have t3 := nb.c3
                have t4 := nb.fz 0
                have t5 := nb.fz 1
                have t6 := nb.fz 2
                have t7 := nb.fz 3
                clear nb
                refine oneT (i := 12) rfl (by kernel_rfl) (fun K hK => ?_)
                rw [if_pos (by kernel_rfl)]
                go_wp2_with (fail)
                refine hK.out _ _ (fun h => absurd (show true = false from h) (by decide)) ?_
                clear hK K hHeld
                try simp only [Act.put, List.setIfInBounds_toArray, List.set_cons_zero, List.set_cons_succ]
                refine doneT (by kernel_rfl) ?_ _
                go_wp2_with (fail)
                go_meet
                have hls : Ls b0 wa s A3 s.urged.length c3 A4 s.busy.length c4 := ⟨L1.out, L2.out, F1.out, F2.out⟩
                exact ⟨_, rfl, g8, rfl, Lib.hid ⟨A3, _, c3, A4, _, c4, NB.out.whole _ _ _ _, hls.put NB.out (by have := HGZ.out; omega) _ _ _ _⟩, HGZ, Lib.hid ((xa).four HXGO.out _ _ _ _)⟩
              ·
                intro K hK
                rw [if_pos (by kernel_rfl)]
                go_wp2_with (fail)
                have xa : Ext wo (w3.alloc (.cells #[.int .i64 0, .bool false, .slice none 0 0, .slice none 0 0] 24)) := (z1).thenAlloc _
                have nb : Sb (w3.alloc (.cells #[.int .i64 0, .bool false, .slice none 0 0, .slice none 0 0] 24)) w3.heap.size 0 false (.slice none 0 0) (.slice none 0 0) := Sb.new _ _ _ _ _ rfl
                have hgo : wo.heap.size ≤ w3.heap.size := (z1).size
                have hgz : b0 + 2 ≤ w3.heap.size := by have := HG2.out; omega
                have hxq := Ext.alloc w3 (.cells #[.int .i64 0, .bool false, .slice none 0 0, .slice none 0 0] 24)
                obtain ⟨g8, hg8⟩ : ∃ g8, w3.heap.size = g8 := ⟨_, rfl⟩
                obtain ⟨wa, hwa⟩ : ∃ wa, w3.alloc (.cells #[.int .i64 0, .bool false, .slice none 0 0, .slice none 0 0] 24) = wa := ⟨_, rfl⟩
                rw [hg8] at nb hgz ⊢
                rw [hwa] at nb xa hxq ⊢
                have NB := Lib.hid nb
                have HGZ := Lib.hid hgz
                have HXGO := Lib.hid (show wo.heap.size ≤ g8 by rw [← hg8]; exact hgo)
                have L1 := Lib.hid (L1.out.ext hxq)
                have F1 := Lib.hid (F1.out.ext hxq)
                clear nb hgz hgo hg8 hwa hxq
                refine hK.out _ _ (fun _ => HSS.out _ xa) ?_
                clear hK K hHeld
                have hHeld := HSS.out _ xa
                try simp only [Act.put, List.setIfInBounds_toArray, List.set_cons_zero, List.set_cons_succ]
                refine oneT (i := 9) rfl (by kernel_rfl) (fun K hK => ?_)
                rw [if_pos (by kernel_rfl)]
                go_wp2_with (((with_reducible refine (HC2.out _ (xa)).mono ?_); (rintro e w4 ⟨v4, rfl, hv4⟩; obtain ⟨A4, c4, rfl, hi4⟩ := hv4.is; have z2 : Ext wo w4 := (xa).trans hv4.ext; have L2 := Lib.hid hi4; have F2 := Lib.hid (Fr.lo (b0 := b0) (own_fr hv4.own (Nat.zero_le _))); have XC := Lib.hid hv4.ext; clear hv4 hi4)))
                have NB := Lib.hid (NB.out.ext XC.out)
                have L1 := Lib.hid (L1.out.ext XC.out)
                have F1 := Lib.hid (F1.out.ext XC.out)
                clear XC
                refine hK.out _ _ (fun _ => HSS.out _ z2) ?_
                clear hK K hHeld
                have hHeld := HSS.out _ z2
                try simp only [Act.put, List.setIfInBounds_toArray, List.set_cons_zero, List.set_cons_succ]
                refine takeT (i := 10) (v := ?_) rfl (by kernel_rfl) (by kernel_rfl) (by kernel_rfl) (by kernel_rfl) (by decide) (fun _ _ _ h => h) (by kernel_rfl) (Or.inl ⟨by rfl, ?_⟩) (by assumption) ?_
                rotate_left
                · (intro W9 hSw; (try dsimp only at hSw); go_simp; (try with_reducible rfl))
                try simp only [Act.put, List.setIfInBounds_toArray, List.set_cons_zero, List.set_cons_succ]
                have nb := NB.out
                have t0 := nb.c0
                have t1 := nb.c1
                have t2 := nb.c2
                have t3 := nb.c3
                have t4 := nb.fz 0
                have t5 := nb.fz 1
                have t6 := nb.fz 2
                have t7 := nb.fz 3
                clear nb
                refine oneT (i := 12) rfl (by kernel_rfl) (fun K hK => ?_)
                rw [if_pos (by kernel_rfl)]
                go_wp2_with (fail)
                refine hK.out _ _ (fun h => absurd (show true = false from h) (by decide)) ?_
                clear hK K hHeld
                try simp only [Act.put, List.setIfInBounds_toArray, List.set_cons_zero, List.set_cons_succ]
                refine doneT (by kernel_rfl) ?_ _
                go_wp2_with (fail)
                go_meet
                have hls : Ls b0 w4 s A3 s.urged.length c3 A4 s.busy.length c4 := ⟨L1.out, L2.out, F1.out, F2.out⟩
                exact ⟨_, rfl, g8, rfl, Lib.hid ⟨A3, _, c3, A4, _, c4, NB.out.whole _ _ _ _, hls.put NB.out (by have := HGZ.out; omega) _ _ _ _⟩, HGZ, Lib.hid ((z2).four HXGO.out _ _ _ _)⟩
            ·
              intro K hK
              rw [if_pos (by kernel_rfl)]
              go_wp2_with (fail)
              have xa : Ext wo ((wo.alloc (.cells #[.int .i64 0, .bool false, .slice none 0 0, .slice none 0 0] 24)).drew) := (Ext.alloc _ _).thenDrew
              have nb : Sb ((wo.alloc (.cells #[.int .i64 0, .bool false, .slice none 0 0, .slice none 0 0] 24)).drew) wo.heap.size 0 false (.slice none 0 0) (.slice none 0 0) := (Sb.new wo 0 false (.slice none 0 0) (.slice none 0 0) rfl).ext (Ext.drew _)
              have hgo : wo.heap.size ≤ wo.heap.size := Nat.le_refl _
              have hgz : b0 + 2 ≤ wo.heap.size := by have := HG2.out; omega
              obtain ⟨g8, hg8⟩ : ∃ g8, wo.heap.size = g8 := ⟨_, rfl⟩
              obtain ⟨wa, hwa⟩ : ∃ wa, (wo.alloc (.cells #[.int .i64 0, .bool false, .slice none 0 0, .slice none 0 0] 24)).drew = wa := ⟨_, rfl⟩
              rw [hg8] at nb hgz ⊢
              rw [hwa] at nb xa ⊢
              have NB := Lib.hid nb
              have HGZ := Lib.hid hgz
              have HXGO := Lib.hid (show wo.heap.size ≤ g8 by rw [← hg8]; exact hgo)
              clear nb hgz hgo hg8 hwa
              refine hK.out _ _ (fun _ => HSS.out _ xa) ?_
              clear hK K hHeld
              have hHeld := HSS.out _ xa
              try simp only [Act.put, List.setIfInBounds_toArray, List.set_cons_zero, List.set_cons_succ]
              refine oneT (i := 6) rfl (by kernel_rfl) (fun K hK => ?_)
              rw [if_pos (by kernel_rfl)]
              go_wp2_with (((with_reducible refine (HC1.out _ (xa)).mono ?_); (rintro e w3 ⟨v3, rfl, hv3⟩; obtain ⟨A3, c3, rfl, hi3⟩ := hv3.is; have z1 : Ext wo w3 := (xa).trans hv3.ext; have L1 := Lib.hid hi3; have F1 := Lib.hid (Fr.lo (b0 := b0) (own_fr hv3.own (Nat.zero_le _))); have XC := Lib.hid hv3.ext; clear hv3 hi3)))
              have NB := Lib.hid (NB.out.ext XC.out)
              clear XC
              refine hK.out _ _ (fun _ => HSS.out _ z1) ?_
              clear hK K hHeld
              have hHeld := HSS.out _ z1
              try simp only [Act.put, List.setIfInBounds_toArray, List.set_cons_zero, List.set_cons_succ]
              refine oneT (i := 9) rfl (by kernel_rfl) (fun K hK => ?_)
              rw [if_pos (by kernel_rfl)]
              go_wp2_with (((with_reducible refine (HC2.out _ (z1)).mono ?_); (rintro e w4 ⟨v4, rfl, hv4⟩; obtain ⟨A4, c4, rfl, hi4⟩ := hv4.is; have z2 : Ext wo w4 := (z1).trans hv4.ext; have L2 := Lib.hid hi4; have F2 := Lib.hid (Fr.lo (b0 := b0) (own_fr hv4.own (Nat.zero_le _))); have XC := Lib.hid hv4.ext; clear hv4 hi4)))
              have NB := Lib.hid (NB.out.ext XC.out)
              have L1 := Lib.hid (L1.out.ext XC.out)
              have F1 := Lib.hid (F1.out.ext XC.out)
              clear XC
              refine hK.out _ _ (fun _ => HSS.out _ z2) ?_
              clear hK K hHeld
              have hHeld := HSS.out _ z2
              try simp only [Act.put, List.setIfInBounds_toArray, List.set_cons_zero, List.set_cons_succ]
              refine takeT (i := 10) (v := ?_) rfl (by kernel_rfl) (by kernel_rfl) (by kernel_rfl) (by kernel_rfl) (by decide) (fun _ _ _ h => h) (by kernel_rfl) (Or.inl ⟨by rfl, ?_⟩) (by assumption) ?_
              rotate_left
              · (intro W9 hSw; (try dsimp only at hSw); go_simp; (try with_reducible rfl))
              try simp only [Act.put, List.setIfInBounds_toArray, List.set_cons_zero, List.set_cons_succ]
              have nb := NB.out
              have t0 := nb.c0
              have t1 := nb.c1
              have t2 := nb.c2
              have t3 := nb.c3
              have t4 := nb.fz 0
              have t5 := nb.fz 1
              have t6 := nb.fz 2
              have t7 := nb.fz 3
              clear nb
              refine oneT (i := 12) rfl (by kernel_rfl) (fun K hK => ?_)
              rw [if_pos (by kernel_rfl)]
              go_wp2_with (fail)
              refine hK.out _ _ (fun h => absurd (show true = false from h) (by decide)) ?_
              clear hK K hHeld
              try simp only [Act.put, List.setIfInBounds_toArray, List.set_cons_zero, List.set_cons_succ]
              refine doneT (by kernel_rfl) ?_ _
              go_wp2_with (fail)
              go_meet
              have hls : Ls b0 w4 s A3 s.urged.length c3 A4 s.busy.length c4 := ⟨L1.out, L2.out, F1.out, F2.out⟩
              exact ⟨_, rfl, g8, rfl, Lib.hid ⟨A3, _, c3, A4, _, c4, NB.out.whole _ _ _ _, hls.put NB.out (by have := HGZ.out; omega) _ _ _ _⟩, HGZ, Lib.hid ((z2).four HXGO.out _ _ _ _)⟩
          case rest =>
            obtain ⟨w8, rfl, g8, rfl, H8, HG8, HX8⟩ := hcut
            have sb8 := SB2.out.ext HX8.out
            clear j0 j1 j2 j3
            have j0 := sb8.c0
            have j1 := sb8.c1
            have j2 := sb8.c2
            have j3 := sb8.c3
            clear sb8
            go_upto_if 50 with (fail)
            have hT : T16 w b0 g8 w8.heap.size (w8.alloc (.cells #[.int .i64 s.cur, .bool s.queue, .slice A2 n2 c2, .slice B2 m2 d2] 24)) s s s := ⟨(H2.out.ext HX8.out).ext (Ext.alloc _ _), H8.out.ext (Ext.alloc _ _), ⟨A2, n2, c2, B2, m2, d2, Sb.new _ _ _ _ _ rfl, (LS2.out.ext HX8.out).ext (Ext.alloc _ _)⟩, (H5.out.ext HX8.out).ext (Ext.alloc _ _), (HX.out.trans HX8.out).thenAlloc _, HB0.out, HG8.out, by have := HG2.out; have := HX8.out.size; omega, by have := H8.out.lt; omega⟩
            have hgs : w8.heap.size < (w8.alloc (.cells #[.int .i64 s.cur, .bool s.queue, .slice A2 n2 c2, .slice B2 m2 d2] 24)).heap.size := by simp
            obtain ⟨w9, hw9⟩ : ∃ w9, w8.alloc (.cells #[.int .i64 s.cur, .bool s.queue, .slice A2 n2 c2, .slice B2 m2 d2] 24) = w9 := ⟨_, rfl⟩
            rw [hw9] at hT hgs ⊢
            obtain ⟨g9, hg9⟩ : ∃ g9, w8.heap.size = g9 := ⟨_, rfl⟩
            rw [hg9] at hT hgs ⊢
            have HT := Lib.hid hT
            have HGS := Lib.hid hgs
            clear hT hgs hw9 hg9 j0 j1 j2 j3 HX8 H8 HG8 H2 H5 HX HC1 HC2 SB2 LS2 HG2 q7 q8 q9 q10 hl1 hl2
            go_cut [6, 10, 11, 12, 13] (fun s6 s10 s11 s12 s13 wx => ∃ wv : World, wv = wx ∧ ∃ (s' : Scrubs.S) (er x : Int) (C' : Option Addr) (L' e' : Nat) (l' : List Int), s6 = .slice C' L' e' ∧ s10 = .int .i64 er ∧ s11 = .int .i64 er ∧ s12 = .int .i64 x ∧ s13 = .int .i64 x ∧ RowKit.Hid (Is w C' L' e' l') ∧ RowKit.Hid (Scrubs.Short s') ∧ RowKit.Hid (T16 w b0 g8 g9 wx s s' s'))
            case first =>
              by_cases ht : t = -1
              · subst ht
                go_wp2_with (fail)
                go_meet
                exact ⟨_, rfl, s, 0, 0, C, L, e, l, rfl, rfl, rfl, rfl, rfl, HI, HSH, HT⟩
              obtain ⟨i, rfl⟩ := Int.eq_ofNat_of_zero_le (show 0 ≤ t by omega)
              have hi : i < q := by omega
              have q11 : (0 : Int) ≤ (i : Int) := by omega
              obtain ⟨bo, oo, rfl, ho0, ho1, ho2, _⟩ := (HOS.out.ext HT.out.x).at_ i hi
              have hol : Is w (op i).A (op i).m (op i).c (op i).l := by
                obtain ⟨_, _, _, _, _, _, hol⟩ := HOS.out.at_ i hi
                exact hol
              obtain ⟨kd, hkd⟩ : ∃ x, (op i).kind = x := ⟨_, rfl⟩
              obtain ⟨nn, hnn⟩ : ∃ x, (op i).n = x := ⟨_, rfl⟩
              rw [hkd] at ho0
              rw [hnn] at ho1
              have q12 := hol.max
              have q13 := hol.le
              generalize (op i).A = LA at *
              generalize (op i).m = Lm at *
              generalize (op i).c = Lc at *
              generalize (op i).l = ll at *
              have HOL := Lib.hid hol
              clear hol hkd hnn ht
              go_upto_region 13 with (fail)
              have ob := heap_alloc_new w9 (.cells #[.int .i64 kd, .int .i64 nn, .slice LA Lm Lc] 37)
              have hT := HT.out.ext (Ext.alloc w9 (.cells #[.int .i64 kd, .int .i64 nn, .slice LA Lm Lc] 37))
              obtain ⟨wB, hwB⟩ : ∃ wB, w9.alloc (.cells #[.int .i64 kd, .int .i64 nn, .slice LA Lm Lc] 37) = wB := ⟨_, rfl⟩
              rw [hwB] at ob hT ⊢
              have hgo : w9.heap.size ≠ g9 ∧ w9.heap.size ≠ b0 + 1 := ⟨by have := HGS.out; omega, by have := HGS.out; have := HT.out.l9; omega⟩
              obtain ⟨go, hgo2⟩ : ∃ go, w9.heap.size = go := ⟨_, rfl⟩
              rw [hgo2] at ob hgo ⊢
              have o0 : wB.cell? ⟨go, 0, none⟩ = some (.int .i64 kd) := by rw [cell_of_row wB _ _ _ _ _ ob]; rfl
              have o1 : wB.cell? ⟨go, 1, none⟩ = some (.int .i64 nn) := by rw [cell_of_row wB _ _ _ _ _ ob]; rfl
              have o2 : wB.cell? ⟨go, 2, none⟩ = some (.slice LA Lm Lc) := by rw [cell_of_row wB _ _ _ _ _ ob]; rfl
              have HTB := Lib.hid hT
              have HGO := Lib.hid hgo
              clear HT HGS ob hT hwB hgo hgo2 ho0 ho1 ho2 hi
              obtain ⟨A2, n2, c2, B2, m2, d2, sb2, ls2⟩ := HTB.out.h2
              have SB2 := Lib.hid sb2
              have LS2 := Lib.hid ls2
              have q7 := ls2.u.max
              have q8 := ls2.u.le
              have q9 := ls2.b.max
              have q10 := ls2.b.le
              clear sb2 ls2
              go_upto_if 57 with (fail)
              go_cut [57] (fun s wx => ∃ wv : World, wv = wx ∧ wB = wx ∧ s = .bool (decide (kd = 1 ∨ kd = 2)))
              case first =>
                by_cases h1 : kd = 1
                · have e1 : (kd == 1) = true := by rw [beq_iff_eq]; exact h1
                  clear h1
                  have hd : decide (kd = 1 ∨ kd = 2) = true := decide_eq_true (by have := eq_of_beq e1; omega)
                  have HD := Lib.hid hd.symm
                  clear hd
                  go_wp2_with (fail)
                  go_meet
                  exact ⟨_, rfl, rfl, congrArg Value.bool (e1.trans HD.out)⟩
                have e1 : (kd == 1) = false := by rw [beq_eq_false_iff_ne]; exact h1
                by_cases h2 : kd = 2
                · have e2 : (kd == 2) = true := by rw [beq_iff_eq]; exact h2
                  clear h2
                  have hd : decide (kd = 1 ∨ kd = 2) = true := decide_eq_true (by have := eq_of_beq e2; omega)
                  have HD := Lib.hid hd.symm
                  clear hd
                  go_wp2_with (fail)
                  go_meet
                  exact ⟨_, rfl, rfl, congrArg Value.bool HD.out⟩
                have e2 : (kd == 2) = false := by rw [beq_eq_false_iff_ne]; exact h2
                have HD := Lib.hid (show false = decide (kd = 1 ∨ kd = 2) from (decide_eq_false (by omega)).symm)
                clear h1 h2
                go_wp2_with (fail)
                go_meet
                exact ⟨_, rfl, rfl, congrArg Value.bool HD.out⟩
              case rest =>
                obtain ⟨_, rfl, rfl, rfl⟩ := hcut
                by_cases hk1 : kd = 1 ∨ kd = 2
                · rw [decide_eq_true hk1]
                  clear hk1
                  have hcall := scUrge_any wB s A2 n2 c2 B2 m2 d2 nn LS2.out.u LS2.out.b
                  have hshort := Scrubs.short_urge HSH.out nn
                  obtain ⟨S', hS'⟩ : ∃ S', Scrubs.urgeS s nn = S' := ⟨_, rfl⟩
                  obtain ⟨er, her⟩ : ∃ er, Scrubs.urgeE s nn = er := ⟨_, rfl⟩
                  have HREF := Lib.hid (fun (W : World) (A5 : Option Addr) (n5 c5 : Nat) (B5 : Option Addr) (m5 d5 : Nat) (ls5 : Ls b0 W s A5 n5 c5 B5 m5 d5) (xW : Ext w W) => ref16Urge_any W s A5 n5 c5 B5 m5 d5 nn ls5.u ls5.b)
                  rw [hS', her] at hcall HREF
                  rw [hS'] at hshort
                  have HSHORT := Lib.hid hshort
                  clear hS' her hshort
                  have HCALL := Lib.hid hcall
                  clear hcall
                  go_upto_region 16 with (fail)
                  go_cut [10] (fun s10 wx => ∃ wv : World, wv = wx ∧ s10 = .int .i64 er ∧ RowKit.Hid (T16 w b0 g8 g9 wx s S' s) ∧ wx.cell? ⟨go, 1, none⟩ = some (.int .i64 nn))
                  case first =>
                    have a0 := SB2.out.c0
                    have a1 := SB2.out.c1
                    have a2 := SB2.out.c2
                    have a3 := SB2.out.c3
                    have af := SB2.out.fz
                    go_wp2_with (fail)
                    refine HCALL.out.mono ?_
                    intro e w11 hn
                    obtain ⟨A7, n7, c7, B7, m7, d7, rfl, ls7, x11⟩ := hn.ls (b0 := b0) LS2.out.lu LS2.out.lb
                    clear hn
                    have hT := HTB.out.ext x11
                    obtain ⟨_, _, _, _, _, _, sb9, _⟩ := hT.h9
                    have u0 := sb9.c0
                    have u1 := sb9.c1
                    have u2 := sb9.c2
                    have u3 := sb9.c3
                    have uf := sb9.fz
                    have HT9 := Lib.hid (hT.set9 ls7)
                    have HO1 := Lib.hid (cell_four (x11.cell o1) HGO.out.1 S'.cur S'.queue (.slice A7 n7 c7) (.slice B7 m7 d7))
                    clear hT sb9 ls7 x11 o0 o1 o2 a0 a1 a2 a3 af
                    go_wp2_with (fail)
                    go_meet
                    exact ⟨_, rfl, rfl, HT9, HO1.out⟩
                  case rest =>
                    clear o0 o1 o2
                    obtain ⟨wC, rfl, rfl, HTC, o1⟩ := hcut
                    obtain ⟨A5, n5, c5, B5, m5, d5, sb5, ls5⟩ := HTC.out.h5
                    have a0 := sb5.c0
                    have a1 := sb5.c1
                    have a2 := sb5.c2
                    have a3 := sb5.c3
                    have af := sb5.fz
                    have HR := Lib.hid (HREF.out wC A5 n5 c5 B5 m5 d5 ls5 HTC.out.x)
                    have LS5 := Lib.hid ls5
                    have p7 := ls5.u.max
                    have p8 := ls5.u.le
                    have p9 := ls5.b.max
                    have p10 := ls5.b.le
                    clear sb5 ls5 HREF
                    go_wp2_with (fail)
                    refine HR.out.mono ?_
                    intro e w11 hn
                    obtain ⟨A7, n7, c7, B7, m7, d7, rfl, ls7, x11⟩ := hn.ls (b0 := b0) LS5.out.lu LS5.out.lb
                    clear hn
                    have hT := HTC.out.ext x11
                    obtain ⟨_, _, _, _, _, _, sb9, _⟩ := hT.h5
                    have u0 := sb9.c0
                    have u1 := sb9.c1
                    have u2 := sb9.c2
                    have u3 := sb9.c3
                    have uf := sb9.fz
                    have HT5 := Lib.hid (hT.set5 ls7)
                    clear hT sb9 ls7 x11 o1 a0 a1 a2 a3 af
                    go_wp2_with (fail)
                    go_meet
                    exact ⟨_, rfl, S', er, 0, C, L, e, l, rfl, rfl, rfl, rfl, rfl, HI, HSHORT, HT5⟩
                rw [decide_eq_false hk1]
                clear hk1
                go_upto_if 74 with (fail)
                go_cut [74] (fun s wx => ∃ wv : World, wv = wx ∧ wB = wx ∧ s = .bool (decide (kd = 3 ∨ kd = 4 ∨ kd = 5 ∨ kd = 6)))
                case first =>
                  by_cases h3 : kd = 3
                  · have e3 : (kd == 3) = true := by rw [beq_iff_eq]; exact h3
                    clear h3
                    have hd : decide (kd = 3 ∨ kd = 4 ∨ kd = 5 ∨ kd = 6) = true := decide_eq_true (by have := eq_of_beq e3; omega)
                    have HD := Lib.hid hd.symm
                    clear hd
                    go_wp2_with (fail)
                    go_meet
                    exact ⟨_, rfl, rfl, congrArg Value.bool (e3.trans HD.out)⟩
                  have e3 : (kd == 3) = false := by rw [beq_eq_false_iff_ne]; exact h3
                  by_cases h4 : kd = 4
                  · have e4 : (kd == 4) = true := by rw [beq_iff_eq]; exact h4
                    clear h4
                    have hd : decide (kd = 3 ∨ kd = 4 ∨ kd = 5 ∨ kd = 6) = true := decide_eq_true (by have := eq_of_beq e4; omega)
                    have HD := Lib.hid hd.symm
                    clear hd
                    go_wp2_with (fail)
                    go_meet
                    exact ⟨_, rfl, rfl, congrArg Value.bool HD.out⟩
                  have e4 : (kd == 4) = false := by rw [beq_eq_false_iff_ne]; exact h4
                  by_cases h5 : kd = 5
                  · have e5 : (kd == 5) = true := by rw [beq_iff_eq]; exact h5
                    clear h5
                    have hd : decide (kd = 3 ∨ kd = 4 ∨ kd = 5 ∨ kd = 6) = true := decide_eq_true (by have := eq_of_beq e5; omega)
                    have HD := Lib.hid hd.symm
                    clear hd
                    go_wp2_with (fail)
                    go_meet
                    exact ⟨_, rfl, rfl, congrArg Value.bool HD.out⟩
                  have e5 : (kd == 5) = false := by rw [beq_eq_false_iff_ne]; exact h5
                  by_cases h6 : kd = 6
                  · have e6 : (kd == 6) = true := by rw [beq_iff_eq]; exact h6
                    clear h6
                    have hd : decide (kd = 3 ∨ kd = 4 ∨ kd = 5 ∨ kd = 6) = true := decide_eq_true (by have := eq_of_beq e6; omega)
                    have HD := Lib.hid hd.symm
                    clear hd
                    go_wp2_with (fail)
                    go_meet
                    exact ⟨_, rfl, rfl, congrArg Value.bool HD.out⟩
                  have e6 : (kd == 6) = false := by rw [beq_eq_false_iff_ne]; exact h6
                  have HD := Lib.hid (show false = decide (kd = 3 ∨ kd = 4 ∨ kd = 5 ∨ kd = 6) from (decide_eq_false (by omega)).symm)
                  clear h3 h4 h5 h6
                  go_wp2_with (fail)
                  go_meet
                  exact ⟨_, rfl, rfl, congrArg Value.bool HD.out⟩
                case rest =>
                  obtain ⟨_, rfl, rfl, rfl⟩ := hcut
                  by_cases hk3 : kd = 3 ∨ kd = 4 ∨ kd = 5 ∨ kd = 6
                  · rw [decide_eq_true hk3]
                    clear hk3
                    have hcall := scTake_any wB s A2 n2 c2 B2 m2 d2 C L e l LS2.out.u LS2.out.b (HI.out.ext HTB.out.x)
                    have hshort := Scrubs.short_take HSH.out l
                    obtain ⟨S', hS'⟩ : ∃ S', Scrubs.takeS s l = S' := ⟨_, rfl⟩
                    obtain ⟨er, her⟩ : ∃ er, Scrubs.takeE s l = er := ⟨_, rfl⟩
                    obtain ⟨xx, hxx⟩ : ∃ xx, Scrubs.takeN s l = xx := ⟨_, rfl⟩
                    have HREF := Lib.hid (fun (W : World) (A5 : Option Addr) (n5 c5 : Nat) (B5 : Option Addr) (m5 d5 : Nat) (ls5 : Ls b0 W s A5 n5 c5 B5 m5 d5) (xW : Ext w W) => ref16Take_any W s A5 n5 c5 B5 m5 d5 C L e l ls5.u ls5.b (HI.out.ext xW))
                    rw [hS', her, hxx] at hcall HREF
                    rw [hS'] at hshort
                    have HSHORT := Lib.hid hshort
                    clear hS' her hshort hxx
                    have HCALL := Lib.hid hcall
                    clear hcall
                    go_upto_region 22 with (fail)
                    go_cut [10, 12] (fun s10 s12 wx => ∃ wv : World, wv = wx ∧ s10 = .int .i64 er ∧ s12 = .int .i64 xx ∧ RowKit.Hid (T16 w b0 g8 g9 wx s S' s) ∧ wx.cell? ⟨go, 1, none⟩ = some (.int .i64 nn))
                    case first =>
                      have a0 := SB2.out.c0
                      have a1 := SB2.out.c1
                      have a2 := SB2.out.c2
                      have a3 := SB2.out.c3
                      have af := SB2.out.fz
                      go_wp2_with (fail)
                      refine HCALL.out.mono ?_
                      intro e w11 hn
                      obtain ⟨A7, n7, c7, B7, m7, d7, rfl, ls7, x11⟩ := hn.ls (b0 := b0) LS2.out.lu LS2.out.lb
                      clear hn
                      have hT := HTB.out.ext x11
                      obtain ⟨_, _, _, _, _, _, sb9, _⟩ := hT.h9
                      have u0 := sb9.c0
                      have u1 := sb9.c1
                      have u2 := sb9.c2
                      have u3 := sb9.c3
                      have uf := sb9.fz
                      have HT9 := Lib.hid (hT.set9 ls7)
                      have HO1 := Lib.hid (cell_four (x11.cell o1) HGO.out.1 S'.cur S'.queue (.slice A7 n7 c7) (.slice B7 m7 d7))
                      clear hT sb9 ls7 x11 o0 o1 o2 a0 a1 a2 a3 af
                      go_wp2_with (fail)
                      go_meet
                      exact ⟨_, rfl, rfl, rfl, HT9, HO1.out⟩
                    case rest =>
                      clear o0 o1 o2
                      obtain ⟨wC, rfl, rfl, rfl, HTC, o1⟩ := hcut
                      obtain ⟨A5, n5, c5, B5, m5, d5, sb5, ls5⟩ := HTC.out.h5
                      have a0 := sb5.c0
                      have a1 := sb5.c1
                      have a2 := sb5.c2
                      have a3 := sb5.c3
                      have af := sb5.fz
                      have HR := Lib.hid (HREF.out wC A5 n5 c5 B5 m5 d5 ls5 HTC.out.x)
                      have LS5 := Lib.hid ls5
                      have p7 := ls5.u.max
                      have p8 := ls5.u.le
                      have p9 := ls5.b.max
                      have p10 := ls5.b.le
                      clear sb5 ls5 HREF
                      go_wp2_with (fail)
                      refine HR.out.mono ?_
                      intro e w11 hn
                      obtain ⟨A7, n7, c7, B7, m7, d7, rfl, ls7, x11⟩ := hn.ls (b0 := b0) LS5.out.lu LS5.out.lb
                      clear hn
                      have hT := HTC.out.ext x11
                      obtain ⟨_, _, _, _, _, _, sb9, _⟩ := hT.h5
                      have u0 := sb9.c0
                      have u1 := sb9.c1
                      have u2 := sb9.c2
                      have u3 := sb9.c3
                      have uf := sb9.fz
                      have HT5 := Lib.hid (hT.set5 ls7)
                      clear hT sb9 ls7 x11 o1 a0 a1 a2 a3 af
                      go_wp2_with (fail)
                      go_meet
                      exact ⟨_, rfl, S', er, xx, C, L, e, l, rfl, rfl, rfl, rfl, rfl, HI, HSHORT, HT5⟩
                  rw [decide_eq_false hk3]
                  clear hk3
                  go_upto_if 93 with (fail)
                  go_cut [93] (fun s wx => ∃ wv : World, wv = wx ∧ wB = wx ∧ s = .bool (decide (kd = 7 ∨ kd = 8)))
                  case first =>
                    by_cases h7 : kd = 7
                    · have e7 : (kd == 7) = true := by rw [beq_iff_eq]; exact h7
                      clear h7
                      have hd : decide (kd = 7 ∨ kd = 8) = true := decide_eq_true (by have := eq_of_beq e7; omega)
                      have HD := Lib.hid hd.symm
                      clear hd
                      go_wp2_with (fail)
                      go_meet
                      exact ⟨_, rfl, rfl, congrArg Value.bool (e7.trans HD.out)⟩
                    have e7 : (kd == 7) = false := by rw [beq_eq_false_iff_ne]; exact h7
                    by_cases h8 : kd = 8
                    · have e8 : (kd == 8) = true := by rw [beq_iff_eq]; exact h8
                      clear h8
                      have hd : decide (kd = 7 ∨ kd = 8) = true := decide_eq_true (by have := eq_of_beq e8; omega)
                      have HD := Lib.hid hd.symm
                      clear hd
                      go_wp2_with (fail)
                      go_meet
                      exact ⟨_, rfl, rfl, congrArg Value.bool HD.out⟩
                    have e8 : (kd == 8) = false := by rw [beq_eq_false_iff_ne]; exact h8
                    have HD := Lib.hid (show false = decide (kd = 7 ∨ kd = 8) from (decide_eq_false (by omega)).symm)
                    clear h7 h8
                    go_wp2_with (fail)
                    go_meet
                    exact ⟨_, rfl, rfl, congrArg Value.bool HD.out⟩
                  case rest =>
                    obtain ⟨_, rfl, rfl, rfl⟩ := hcut
                    by_cases hk7 : kd = 7 ∨ kd = 8
                    · rw [decide_eq_true hk7]
                      clear hk7
                      have hcall := scOver_any wB s A2 n2 c2 B2 m2 d2 nn LS2.out.u LS2.out.b
                      have hshort := Scrubs.short_over HSH.out nn
                      obtain ⟨S', hS'⟩ : ∃ S', Scrubs.overS s nn = S' := ⟨_, rfl⟩
                      obtain ⟨er, her⟩ : ∃ er, Scrubs.overE s nn = er := ⟨_, rfl⟩
                      have HREF := Lib.hid (fun (W : World) (A5 : Option Addr) (n5 c5 : Nat) (B5 : Option Addr) (m5 d5 : Nat) (ls5 : Ls b0 W s A5 n5 c5 B5 m5 d5) (xW : Ext w W) => ref16Over_any W s A5 n5 c5 B5 m5 d5 nn ls5.u ls5.b)
                      rw [hS', her] at hcall HREF
                      rw [hS'] at hshort
                      have HSHORT := Lib.hid hshort
                      clear hS' her hshort
                      have HCALL := Lib.hid hcall
                      clear hcall
                      go_upto_region 26 with (fail)
                      go_cut [10] (fun s10 wx => ∃ wv : World, wv = wx ∧ s10 = .int .i64 er ∧ RowKit.Hid (T16 w b0 g8 g9 wx s S' s) ∧ wx.cell? ⟨go, 1, none⟩ = some (.int .i64 nn))
                      case first =>
                        have a0 := SB2.out.c0
                        have a1 := SB2.out.c1
                        have a2 := SB2.out.c2
                        have a3 := SB2.out.c3
                        have af := SB2.out.fz
                        go_wp2_with (fail)
                        refine HCALL.out.mono ?_
                        intro e w11 hn
                        obtain ⟨A7, n7, c7, B7, m7, d7, rfl, ls7, x11⟩ := hn.ls (b0 := b0) LS2.out.lu LS2.out.lb
                        clear hn
                        have hT := HTB.out.ext x11
                        obtain ⟨_, _, _, _, _, _, sb9, _⟩ := hT.h9
                        have u0 := sb9.c0
                        have u1 := sb9.c1
                        have u2 := sb9.c2
                        have u3 := sb9.c3
                        have uf := sb9.fz
                        have HT9 := Lib.hid (hT.set9 ls7)
                        have HO1 := Lib.hid (cell_four (x11.cell o1) HGO.out.1 S'.cur S'.queue (.slice A7 n7 c7) (.slice B7 m7 d7))
                        clear hT sb9 ls7 x11 o0 o1 o2 a0 a1 a2 a3 af
                        go_wp2_with (fail)
                        go_meet
                        exact ⟨_, rfl, rfl, HT9, HO1.out⟩
                      case rest =>
                        clear o0 o1 o2
                        obtain ⟨wC, rfl, rfl, HTC, o1⟩ := hcut
                        obtain ⟨A5, n5, c5, B5, m5, d5, sb5, ls5⟩ := HTC.out.h5
                        have a0 := sb5.c0
                        have a1 := sb5.c1
                        have a2 := sb5.c2
                        have a3 := sb5.c3
                        have af := sb5.fz
                        have HR := Lib.hid (HREF.out wC A5 n5 c5 B5 m5 d5 ls5 HTC.out.x)
                        have LS5 := Lib.hid ls5
                        have p7 := ls5.u.max
                        have p8 := ls5.u.le
                        have p9 := ls5.b.max
                        have p10 := ls5.b.le
                        clear sb5 ls5 HREF
                        go_wp2_with (fail)
                        refine HR.out.mono ?_
                        intro e w11 hn
                        obtain ⟨A7, n7, c7, B7, m7, d7, rfl, ls7, x11⟩ := hn.ls (b0 := b0) LS5.out.lu LS5.out.lb
                        clear hn
                        have hT := HTC.out.ext x11
                        obtain ⟨_, _, _, _, _, _, sb9, _⟩ := hT.h5
                        have u0 := sb9.c0
                        have u1 := sb9.c1
                        have u2 := sb9.c2
                        have u3 := sb9.c3
                        have uf := sb9.fz
                        have HT5 := Lib.hid (hT.set5 ls7)
                        clear hT sb9 ls7 x11 o1 a0 a1 a2 a3 af
                        go_wp2_with (fail)
                        go_meet
                        exact ⟨_, rfl, S', er, 0, C, L, e, l, rfl, rfl, rfl, rfl, rfl, HI, HSHORT, HT5⟩
                    rw [decide_eq_false hk7]
                    clear hk7
                    by_cases h9 : kd = 9
                    · have e9 : (kd == 9) = true := by rw [beq_iff_eq]; exact h9
                      clear h9
                      by_cases h60 : Lm ≤ 60
                      · have e60 : (Lm : Int) ≤ 60 := by omega
                        go_wp2_with (fail)
                        go_meet
                        exact ⟨_, rfl, s, 0, 0, LA, Lm, Lc, _, rfl, rfl, rfl, rfl, rfl, HOL, HSH, HTB⟩
                      · have e60 : ¬ (Lm : Int) ≤ 60 := by omega
                        go_wp2_with (fail)
                        go_meet
                        exact ⟨_, rfl, s, 0, 0, C, L, e, l, rfl, rfl, rfl, rfl, rfl, HI, HSH, HTB⟩
                    have e9 : (kd == 9) = false := by rw [beq_eq_false_iff_ne]; exact h9
                    clear h9
                    go_wp2_with (fail)
                    go_meet
                    exact ⟨_, rfl, s, 0, 0, C, L, e, l, rfl, rfl, rfl, rfl, rfl, HI, HSH, HTB⟩
            case rest =>
              obtain ⟨wC, rfl, s', er, x, C', L', e', l', rfl, rfl, rfl, rfl, rfl, HI', HSH', HTC⟩ := hcut
              obtain ⟨A2, n2, c2, B2, m2, d2, sb2, ls2⟩ := HTC.out.h2
              obtain ⟨A8, n8, c8, B8, m8, d8, sb8, ls8⟩ := HTC.out.h8
              obtain ⟨A9, n9, c9, B9, m9, d9, sb9, ls9⟩ := HTC.out.h9
              obtain ⟨A5, n5, c5, B5, m5, d5, sb5, ls5⟩ := HTC.out.h5
              obtain ⟨rb, hrb⟩ : ∃ rb, decide (Scrubs.right s') = rb := ⟨_, rfl⟩
              have k1 := fun u : Ex wC => sameScrub_yes u.w s' A9 n9 c9 B9 m9 d9 A5 n5 c5 B5 m5 d5 (ls9.u.ext u.ext) (ls9.b.ext u.ext) (ls5.u.ext u.ext) (ls5.b.ext u.ext)
              have k2 := fun u : Ex wC => sameScrub_yes u.w s A2 n2 c2 B2 m2 d2 A8 n8 c8 B8 m8 d8 (ls2.u.ext u.ext) (ls2.b.ext u.ext) (ls8.u.ext u.ext) (ls8.b.ext u.ext)
              have k3 := fun u : Ex wC => scRight_any u.w s' A9 n9 c9 B9 m9 d9 (ls9.u.ext u.ext) (ls9.b.ext u.ext)
              have k4 := fun u : Ex wC => ref16Right_any u.w s' A5 n5 c5 B5 m5 d5 (ls5.u.ext u.ext) (ls5.b.ext u.ext)
              rw [hrb] at k3 k4
              have K1 := Lib.hid k1
              have K2 := Lib.hid k2
              have K3 := Lib.hid k3
              have K4 := Lib.hid k4
              have e1 : (er != er) = false := by simp
              have e2 : (x != x) = false := by simp
              have e3 : (rb != rb) = false := by simp
              have hS : ∀ u : Ex wC, (u.w.cell? ⟨b0, 0, none⟩ = some (.int .i64 s.cur) ∧ u.w.cell? ⟨b0, 1, none⟩ = some (.bool s.queue) ∧ u.w.cell? ⟨b0, 2, none⟩ = some (.slice A2 n2 c2) ∧ u.w.cell? ⟨b0, 3, none⟩ = some (.slice B2 m2 d2)) ∧ (u.w.cell? ⟨g8, 0, none⟩ = some (.int .i64 s.cur) ∧ u.w.cell? ⟨g8, 1, none⟩ = some (.bool s.queue) ∧ u.w.cell? ⟨g8, 2, none⟩ = some (.slice A8 n8 c8) ∧ u.w.cell? ⟨g8, 3, none⟩ = some (.slice B8 m8 d8)) ∧ (u.w.cell? ⟨g9, 0, none⟩ = some (.int .i64 s'.cur) ∧ u.w.cell? ⟨g9, 1, none⟩ = some (.bool s'.queue) ∧ u.w.cell? ⟨g9, 2, none⟩ = some (.slice A9 n9 c9) ∧ u.w.cell? ⟨g9, 3, none⟩ = some (.slice B9 m9 d9)) ∧ (u.w.cell? ⟨b0 + 1, 0, none⟩ = some (.int .i64 s'.cur) ∧ u.w.cell? ⟨b0 + 1, 1, none⟩ = some (.bool s'.queue) ∧ u.w.cell? ⟨b0 + 1, 2, none⟩ = some (.slice A5 n5 c5) ∧ u.w.cell? ⟨b0 + 1, 3, none⟩ = some (.slice B5 m5 d5)) :=
                fun u => ⟨⟨(sb2.ext u.ext).c0, (sb2.ext u.ext).c1, (sb2.ext u.ext).c2, (sb2.ext u.ext).c3⟩, ⟨(sb8.ext u.ext).c0, (sb8.ext u.ext).c1, (sb8.ext u.ext).c2, (sb8.ext u.ext).c3⟩, ⟨(sb9.ext u.ext).c0, (sb9.ext u.ext).c1, (sb9.ext u.ext).c2, (sb9.ext u.ext).c3⟩, ⟨(sb5.ext u.ext).c0, (sb5.ext u.ext).c1, (sb5.ext u.ext).c2, (sb5.ext u.ext).c3⟩⟩
              have SB2 := Lib.hid sb2
              have SB9 := Lib.hid sb9
              have LS9 := Lib.hid ls9
              clear k1 k2 k3 k4 sb2 sb8 sb9 sb5 ls2 ls8 ls9 ls5 hrb HI HSH
              go_wp2_with (fail)
              refine wp_region_grow (by kernel_rfl) (by kernel_rfl) ?_
              repeat (go_big_quiet_step (first | (with_reducible exact Ex.call _ (K1.out _)) | (with_reducible exact Ex.call _ (K2.out _)) | (with_reducible exact Ex.call _ (K3.out _)) | (with_reducible exact Ex.call _ (K4.out _))))
              refine wpQuiet_nil ?_
              rintro _ ⟨u, rfl⟩
              have hT := HTC.out.ext u.ext
              have sb2 := SB2.out.ext u.ext
              have sb9 := SB9.out.ext u.ext
              have hF := hT.turn (LS9.out.ext u.ext)
              clear hS
              generalize u.w = W9 at *
              have a0 := sb2.c0
              have a1 := sb2.c1
              have a2 := sb2.c2
              have a3 := sb2.c3
              have af := sb2.fz
              have u0 := sb9.c0
              have u1 := sb9.c1
              have u2 := sb9.c2
              have u3 := sb9.c3
              have uf := sb9.fz
              have HF := Lib.hid hF
              clear hT sb2 sb9 hF
              go_wp2_with (fail)
              exact ⟨⟨t + 1, s', C', L', e', l', by go_num, rfl, by omega, by omega, by omega, HI', HSH', Lib.hid HF.out.1, Lib.hid HF.out.2.1, Lib.hid HF.out.2.2⟩, by simp [intOf]; omega⟩
        · go_wp2_with (fail)
          go_meet
          exact ⟨_, rfl, HX.out⟩
      · go_wp2_with (fail)
        go_meet
        exact ⟨_, rfl, HX.out⟩
end Go.Proofs.Ytkclimblcipmlaa
