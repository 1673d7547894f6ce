/- JournalLives' walk. -/
import Derived.Test.YtaaegbccejjjcaaCt28
import Derived.Test.YtaaegbccejjjcaaJourAwake
namespace Go.Proofs.Ytaaegbccejjjcaa
open Go.ChangeShapes Go.WideShapes Go.ChangeAt Go.RowKit Go.Maps Go.Sort Go.Shelf

theorem Bs.cut {w : World} {A : Option Addr} {n c k : Nat} {l : List UInt8} (h : Bs w A n c l) (hk : k ≤ n) : Bs w A k c (l.take k) := by
  have h1 := h.len
  have h2 := h.le
  refine ⟨by rw [List.length_take]; omega, by omega, h.max, ?_, fun hn => ?_⟩
  · rw [bcells_len, List.length_take]; omega
  · obtain ⟨b, off, e, hc⟩ := h.rd.2 (by omega)
    refine ⟨b, off, e, fun i v hv => hc i v ?_⟩
    rw [show bcells (l.take k) = (bcells l).take k by simp [bcells, List.map_take]] at hv
    rw [List.getElem?_take] at hv
    split at hv
    · exact hv
    · cases hv
namespace journalLives
set_option maxRecDepth 100000 in
set_option maxHeartbeats 4000000 in
theorem walk (W : World) (a0 a1 : Int) (A : Option Addr) (n c : Nat) (z : List Int) (u0 : (Lit.int .u8 a0).wf = true) (u1 : (Lit.int .u8 a1).wf = true) (hz : IsRow .u8 W A n c z) :
    Calls Try.prog 4 #[.int .u8 a0, .int .u8 a1, .slice A n c] W fun e W' => e = .returned (.bool true) ∧ Ext W W' := by
  obtain ⟨l, hl⟩ := hz.bytes
  obtain ⟨x, rfl⟩ := wf_u8 u0
  obtain ⟨y, rfl⟩ := wf_u8 u1
  have hle := hl.le
  have hmx := hl.max
  have HL := Lib.hid hl
  have LL := Lib.hid hl.len
  obtain ⟨i0, hi0, hz0, hz1, hz2⟩ := info_parts u8_info
  have hx256 : x.toNat < 256 := x.toNat_lt
  have hy256 : y.toNat < 256 := y.toNat_lt
  clear hz u0 u1 hl
  go_enter Try.func4, Try.ntmps4
  try dsimp only [List.append]
  go_wp2_with (fail)
  obtain ⟨nn, hnn⟩ : ∃ nn : Nat, 8 + (x.toNat : Int) % 53 = (nn : Int) := ⟨8 + x.toNat % 53, by omega⟩
  have hn8 : 8 ≤ nn ∧ nn ≤ 65536 := by omega
  have hnew := new_dl W nn (by omega) (by omega)
  rw [hnn]
  clear hnn hx256
  with_reducible refine hnew.mono ?_
  rintro e w1 ⟨g, m, b, rfl, d1⟩
  have ho := open_new W w1 g m b nn d1 hn8.1 hn8.2
  clear hnew d1
  go_wp2_with (fail)
  with_reducible refine ho.mono ?_
  rintro e w2 ⟨pa, oa, da, rfl, la, aa⟩
  have LA := Lib.hid la
  have AA := Lib.hid aa
  clear ho la aa
  go_wp2_with (fail)
  obtain ⟨nb, hnb⟩ : ∃ nb, min n 120 = nb := ⟨_, rfl⟩
  obtain ⟨T, hT⟩ : ∃ T, 1 + y.toNat % 30 = T := ⟨_, rfl⟩
  rw [show (min (n : Int) 120).toNat = nb by omega, show 1 + (y.toNat : Int) % 30 = (T : Int) by omega]
  have hnb1 : nb ≤ 120 ∧ nb ≤ n := by omega
  have hT1 : T ≤ 30 := by omega
  have BL := Lib.hid (HL.out.cut hnb1.2)
  clear hnb hT hy256 hn8
  go_loopw [9, 40] (fun sp s wr => ∃ (k p N : Nat) (o : Option Nat) (j : Jo.J) (d : Disks.D), k ≤ T ∧ sp = .pointer (some ⟨p, 0, none⟩) ∧ s = .int .i64 (k : Int) ∧ RowKit.Hid (Lv W wr p g m b N o j d) ∧ RowKit.Hid (d.arm = -1 ∧ N ≤ 1 + 20 * k ∧ j.life ≤ 1 + k)) (fun _ s _ => T - (intOf s).toNat)
  case atStart => exact ⟨0, pa, 1, oa, _, da, Nat.zero_le _, rfl, rfl, LA, Lib.hid ⟨AA.out, Nat.le_refl _, Nat.le_refl _⟩⟩
  case round =>
    clear LA AA
    obtain ⟨k, p, N, o, j, d, hk, rfl, rfl, L, NF⟩ := hrel
    by_cases hlt : k < T
    · have i1 : (k : Int) < T := by omega
      go_wp2_with (fail)
      have b3 := bs_lit24 wr [UInt8.ofNat k, UInt8.ofNat nb] #[.int .u8 (k : Int), .int .u8 (nb : Int)] 5 (n := 2) rfl (by
        show [Value.int .u8 (k : Int), .int .u8 (nb : Int)] = [Value.int .u8 ((UInt8.ofNat k).toNat : Int), .int .u8 ((UInt8.ofNat nb).toNat : Int)]
        rw [UInt8.toNat_ofNat', UInt8.toNat_ofNat', Nat.mod_eq_of_lt (by omega), Nat.mod_eq_of_lt (by omega)]) (by omega)
      have x3 := Ext.alloc wr (.cells #[.int .u8 (k : Int), .int .u8 (nb : Int)] 5)
      have s3 : wr.heap.size < (wr.alloc (.cells #[.int .u8 (k : Int), .int .u8 (nb : Int)] 5)).heap.size := by rw [World.size_alloc]; omega
      obtain ⟨w3, hw3⟩ : ∃ w3, wr.alloc (.cells #[.int .u8 (k : Int), .int .u8 (nb : Int)] 5) = w3 := ⟨_, rfl⟩
      obtain ⟨q, hq⟩ : ∃ q, wr.heap.size = q := ⟨_, rfl⟩
      obtain ⟨bl, hbl⟩ : ∃ bl, [UInt8.ofNat k, UInt8.ofNat nb] = bl := ⟨_, rfl⟩
      have hbl2 : bl.length = 2 := by rw [← hbl]; rfl
      rw [hw3] at x3 s3
      rw [hw3, hq, hbl] at b3
      have L3 := Lib.hid (L.out.then x3)
      have k3 := L.out.fresh (off := 0) (n := 2) (Nat.le_refl _) s3
      rw [hq] at k3
      rw [hw3, hq]
      have hcp := cp_ok L3.out NF.out.1 b3 k3 (by omega) (by rw [Jo.fits_cp, hbl2]; have := L3.out.at_.small; show 1 + Jo.need 2 ≤ j.half; have h2 : Jo.need 2 = 1 := rfl; omega) (N' := N + 2) (Nat.le_refl _) (by have := NF.out; unfold maxLen; omega) (by have := NF.out; omega)
      have B3 := Lib.hid b3
      have K3 := Lib.hid k3
      clear hw3 hq hbl b3 x3 s3 k3 hbl2
      go_wp2_with (fail)
      with_reducible refine hcp.mono ?_
      rintro e w4 ⟨o4, d4, rfl, l4, a4, ch4, ho4⟩
      have L4 := Lib.hid l4
      have B4 := Lib.hid (show Bs w4 (some ⟨q, 0, none⟩) 2 2 bl ∧ Cold (Hot p g m b o4) w4 (some ⟨q, 0, none⟩) 2 from ⟨B3.out.ch ch4 K3.out, K3.out.keep ch4.size ho4⟩)
      have NF4 := Lib.hid (show d4.arm = -1 ∧ N + 2 ≤ N + 2 + 4 * 0 ∧ (Jo.doJ j 2 bl).life ≤ 2 + k ∧ (Jo.doJ j 2 bl).base = bl ∧ (Jo.doJ j 2 bl).recs.length = 0 by
        rw [Jo.doJ_cp]
        exact ⟨a4, by omega, by show j.life + 1 ≤ 2 + k; have := NF.out; omega, rfl, rfl⟩)
      obtain ⟨j4, hj4⟩ : ∃ j4, Jo.doJ j 2 bl = j4 := ⟨_, rfl⟩
      rw [hj4] at L4 NF4
      clear hcp l4 a4 ch4 ho4 L3 B3 K3 hj4 L
      go_wp2_with (fail)
      go_loopw [13] (fun s wr => ∃ (t N1 : Nat) (o1 : Option Nat) (j1 : Jo.J) (d1 : Disks.D), t ≤ 3 ∧ s = .int .i64 (t : Int) ∧ RowKit.Hid (Lv W wr p g m b N1 o1 j1 d1) ∧ RowKit.Hid (Bs wr (some ⟨q, 0, none⟩) 2 2 bl ∧ Cold (Hot p g m b o1) wr (some ⟨q, 0, none⟩) 2) ∧ RowKit.Hid (d1.arm = -1 ∧ N1 ≤ N + 2 + 4 * t ∧ j1.life ≤ 2 + k ∧ j1.base = bl ∧ j1.recs.length = t)) (fun s _ => 4 - (intOf s).toNat)
      case atStart => exact ⟨0, N + 2, o4, j4, d4, Nat.zero_le _, rfl, L4, B4, NF4⟩
      case round =>
        clear L4 B4 NF4
        obtain ⟨t, N1, o1, j1, d1, ht, rfl, L1, B1, NF1⟩ := hrel
        by_cases hlt2 : t < k % 4
        · have i2 : (t : Int) < (k : Int) % 4 := by omega
          have own0 : RowKit.Hid ((wr.alloc (.cells #[.int .u8 2, .int .u8 0, .int .u8 0, .int .u8 0, .int .u8 0, .int .u8 0, .int .u8 0, .int .u8 0, .int .u8 (k : Int)] 5)).ownsRow wr.heap.size 5 1 (.slice (some ⟨wr.heap.size, 0, none⟩) 9 9) 9 [.int .u8 2, .int .u8 0, .int .u8 0, .int .u8 0, .int .u8 0, .int .u8 0, .int .u8 0, .int .u8 0, .int .u8 (k : Int)]) := Lib.hid (World.ownsRow_lit wr #[.int .u8 2, .int .u8 0, .int .u8 0, .int .u8 0, .int .u8 0, .int .u8 0, .int .u8 0, .int .u8 0, .int .u8 (k : Int)] 9 (Nat.le_refl _) (by unfold maxLen; omega) rfl)
          have hsz := L1.out.ext.size
          go_wp2_with (at_builtin; refine wpList_append_wanted _ (by rfl) (.tmp 61) (.tmp 62) 32 rfl wr.heap.size 5 i0 _ 1 1 Try.underlying32 hi0 hz0 hz1 hz2 rfl (by omega) (.slice (some ⟨wr.heap.size, 0, none⟩) 9 9) 9 [.int .u8 2, .int .u8 0, .int .u8 0, .int .u8 0, .int .u8 0, .int .u8 0, .int .u8 0, .int .u8 0, .int .u8 (k : Int)] rfl own0.out A nb c (bcells (l.take nb)) rfl ((BL.out.rd.ext L1.out.ext).ext (Ext.alloc _ _)) (bcells_one _) (by omega) (by unfold maxLen; omega) (by simp) ?_; intro v5 w5 hown hgr hat; obtain ⟨A5, c5, rfl, _, _⟩ := ownsRow_slice hown)
          obtain ⟨l5, hl5⟩ : ∃ l5, [2, 0, 0, 0, 0, 0, 0, 0, UInt8.ofNat k] ++ l.take nb = l5 := ⟨_, rfl⟩
          have hn5 : l5.length = 9 + nb := by rw [← hl5, List.length_append, List.length_take, LL.out]; show 9 + min nb n = 9 + nb; omega
          have hc5 : ([.int .u8 2, .int .u8 0, .int .u8 0, .int .u8 0, .int .u8 0, .int .u8 0, .int .u8 0, .int .u8 0, .int .u8 (k : Int)] : List Value) ++ bcells (l.take nb) = bcells l5 := by
            rw [← hl5, bcells_append]
            congr 1
            show ([.int .u8 2, .int .u8 0, .int .u8 0, .int .u8 0, .int .u8 0, .int .u8 0, .int .u8 0, .int .u8 0, .int .u8 (k : Int)] : List Value) = [.int .u8 2, .int .u8 0, .int .u8 0, .int .u8 0, .int .u8 0, .int .u8 0, .int .u8 0, .int .u8 0, .int .u8 ((UInt8.ofNat k).toNat : Int)]
            rw [UInt8.toNat_ofNat', Nat.mod_eq_of_lt (by omega)]
          rw [hc5] at hown
          have b5 : Bs w5 A5 (9 + nb) c5 l5 := by
            rw [← hn5] at hown ⊢
            exact (Own.mk (base := wr.heap.size) (e := 5) hown).bs
          have x5 : Ext wr w5 := (Ext.alloc wr _).ofGrown hgr (fun q hq => by have hq : some wr.heap.size = some q := hq; injection hq with hq; omega)
          have k5 : Cold (Hot p g m b o1) w5 A5 (9 + nb) := fun hn0 q hq => by
            have h1 := own_row hown q (own_of_map hq)
            have h2 := b5.block hn0 hq
            exact ⟨h2, fun z => by have := L1.out.jn.lt q z; omega⟩
          have L5 := Lib.hid (L1.out.then x5)
          have B5 := Lib.hid (show Bs w5 (some ⟨q, 0, none⟩) 2 2 bl ∧ Cold (Hot p g m b o1) w5 (some ⟨q, 0, none⟩) 2 from ⟨B1.out.1.ext x5, B1.out.2.ch x5.size⟩)
          have BB := Lib.hid b5
          have KK := Lib.hid k5
          clear hl5 hc5 hown hgr hat b5 x5 k5 L1 B1 own0 hn5
          by_cases hf : Jo.fits j1 0 l5
          · have hap := app_ok L5.out NF1.out.1 BB.out KK.out (by omega) hf (N' := N1 + 4) (by unfold Jo.need; omega) (by have := NF1.out; have := NF.out; unfold maxLen; omega)
            clear hf
            with_reducible refine hap.mono ?_
            rintro e w6 ⟨o6, d6, rfl, l6, a6, ch6, ho6⟩
            have L6 := Lib.hid l6
            have B6 := Lib.hid (show Bs w6 (some ⟨q, 0, none⟩) 2 2 bl ∧ Cold (Hot p g m b o6) w6 (some ⟨q, 0, none⟩) 2 from ⟨B5.out.1.ch ch6 B5.out.2, B5.out.2.keep ch6.size ho6⟩)
            have NF6 := Lib.hid (show d6.arm = -1 ∧ N1 + 4 ≤ N + 2 + 4 * (t + 1) ∧ (Jo.doJ j1 0 l5).life ≤ 2 + k ∧ (Jo.doJ j1 0 l5).base = bl ∧ (Jo.doJ j1 0 l5).recs.length = t + 1 by
              rw [Jo.doJ_app]
              have h1 := NF1.out
              exact ⟨a6, by omega, h1.2.2.1, h1.2.2.2.1, by show (j1.recs ++ [l5]).length = _; rw [List.length_append, h1.2.2.2.2]; rfl⟩)
            clear hap l6 a6 ch6 ho6 L5 B5 BB KK
            go_wp2_with (fail)
            exact ⟨⟨t + 1, N1 + 4, o6, _, d6, by omega, by go_num, L6, B6, NF6⟩, by simp [intOf]; omega⟩
          · have hap := app_full L5.out BB.out KK.out (by omega) hf
            clear hf
            with_reducible refine hap.mono ?_
            rintro e w6 ⟨rfl, x6⟩
            have L1 := Lib.hid (L5.out.then x6)
            have B1 := Lib.hid (show Bs w6 (some ⟨q, 0, none⟩) 2 2 bl ∧ Cold (Hot p g m b o1) w6 (some ⟨q, 0, none⟩) 2 from ⟨B5.out.1.ext x6, B5.out.2.ch x6.size⟩)
            clear hap x6 L5 B5 BB KK
            have ho := open_lv W w6 g m b _ d1 _ L1.out.dl L1.out.at_
            go_wp2_with (fail)
            with_reducible refine ho.mono ?_
            rintro e w11 ⟨pc, oc, rfl, lc, xc, _, _⟩
            have L11 := Lib.hid (L1.out.then xc)
            have C11 := Lib.hid lc
            have B11 := Lib.hid (B1.out.1.ext xc)
            clear ho lc xc L1 B1
            have hr := recs_lv L11.out
            go_wp2_with (fail)
            with_reducible refine hr.mono ?_
            rintro e w12 ⟨A12, c12, rfl, m12, _, x12⟩
            have L12 := Lib.hid (L11.out.then x12)
            have C12 := Lib.hid (C11.out.then x12)
            have hs := same_lv C12.out _ 2 2 _ (B11.out.ext x12) A12 j1.recs.length c12 j1.recs m12 (z := true) (decide_eq_true ⟨NF1.out.2.2.2.1, rfl⟩)
            clear hr m12 x12 L11 C11 B11
            go_wp2_with (fail)
            with_reducible refine hs.mono ?_
            rintro e w13 ⟨rfl, x13⟩
            have L13 := Lib.hid (L12.out.then x13)
            have C13 := Lib.hid (C12.out.then x13)
            clear hs x13 L12 C12
            have hr := recs_lv C13.out
            rw [NF1.out.2.2.2.2] at hr
            go_wp2_with (fail)
            with_reducible refine hr.mono ?_
            rintro e w14 ⟨A14, c14, rfl, _, _, x14⟩
            have L14 := Lib.hid (L13.out.then x14)
            have C14 := Lib.hid (C13.out.then x14)
            clear hr x14 L13 C13
            obtain ⟨R, hR⟩ : ∃ R : Int, ((j1.from_ + j1.half - j1.next : Nat) : Int) = R := ⟨_, rfl⟩
            have hm := room_lv C14.out hR
            go_wp2_with (fail)
            with_reducible refine hm.mono ?_
            rintro e w15 ⟨rfl, x15⟩
            have L15 := Lib.hid (L14.out.then x15)
            have C15 := Lib.hid (C14.out.then x15)
            clear hm x15 L14 C14
            have hm := room_lv L15.out hR
            go_wp2_with (fail)
            with_reducible refine hm.mono ?_
            rintro e w16 ⟨rfl, x16⟩
            have C16 := Lib.hid (C15.out.then x16)
            clear hm x16 L15 C15 hR
            go_wp2_with (fail)
            exact ⟨⟨k + 1, pc, N1, oc, j1, d1, by omega, rfl, by go_num, C16, Lib.hid (by have h1 := NF1.out; have h2 := NF.out; exact ⟨h1.1, by omega, by omega⟩)⟩, by simp [intOf]; omega⟩
        · have i2 : ¬ (t : Int) < (k : Int) % 4 := by omega
          have ho := open_lv W wr g m b _ d1 _ L1.out.dl L1.out.at_
          go_wp2_with (fail)
          with_reducible refine ho.mono ?_
          rintro e w11 ⟨pc, oc, rfl, lc, xc, _, _⟩
          have L11 := Lib.hid (L1.out.then xc)
          have C11 := Lib.hid lc
          have B11 := Lib.hid (B1.out.1.ext xc)
          clear ho lc xc L1 B1
          have hr := recs_lv L11.out
          go_wp2_with (fail)
          with_reducible refine hr.mono ?_
          rintro e w12 ⟨A12, c12, rfl, m12, _, x12⟩
          have L12 := Lib.hid (L11.out.then x12)
          have C12 := Lib.hid (C11.out.then x12)
          have hs := same_lv C12.out _ 2 2 _ (B11.out.ext x12) A12 j1.recs.length c12 j1.recs m12 (z := true) (decide_eq_true ⟨NF1.out.2.2.2.1, rfl⟩)
          clear hr m12 x12 L11 C11 B11
          go_wp2_with (fail)
          with_reducible refine hs.mono ?_
          rintro e w13 ⟨rfl, x13⟩
          have L13 := Lib.hid (L12.out.then x13)
          have C13 := Lib.hid (C12.out.then x13)
          clear hs x13 L12 C12
          have hr := recs_lv C13.out
          rw [NF1.out.2.2.2.2] at hr
          go_wp2_with (fail)
          with_reducible refine hr.mono ?_
          rintro e w14 ⟨A14, c14, rfl, _, _, x14⟩
          have L14 := Lib.hid (L13.out.then x14)
          have C14 := Lib.hid (C13.out.then x14)
          clear hr x14 L13 C13
          obtain ⟨R, hR⟩ : ∃ R : Int, ((j1.from_ + j1.half - j1.next : Nat) : Int) = R := ⟨_, rfl⟩
          have hm := room_lv C14.out hR
          go_wp2_with (fail)
          with_reducible refine hm.mono ?_
          rintro e w15 ⟨rfl, x15⟩
          have L15 := Lib.hid (L14.out.then x15)
          have C15 := Lib.hid (C14.out.then x15)
          clear hm x15 L14 C14
          have hm := room_lv L15.out hR
          go_wp2_with (fail)
          with_reducible refine hm.mono ?_
          rintro e w16 ⟨rfl, x16⟩
          have C16 := Lib.hid (C15.out.then x16)
          clear hm x16 L15 C15 hR
          go_wp2_with (fail)
          exact ⟨⟨k + 1, pc, N1, oc, j1, d1, by omega, rfl, by go_num, C16, Lib.hid (by have h1 := NF1.out; have h2 := NF.out; exact ⟨h1.1, by omega, by omega⟩)⟩, by simp [intOf]; omega⟩
    · have i1 : ¬ (k : Int) < T := by omega
      have haw := awake24 wr
      go_wp2_with (fail)
      with_reducible refine haw.mono ?_
      rintro e w2 ⟨rfl, x2⟩
      have X2 := Lib.hid (L.out.ext.trans x2)
      clear haw x2
      go_wp2_with (fail)
      go_ret
      exact ⟨rfl, X2.out⟩
end journalLives
end Go.Proofs.Ytaaegbccejjjcaa
