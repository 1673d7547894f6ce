/- FindLacks' walk. -/
import Derived.Test.YtfpglkacjecoeaaCt34
import Derived.Test.YtfpglkacjecoeaaCt35
namespace Go.Proofs.Ytfpglkacjecoeaa
open Go.ChangeShapes Go.WideShapes Go.ChangeAt Go.RowKit

/-- How long the shards are; below 0: there is none. -/
def sizeOf13 (f : Finds.F) : Int := if f.shards.length = 0 then -1 else ((f.shards.getD 0 []).length : Int)
def said13 (f : Finds.F) : List Bool := f.marks.map fun m => decide (m ≠ 0)
def lack13 (f : Finds.F) : List Bool := f.marks.map fun m => decide (m = 2)
theorem brow_map {l : List Int} {p : Int → Bool} {k : Nat} (h : k < l.length) : brow (l.map p) k = p (Il.get l k) := by
  unfold brow
  rw [Il.get_of_lt h]
  simp [h]
/-- Is an answer refused? -/
def lk13 (f : Finds.F) (e : Int) (n : Nat) : Bool := decide (e ≠ 0) || (decide (0 ≤ sizeOf13 f) && decide ((n : Int) ≠ sizeOf13 f))
theorem lk13_gets (f : Finds.F) (e : Int) (b : List UInt8) (hb : b.length ≤ 100) : Finds.gets f e b = !lk13 f e b.length := by
  unfold Finds.gets lk13 Finds.fitsL sizeOf13
  have h1 : decide (b.length ≤ 65536) = true := decide_eq_true (by omega)
  rw [h1, Bool.true_and]
  by_cases he : e = 0
  · subst he
    by_cases hs : f.shards.length = 0
    · simp [hs]
    · simp [hs]
      omega
  · simp [he]
/-- What an answer to an open index leaves. -/
theorem told_lacks {f : Finds.F} {k : Nat} (hr : Finds.right f) (h1 : k < f.marks.length) (hp : f.phase = 1) (hm : Il.get f.marks k = 0) (e : Int) (b : List UInt8) (hb : b.length ≤ 100) :
    said13 (Finds.toldF f (k : Int) e b) = (said13 f).set k true ∧ lack13 (Finds.toldF f (k : Int) e b) = (lack13 f).set k (lk13 f e b.length) ∧ sizeOf13 (Finds.toldF f (k : Int) e b) = (if lk13 f e b.length then sizeOf13 f else (b.length : Int)) := by
  obtain ⟨m1, m2, _⟩ := Finds.told_marks (f := f) (i := (k : Int)) hr (by omega) (by omega) hp (by simpa using hm) e b
  have hg := lk13_gets f e b hb
  rw [Int.toNat_natCast] at m1
  unfold said13 lack13
  rw [m1]
  refine ⟨?_, ?_, ?_⟩
  · rw [List.map_set]
    congr 1
    split <;> rfl
  · rw [List.map_set]
    congr 1
    rw [hg]
    cases lk13 f e b.length <;> rfl
  · unfold sizeOf13
    rw [m2, hg]
    cases hl : lk13 f e b.length with
    | true => simp
    | false =>
      have hs : (f.shards ++ [b]).length ≠ 0 := by simp
      simp only [Bool.not_false, if_true]
      rw [if_neg hs, if_neg (by simp)]
      cases hf : f.shards with
      | nil => simp
      | cons a l =>
        have : Finds.gets f e b = true := by rw [hg, hl]; rfl
        unfold Finds.gets Finds.fitsL at this
        rw [hf] at this
        simp at this ⊢
        exact congrArg Int.ofNat this.2.2.symm
theorem told_lacks_no {f : Finds.F} {k : Nat} (h : ¬ Finds.opens f (k : Int)) (e : Int) (b : List UInt8) : Finds.toldF f (k : Int) e b = f := Finds.toldF_shut h e b
theorem begun_lacks (n d : UInt8) : said13 (begunF n d) = List.replicate (manyOf n) false ∧ lack13 (begunF n d) = List.replicate (manyOf n) false ∧ sizeOf13 (begunF n d) = -1 ∧ Finds.right (begunF n d) ∧ (begunF n d).marks.length = manyOf n := by
  have h := Finds.begun_right (begun_named n d)
  rw [(begun_begin n d).1] at h
  refine ⟨?_, ?_, rfl, h, ?_⟩
  · show (List.replicate (manyOf n) (0 : Int)).map _ = _
    rw [List.map_replicate]
    rfl
  · show (List.replicate (manyOf n) (0 : Int)).map _ = _
    rw [List.map_replicate]
    rfl
  · show (List.replicate (manyOf n) (0 : Int)).length = _
    rw [List.length_replicate]
theorem Fh.away {w w' : World} {lo hi g : Nat} {f : Finds.F} (h : Fh w lo hi g f) (ha : Away lo hi w w') (hb : w'.heap[g]? = w.heap[g]?) : Fh w' lo hi g f := by
  obtain ⟨A, n, c, B, m, d, C, k, e, h1, h2⟩ := h
  exact ⟨A, n, c, B, m, d, C, k, e, ⟨hb.trans h1.blk⟩, h2.away ha⟩
set_option maxRecDepth 100000 in
set_option maxHeartbeats 4000000 in
theorem findLacks_any (w : World) (n d : UInt8) (D : Option Addr) (q c : Nat) (o : Nat → Op13) (ho : Os13 w D q c o) :
    Calls Try.prog 5 #[.int .u8 (n.toNat : Int), .int .u8 (d.toNat : Int), .slice D q c] w fun e w' => e = .returned (.bool true) ∧ Ext w w' := by
  have q1 := ho.max
  have q2 := ho.le
  have HO := Lib.hid ho
  clear ho
  obtain ⟨i0, hi0, hz0, hz1, hz2⟩ := info_parts int_info
  have hm1 : 1 ≤ manyOf n ∧ manyOf n ≤ 10 := by unfold manyOf; omega
  go_enter Try.func5, Try.ntmps5
  try dsimp only [List.append]
  go_upto_region 1 with (fail)
  go_cut [7, 8, 9] (fun s7 s8 s9 wx => ∃ wv : World, wv = wx ∧ ∃ g lo, s7 = .pointer (some ⟨g, 0, none⟩) ∧ s8 = .int .i64 (manyOf n : Int) ∧ s9 = .bool true ∧ RowKit.Hid (∃ A n1 c B m d1 C k e9, Fb wx g (begunF n d).stripe (begunF n d).version (begunF n d).need (begunF n d).phase (.slice A n1 c) (.slice B m d1) (.slice C k e9) ∧ Fd lo (begunF n d) A n1 c B m d1 C k e9) ∧ RowKit.Hid (lo.heap.size = g ∧ wx.heap.size = g + 1 ∧ Ext lo wx) ∧ RowKit.Hid (w.heap.size ≤ g) ∧ RowKit.Hid (Ext w wx))
  case first =>
    go_wp2_with (fail)
    with_reducible refine (begun13_any w n d).mono ?_
    rintro e w1 ⟨U, V, S, rfl, ho, hx⟩
    obtain ⟨A, c1, B, d1, C, e1, rfl, rfl, rfl, hd⟩ := ho.fd
    have q1 := hd.u.max
    have q2 := hd.u.le
    have q3 := hd.v.max
    have q4 := hd.v.le
    have q5 := hd.s.max
    have q6 := hd.s.le
    have HD := Lib.hid hd
    have X1 := Lib.hid hx
    clear hd ho hx
    go_wp2_with (fail)
    go_meet
    exact ⟨_, rfl, _, w1, rfl, rfl, rfl, Lib.hid ⟨_, _, _, _, _, _, _, _, _, Fb.new w1 _ _ _ _ _ _ _ rfl, HD.out⟩, Lib.hid ⟨rfl, by simp, Ext.alloc _ _⟩, Lib.hid X1.out.size, Lib.hid (X1.out.thenAlloc _)⟩
  case rest =>
  obtain ⟨w1, rfl, g, w0, rfl, rfl, rfl, HF0, HZ, HGW, X1⟩ := hcut
  obtain ⟨bl1, bl2, bl3, bl4, bl5⟩ := begun_lacks n d
  have hmk := fun W => run_make_bools W (manyOf n) (by omega)
  have BL1 := Lib.hid bl1
  have BL2 := Lib.hid bl2
  have BL3 := Lib.hid bl3
  have BL4 := Lib.hid bl4
  have BL5 := Lib.hid bl5
  obtain ⟨F0, hF0⟩ : ∃ F0, begunF n d = F0 := ⟨_, rfl⟩
  rw [hF0] at HF0 BL1 BL2 BL3 BL4 BL5
  obtain ⟨N, hN⟩ : ∃ N, manyOf n = N := ⟨_, rfl⟩
  rw [hN] at BL1 BL2 BL5 hm1 hmk ⊢
  have HNN := Lib.hid hN
  clear bl1 bl2 bl3 bl4 bl5 hF0 hN
  go_upto_block 0 with (fail)
  have hz1 : w1.heap.size = g + 1 := HZ.out.2.1
  rw [hz1]
  obtain ⟨w3, hw3⟩ : ∃ w3, (w1.alloc (.cells (made N (.bool false)) 4)).alloc (.cells (made N (.bool false)) 4) = w3 := ⟨_, rfl⟩
  rw [hw3]
  have SA0 := Lib.hid (show Bo w3 (g + 1) (said13 F0) by rw [BL1.out, ← hw3]; exact (Bo.made w1 N hz1).ext (Ext.alloc _ _))
  have LA0 := Lib.hid (show Bo w3 (g + 1 + 1) (lack13 F0) by rw [BL2.out, ← hw3]; exact Bo.made _ N (by simp [hz1]))
  have X13 := Lib.hid (show Ext w1 w3 by rw [← hw3]; exact (Ext.alloc _ _).thenAlloc _)
  have FH0 := Lib.hid (show Fh w3 g (g + 1 + 1 + 1) g F0 by
    obtain ⟨A, n1, c, B, m, d1, C, k, e9, h1, h2⟩ := HF0.out
    exact ⟨A, n1, c, B, m, d1, C, k, e9, h1.ext X13.out, h2.x (HZ.out.2.2.trans X13.out) (by rw [HZ.out.1]; exact Nat.le_refl _)⟩)
  clear hw3 hz1 hmk
  go_wp2_with (fail)
  go_loopw [10, 13, 14, 15, 16, 17, 18, 106] (fun s10 s13 _ _ _ _ _ _ wr => ∃ (i : Nat) (F : Finds.F), i ≤ q ∧ i ≤ 40 ∧ s13 = .int .i64 (i : Int) ∧ s10 = .int .i64 (sizeOf13 F) ∧ RowKit.Hid (Fh wr g (g + 1 + 1 + 1) g F) ∧ RowKit.Hid (Bo wr (g + 1) (said13 F)) ∧ RowKit.Hid (Bo wr (g + 1 + 1) (lack13 F)) ∧ RowKit.Hid (Finds.right F ∧ F.marks.length = N) ∧ RowKit.Hid (Ext w wr)) (fun _ s _ _ _ _ _ _ _ => 40 - (intOf s).toNat)
  case atStart => exact ⟨0, F0, by omega, by omega, rfl, by rw [BL3.out], FH0, SA0, LA0, Lib.hid ⟨BL4.out, BL5.out⟩, Lib.hid (X1.out.trans X13.out)⟩
  case round =>
    obtain ⟨i, F, hi, hi2, rfl, rfl, HF, SA, LA, HR, HX⟩ := hrel
    by_cases hlt : i < q
    · have r1 : (i : Int) < q := by omega
      by_cases h40 : i < 40
      · have r2 : (i : Int) < 40 := by omega
        obtain ⟨bo, oo, rfl, ho0, ho1, ho2, ho3, hob⟩ := (HO.out.ext HX.out).at_ i hlt
        have hob0 := HO.out.bs hlt
        generalize o i = oi at *
        obtain ⟨lo, ix, er, Ao, mo, co, bb⟩ := oi
        simp only at ho0 ho1 ho2 ho3 hob hob0
        have HB0 := Lib.hid hob0
        clear hob0
        have p1 := hob.max
        have p2 := hob.le
        have LBB := Lib.hid hob.len
        have HOB := Lib.hid hob
        obtain ⟨k, hk, hkN⟩ : ∃ k : Nat, pick ix N = (k : Int) ∧ k < N := by
          have := pick_range ix N (by omega)
          exact ⟨(pick ix N).toNat, by omega, by omega⟩
        have hpk := fun W => pick_any W ix N (by omega)
        rw [hk] at hpk
        have HPK := Lib.hid hpk
        have hkI : (k : Int) < N := by omega
        clear hob hpk hk
        obtain ⟨wq, hwq⟩ : ∃ wq, wr.alloc (.cells #[.bool lo, .int .i64 ix, .int .i64 er, .slice Ao mo co] 37) = wq := ⟨_, rfl⟩
        have HWQ := Lib.hid hwq
        have XQ := Lib.hid (show Ext wr wq by rw [← hwq]; exact Ext.alloc _ _)
        have OB := Lib.hid (show wq.heap[wr.heap.size]? = some (.cells #[.bool lo, .int .i64 ix, .int .i64 er, .slice Ao mo co] 37 (0, 0)) by rw [← hwq]; exact heap_alloc_new _ _)
        clear hwq
        by_cases hlen : 100 < mo
        · have r3 : (100 : Int) < mo := by omega
          go_wp2_with (fail)
          with_reducible refine (HPK.out _).mono ?_
          rintro e w4 ⟨rfl, rfl⟩
          go_wp2_with (fail)
          rw [HWQ.out]
          exact ⟨⟨i + 1, F, by omega, by omega, by go_num, rfl, Lib.hid (HF.out.ext XQ.out), Lib.hid (SA.out.ext XQ.out), Lib.hid (LA.out.ext XQ.out), HR, Lib.hid (HX.out.trans XQ.out)⟩, by simp [intOf]; omega⟩
        · have r3 : ¬ (100 : Int) < mo := by omega
          have r4 : mo ≤ 100 := by omega
          clear hlen
          go_upto_region 13 with (with_reducible refine (HPK.out _).mono ?_; rintro e w4 ⟨rfl, rfl⟩)
          rw [HWQ.out]
          clear ho0 ho1 ho2 ho3
          have HBQ := Lib.hid (HOB.out.ext XQ.out)
          have SQ := Lib.hid (SA.out.ext XQ.out)
          have LQ := Lib.hid (LA.out.ext XQ.out)
          have FQ := Lib.hid (HF.out.ext XQ.out)
          have HXQ := Lib.hid (HX.out.trans XQ.out)
          have HSZ := Lib.hid (show wr.heap.size < wq.heap.size from (Array.getElem?_eq_some_iff.1 OB.out).1)
          have HGQ := Lib.hid (show g + 1 + 1 < wr.heap.size from LA.out.lt)
          obtain ⟨F2, hF2⟩ : ∃ F2, Finds.toldF F (k : Int) er bb = F2 := ⟨_, rfl⟩
          have HF2 := Lib.hid hF2
          have hlm : k < F.marks.length := by rw [HR.out.2]; exact hkN
          have js := SQ.out.cell (j := k) (by unfold said13; rw [List.length_map]; exact hlm)
          have jl := LQ.out.cell (j := k) (by unfold lack13; rw [List.length_map]; exact hlm)
          rw [show brow (said13 F) k = decide (Il.get F.marks k ≠ 0) from brow_map hlm] at js
          generalize brow (lack13 F) k = yl at jl
          have fs := SQ.out.fz k
          have fl := LQ.out.fz k
          have HLM := Lib.hid hlm
          have o1 : wq.cell? ⟨wr.heap.size, 2, none⟩ = some (.int .i64 er) := by rw [cell_of_row wq _ _ _ _ _ OB.out]; rfl
          have o2 : wq.cell? ⟨wr.heap.size, 3, none⟩ = some (.slice Ao mo co) := by rw [cell_of_row wq _ _ _ _ _ OB.out]; rfl
          have k3 : wq.cell? ⟨g, 3, none⟩ = some (.int .i64 F.phase) := by
            obtain ⟨_, _, _, _, _, _, _, _, _, h1, _⟩ := FQ.out
            exact h1.c3
          have n1 : wr.heap.size ≠ g + 1 := by have := HGQ.out; omega
          have n2 : wr.heap.size ≠ g + 1 + 1 := by have := HGQ.out; omega
          obtain ⟨SZ, hSZ⟩ : ∃ SZ, sizeOf13 F = SZ := ⟨_, rfl⟩
          have HSZE := Lib.hid hSZ
          rw [hSZ]
          clear hlm hF2 hSZ
          by_cases hp : F.phase = 1
          · have e1 : (F.phase == 1) = true := by rw [beq_iff_eq]; exact hp
            by_cases hm : Il.get F.marks k = 0
            · have e2 : decide (Il.get F.marks k ≠ 0) = false := by simp [hm]
              rw [e2] at js
              obtain ⟨tl1, tl2, tl3⟩ := told_lacks HR.out.1 HLM.out hp hm er bb (by rw [LBB.out]; exact r4)
              rw [HF2.out] at tl1 tl2 tl3
              rw [LBB.out] at tl2 tl3
              rw [HSZE.out] at tl3
              have TL1 := Lib.hid tl1
              have TL2 := Lib.hid tl2
              have TL3 := Lib.hid tl3
              have lkv : lk13 F er mo = (decide (er ≠ 0) || (decide (0 ≤ SZ) && decide ((mo : Int) ≠ SZ))) := by unfold lk13; rw [HSZE.out]
              have LKV := Lib.hid lkv
              clear hp hm e2 tl1 tl2 tl3 lkv
              by_cases hs : er ≠ 0
              · have e3 : (er != 0) = true := by rw [bne_iff_ne]; exact hs
                have HL := Lib.hid (show lk13 F er mo = true by rw [LKV.out, decide_eq_true hs]; rfl)
                clear hs
                go_upto_region 18 with (fail)
                have HSA5 := Lib.hid (show Bo ((wq.setCell ⟨g + 1, k, none⟩ (.bool true)).setCell ⟨g + 1 + 1, k, none⟩ (.bool true)) (g + 1) (said13 F2) by rw [TL1.out]; exact (SQ.out.set k true).far (q := ⟨g + 1 + 1, k, none⟩) (by show g + 1 + 1 ≠ g + 1; omega) _)
                have HLA5 := Lib.hid (show Bo ((wq.setCell ⟨g + 1, k, none⟩ (.bool true)).setCell ⟨g + 1 + 1, k, none⟩ (.bool true)) (g + 1 + 1) (lack13 F2) by rw [TL2.out, HL.out]; exact (LQ.out.far (q := ⟨g + 1, k, none⟩) (by show g + 1 ≠ g + 1 + 1; omega) _).set k true)
                have ha : Away g (g + 1 + 1 + 1) wq ((wq.setCell ⟨g + 1, k, none⟩ (.bool true)).setCell ⟨g + 1 + 1, k, none⟩ (.bool true)) := (Away.set wq ⟨g + 1, k, none⟩ (by show g ≤ g + 1; omega) (by show g + 1 < g + 1 + 1 + 1; omega) _).trans (Away.set _ ⟨g + 1 + 1, k, none⟩ (by show g ≤ g + 1 + 1; omega) (by show g + 1 + 1 < g + 1 + 1 + 1; omega) _)
                have HF5 := Lib.hid (FQ.out.away ha ((heap_setCell_other _ ⟨g + 1 + 1, k, none⟩ g _ (by show g ≠ g + 1 + 1; omega)).trans (heap_setCell_other _ ⟨g + 1, k, none⟩ g _ (by show g ≠ g + 1; omega))))
                have HX5 := Lib.hid (ha.ext HXQ.out HGW.out)
                have OB5 := Lib.hid ((ha.block wr.heap.size HSZ.out (by have := HGQ.out; omega)).trans OB.out)
                have HZ5 := Lib.hid (show SZ = sizeOf13 F2 by rw [TL3.out, HL.out]; rfl)
                clear ha
                obtain ⟨w5, hw5⟩ : ∃ w5, (wq.setCell ⟨g + 1, k, none⟩ (.bool true)).setCell ⟨g + 1 + 1, k, none⟩ (.bool true) = w5 := ⟨_, rfl⟩
                rw [hw5] at HSA5 HLA5 HF5 HX5 OB5 ⊢
                clear hw5 js jl fs fl o1 o2 k3
                have HI5 := Lib.hid (HB0.out.ext HX5.out)
                obtain ⟨A1, n1, c1, B1, m1, d1, C1, kk1, e1', sb, fx⟩ := HF5.out
                have fd := fx.fd
                have HT := Lib.hid (fTold_ok (er := er) fd HR.out.1 (show (0 : Int) ≤ (k : Int) by omega) (show (k : Int) < F.marks.length by rw [HR.out.2]; exact hkI) HI5.out)
                rw [HF2.out] at HT
                have y1 := fd.u.max
                have y2 := fd.u.le
                have y3 := fd.v.max
                have y4 := fd.v.le
                have y5 := fd.s.max
                have y6 := fd.s.le
                have g0 := sb.c0
                have g1 := sb.c1
                have g2 := sb.c2
                have g3 := sb.c3
                have g4 := sb.c4
                have g5 := sb.c5
                have g6 := sb.c6
                have o1 : w5.cell? ⟨wr.heap.size, 2, none⟩ = some (.int .i64 er) := by rw [cell_of_row w5 _ _ _ _ _ OB5.out]; rfl
                have o2 : w5.cell? ⟨wr.heap.size, 3, none⟩ = some (.slice Ao mo co) := by rw [cell_of_row w5 _ _ _ _ _ OB5.out]; rfl
                have SB := Lib.hid sb
                clear sb fx fd
                go_wp2_with (fail)
                with_reducible refine HT.out.mono ?_
                rintro e w6 ⟨A4, n4, c4, B4, m4, d4, C4, k4', e4', rfl, hx4, ho4⟩
                rename_i hKK
                have hfd4 := ho4.fdOf
                have y9 := hfd4.u.max
                have y10 := hfd4.u.le
                have y11 := hfd4.v.max
                have y12 := hfd4.v.le
                have y13 := hfd4.s.max
                have y14 := hfd4.s.le
                have HX4 := Lib.hid hx4
                have HO4 := Lib.hid ho4
                refine hKK _ _ ?_
                clear hKK hfd4 ho4 hx4
                have bb4 := (SB.out.ext HX4.out).blk
                refine wpList_val rfl (.tuple #[fval F2.stripe F2.version F2.need F2.phase (.slice A4 n4 c4) (.slice B4 m4 d4) (.slice C4 k4' e4'), .int .i64 0]) (by rfl) ?_
                refine wpList_val rfl (fval F2.stripe F2.version F2.need F2.phase (.slice A4 n4 c4) (.slice B4 m4 d4) (.slice C4 k4' e4')) (by rfl) ?_
                refine wpList_val rfl (.int .i64 0) (by rfl) ?_
                refine wpList_store_row rfl 27 (.tmp 7) (.tmp 100) rfl g (frow F2.stripe F2.version F2.need F2.phase (.slice A4 n4 c4) (.slice B4 m4 d4) (.slice C4 k4' e4')) rfl rfl 27 _ bb4 (by kernel_rfl) rfl (by simp [Value.oneCell']) ?_
                have HS5 := Lib.hid (show g + 1 + 1 < w5.heap.size from HLA5.out.lt)
                have HP := Lib.hid ((HF5.out.ext HX4.out).put (HO4.out.x (hi := g + 1 + 1 + 1) (by have := HS5.out; omega)) (Nat.le_refl g) (by omega))
                have HX6 := Lib.hid ((HX5.out.trans HX4.out).row HGW.out (frow F2.stripe F2.version F2.need F2.phase (.slice A4 n4 c4) (.slice B4 m4 d4) (.slice C4 k4' e4')))
                have HSA6 := Lib.hid ((HSA5.out.ext HX4.out).same (setRow_other w6 g (g + 1) (frow F2.stripe F2.version F2.need F2.phase (.slice A4 n4 c4) (.slice B4 m4 d4) (.slice C4 k4' e4')) (by omega)))
                have HLA6 := Lib.hid ((HLA5.out.ext HX4.out).same (setRow_other w6 g (g + 1 + 1) (frow F2.stripe F2.version F2.need F2.phase (.slice A4 n4 c4) (.slice B4 m4 d4) (.slice C4 k4' e4')) (by omega)))
                clear bb4 g0 g1 g2 g3 g4 g5 g6 o1 o2
                obtain ⟨w7, hw7⟩ : ∃ w7, w6.setRow g (frow F2.stripe F2.version F2.need F2.phase (.slice A4 n4 c4) (.slice B4 m4 d4) (.slice C4 k4' e4')) = w7 := ⟨_, rfl⟩
                rw [hw7] at HP HX6 HSA6 HLA6 ⊢
                clear hw7 HF5 HSA5 HLA5 HX5 OB5
                go_wp2_with (fail)
                have HR2 := Lib.hid (show Finds.right F2 ∧ F2.marks.length = N by rw [← HF2.out]; exact ⟨Finds.right_told HR.out.1 _ _ _, by rw [Finds.toldF_marks_length]; exact HR.out.2⟩)
                go_loopw [17, 18, 106] (fun s17 _ s106 wr => ∃ j : Nat, j ≤ N ∧ s106 = .int .i64 (j : Int) ∧ RowKit.Hid (wr.ownsRow w7.heap.size 3 1 s17 (Finds.upto F2.marks 2 j).length (icells (Finds.upto F2.marks 2 j))) ∧ RowKit.Hid (Ext w7 wr)) (fun _ _ s _ => N - (intOf s).toNat)
                case atStart => exact ⟨0, by omega, rfl, Lib.hid (World.ownsRow_nil _ _ _ _), Lib.hid (Ext.refl _)⟩
                case round =>
                  obtain ⟨j, hj, rfl, OW, HX8⟩ := hrel
                  by_cases hjn : j < N
                  · have v1 : (j : Int) < N := by omega
                    have jc := (HLA6.out.ext HX8.out).cell (j := j) (by unfold lack13; rw [List.length_map, HR2.out.2]; exact hjn)
                    rw [show brow (lack13 F2) j = decide (Il.get F2.marks j = 2) from brow_map (by rw [HR2.out.2]; exact hjn)] at jc
                    have hus := Finds.upto_succ F2.marks 2 j
                    have hul := Finds.upto_length_le F2.marks 2 j
                    by_cases h2 : Il.get F2.marks j = 2
                    · rw [decide_eq_true h2] at jc
                      rw [if_pos h2] at hus
                      have HUS := Lib.hid hus
                      clear hus h2
                      go_wp2_with (at_builtin; refine wpList_append_rd _ rfl (.tmp 113) (.tmp 115) 24 rfl w7.heap.size 3 i0 _ 1 8 Try.underlying24 hi0 hz0 hz1 hz2 rfl (by omega) u17 (Finds.upto F2.marks 2 j).length (icells (Finds.upto F2.marks 2 j)) rfl (ownsRow_ext OW.out (Ext.alloc _ _)) (some ⟨wr.heap.size, 0, none⟩) 1 1 [.int .i64 (j : Int)] rfl (Rd.lit wr #[_] _) (by simp [Value.oneCell']) (by omega) (by unfold maxLen; omega) (by have := HX8.out.size; simp; omega) ?_; intro v9 w9 hown hgr hat)
                      refine ⟨⟨j + 1, by omega, by go_num, Lib.hid ?_, Lib.hid ((HX8.out.trans (Ext.alloc _ _)).ofGrown hgr (fun k hk => (OW.out.lt k hk).1))⟩, by simp [intOf]; omega⟩
                      rw [HUS.out, icells_append, List.length_append]
                      exact hown
                    · rw [decide_eq_false h2] at jc
                      rw [if_neg h2] at hus
                      have HUS := Lib.hid hus
                      clear hus h2
                      go_wp2_with (fail)
                      exact ⟨⟨j + 1, by omega, by go_num, by rw [HUS.out]; exact OW, HX8⟩, by simp [intOf]; omega⟩
                  · have v1 : ¬ (j : Int) < N := by omega
                    obtain rfl : N = j := by omega
                    have hofL : Finds.lacksL F2 = Finds.upto F2.marks 2 N := by rw [show Finds.lacksL F2 = Finds.ofL F2.marks 2 from if_pos HR2.out.1]; unfold Finds.ofL; rw [HR2.out.2]
                    have hul := Finds.upto_length_le F2.marks 2 N
                    have HP8 := Lib.hid (HP.out.ext HX8.out)
                    obtain ⟨A7, n7, c7, B7, m7, d7, C7, kk7, e7, sb7, fx7⟩ := HP8.out
                    have fd7 := fx7.fd
                    have hlq := Finds.right_len HR2.out.1
                    have hwq := Finds.which_len HR2.out.1
                    have hcq := Finds.cnt_le F2.marks 1
                    have hla := fLacks_any wr F2 A7 n7 c7 B7 m7 d7 C7 kk7 e7 fd7 (by have := fd7.u.len; omega) (by have := fd7.v.len; omega)
                    rw [hofL] at hla
                    have HLA2 := Lib.hid hla
                    obtain ⟨U, hU⟩ : ∃ U, Finds.upto F2.marks 2 N = U := ⟨_, rfl⟩
                    rw [hU] at HLA2 OW hul
                    obtain ⟨A9, c9, rfl, _, _⟩ := ownsRow_slice OW.out
                    have y1 := fd7.u.max
                    have y2 := fd7.u.le
                    have y3 := fd7.v.max
                    have y4 := fd7.v.le
                    have y5 := fd7.s.max
                    have y6 := fd7.s.le
                    have g0 := sb7.c0
                    have g1 := sb7.c1
                    have g2 := sb7.c2
                    have g3 := sb7.c3
                    have g4 := sb7.c4
                    have g5 := sb7.c5
                    have g6 := sb7.c6
                    have HIW := Lib.hid (Own.mk (base := w7.heap.size) (e := 3) OW.out).ints
                    have y7 := HIW.out.max
                    have y8 := HIW.out.le
                    clear sb7 fx7 fd7 hla hofL hU hlq hwq hcq
                    go_wp2_with (fail)
                    with_reducible refine HLA2.out.mono ?_
                    rintro e w9 ⟨v9, rfl, hv9⟩
                    obtain ⟨A8, c8, rfl, hi8⟩ := hv9.is
                    have z7 := hi8.max
                    have z8 := hi8.le
                    have HSI := Lib.hid (sameInts_any w9 A8 A9 U.length c8 U.length c9 U U hi8 (HIW.out.ext hv9.ext))
                    have X9 := Lib.hid hv9.ext
                    clear hi8 hv9 g0 g1 g2 g3 g4 g5 g6
                    go_wp2_with (fail)
                    with_reducible refine HSI.out.mono ?_
                    rintro e w10 ⟨he, hd10⟩
                    obtain rfl : e = .returned (.bool true) := he.trans (by simp)
                    have X10 := Lib.hid (HX8.out.trans (X9.out.trans hd10.ext))
                    clear hd10
                    go_wp2_with (fail)
                    exact ⟨⟨i + 1, F2, by omega, by omega, by go_num, by rw [HZ5.out], Lib.hid (HP.out.ext X10.out), Lib.hid (HSA6.out.ext X10.out), Lib.hid (HLA6.out.ext X10.out), HR2, Lib.hid (HX6.out.trans X10.out)⟩, by simp [intOf]; omega⟩
              · have e3 : (er != 0) = false := by rw [bne_eq_false_iff_eq]; exact Classical.not_not.1 hs
                have e4 : decide (er ≠ 0) = false := decide_eq_false hs
                by_cases hz : 0 ≤ SZ
                · by_cases hq : (mo : Int) = SZ
                  · have e5 : ((mo : Int) != SZ) = false := by rw [bne_eq_false_iff_eq]; exact hq
                    have HL := Lib.hid (show lk13 F er mo = false by rw [LKV.out, e4, show decide ((mo : Int) ≠ SZ) = false from decide_eq_false (fun h9 => h9 hq), Bool.and_false]; rfl)
                    clear hs hq e4
                    go_upto_region 18 with (fail)
                    have HSA5 := Lib.hid (show Bo ((wq.setCell ⟨g + 1, k, none⟩ (.bool true)).setCell ⟨g + 1 + 1, k, none⟩ (.bool false)) (g + 1) (said13 F2) by rw [TL1.out]; exact (SQ.out.set k true).far (q := ⟨g + 1 + 1, k, none⟩) (by show g + 1 + 1 ≠ g + 1; omega) _)
                    have HLA5 := Lib.hid (show Bo ((wq.setCell ⟨g + 1, k, none⟩ (.bool true)).setCell ⟨g + 1 + 1, k, none⟩ (.bool false)) (g + 1 + 1) (lack13 F2) by rw [TL2.out, HL.out]; exact (LQ.out.far (q := ⟨g + 1, k, none⟩) (by show g + 1 ≠ g + 1 + 1; omega) _).set k false)
                    have ha : Away g (g + 1 + 1 + 1) wq ((wq.setCell ⟨g + 1, k, none⟩ (.bool true)).setCell ⟨g + 1 + 1, k, none⟩ (.bool false)) := (Away.set wq ⟨g + 1, k, none⟩ (by show g ≤ g + 1; omega) (by show g + 1 < g + 1 + 1 + 1; omega) _).trans (Away.set _ ⟨g + 1 + 1, k, none⟩ (by show g ≤ g + 1 + 1; omega) (by show g + 1 + 1 < g + 1 + 1 + 1; omega) _)
                    have HF5 := Lib.hid (FQ.out.away ha ((heap_setCell_other _ ⟨g + 1 + 1, k, none⟩ g _ (by show g ≠ g + 1 + 1; omega)).trans (heap_setCell_other _ ⟨g + 1, k, none⟩ g _ (by show g ≠ g + 1; omega))))
                    have HX5 := Lib.hid (ha.ext HXQ.out HGW.out)
                    have OB5 := Lib.hid ((ha.block wr.heap.size HSZ.out (by have := HGQ.out; omega)).trans OB.out)
                    have HZ5 := Lib.hid (show (mo : Int) = sizeOf13 F2 by rw [TL3.out, HL.out]; rfl)
                    clear ha
                    obtain ⟨w5, hw5⟩ : ∃ w5, (wq.setCell ⟨g + 1, k, none⟩ (.bool true)).setCell ⟨g + 1 + 1, k, none⟩ (.bool false) = w5 := ⟨_, rfl⟩
                    rw [hw5] at HSA5 HLA5 HF5 HX5 OB5 ⊢
                    clear hw5 js jl fs fl o1 o2 k3
                    have HI5 := Lib.hid (HB0.out.ext HX5.out)
                    obtain ⟨A1, n1, c1, B1, m1, d1, C1, kk1, e1', sb, fx⟩ := HF5.out
                    have fd := fx.fd
                    have HT := Lib.hid (fTold_ok (er := er) fd HR.out.1 (show (0 : Int) ≤ (k : Int) by omega) (show (k : Int) < F.marks.length by rw [HR.out.2]; exact hkI) HI5.out)
                    rw [HF2.out] at HT
                    have y1 := fd.u.max
                    have y2 := fd.u.le
                    have y3 := fd.v.max
                    have y4 := fd.v.le
                    have y5 := fd.s.max
                    have y6 := fd.s.le
                    have g0 := sb.c0
                    have g1 := sb.c1
                    have g2 := sb.c2
                    have g3 := sb.c3
                    have g4 := sb.c4
                    have g5 := sb.c5
                    have g6 := sb.c6
                    have o1 : w5.cell? ⟨wr.heap.size, 2, none⟩ = some (.int .i64 er) := by rw [cell_of_row w5 _ _ _ _ _ OB5.out]; rfl
                    have o2 : w5.cell? ⟨wr.heap.size, 3, none⟩ = some (.slice Ao mo co) := by rw [cell_of_row w5 _ _ _ _ _ OB5.out]; rfl
                    have SB := Lib.hid sb
                    clear sb fx fd
                    go_wp2_with (fail)
                    with_reducible refine HT.out.mono ?_
                    rintro e w6 ⟨A4, n4, c4, B4, m4, d4, C4, k4', e4', rfl, hx4, ho4⟩
                    rename_i hKK
                    have hfd4 := ho4.fdOf
                    have y9 := hfd4.u.max
                    have y10 := hfd4.u.le
                    have y11 := hfd4.v.max
                    have y12 := hfd4.v.le
                    have y13 := hfd4.s.max
                    have y14 := hfd4.s.le
                    have HX4 := Lib.hid hx4
                    have HO4 := Lib.hid ho4
                    refine hKK _ _ ?_
                    clear hKK hfd4 ho4 hx4
                    have bb4 := (SB.out.ext HX4.out).blk
                    refine wpList_val rfl (.tuple #[fval F2.stripe F2.version F2.need F2.phase (.slice A4 n4 c4) (.slice B4 m4 d4) (.slice C4 k4' e4'), .int .i64 0]) (by rfl) ?_
                    refine wpList_val rfl (fval F2.stripe F2.version F2.need F2.phase (.slice A4 n4 c4) (.slice B4 m4 d4) (.slice C4 k4' e4')) (by rfl) ?_
                    refine wpList_val rfl (.int .i64 0) (by rfl) ?_
                    refine wpList_store_row rfl 27 (.tmp 7) (.tmp 100) rfl g (frow F2.stripe F2.version F2.need F2.phase (.slice A4 n4 c4) (.slice B4 m4 d4) (.slice C4 k4' e4')) rfl rfl 27 _ bb4 (by kernel_rfl) rfl (by simp [Value.oneCell']) ?_
                    have HS5 := Lib.hid (show g + 1 + 1 < w5.heap.size from HLA5.out.lt)
                    have HP := Lib.hid ((HF5.out.ext HX4.out).put (HO4.out.x (hi := g + 1 + 1 + 1) (by have := HS5.out; omega)) (Nat.le_refl g) (by omega))
                    have HX6 := Lib.hid ((HX5.out.trans HX4.out).row HGW.out (frow F2.stripe F2.version F2.need F2.phase (.slice A4 n4 c4) (.slice B4 m4 d4) (.slice C4 k4' e4')))
                    have HSA6 := Lib.hid ((HSA5.out.ext HX4.out).same (setRow_other w6 g (g + 1) (frow F2.stripe F2.version F2.need F2.phase (.slice A4 n4 c4) (.slice B4 m4 d4) (.slice C4 k4' e4')) (by omega)))
                    have HLA6 := Lib.hid ((HLA5.out.ext HX4.out).same (setRow_other w6 g (g + 1 + 1) (frow F2.stripe F2.version F2.need F2.phase (.slice A4 n4 c4) (.slice B4 m4 d4) (.slice C4 k4' e4')) (by omega)))
                    clear bb4 g0 g1 g2 g3 g4 g5 g6 o1 o2
                    obtain ⟨w7, hw7⟩ : ∃ w7, w6.setRow g (frow F2.stripe F2.version F2.need F2.phase (.slice A4 n4 c4) (.slice B4 m4 d4) (.slice C4 k4' e4')) = w7 := ⟨_, rfl⟩
                    rw [hw7] at HP HX6 HSA6 HLA6 ⊢
                    clear hw7 HF5 HSA5 HLA5 HX5 OB5
                    go_wp2_with (fail)
                    have HR2 := Lib.hid (show Finds.right F2 ∧ F2.marks.length = N by rw [← HF2.out]; exact ⟨Finds.right_told HR.out.1 _ _ _, by rw [Finds.toldF_marks_length]; exact HR.out.2⟩)
                    go_loopw [17, 18, 106] (fun s17 _ s106 wr => ∃ j : Nat, j ≤ N ∧ s106 = .int .i64 (j : Int) ∧ RowKit.Hid (wr.ownsRow w7.heap.size 3 1 s17 (Finds.upto F2.marks 2 j).length (icells (Finds.upto F2.marks 2 j))) ∧ RowKit.Hid (Ext w7 wr)) (fun _ _ s _ => N - (intOf s).toNat)
                    case atStart => exact ⟨0, by omega, rfl, Lib.hid (World.ownsRow_nil _ _ _ _), Lib.hid (Ext.refl _)⟩
                    case round =>
                      obtain ⟨j, hj, rfl, OW, HX8⟩ := hrel
                      by_cases hjn : j < N
                      · have v1 : (j : Int) < N := by omega
                        have jc := (HLA6.out.ext HX8.out).cell (j := j) (by unfold lack13; rw [List.length_map, HR2.out.2]; exact hjn)
                        rw [show brow (lack13 F2) j = decide (Il.get F2.marks j = 2) from brow_map (by rw [HR2.out.2]; exact hjn)] at jc
                        have hus := Finds.upto_succ F2.marks 2 j
                        have hul := Finds.upto_length_le F2.marks 2 j
                        by_cases h2 : Il.get F2.marks j = 2
                        · rw [decide_eq_true h2] at jc
                          rw [if_pos h2] at hus
                          have HUS := Lib.hid hus
                          clear hus h2
                          go_wp2_with (at_builtin; refine wpList_append_rd _ rfl (.tmp 113) (.tmp 115) 24 rfl w7.heap.size 3 i0 _ 1 8 Try.underlying24 hi0 hz0 hz1 hz2 rfl (by omega) u17 (Finds.upto F2.marks 2 j).length (icells (Finds.upto F2.marks 2 j)) rfl (ownsRow_ext OW.out (Ext.alloc _ _)) (some ⟨wr.heap.size, 0, none⟩) 1 1 [.int .i64 (j : Int)] rfl (Rd.lit wr #[_] _) (by simp [Value.oneCell']) (by omega) (by unfold maxLen; omega) (by have := HX8.out.size; simp; omega) ?_; intro v9 w9 hown hgr hat)
                          refine ⟨⟨j + 1, by omega, by go_num, Lib.hid ?_, Lib.hid ((HX8.out.trans (Ext.alloc _ _)).ofGrown hgr (fun k hk => (OW.out.lt k hk).1))⟩, by simp [intOf]; omega⟩
                          rw [HUS.out, icells_append, List.length_append]
                          exact hown
                        · rw [decide_eq_false h2] at jc
                          rw [if_neg h2] at hus
                          have HUS := Lib.hid hus
                          clear hus h2
                          go_wp2_with (fail)
                          exact ⟨⟨j + 1, by omega, by go_num, by rw [HUS.out]; exact OW, HX8⟩, by simp [intOf]; omega⟩
                      · have v1 : ¬ (j : Int) < N := by omega
                        obtain rfl : N = j := by omega
                        have hofL : Finds.lacksL F2 = Finds.upto F2.marks 2 N := by rw [show Finds.lacksL F2 = Finds.ofL F2.marks 2 from if_pos HR2.out.1]; unfold Finds.ofL; rw [HR2.out.2]
                        have hul := Finds.upto_length_le F2.marks 2 N
                        have HP8 := Lib.hid (HP.out.ext HX8.out)
                        obtain ⟨A7, n7, c7, B7, m7, d7, C7, kk7, e7, sb7, fx7⟩ := HP8.out
                        have fd7 := fx7.fd
                        have hlq := Finds.right_len HR2.out.1
                        have hwq := Finds.which_len HR2.out.1
                        have hcq := Finds.cnt_le F2.marks 1
                        have hla := fLacks_any wr F2 A7 n7 c7 B7 m7 d7 C7 kk7 e7 fd7 (by have := fd7.u.len; omega) (by have := fd7.v.len; omega)
                        rw [hofL] at hla
                        have HLA2 := Lib.hid hla
                        obtain ⟨U, hU⟩ : ∃ U, Finds.upto F2.marks 2 N = U := ⟨_, rfl⟩
                        rw [hU] at HLA2 OW hul
                        obtain ⟨A9, c9, rfl, _, _⟩ := ownsRow_slice OW.out
                        have y1 := fd7.u.max
                        have y2 := fd7.u.le
                        have y3 := fd7.v.max
                        have y4 := fd7.v.le
                        have y5 := fd7.s.max
                        have y6 := fd7.s.le
                        have g0 := sb7.c0
                        have g1 := sb7.c1
                        have g2 := sb7.c2
                        have g3 := sb7.c3
                        have g4 := sb7.c4
                        have g5 := sb7.c5
                        have g6 := sb7.c6
                        have HIW := Lib.hid (Own.mk (base := w7.heap.size) (e := 3) OW.out).ints
                        have y7 := HIW.out.max
                        have y8 := HIW.out.le
                        clear sb7 fx7 fd7 hla hofL hU hlq hwq hcq
                        go_wp2_with (fail)
                        with_reducible refine HLA2.out.mono ?_
                        rintro e w9 ⟨v9, rfl, hv9⟩
                        obtain ⟨A8, c8, rfl, hi8⟩ := hv9.is
                        have z7 := hi8.max
                        have z8 := hi8.le
                        have HSI := Lib.hid (sameInts_any w9 A8 A9 U.length c8 U.length c9 U U hi8 (HIW.out.ext hv9.ext))
                        have X9 := Lib.hid hv9.ext
                        clear hi8 hv9 g0 g1 g2 g3 g4 g5 g6
                        go_wp2_with (fail)
                        with_reducible refine HSI.out.mono ?_
                        rintro e w10 ⟨he, hd10⟩
                        obtain rfl : e = .returned (.bool true) := he.trans (by simp)
                        have X10 := Lib.hid (HX8.out.trans (X9.out.trans hd10.ext))
                        clear hd10
                        go_wp2_with (fail)
                        exact ⟨⟨i + 1, F2, by omega, by omega, by go_num, by rw [HZ5.out], Lib.hid (HP.out.ext X10.out), Lib.hid (HSA6.out.ext X10.out), Lib.hid (HLA6.out.ext X10.out), HR2, Lib.hid (HX6.out.trans X10.out)⟩, by simp [intOf]; omega⟩
                  · have e5 : ((mo : Int) != SZ) = true := by rw [bne_iff_ne]; exact hq
                    have HL := Lib.hid (show lk13 F er mo = true by rw [LKV.out, decide_eq_true hz, decide_eq_true (show (mo : Int) ≠ SZ from hq), Bool.and_true, Bool.or_true])
                    clear hs hq e4
                    go_upto_region 18 with (fail)
                    have HSA5 := Lib.hid (show Bo ((wq.setCell ⟨g + 1, k, none⟩ (.bool true)).setCell ⟨g + 1 + 1, k, none⟩ (.bool true)) (g + 1) (said13 F2) by rw [TL1.out]; exact (SQ.out.set k true).far (q := ⟨g + 1 + 1, k, none⟩) (by show g + 1 + 1 ≠ g + 1; omega) _)
                    have HLA5 := Lib.hid (show Bo ((wq.setCell ⟨g + 1, k, none⟩ (.bool true)).setCell ⟨g + 1 + 1, k, none⟩ (.bool true)) (g + 1 + 1) (lack13 F2) by rw [TL2.out, HL.out]; exact (LQ.out.far (q := ⟨g + 1, k, none⟩) (by show g + 1 ≠ g + 1 + 1; omega) _).set k true)
                    have ha : Away g (g + 1 + 1 + 1) wq ((wq.setCell ⟨g + 1, k, none⟩ (.bool true)).setCell ⟨g + 1 + 1, k, none⟩ (.bool true)) := (Away.set wq ⟨g + 1, k, none⟩ (by show g ≤ g + 1; omega) (by show g + 1 < g + 1 + 1 + 1; omega) _).trans (Away.set _ ⟨g + 1 + 1, k, none⟩ (by show g ≤ g + 1 + 1; omega) (by show g + 1 + 1 < g + 1 + 1 + 1; omega) _)
                    have HF5 := Lib.hid (FQ.out.away ha ((heap_setCell_other _ ⟨g + 1 + 1, k, none⟩ g _ (by show g ≠ g + 1 + 1; omega)).trans (heap_setCell_other _ ⟨g + 1, k, none⟩ g _ (by show g ≠ g + 1; omega))))
                    have HX5 := Lib.hid (ha.ext HXQ.out HGW.out)
                    have OB5 := Lib.hid ((ha.block wr.heap.size HSZ.out (by have := HGQ.out; omega)).trans OB.out)
                    have HZ5 := Lib.hid (show SZ = sizeOf13 F2 by rw [TL3.out, HL.out]; rfl)
                    clear ha
                    obtain ⟨w5, hw5⟩ : ∃ w5, (wq.setCell ⟨g + 1, k, none⟩ (.bool true)).setCell ⟨g + 1 + 1, k, none⟩ (.bool true) = w5 := ⟨_, rfl⟩
                    rw [hw5] at HSA5 HLA5 HF5 HX5 OB5 ⊢
                    clear hw5 js jl fs fl o1 o2 k3
                    have HI5 := Lib.hid (HB0.out.ext HX5.out)
                    obtain ⟨A1, n1, c1, B1, m1, d1, C1, kk1, e1', sb, fx⟩ := HF5.out
                    have fd := fx.fd
                    have HT := Lib.hid (fTold_ok (er := er) fd HR.out.1 (show (0 : Int) ≤ (k : Int) by omega) (show (k : Int) < F.marks.length by rw [HR.out.2]; exact hkI) HI5.out)
                    rw [HF2.out] at HT
                    have y1 := fd.u.max
                    have y2 := fd.u.le
                    have y3 := fd.v.max
                    have y4 := fd.v.le
                    have y5 := fd.s.max
                    have y6 := fd.s.le
                    have g0 := sb.c0
                    have g1 := sb.c1
                    have g2 := sb.c2
                    have g3 := sb.c3
                    have g4 := sb.c4
                    have g5 := sb.c5
                    have g6 := sb.c6
                    have o1 : w5.cell? ⟨wr.heap.size, 2, none⟩ = some (.int .i64 er) := by rw [cell_of_row w5 _ _ _ _ _ OB5.out]; rfl
                    have o2 : w5.cell? ⟨wr.heap.size, 3, none⟩ = some (.slice Ao mo co) := by rw [cell_of_row w5 _ _ _ _ _ OB5.out]; rfl
                    have SB := Lib.hid sb
                    clear sb fx fd
                    go_wp2_with (fail)
                    with_reducible refine HT.out.mono ?_
                    rintro e w6 ⟨A4, n4, c4, B4, m4, d4, C4, k4', e4', rfl, hx4, ho4⟩
                    rename_i hKK
                    have hfd4 := ho4.fdOf
                    have y9 := hfd4.u.max
                    have y10 := hfd4.u.le
                    have y11 := hfd4.v.max
                    have y12 := hfd4.v.le
                    have y13 := hfd4.s.max
                    have y14 := hfd4.s.le
                    have HX4 := Lib.hid hx4
                    have HO4 := Lib.hid ho4
                    refine hKK _ _ ?_
                    clear hKK hfd4 ho4 hx4
                    have bb4 := (SB.out.ext HX4.out).blk
                    refine wpList_val rfl (.tuple #[fval F2.stripe F2.version F2.need F2.phase (.slice A4 n4 c4) (.slice B4 m4 d4) (.slice C4 k4' e4'), .int .i64 0]) (by rfl) ?_
                    refine wpList_val rfl (fval F2.stripe F2.version F2.need F2.phase (.slice A4 n4 c4) (.slice B4 m4 d4) (.slice C4 k4' e4')) (by rfl) ?_
                    refine wpList_val rfl (.int .i64 0) (by rfl) ?_
                    refine wpList_store_row rfl 27 (.tmp 7) (.tmp 100) rfl g (frow F2.stripe F2.version F2.need F2.phase (.slice A4 n4 c4) (.slice B4 m4 d4) (.slice C4 k4' e4')) rfl rfl 27 _ bb4 (by kernel_rfl) rfl (by simp [Value.oneCell']) ?_
                    have HS5 := Lib.hid (show g + 1 + 1 < w5.heap.size from HLA5.out.lt)
                    have HP := Lib.hid ((HF5.out.ext HX4.out).put (HO4.out.x (hi := g + 1 + 1 + 1) (by have := HS5.out; omega)) (Nat.le_refl g) (by omega))
                    have HX6 := Lib.hid ((HX5.out.trans HX4.out).row HGW.out (frow F2.stripe F2.version F2.need F2.phase (.slice A4 n4 c4) (.slice B4 m4 d4) (.slice C4 k4' e4')))
                    have HSA6 := Lib.hid ((HSA5.out.ext HX4.out).same (setRow_other w6 g (g + 1) (frow F2.stripe F2.version F2.need F2.phase (.slice A4 n4 c4) (.slice B4 m4 d4) (.slice C4 k4' e4')) (by omega)))
                    have HLA6 := Lib.hid ((HLA5.out.ext HX4.out).same (setRow_other w6 g (g + 1 + 1) (frow F2.stripe F2.version F2.need F2.phase (.slice A4 n4 c4) (.slice B4 m4 d4) (.slice C4 k4' e4')) (by omega)))
                    clear bb4 g0 g1 g2 g3 g4 g5 g6 o1 o2
                    obtain ⟨w7, hw7⟩ : ∃ w7, w6.setRow g (frow F2.stripe F2.version F2.need F2.phase (.slice A4 n4 c4) (.slice B4 m4 d4) (.slice C4 k4' e4')) = w7 := ⟨_, rfl⟩
                    rw [hw7] at HP HX6 HSA6 HLA6 ⊢
                    clear hw7 HF5 HSA5 HLA5 HX5 OB5
                    go_wp2_with (fail)
                    have HR2 := Lib.hid (show Finds.right F2 ∧ F2.marks.length = N by rw [← HF2.out]; exact ⟨Finds.right_told HR.out.1 _ _ _, by rw [Finds.toldF_marks_length]; exact HR.out.2⟩)
                    go_loopw [17, 18, 106] (fun s17 _ s106 wr => ∃ j : Nat, j ≤ N ∧ s106 = .int .i64 (j : Int) ∧ RowKit.Hid (wr.ownsRow w7.heap.size 3 1 s17 (Finds.upto F2.marks 2 j).length (icells (Finds.upto F2.marks 2 j))) ∧ RowKit.Hid (Ext w7 wr)) (fun _ _ s _ => N - (intOf s).toNat)
                    case atStart => exact ⟨0, by omega, rfl, Lib.hid (World.ownsRow_nil _ _ _ _), Lib.hid (Ext.refl _)⟩
                    case round =>
                      obtain ⟨j, hj, rfl, OW, HX8⟩ := hrel
                      by_cases hjn : j < N
                      · have v1 : (j : Int) < N := by omega
                        have jc := (HLA6.out.ext HX8.out).cell (j := j) (by unfold lack13; rw [List.length_map, HR2.out.2]; exact hjn)
                        rw [show brow (lack13 F2) j = decide (Il.get F2.marks j = 2) from brow_map (by rw [HR2.out.2]; exact hjn)] at jc
                        have hus := Finds.upto_succ F2.marks 2 j
                        have hul := Finds.upto_length_le F2.marks 2 j
                        by_cases h2 : Il.get F2.marks j = 2
                        · rw [decide_eq_true h2] at jc
                          rw [if_pos h2] at hus
                          have HUS := Lib.hid hus
                          clear hus h2
                          go_wp2_with (at_builtin; refine wpList_append_rd _ rfl (.tmp 113) (.tmp 115) 24 rfl w7.heap.size 3 i0 _ 1 8 Try.underlying24 hi0 hz0 hz1 hz2 rfl (by omega) u17 (Finds.upto F2.marks 2 j).length (icells (Finds.upto F2.marks 2 j)) rfl (ownsRow_ext OW.out (Ext.alloc _ _)) (some ⟨wr.heap.size, 0, none⟩) 1 1 [.int .i64 (j : Int)] rfl (Rd.lit wr #[_] _) (by simp [Value.oneCell']) (by omega) (by unfold maxLen; omega) (by have := HX8.out.size; simp; omega) ?_; intro v9 w9 hown hgr hat)
                          refine ⟨⟨j + 1, by omega, by go_num, Lib.hid ?_, Lib.hid ((HX8.out.trans (Ext.alloc _ _)).ofGrown hgr (fun k hk => (OW.out.lt k hk).1))⟩, by simp [intOf]; omega⟩
                          rw [HUS.out, icells_append, List.length_append]
                          exact hown
                        · rw [decide_eq_false h2] at jc
                          rw [if_neg h2] at hus
                          have HUS := Lib.hid hus
                          clear hus h2
                          go_wp2_with (fail)
                          exact ⟨⟨j + 1, by omega, by go_num, by rw [HUS.out]; exact OW, HX8⟩, by simp [intOf]; omega⟩
                      · have v1 : ¬ (j : Int) < N := by omega
                        obtain rfl : N = j := by omega
                        have hofL : Finds.lacksL F2 = Finds.upto F2.marks 2 N := by rw [show Finds.lacksL F2 = Finds.ofL F2.marks 2 from if_pos HR2.out.1]; unfold Finds.ofL; rw [HR2.out.2]
                        have hul := Finds.upto_length_le F2.marks 2 N
                        have HP8 := Lib.hid (HP.out.ext HX8.out)
                        obtain ⟨A7, n7, c7, B7, m7, d7, C7, kk7, e7, sb7, fx7⟩ := HP8.out
                        have fd7 := fx7.fd
                        have hlq := Finds.right_len HR2.out.1
                        have hwq := Finds.which_len HR2.out.1
                        have hcq := Finds.cnt_le F2.marks 1
                        have hla := fLacks_any wr F2 A7 n7 c7 B7 m7 d7 C7 kk7 e7 fd7 (by have := fd7.u.len; omega) (by have := fd7.v.len; omega)
                        rw [hofL] at hla
                        have HLA2 := Lib.hid hla
                        obtain ⟨U, hU⟩ : ∃ U, Finds.upto F2.marks 2 N = U := ⟨_, rfl⟩
                        rw [hU] at HLA2 OW hul
                        obtain ⟨A9, c9, rfl, _, _⟩ := ownsRow_slice OW.out
                        have y1 := fd7.u.max
                        have y2 := fd7.u.le
                        have y3 := fd7.v.max
                        have y4 := fd7.v.le
                        have y5 := fd7.s.max
                        have y6 := fd7.s.le
                        have g0 := sb7.c0
                        have g1 := sb7.c1
                        have g2 := sb7.c2
                        have g3 := sb7.c3
                        have g4 := sb7.c4
                        have g5 := sb7.c5
                        have g6 := sb7.c6
                        have HIW := Lib.hid (Own.mk (base := w7.heap.size) (e := 3) OW.out).ints
                        have y7 := HIW.out.max
                        have y8 := HIW.out.le
                        clear sb7 fx7 fd7 hla hofL hU hlq hwq hcq
                        go_wp2_with (fail)
                        with_reducible refine HLA2.out.mono ?_
                        rintro e w9 ⟨v9, rfl, hv9⟩
                        obtain ⟨A8, c8, rfl, hi8⟩ := hv9.is
                        have z7 := hi8.max
                        have z8 := hi8.le
                        have HSI := Lib.hid (sameInts_any w9 A8 A9 U.length c8 U.length c9 U U hi8 (HIW.out.ext hv9.ext))
                        have X9 := Lib.hid hv9.ext
                        clear hi8 hv9 g0 g1 g2 g3 g4 g5 g6
                        go_wp2_with (fail)
                        with_reducible refine HSI.out.mono ?_
                        rintro e w10 ⟨he, hd10⟩
                        obtain rfl : e = .returned (.bool true) := he.trans (by simp)
                        have X10 := Lib.hid (HX8.out.trans (X9.out.trans hd10.ext))
                        clear hd10
                        go_wp2_with (fail)
                        exact ⟨⟨i + 1, F2, by omega, by omega, by go_num, by rw [HZ5.out], Lib.hid (HP.out.ext X10.out), Lib.hid (HSA6.out.ext X10.out), Lib.hid (HLA6.out.ext X10.out), HR2, Lib.hid (HX6.out.trans X10.out)⟩, by simp [intOf]; omega⟩
                · have HL := Lib.hid (show lk13 F er mo = false by rw [LKV.out, e4, decide_eq_false hz]; rfl)
                  clear hs e4
                  go_upto_region 18 with (fail)
                  have HSA5 := Lib.hid (show Bo ((wq.setCell ⟨g + 1, k, none⟩ (.bool true)).setCell ⟨g + 1 + 1, k, none⟩ (.bool false)) (g + 1) (said13 F2) by rw [TL1.out]; exact (SQ.out.set k true).far (q := ⟨g + 1 + 1, k, none⟩) (by show g + 1 + 1 ≠ g + 1; omega) _)
                  have HLA5 := Lib.hid (show Bo ((wq.setCell ⟨g + 1, k, none⟩ (.bool true)).setCell ⟨g + 1 + 1, k, none⟩ (.bool false)) (g + 1 + 1) (lack13 F2) by rw [TL2.out, HL.out]; exact (LQ.out.far (q := ⟨g + 1, k, none⟩) (by show g + 1 ≠ g + 1 + 1; omega) _).set k false)
                  have ha : Away g (g + 1 + 1 + 1) wq ((wq.setCell ⟨g + 1, k, none⟩ (.bool true)).setCell ⟨g + 1 + 1, k, none⟩ (.bool false)) := (Away.set wq ⟨g + 1, k, none⟩ (by show g ≤ g + 1; omega) (by show g + 1 < g + 1 + 1 + 1; omega) _).trans (Away.set _ ⟨g + 1 + 1, k, none⟩ (by show g ≤ g + 1 + 1; omega) (by show g + 1 + 1 < g + 1 + 1 + 1; omega) _)
                  have HF5 := Lib.hid (FQ.out.away ha ((heap_setCell_other _ ⟨g + 1 + 1, k, none⟩ g _ (by show g ≠ g + 1 + 1; omega)).trans (heap_setCell_other _ ⟨g + 1, k, none⟩ g _ (by show g ≠ g + 1; omega))))
                  have HX5 := Lib.hid (ha.ext HXQ.out HGW.out)
                  have OB5 := Lib.hid ((ha.block wr.heap.size HSZ.out (by have := HGQ.out; omega)).trans OB.out)
                  have HZ5 := Lib.hid (show (mo : Int) = sizeOf13 F2 by rw [TL3.out, HL.out]; rfl)
                  clear ha
                  obtain ⟨w5, hw5⟩ : ∃ w5, (wq.setCell ⟨g + 1, k, none⟩ (.bool true)).setCell ⟨g + 1 + 1, k, none⟩ (.bool false) = w5 := ⟨_, rfl⟩
                  rw [hw5] at HSA5 HLA5 HF5 HX5 OB5 ⊢
                  clear hw5 js jl fs fl o1 o2 k3
                  have HI5 := Lib.hid (HB0.out.ext HX5.out)
                  obtain ⟨A1, n1, c1, B1, m1, d1, C1, kk1, e1', sb, fx⟩ := HF5.out
                  have fd := fx.fd
                  have HT := Lib.hid (fTold_ok (er := er) fd HR.out.1 (show (0 : Int) ≤ (k : Int) by omega) (show (k : Int) < F.marks.length by rw [HR.out.2]; exact hkI) HI5.out)
                  rw [HF2.out] at HT
                  have y1 := fd.u.max
                  have y2 := fd.u.le
                  have y3 := fd.v.max
                  have y4 := fd.v.le
                  have y5 := fd.s.max
                  have y6 := fd.s.le
                  have g0 := sb.c0
                  have g1 := sb.c1
                  have g2 := sb.c2
                  have g3 := sb.c3
                  have g4 := sb.c4
                  have g5 := sb.c5
                  have g6 := sb.c6
                  have o1 : w5.cell? ⟨wr.heap.size, 2, none⟩ = some (.int .i64 er) := by rw [cell_of_row w5 _ _ _ _ _ OB5.out]; rfl
                  have o2 : w5.cell? ⟨wr.heap.size, 3, none⟩ = some (.slice Ao mo co) := by rw [cell_of_row w5 _ _ _ _ _ OB5.out]; rfl
                  have SB := Lib.hid sb
                  clear sb fx fd
                  go_wp2_with (fail)
                  with_reducible refine HT.out.mono ?_
                  rintro e w6 ⟨A4, n4, c4, B4, m4, d4, C4, k4', e4', rfl, hx4, ho4⟩
                  rename_i hKK
                  have hfd4 := ho4.fdOf
                  have y9 := hfd4.u.max
                  have y10 := hfd4.u.le
                  have y11 := hfd4.v.max
                  have y12 := hfd4.v.le
                  have y13 := hfd4.s.max
                  have y14 := hfd4.s.le
                  have HX4 := Lib.hid hx4
                  have HO4 := Lib.hid ho4
                  refine hKK _ _ ?_
                  clear hKK hfd4 ho4 hx4
                  have bb4 := (SB.out.ext HX4.out).blk
                  refine wpList_val rfl (.tuple #[fval F2.stripe F2.version F2.need F2.phase (.slice A4 n4 c4) (.slice B4 m4 d4) (.slice C4 k4' e4'), .int .i64 0]) (by rfl) ?_
                  refine wpList_val rfl (fval F2.stripe F2.version F2.need F2.phase (.slice A4 n4 c4) (.slice B4 m4 d4) (.slice C4 k4' e4')) (by rfl) ?_
                  refine wpList_val rfl (.int .i64 0) (by rfl) ?_
                  refine wpList_store_row rfl 27 (.tmp 7) (.tmp 100) rfl g (frow F2.stripe F2.version F2.need F2.phase (.slice A4 n4 c4) (.slice B4 m4 d4) (.slice C4 k4' e4')) rfl rfl 27 _ bb4 (by kernel_rfl) rfl (by simp [Value.oneCell']) ?_
                  have HS5 := Lib.hid (show g + 1 + 1 < w5.heap.size from HLA5.out.lt)
                  have HP := Lib.hid ((HF5.out.ext HX4.out).put (HO4.out.x (hi := g + 1 + 1 + 1) (by have := HS5.out; omega)) (Nat.le_refl g) (by omega))
                  have HX6 := Lib.hid ((HX5.out.trans HX4.out).row HGW.out (frow F2.stripe F2.version F2.need F2.phase (.slice A4 n4 c4) (.slice B4 m4 d4) (.slice C4 k4' e4')))
                  have HSA6 := Lib.hid ((HSA5.out.ext HX4.out).same (setRow_other w6 g (g + 1) (frow F2.stripe F2.version F2.need F2.phase (.slice A4 n4 c4) (.slice B4 m4 d4) (.slice C4 k4' e4')) (by omega)))
                  have HLA6 := Lib.hid ((HLA5.out.ext HX4.out).same (setRow_other w6 g (g + 1 + 1) (frow F2.stripe F2.version F2.need F2.phase (.slice A4 n4 c4) (.slice B4 m4 d4) (.slice C4 k4' e4')) (by omega)))
                  clear bb4 g0 g1 g2 g3 g4 g5 g6 o1 o2
                  obtain ⟨w7, hw7⟩ : ∃ w7, w6.setRow g (frow F2.stripe F2.version F2.need F2.phase (.slice A4 n4 c4) (.slice B4 m4 d4) (.slice C4 k4' e4')) = w7 := ⟨_, rfl⟩
                  rw [hw7] at HP HX6 HSA6 HLA6 ⊢
                  clear hw7 HF5 HSA5 HLA5 HX5 OB5
                  go_wp2_with (fail)
                  have HR2 := Lib.hid (show Finds.right F2 ∧ F2.marks.length = N by rw [← HF2.out]; exact ⟨Finds.right_told HR.out.1 _ _ _, by rw [Finds.toldF_marks_length]; exact HR.out.2⟩)
                  go_loopw [17, 18, 106] (fun s17 _ s106 wr => ∃ j : Nat, j ≤ N ∧ s106 = .int .i64 (j : Int) ∧ RowKit.Hid (wr.ownsRow w7.heap.size 3 1 s17 (Finds.upto F2.marks 2 j).length (icells (Finds.upto F2.marks 2 j))) ∧ RowKit.Hid (Ext w7 wr)) (fun _ _ s _ => N - (intOf s).toNat)
                  case atStart => exact ⟨0, by omega, rfl, Lib.hid (World.ownsRow_nil _ _ _ _), Lib.hid (Ext.refl _)⟩
                  case round =>
                    obtain ⟨j, hj, rfl, OW, HX8⟩ := hrel
                    by_cases hjn : j < N
                    · have v1 : (j : Int) < N := by omega
                      have jc := (HLA6.out.ext HX8.out).cell (j := j) (by unfold lack13; rw [List.length_map, HR2.out.2]; exact hjn)
                      rw [show brow (lack13 F2) j = decide (Il.get F2.marks j = 2) from brow_map (by rw [HR2.out.2]; exact hjn)] at jc
                      have hus := Finds.upto_succ F2.marks 2 j
                      have hul := Finds.upto_length_le F2.marks 2 j
                      by_cases h2 : Il.get F2.marks j = 2
                      · rw [decide_eq_true h2] at jc
                        rw [if_pos h2] at hus
                        have HUS := Lib.hid hus
                        clear hus h2
                        go_wp2_with (at_builtin; refine wpList_append_rd _ rfl (.tmp 113) (.tmp 115) 24 rfl w7.heap.size 3 i0 _ 1 8 Try.underlying24 hi0 hz0 hz1 hz2 rfl (by omega) u17 (Finds.upto F2.marks 2 j).length (icells (Finds.upto F2.marks 2 j)) rfl (ownsRow_ext OW.out (Ext.alloc _ _)) (some ⟨wr.heap.size, 0, none⟩) 1 1 [.int .i64 (j : Int)] rfl (Rd.lit wr #[_] _) (by simp [Value.oneCell']) (by omega) (by unfold maxLen; omega) (by have := HX8.out.size; simp; omega) ?_; intro v9 w9 hown hgr hat)
                        refine ⟨⟨j + 1, by omega, by go_num, Lib.hid ?_, Lib.hid ((HX8.out.trans (Ext.alloc _ _)).ofGrown hgr (fun k hk => (OW.out.lt k hk).1))⟩, by simp [intOf]; omega⟩
                        rw [HUS.out, icells_append, List.length_append]
                        exact hown
                      · rw [decide_eq_false h2] at jc
                        rw [if_neg h2] at hus
                        have HUS := Lib.hid hus
                        clear hus h2
                        go_wp2_with (fail)
                        exact ⟨⟨j + 1, by omega, by go_num, by rw [HUS.out]; exact OW, HX8⟩, by simp [intOf]; omega⟩
                    · have v1 : ¬ (j : Int) < N := by omega
                      obtain rfl : N = j := by omega
                      have hofL : Finds.lacksL F2 = Finds.upto F2.marks 2 N := by rw [show Finds.lacksL F2 = Finds.ofL F2.marks 2 from if_pos HR2.out.1]; unfold Finds.ofL; rw [HR2.out.2]
                      have hul := Finds.upto_length_le F2.marks 2 N
                      have HP8 := Lib.hid (HP.out.ext HX8.out)
                      obtain ⟨A7, n7, c7, B7, m7, d7, C7, kk7, e7, sb7, fx7⟩ := HP8.out
                      have fd7 := fx7.fd
                      have hlq := Finds.right_len HR2.out.1
                      have hwq := Finds.which_len HR2.out.1
                      have hcq := Finds.cnt_le F2.marks 1
                      have hla := fLacks_any wr F2 A7 n7 c7 B7 m7 d7 C7 kk7 e7 fd7 (by have := fd7.u.len; omega) (by have := fd7.v.len; omega)
                      rw [hofL] at hla
                      have HLA2 := Lib.hid hla
                      obtain ⟨U, hU⟩ : ∃ U, Finds.upto F2.marks 2 N = U := ⟨_, rfl⟩
                      rw [hU] at HLA2 OW hul
                      obtain ⟨A9, c9, rfl, _, _⟩ := ownsRow_slice OW.out
                      have y1 := fd7.u.max
                      have y2 := fd7.u.le
                      have y3 := fd7.v.max
                      have y4 := fd7.v.le
                      have y5 := fd7.s.max
                      have y6 := fd7.s.le
                      have g0 := sb7.c0
                      have g1 := sb7.c1
                      have g2 := sb7.c2
                      have g3 := sb7.c3
                      have g4 := sb7.c4
                      have g5 := sb7.c5
                      have g6 := sb7.c6
                      have HIW := Lib.hid (Own.mk (base := w7.heap.size) (e := 3) OW.out).ints
                      have y7 := HIW.out.max
                      have y8 := HIW.out.le
                      clear sb7 fx7 fd7 hla hofL hU hlq hwq hcq
                      go_wp2_with (fail)
                      with_reducible refine HLA2.out.mono ?_
                      rintro e w9 ⟨v9, rfl, hv9⟩
                      obtain ⟨A8, c8, rfl, hi8⟩ := hv9.is
                      have z7 := hi8.max
                      have z8 := hi8.le
                      have HSI := Lib.hid (sameInts_any w9 A8 A9 U.length c8 U.length c9 U U hi8 (HIW.out.ext hv9.ext))
                      have X9 := Lib.hid hv9.ext
                      clear hi8 hv9 g0 g1 g2 g3 g4 g5 g6
                      go_wp2_with (fail)
                      with_reducible refine HSI.out.mono ?_
                      rintro e w10 ⟨he, hd10⟩
                      obtain rfl : e = .returned (.bool true) := he.trans (by simp)
                      have X10 := Lib.hid (HX8.out.trans (X9.out.trans hd10.ext))
                      clear hd10
                      go_wp2_with (fail)
                      exact ⟨⟨i + 1, F2, by omega, by omega, by go_num, by rw [HZ5.out], Lib.hid (HP.out.ext X10.out), Lib.hid (HSA6.out.ext X10.out), Lib.hid (HLA6.out.ext X10.out), HR2, Lib.hid (HX6.out.trans X10.out)⟩, by simp [intOf]; omega⟩
            · have e2 : decide (Il.get F.marks k ≠ 0) = true := decide_eq_true hm
              rw [e2] at js
              have HOP := Lib.hid (show ¬ Finds.opens F (k : Int) from fun h => hm (by have := h.2; rwa [Int.toNat_natCast] at this))
              clear hp hm e2
              have HNO := Lib.hid (show F2 = F by rw [← HF2.out]; exact told_lacks_no HOP.out er bb)
              go_upto_region 18 with (fail)
              have HSA5 := Lib.hid (show Bo (wq) (g + 1) (said13 F2) by rw [HNO.out]; exact SQ.out)
              have HLA5 := Lib.hid (show Bo (wq) (g + 1 + 1) (lack13 F2) by rw [HNO.out]; exact LQ.out)
              have ha : Away g (g + 1 + 1 + 1) wq (wq) := Away.refl wq
              have HF5 := Lib.hid (FQ.out.away ha (rfl))
              have HX5 := Lib.hid (ha.ext HXQ.out HGW.out)
              have OB5 := Lib.hid ((ha.block wr.heap.size HSZ.out (by have := HGQ.out; omega)).trans OB.out)
              have HZ5 := Lib.hid (show SZ = sizeOf13 F2 by rw [HNO.out]; exact HSZE.out.symm)
              clear ha
              obtain ⟨w5, hw5⟩ : ∃ w5, wq = w5 := ⟨_, rfl⟩
              rw [hw5] at HSA5 HLA5 HF5 HX5 OB5 ⊢
              clear hw5 js jl fs fl o1 o2 k3
              have HI5 := Lib.hid (HB0.out.ext HX5.out)
              obtain ⟨A1, n1, c1, B1, m1, d1, C1, kk1, e1', sb, fx⟩ := HF5.out
              have fd := fx.fd
              have HT := Lib.hid (fTold_ok (er := er) fd HR.out.1 (show (0 : Int) ≤ (k : Int) by omega) (show (k : Int) < F.marks.length by rw [HR.out.2]; exact hkI) HI5.out)
              rw [HF2.out] at HT
              have y1 := fd.u.max
              have y2 := fd.u.le
              have y3 := fd.v.max
              have y4 := fd.v.le
              have y5 := fd.s.max
              have y6 := fd.s.le
              have g0 := sb.c0
              have g1 := sb.c1
              have g2 := sb.c2
              have g3 := sb.c3
              have g4 := sb.c4
              have g5 := sb.c5
              have g6 := sb.c6
              have o1 : w5.cell? ⟨wr.heap.size, 2, none⟩ = some (.int .i64 er) := by rw [cell_of_row w5 _ _ _ _ _ OB5.out]; rfl
              have o2 : w5.cell? ⟨wr.heap.size, 3, none⟩ = some (.slice Ao mo co) := by rw [cell_of_row w5 _ _ _ _ _ OB5.out]; rfl
              have SB := Lib.hid sb
              clear sb fx fd
              go_wp2_with (fail)
              with_reducible refine HT.out.mono ?_
              rintro e w6 ⟨A4, n4, c4, B4, m4, d4, C4, k4', e4', rfl, hx4, ho4⟩
              rename_i hKK
              have hfd4 := ho4.fdOf
              have y9 := hfd4.u.max
              have y10 := hfd4.u.le
              have y11 := hfd4.v.max
              have y12 := hfd4.v.le
              have y13 := hfd4.s.max
              have y14 := hfd4.s.le
              have HX4 := Lib.hid hx4
              have HO4 := Lib.hid ho4
              refine hKK _ _ ?_
              clear hKK hfd4 ho4 hx4
              have bb4 := (SB.out.ext HX4.out).blk
              refine wpList_val rfl (.tuple #[fval F2.stripe F2.version F2.need F2.phase (.slice A4 n4 c4) (.slice B4 m4 d4) (.slice C4 k4' e4'), .int .i64 0]) (by rfl) ?_
              refine wpList_val rfl (fval F2.stripe F2.version F2.need F2.phase (.slice A4 n4 c4) (.slice B4 m4 d4) (.slice C4 k4' e4')) (by rfl) ?_
              refine wpList_val rfl (.int .i64 0) (by rfl) ?_
              refine wpList_store_row rfl 27 (.tmp 7) (.tmp 100) rfl g (frow F2.stripe F2.version F2.need F2.phase (.slice A4 n4 c4) (.slice B4 m4 d4) (.slice C4 k4' e4')) rfl rfl 27 _ bb4 (by kernel_rfl) rfl (by simp [Value.oneCell']) ?_
              have HS5 := Lib.hid (show g + 1 + 1 < w5.heap.size from HLA5.out.lt)
              have HP := Lib.hid ((HF5.out.ext HX4.out).put (HO4.out.x (hi := g + 1 + 1 + 1) (by have := HS5.out; omega)) (Nat.le_refl g) (by omega))
              have HX6 := Lib.hid ((HX5.out.trans HX4.out).row HGW.out (frow F2.stripe F2.version F2.need F2.phase (.slice A4 n4 c4) (.slice B4 m4 d4) (.slice C4 k4' e4')))
              have HSA6 := Lib.hid ((HSA5.out.ext HX4.out).same (setRow_other w6 g (g + 1) (frow F2.stripe F2.version F2.need F2.phase (.slice A4 n4 c4) (.slice B4 m4 d4) (.slice C4 k4' e4')) (by omega)))
              have HLA6 := Lib.hid ((HLA5.out.ext HX4.out).same (setRow_other w6 g (g + 1 + 1) (frow F2.stripe F2.version F2.need F2.phase (.slice A4 n4 c4) (.slice B4 m4 d4) (.slice C4 k4' e4')) (by omega)))
              clear bb4 g0 g1 g2 g3 g4 g5 g6 o1 o2
              obtain ⟨w7, hw7⟩ : ∃ w7, w6.setRow g (frow F2.stripe F2.version F2.need F2.phase (.slice A4 n4 c4) (.slice B4 m4 d4) (.slice C4 k4' e4')) = w7 := ⟨_, rfl⟩
              rw [hw7] at HP HX6 HSA6 HLA6 ⊢
              clear hw7 HF5 HSA5 HLA5 HX5 OB5
              go_wp2_with (fail)
              have HR2 := Lib.hid (show Finds.right F2 ∧ F2.marks.length = N by rw [← HF2.out]; exact ⟨Finds.right_told HR.out.1 _ _ _, by rw [Finds.toldF_marks_length]; exact HR.out.2⟩)
              go_loopw [17, 18, 106] (fun s17 _ s106 wr => ∃ j : Nat, j ≤ N ∧ s106 = .int .i64 (j : Int) ∧ RowKit.Hid (wr.ownsRow w7.heap.size 3 1 s17 (Finds.upto F2.marks 2 j).length (icells (Finds.upto F2.marks 2 j))) ∧ RowKit.Hid (Ext w7 wr)) (fun _ _ s _ => N - (intOf s).toNat)
              case atStart => exact ⟨0, by omega, rfl, Lib.hid (World.ownsRow_nil _ _ _ _), Lib.hid (Ext.refl _)⟩
              case round =>
                obtain ⟨j, hj, rfl, OW, HX8⟩ := hrel
                by_cases hjn : j < N
                · have v1 : (j : Int) < N := by omega
                  have jc := (HLA6.out.ext HX8.out).cell (j := j) (by unfold lack13; rw [List.length_map, HR2.out.2]; exact hjn)
                  rw [show brow (lack13 F2) j = decide (Il.get F2.marks j = 2) from brow_map (by rw [HR2.out.2]; exact hjn)] at jc
                  have hus := Finds.upto_succ F2.marks 2 j
                  have hul := Finds.upto_length_le F2.marks 2 j
                  by_cases h2 : Il.get F2.marks j = 2
                  · rw [decide_eq_true h2] at jc
                    rw [if_pos h2] at hus
                    have HUS := Lib.hid hus
                    clear hus h2
                    go_wp2_with (at_builtin; refine wpList_append_rd _ rfl (.tmp 113) (.tmp 115) 24 rfl w7.heap.size 3 i0 _ 1 8 Try.underlying24 hi0 hz0 hz1 hz2 rfl (by omega) u17 (Finds.upto F2.marks 2 j).length (icells (Finds.upto F2.marks 2 j)) rfl (ownsRow_ext OW.out (Ext.alloc _ _)) (some ⟨wr.heap.size, 0, none⟩) 1 1 [.int .i64 (j : Int)] rfl (Rd.lit wr #[_] _) (by simp [Value.oneCell']) (by omega) (by unfold maxLen; omega) (by have := HX8.out.size; simp; omega) ?_; intro v9 w9 hown hgr hat)
                    refine ⟨⟨j + 1, by omega, by go_num, Lib.hid ?_, Lib.hid ((HX8.out.trans (Ext.alloc _ _)).ofGrown hgr (fun k hk => (OW.out.lt k hk).1))⟩, by simp [intOf]; omega⟩
                    rw [HUS.out, icells_append, List.length_append]
                    exact hown
                  · rw [decide_eq_false h2] at jc
                    rw [if_neg h2] at hus
                    have HUS := Lib.hid hus
                    clear hus h2
                    go_wp2_with (fail)
                    exact ⟨⟨j + 1, by omega, by go_num, by rw [HUS.out]; exact OW, HX8⟩, by simp [intOf]; omega⟩
                · have v1 : ¬ (j : Int) < N := by omega
                  obtain rfl : N = j := by omega
                  have hofL : Finds.lacksL F2 = Finds.upto F2.marks 2 N := by rw [show Finds.lacksL F2 = Finds.ofL F2.marks 2 from if_pos HR2.out.1]; unfold Finds.ofL; rw [HR2.out.2]
                  have hul := Finds.upto_length_le F2.marks 2 N
                  have HP8 := Lib.hid (HP.out.ext HX8.out)
                  obtain ⟨A7, n7, c7, B7, m7, d7, C7, kk7, e7, sb7, fx7⟩ := HP8.out
                  have fd7 := fx7.fd
                  have hlq := Finds.right_len HR2.out.1
                  have hwq := Finds.which_len HR2.out.1
                  have hcq := Finds.cnt_le F2.marks 1
                  have hla := fLacks_any wr F2 A7 n7 c7 B7 m7 d7 C7 kk7 e7 fd7 (by have := fd7.u.len; omega) (by have := fd7.v.len; omega)
                  rw [hofL] at hla
                  have HLA2 := Lib.hid hla
                  obtain ⟨U, hU⟩ : ∃ U, Finds.upto F2.marks 2 N = U := ⟨_, rfl⟩
                  rw [hU] at HLA2 OW hul
                  obtain ⟨A9, c9, rfl, _, _⟩ := ownsRow_slice OW.out
                  have y1 := fd7.u.max
                  have y2 := fd7.u.le
                  have y3 := fd7.v.max
                  have y4 := fd7.v.le
                  have y5 := fd7.s.max
                  have y6 := fd7.s.le
                  have g0 := sb7.c0
                  have g1 := sb7.c1
                  have g2 := sb7.c2
                  have g3 := sb7.c3
                  have g4 := sb7.c4
                  have g5 := sb7.c5
                  have g6 := sb7.c6
                  have HIW := Lib.hid (Own.mk (base := w7.heap.size) (e := 3) OW.out).ints
                  have y7 := HIW.out.max
                  have y8 := HIW.out.le
                  clear sb7 fx7 fd7 hla hofL hU hlq hwq hcq
                  go_wp2_with (fail)
                  with_reducible refine HLA2.out.mono ?_
                  rintro e w9 ⟨v9, rfl, hv9⟩
                  obtain ⟨A8, c8, rfl, hi8⟩ := hv9.is
                  have z7 := hi8.max
                  have z8 := hi8.le
                  have HSI := Lib.hid (sameInts_any w9 A8 A9 U.length c8 U.length c9 U U hi8 (HIW.out.ext hv9.ext))
                  have X9 := Lib.hid hv9.ext
                  clear hi8 hv9 g0 g1 g2 g3 g4 g5 g6
                  go_wp2_with (fail)
                  with_reducible refine HSI.out.mono ?_
                  rintro e w10 ⟨he, hd10⟩
                  obtain rfl : e = .returned (.bool true) := he.trans (by simp)
                  have X10 := Lib.hid (HX8.out.trans (X9.out.trans hd10.ext))
                  clear hd10
                  go_wp2_with (fail)
                  exact ⟨⟨i + 1, F2, by omega, by omega, by go_num, by rw [HZ5.out], Lib.hid (HP.out.ext X10.out), Lib.hid (HSA6.out.ext X10.out), Lib.hid (HLA6.out.ext X10.out), HR2, Lib.hid (HX6.out.trans X10.out)⟩, by simp [intOf]; omega⟩
          · have e1 : (F.phase == 1) = false := by rw [beq_eq_false_iff_ne]; exact hp
            have HOP := Lib.hid (show ¬ Finds.opens F (k : Int) from fun h => hp h.1)
            clear hp
            have HNO := Lib.hid (show F2 = F by rw [← HF2.out]; exact told_lacks_no HOP.out er bb)
            go_upto_region 18 with (fail)
            have HSA5 := Lib.hid (show Bo (wq) (g + 1) (said13 F2) by rw [HNO.out]; exact SQ.out)
            have HLA5 := Lib.hid (show Bo (wq) (g + 1 + 1) (lack13 F2) by rw [HNO.out]; exact LQ.out)
            have ha : Away g (g + 1 + 1 + 1) wq (wq) := Away.refl wq
            have HF5 := Lib.hid (FQ.out.away ha (rfl))
            have HX5 := Lib.hid (ha.ext HXQ.out HGW.out)
            have OB5 := Lib.hid ((ha.block wr.heap.size HSZ.out (by have := HGQ.out; omega)).trans OB.out)
            have HZ5 := Lib.hid (show SZ = sizeOf13 F2 by rw [HNO.out]; exact HSZE.out.symm)
            clear ha
            obtain ⟨w5, hw5⟩ : ∃ w5, wq = w5 := ⟨_, rfl⟩
            rw [hw5] at HSA5 HLA5 HF5 HX5 OB5 ⊢
            clear hw5 js jl fs fl o1 o2 k3
            have HI5 := Lib.hid (HB0.out.ext HX5.out)
            obtain ⟨A1, n1, c1, B1, m1, d1, C1, kk1, e1', sb, fx⟩ := HF5.out
            have fd := fx.fd
            have HT := Lib.hid (fTold_ok (er := er) fd HR.out.1 (show (0 : Int) ≤ (k : Int) by omega) (show (k : Int) < F.marks.length by rw [HR.out.2]; exact hkI) HI5.out)
            rw [HF2.out] at HT
            have y1 := fd.u.max
            have y2 := fd.u.le
            have y3 := fd.v.max
            have y4 := fd.v.le
            have y5 := fd.s.max
            have y6 := fd.s.le
            have g0 := sb.c0
            have g1 := sb.c1
            have g2 := sb.c2
            have g3 := sb.c3
            have g4 := sb.c4
            have g5 := sb.c5
            have g6 := sb.c6
            have o1 : w5.cell? ⟨wr.heap.size, 2, none⟩ = some (.int .i64 er) := by rw [cell_of_row w5 _ _ _ _ _ OB5.out]; rfl
            have o2 : w5.cell? ⟨wr.heap.size, 3, none⟩ = some (.slice Ao mo co) := by rw [cell_of_row w5 _ _ _ _ _ OB5.out]; rfl
            have SB := Lib.hid sb
            clear sb fx fd
            go_wp2_with (fail)
            with_reducible refine HT.out.mono ?_
            rintro e w6 ⟨A4, n4, c4, B4, m4, d4, C4, k4', e4', rfl, hx4, ho4⟩
            rename_i hKK
            have hfd4 := ho4.fdOf
            have y9 := hfd4.u.max
            have y10 := hfd4.u.le
            have y11 := hfd4.v.max
            have y12 := hfd4.v.le
            have y13 := hfd4.s.max
            have y14 := hfd4.s.le
            have HX4 := Lib.hid hx4
            have HO4 := Lib.hid ho4
            refine hKK _ _ ?_
            clear hKK hfd4 ho4 hx4
            have bb4 := (SB.out.ext HX4.out).blk
            refine wpList_val rfl (.tuple #[fval F2.stripe F2.version F2.need F2.phase (.slice A4 n4 c4) (.slice B4 m4 d4) (.slice C4 k4' e4'), .int .i64 0]) (by rfl) ?_
            refine wpList_val rfl (fval F2.stripe F2.version F2.need F2.phase (.slice A4 n4 c4) (.slice B4 m4 d4) (.slice C4 k4' e4')) (by rfl) ?_
            refine wpList_val rfl (.int .i64 0) (by rfl) ?_
            refine wpList_store_row rfl 27 (.tmp 7) (.tmp 100) rfl g (frow F2.stripe F2.version F2.need F2.phase (.slice A4 n4 c4) (.slice B4 m4 d4) (.slice C4 k4' e4')) rfl rfl 27 _ bb4 (by kernel_rfl) rfl (by simp [Value.oneCell']) ?_
            have HS5 := Lib.hid (show g + 1 + 1 < w5.heap.size from HLA5.out.lt)
            have HP := Lib.hid ((HF5.out.ext HX4.out).put (HO4.out.x (hi := g + 1 + 1 + 1) (by have := HS5.out; omega)) (Nat.le_refl g) (by omega))
            have HX6 := Lib.hid ((HX5.out.trans HX4.out).row HGW.out (frow F2.stripe F2.version F2.need F2.phase (.slice A4 n4 c4) (.slice B4 m4 d4) (.slice C4 k4' e4')))
            have HSA6 := Lib.hid ((HSA5.out.ext HX4.out).same (setRow_other w6 g (g + 1) (frow F2.stripe F2.version F2.need F2.phase (.slice A4 n4 c4) (.slice B4 m4 d4) (.slice C4 k4' e4')) (by omega)))
            have HLA6 := Lib.hid ((HLA5.out.ext HX4.out).same (setRow_other w6 g (g + 1 + 1) (frow F2.stripe F2.version F2.need F2.phase (.slice A4 n4 c4) (.slice B4 m4 d4) (.slice C4 k4' e4')) (by omega)))
            clear bb4 g0 g1 g2 g3 g4 g5 g6 o1 o2
            obtain ⟨w7, hw7⟩ : ∃ w7, w6.setRow g (frow F2.stripe F2.version F2.need F2.phase (.slice A4 n4 c4) (.slice B4 m4 d4) (.slice C4 k4' e4')) = w7 := ⟨_, rfl⟩
            rw [hw7] at HP HX6 HSA6 HLA6 ⊢
            clear hw7 HF5 HSA5 HLA5 HX5 OB5
            go_wp2_with (fail)
            have HR2 := Lib.hid (show Finds.right F2 ∧ F2.marks.length = N by rw [← HF2.out]; exact ⟨Finds.right_told HR.out.1 _ _ _, by rw [Finds.toldF_marks_length]; exact HR.out.2⟩)
            go_loopw [17, 18, 106] (fun s17 _ s106 wr => ∃ j : Nat, j ≤ N ∧ s106 = .int .i64 (j : Int) ∧ RowKit.Hid (wr.ownsRow w7.heap.size 3 1 s17 (Finds.upto F2.marks 2 j).length (icells (Finds.upto F2.marks 2 j))) ∧ RowKit.Hid (Ext w7 wr)) (fun _ _ s _ => N - (intOf s).toNat)
            case atStart => exact ⟨0, by omega, rfl, Lib.hid (World.ownsRow_nil _ _ _ _), Lib.hid (Ext.refl _)⟩
            case round =>
              obtain ⟨j, hj, rfl, OW, HX8⟩ := hrel
              by_cases hjn : j < N
              · have v1 : (j : Int) < N := by omega
                have jc := (HLA6.out.ext HX8.out).cell (j := j) (by unfold lack13; rw [List.length_map, HR2.out.2]; exact hjn)
                rw [show brow (lack13 F2) j = decide (Il.get F2.marks j = 2) from brow_map (by rw [HR2.out.2]; exact hjn)] at jc
                have hus := Finds.upto_succ F2.marks 2 j
                have hul := Finds.upto_length_le F2.marks 2 j
                by_cases h2 : Il.get F2.marks j = 2
                · rw [decide_eq_true h2] at jc
                  rw [if_pos h2] at hus
                  have HUS := Lib.hid hus
                  clear hus h2
                  go_wp2_with (at_builtin; refine wpList_append_rd _ rfl (.tmp 113) (.tmp 115) 24 rfl w7.heap.size 3 i0 _ 1 8 Try.underlying24 hi0 hz0 hz1 hz2 rfl (by omega) u17 (Finds.upto F2.marks 2 j).length (icells (Finds.upto F2.marks 2 j)) rfl (ownsRow_ext OW.out (Ext.alloc _ _)) (some ⟨wr.heap.size, 0, none⟩) 1 1 [.int .i64 (j : Int)] rfl (Rd.lit wr #[_] _) (by simp [Value.oneCell']) (by omega) (by unfold maxLen; omega) (by have := HX8.out.size; simp; omega) ?_; intro v9 w9 hown hgr hat)
                  refine ⟨⟨j + 1, by omega, by go_num, Lib.hid ?_, Lib.hid ((HX8.out.trans (Ext.alloc _ _)).ofGrown hgr (fun k hk => (OW.out.lt k hk).1))⟩, by simp [intOf]; omega⟩
                  rw [HUS.out, icells_append, List.length_append]
                  exact hown
                · rw [decide_eq_false h2] at jc
                  rw [if_neg h2] at hus
                  have HUS := Lib.hid hus
                  clear hus h2
                  go_wp2_with (fail)
                  exact ⟨⟨j + 1, by omega, by go_num, by rw [HUS.out]; exact OW, HX8⟩, by simp [intOf]; omega⟩
              · have v1 : ¬ (j : Int) < N := by omega
                obtain rfl : N = j := by omega
                have hofL : Finds.lacksL F2 = Finds.upto F2.marks 2 N := by rw [show Finds.lacksL F2 = Finds.ofL F2.marks 2 from if_pos HR2.out.1]; unfold Finds.ofL; rw [HR2.out.2]
                have hul := Finds.upto_length_le F2.marks 2 N
                have HP8 := Lib.hid (HP.out.ext HX8.out)
                obtain ⟨A7, n7, c7, B7, m7, d7, C7, kk7, e7, sb7, fx7⟩ := HP8.out
                have fd7 := fx7.fd
                have hlq := Finds.right_len HR2.out.1
                have hwq := Finds.which_len HR2.out.1
                have hcq := Finds.cnt_le F2.marks 1
                have hla := fLacks_any wr F2 A7 n7 c7 B7 m7 d7 C7 kk7 e7 fd7 (by have := fd7.u.len; omega) (by have := fd7.v.len; omega)
                rw [hofL] at hla
                have HLA2 := Lib.hid hla
                obtain ⟨U, hU⟩ : ∃ U, Finds.upto F2.marks 2 N = U := ⟨_, rfl⟩
                rw [hU] at HLA2 OW hul
                obtain ⟨A9, c9, rfl, _, _⟩ := ownsRow_slice OW.out
                have y1 := fd7.u.max
                have y2 := fd7.u.le
                have y3 := fd7.v.max
                have y4 := fd7.v.le
                have y5 := fd7.s.max
                have y6 := fd7.s.le
                have g0 := sb7.c0
                have g1 := sb7.c1
                have g2 := sb7.c2
                have g3 := sb7.c3
                have g4 := sb7.c4
                have g5 := sb7.c5
                have g6 := sb7.c6
                have HIW := Lib.hid (Own.mk (base := w7.heap.size) (e := 3) OW.out).ints
                have y7 := HIW.out.max
                have y8 := HIW.out.le
                clear sb7 fx7 fd7 hla hofL hU hlq hwq hcq
                go_wp2_with (fail)
                with_reducible refine HLA2.out.mono ?_
                rintro e w9 ⟨v9, rfl, hv9⟩
                obtain ⟨A8, c8, rfl, hi8⟩ := hv9.is
                have z7 := hi8.max
                have z8 := hi8.le
                have HSI := Lib.hid (sameInts_any w9 A8 A9 U.length c8 U.length c9 U U hi8 (HIW.out.ext hv9.ext))
                have X9 := Lib.hid hv9.ext
                clear hi8 hv9 g0 g1 g2 g3 g4 g5 g6
                go_wp2_with (fail)
                with_reducible refine HSI.out.mono ?_
                rintro e w10 ⟨he, hd10⟩
                obtain rfl : e = .returned (.bool true) := he.trans (by simp)
                have X10 := Lib.hid (HX8.out.trans (X9.out.trans hd10.ext))
                clear hd10
                go_wp2_with (fail)
                exact ⟨⟨i + 1, F2, by omega, by omega, by go_num, by rw [HZ5.out], Lib.hid (HP.out.ext X10.out), Lib.hid (HSA6.out.ext X10.out), Lib.hid (HLA6.out.ext X10.out), HR2, Lib.hid (HX6.out.trans X10.out)⟩, by simp [intOf]; omega⟩
      · have r2 : ¬ (i : Int) < 40 := by omega
        go_wp2_with (fail)
        refine (awake_any13 _).mono ?_
        rintro e w9 ⟨rfl, x9⟩
        go_wp2_with (fail)
        go_ret
        exact ⟨rfl, HX.out.trans x9⟩
    · have r1 : ¬ (i : Int) < q := by omega
      go_wp2_with (fail)
      refine (awake_any13 _).mono ?_
      rintro e w9 ⟨rfl, x9⟩
      go_wp2_with (fail)
      go_ret
      exact ⟨rfl, HX.out.trans x9⟩
namespace findLacks
set_option maxRecDepth 100000 in
theorem walk {H : Type} {enc : TypeId × Value → H} {base : Nat} (w : World) (a0 a1 : Int) (v2 : Value) (d2 : DataW H) (p2 : List MemPlace) (w0 : (Lit.int .u8 a0).wf = true) (w1 : (Lit.int .u8 a1).wf = true) (o2 : Value.okWide Try.prog w .any base 52 v2) (h2 : DataW.Trod enc Try.prog w 0 (fun _ => true) true 52 v2 d2 p2) :
    Calls Try.prog 5 #[.int .u8 a0, .int .u8 a1, v2] w fun e w' => e = .returned (.bool true) ∧ Ext w w' := by
  obtain ⟨n, rfl⟩ := wf_u8 w0
  obtain ⟨d, rfl⟩ := wf_u8 w1
  obtain ⟨A, m, c, o, rfl, ho⟩ := os13_open o2 h2
  exact findLacks_any w n d A m c o ho
end findLacks
end Go.Proofs.Ytfpglkacjecoeaa
