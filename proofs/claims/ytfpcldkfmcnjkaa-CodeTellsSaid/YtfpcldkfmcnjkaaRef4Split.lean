/- The contract of the document's Split (chapter 04). -/
import Derived.Test.YtfpcldkfmcnjkaaRef4Enc
import Derived.Test.YtfpcldkfmcnjkaaCodeSplit
namespace Go.Proofs.Ytfpcldkfmcnjkaa
open Go.RowKit
attribute [local go_sem ↓] Go.wp_at_zero Go.wp_at_succ

theorem get_shardAt {l : List UInt8} {size o j : Nat} (h : j < size) : Gf.get (shardAt l size o) j = if o + j < l.length then Gf.get l (o + j) else 0 := by
  unfold Gf.get shardAt
  rw [List.getD_eq_getElem?_getD, List.getD_eq_getElem?_getD]
  by_cases e : o + j < l.length
  · rw [if_pos e, List.getElem?_append_left (by rw [List.length_take, List.length_drop]; omega), List.getElem?_take, if_pos h, List.getElem?_drop]
  · rw [if_neg e, List.getElem?_append_right (by rw [List.length_take, List.length_drop]; omega), List.getElem?_replicate]
    split <;> rfl
theorem ref4Split_arg (w : World) (k n : Nat) (B : Option Addr) (m : Nat) (A : Option Addr) (q c : Nat) (size : Int) (h : size < 1 ∨ 65536 < size) :
    Calls Try.prog 37 #[cval k n B n m, .slice A q c, .int .i64 size] w (GivesSE [] 2 w) := by
  by_cases h1 : size < 1
  · go_enter Try.func37, Try.ntmps37
    go_wp2_with (fail)
    go_ret2
    exact GivesSE.none 2 (Ext.alloc _ _)
  · have h2 : 65536 < size := by omega
    go_enter Try.func37, Try.ntmps37
    go_wp2_with (fail)
    go_ret2
    exact GivesSE.none 2 (Ext.alloc _ _)
set_option maxRecDepth 100000 in
set_option maxHeartbeats 4000000 in
theorem ref4Split_ok (w : World) (k n : Nat) (B : Option Addr) (m : Nat) (k1 : 1 ≤ k) (k2 : k ≤ 255) (A : Option Addr) (q c : Nat) (l : List UInt8) (hl : Bs w A q c l) (size : Nat) (h1 : 1 ≤ size) (h2 : size ≤ 65536) (hq : q ≤ 100000) :
    Calls Try.prog 37 #[cval k n B n m, .slice A q c, .int .i64 (size : Int)] w (GivesSE (stripesOf l k size) 0 w) := by
  obtain ⟨u0, hu0, hx0, hx1, hx2⟩ := info_parts u8_info
  obtain ⟨i0, hi0, hz0, hz1, hz2⟩ := info_parts bytes_info
  obtain ⟨j0, hj0, hy0, hy1, hy2⟩ := info_parts lists_info
  have xA : Ext w (wbox w k n B m) := Ext.alloc _ _
  have HB := Lib.hid (bd_box w k n B m)
  have q1 := hl.max
  have q2 := hl.le
  have g1 : ¬ (size : Int) < 1 := by omega
  have g2 : ¬ (65536 : Int) < size := by omega
  have hW : 0 < k * size := Nat.mul_pos (by omega) (by omega)
  have hW2 : k * size ≤ 255 * 65536 := Nat.mul_le_mul k2 h2
  obtain ⟨whole, hwh⟩ : ∃ whole, k * size = whole := ⟨_, rfl⟩
  have HWH := Lib.hid hwh
  have LL := Lib.hid hl.len
  have HL := Lib.hid hl
  have hN := stripesOf_length l k size
  rw [LL.out, hwh] at hN
  have hsg : ∀ t, t < manyOf q whole → sget (stripesOf l k size) t = stripeAt l k size (t * whole) := fun t ht => by rw [sget_stripes (by rw [LL.out, hwh]; exact ht), hwh]
  have HN := Lib.hid hN
  have HSG := Lib.hid hsg
  rw [hwh] at hW hW2
  obtain ⟨N2, hN2⟩ : ∃ N2, (wbox w k n B m).heap.size = N2 := ⟨_, rfl⟩
  have HN2 := Lib.hid hN2
  have hsz0 : N2 ≤ (wbox w k n B m).heap.size := by omega
  clear hN2 hwh hl hN hsg
  generalize stripesOf l k size = SS at *
  go_enter Try.func37, Try.ntmps37
  try dsimp only [List.append]
  go_wp2_with (fail)
  go_loopw [8, 9, 10, 11, 12, 13, 14] (fun v a _ _ _ _ _ wr => ∃ (t : Nat) (cs : List Value) (z : Nat), t ≤ manyOf q whole ∧ a = .int .i64 (z : Int) ∧ RowKit.Hid (t * whole = z) ∧ Sq wr N2 v t cs (SS.take t) ∧ Ext (wbox w k n B m) wr ∧ N2 ≤ wr.heap.size) (fun _ a _ _ _ _ _ _ => q + whole - (intOf a).toNat)
  case atStart => exact ⟨0, [], 0, by omega, rfl, Lib.hid (Nat.zero_mul _), by rw [List.take_zero]; exact Sq.nil _ _, Ext.refl _, hsz0⟩
  case round =>
    obtain ⟨t, cs, z, ht, rfl, HZ, hS, hx, hsz⟩ := hrel
    clear hsz0
    by_cases hlt : t < manyOf q whole
    · have hlt2 := (many_lt hW).1 hlt
      rw [HZ.out] at hlt2
      have r1 : (z : Int) < q := by omega
      have hsn := take_sget (ss := SS) (j := t) (by rw [HN.out]; exact hlt)
      rw [HSG.out t hlt, HZ.out] at hsn
      have hml := stripeAt_length l k size z
      have hmr := fun i (hi : i < k) => row_stripeAt (l := l) (k := k) (size := size) (a := z) hi
      have HSN := Lib.hid hsn
      have HLT := Lib.hid (show t + 1 ≤ manyOf q whole from hlt)
      have HML := Lib.hid hml
      have HMR := Lib.hid hmr
      have HSQ := Lib.hid hS
      clear hsn hml hmr hS hlt
      generalize stripeAt l k size z = M at *
      obtain ⟨wo, rfl⟩ : ∃ wo : World, wo = wr := ⟨_, rfl⟩
      obtain ⟨NB, hNB⟩ : ∃ NB, wo.heap.size = NB := ⟨_, rfl⟩
      have HNB := Lib.hid hNB
      have hsb0 : NB ≤ wo.heap.size := by omega
      clear hNB
      go_wp2_with (fail)
      go_loopw [9, 10, 11, 12, 13, 14] (fun a v s _ _ _ wr => ∃ (i : Nat) (cs' : List Value) (p : Nat), i ≤ k ∧ a = .int .i64 ((z + p : Nat) : Int) ∧ RowKit.Hid (i * size = p) ∧ s = .int .i64 (i : Int) ∧ Mq wr NB (Hot NB v) v i cs' (M.take i) ∧ Ext wo wr ∧ NB ≤ wr.heap.size) (fun _ _ s _ _ _ _ => k - (intOf s).toNat)
      case atStart => exact ⟨0, [], 0, by omega, rfl, Lib.hid (Nat.zero_mul _), rfl, by rw [List.take_zero]; exact Mq.nil _ _ _, Ext.refl wo, hsb0⟩
      case round =>
        obtain ⟨i, cs', p, hi, rfl, HP, rfl, hQ, hxi, hsi⟩ := hrel
        clear hsb0
        have c0 := (HB.out.ext (hx.trans hxi)).c0
        by_cases hik : i < k
        · have r2 : (i : Int) < k := by omega
          have HQ := Lib.hid hQ
          have hm1 : i * size ≤ 255 * 65536 := Nat.mul_le_mul (by omega) h2
          rw [HP.out] at hm1
          have hrow := HMR.out i hik
          rw [HP.out] at hrow
          have hsr := take_row (m := M) (j := i) (by rw [HML.out]; exact hik)
          rw [hrow] at hsr
          have hsl := shardAt_length l size (z + p)
          have hby := fun j (hj : j < size) => get_shardAt (l := l) (size := size) (o := z + p) hj
          have HSR := Lib.hid hsr
          have HSL := Lib.hid hsl
          have HBY := Lib.hid hby
          clear hQ hrow hsr hsl hby
          generalize shardAt l size (z + p) = R at *
          obtain ⟨wm, rfl⟩ : ∃ wm : World, wm = wr := ⟨_, rfl⟩
          have HR0 := Lib.hid (World.ownsRow_nil wm wm.heap.size 5 1)
          go_wp2_with (fail)
          go_loopw [9, 12, 13, 14] (fun a v s _ wr' => ∃ j : Nat, j ≤ size ∧ a = .int .i64 ((z + p + j : Nat) : Int) ∧ s = .int .i64 (j : Int) ∧ wr'.ownsRow wm.heap.size 5 1 v j (bcells (R.take j)) ∧ Ext wm wr') (fun _ _ s _ _ => size - (intOf s).toNat)
          case atStart => exact ⟨0, by omega, rfl, rfl, by rw [List.take_zero]; exact HR0.out, Ext.refl wm⟩
          case round =>
            obtain ⟨j, hj, rfl, rfl, hown, hxj⟩ := hrel
            by_cases hjs : j < size
            · have r3 : (j : Int) < size := by omega
              have hby := HBY.out j hjs
              have hst := take_get (l := R) (j := j) (by rw [HSL.out]; exact hjs)
              have HO := Lib.hid hown
              have HBK := Lib.hid (own_row hown)
              have hsj := hxj.size
              have xr : Ext w wr := (xA.trans hx).trans (hxi.trans hxj)
              have hadd : ((z + p + j : Nat) : Int) + 1 = ((z + p + (j + 1) : Nat) : Int) := by omega
              have HADD := Lib.hid hadd
              have hub : z + p + j ≤ 20000000 := by omega
              obtain ⟨y, hy⟩ : ∃ y, Gf.get R j = y := ⟨_, rfl⟩
              rw [hy] at hst hby
              have HST := Lib.hid hst
              have HO2 := Lib.hid (ownsRow_ext hown (Ext.alloc wr (.cells #[.int .u8 (y.toNat : Int)] 5)))
              by_cases hin : z + p + j < q
              · have r4 : ((z + p + j : Nat) : Int) < q := by omega
                rw [if_pos (by rw [LL.out]; exact hin)] at hby
                obtain ⟨bb, oo, rfl, hcb⟩ := (HL.out.ext xr).rd.byte hin
                rw [← hby] at hcb
                clear hst hown hy hby hadd
                generalize z + p + j = at_ at *
                go_wp2_with (at_builtin; refine wpList_append_rd _ rfl (.tmp 44) (.tmp 46) 22 rfl wm.heap.size 5 u0 _ 1 1 Try.underlying22 hu0 hx0 hx1 hx2 rfl (by omega) _ j (bcells (R.take j)) rfl HO2.out (some ⟨wr.heap.size, 0, none⟩) 1 1 [.int .u8 (y.toNat : Int)] rfl (Rd.lit wr #[_] _) (by simp [Value.oneCell']) (by omega) (by unfold maxLen; omega) (by simp; omega) ?_; intro v5 w5 hown hgr hat)
                refine ⟨⟨j + 1, by omega, by rw [← HADD.out], by go_num, ?_, (hxj.thenAlloc _).ofGrown hgr HBK.out⟩, by simp [intOf]; omega⟩
                rw [HST.out, bcells_append]
                exact hown
              · have r4 : ¬ ((z + p + j : Nat) : Int) < q := by omega
                rw [if_neg (by rw [LL.out]; exact hin)] at hby
                have hy0' : (y.toNat : Int) = 0 := by rw [hby]; rfl
                rw [hy0'] at HO2
                have HY0 := Lib.hid hy0'
                clear hst hown hy hby hadd hy0'
                generalize z + p + j = at_ at *
                go_wp2_with (at_builtin; refine wpList_append_rd _ rfl (.tmp 44) (.tmp 46) 22 rfl wm.heap.size 5 u0 _ 1 1 Try.underlying22 hu0 hx0 hx1 hx2 rfl (by omega) _ j (bcells (R.take j)) rfl HO2.out (some ⟨wr.heap.size, 0, none⟩) 1 1 [.int .u8 0] rfl (Rd.lit wr #[_] _) (by simp [Value.oneCell']) (by omega) (by unfold maxLen; omega) (by simp; omega) ?_; intro v5 w5 hown hgr hat)
                refine ⟨⟨j + 1, by omega, by rw [← HADD.out], by go_num, ?_, (hxj.thenAlloc _).ofGrown hgr HBK.out⟩, by simp [intOf]; omega⟩
                rw [HST.out, bcells_append]
                rw [← HY0.out] at hown
                exact hown
            · have r3 : ¬ (j : Int) < size := by omega
              obtain rfl : size = j := by omega
              rw [List.take_of_length_le (by rw [HSL.out]; exact Nat.le_refl _)] at hown
              obtain ⟨A4, c4, rfl, hz4, hz5⟩ := ownsRow_slice hown
              have ow4 := Lib.hid (ownsRow_ext (ownsRow_ext HQ.out.own hxj) (Ext.alloc wr (.cells #[.slice A4 size c4] 22)))
              have OW := Lib.hid hown
              have X4 := Lib.hid hxj
              have hs4 := hxj.size
              have HPS := Lib.hid (show z + p + size = z + (p + size) by omega)
              clear hown hxj
              go_wp2_with (at_builtin; refine wpList_append_rd _ rfl (.tmp 50) (.tmp 52) 28 rfl NB 22 i0 _ 1 24 Try.underlying28 hi0 hz0 hz1 hz2 rfl (by omega) u10 i cs' rfl ow4.out (some ⟨wr.heap.size, 0, none⟩) 1 1 [.slice A4 size c4] rfl (Rd.lit _ #[.slice A4 size c4] _) (by simp [Value.oneCell']) (by omega) (by unfold maxLen; omega) (by simp; omega) ?_; intro v5 w5 hown hgr hat)
              have hsn2 := HQ.out.snoc X4.out (r := R) (A := A4) (c := c4) (by rw [HSL.out]; exact OW.out) (Nat.le_refl _) hsi (Ext.alloc wr (.cells #[.slice A4 size c4] 22)) (by rw [HSL.out]; exact hown) hgr hat
              rw [HSL.out] at hsn2
              have hne : ∀ q, u10.ownBlock = some q → NB ≤ q := own_row HQ.out.own
              refine ⟨⟨i + 1, cs' ++ [.slice A4 size c4], p + size, by omega, ?_, Lib.hid (by rw [Nat.succ_mul, HP.out]), by go_num, ?_, ?_, ?_⟩, by simp [intOf]; omega⟩
              · exact congrArg (Value.int .i64) (by have := HPS.out; omega)
              · rw [HSR.out]; exact hsn2
              · exact ((hxi.trans X4.out).thenAlloc _).ofGrown hgr (fun q hq => by have := hne q hq; have := HNB.out; omega)
              · have := hgr.size; simp at this; omega
        · have r2 : ¬ (i : Int) < k := by omega
          obtain rfl : k = i := by omega
          obtain rfl : whole = p := by rw [← HWH.out, ← HP.out]
          rw [List.take_of_length_le (by rw [HML.out]; exact Nat.le_refl _)] at hQ
          obtain ⟨A1, c1', rfl, _⟩ := hQ.mx
          have HQ := Lib.hid hQ
          have HO4 := Lib.hid (ownsRow_ext (ownsRow_ext HSQ.out.own hxi) (Ext.alloc wr (.cells #[.slice A1 k c1'] 28)))
          have hsi2 := hxi.size
          have htz : t ≤ z := by rw [← HZ.out]; exact Nat.le_mul_of_pos_right t hW
          clear hQ
          go_wp2_with (at_builtin; refine wpList_append_rd _ rfl (.tmp 54) (.tmp 56) 51 rfl N2 28 j0 _ 1 24 Try.underlying51 hj0 hy0 hy1 hy2 rfl (by omega) u8 t cs rfl HO4.out (some ⟨wr.heap.size, 0, none⟩) 1 1 [.slice A1 k c1'] rfl (Rd.lit wr #[.slice A1 k c1'] _) (by simp [Value.oneCell']) (by omega) (by unfold maxLen; omega) (by simp; omega) ?_; intro v5 w5 hown hgr hat; have hne : ∀ q, u8.ownBlock = some q → N2 ≤ q := own_row HSQ.out.own; have x5 : Ext (wbox w k n B m) w5 := (hx.trans (hxi.thenAlloc _)).ofGrown hgr (fun q hq => by have := hne q hq; have := HN2.out; omega))
          have hsn2 := HSQ.out.snoc hxi HQ.out (by have := HNB.out; omega) hsz (Ext.alloc wr (.cells #[.slice A1 k c1'] 28)) hown hgr hat
          refine ⟨⟨t + 1, cs ++ [.slice A1 k c1'], z + whole, HLT.out, ?_, Lib.hid (by rw [Nat.add_mul, HZ.out, Nat.one_mul]), ?_, ?_, ?_⟩, ?_⟩
          · go_num
          · rw [HSN.out]; exact hsn2
          · exact x5
          · have h8 := hgr.size; simp at h8; omega
          · simp [intOf]; omega
    · have hlt2 : ¬ t * whole < q := fun h => hlt ((many_lt hW).2 h)
      rw [HZ.out] at hlt2
      have r1 : ¬ (z : Int) < q := by omega
      obtain rfl : manyOf q whole = t := by omega
      rw [List.take_of_length_le (by rw [HN.out]; exact Nat.le_refl _)] at hS
      obtain ⟨A1, c1, rfl, hm⟩ := hS.mxs
      have HMX := Lib.hid hm
      clear hm hS
      go_wp2_with (fail)
      go_ret2
      refine ⟨A1, c1, ?_, ?_, xA.trans hx⟩
      · rw [HN.out]; rfl
      · rw [HN.out]; exact HMX.out
end Go.Proofs.Ytfpcldkfmcnjkaa
