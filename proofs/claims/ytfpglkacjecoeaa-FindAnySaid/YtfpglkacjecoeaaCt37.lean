/- Several texts in one: The contract of the laws' shards: a code, a stripe, its shards. What FindAny's walk uses, in plain words. No program in sight. -/
import Derived.Test.YtfpglkacjecoeaaCt36
import Derived.Deep.CutBlock
import Derived.Deep.DeepCutAuto
import Derived.Test.YtfpglkacjecoeaaCt21
import Derived.Test.YtfpglkacjecoeaaCt35
namespace Go.Proofs.Ytfpglkacjecoeaa
open Go.RowKit

theorem run_make_u8 (W : World) (c : Nat) (hc : c ≤ 255) : (Instr.makeSlice 35 (.int .u8 (c : Int)) (.int .u8 (c : Int))).run Try.prog W = .ok (.slice (some ⟨W.heap.size, 0, none⟩) c c) (W.alloc (.cells (made c (.int .u8 0)) 5)) := by
  obtain ⟨i, hi, hz, h1, h2⟩ := info_parts u8_info
  have h := run_make (P := Try.prog) W 35 5 i _ Try.underlying35 hi hz .u8 .u8 (c : Int) (c : Int) (by omega) (Int.le_refl _) (by rw [h2]; omega) (by omega)
  rw [h1] at h
  simpa [made, Value.cells] using h
/-- A code, a stripe and its shards are handed back. -/
def GivesSh (k n size : Nat) (l : List UInt8) (w : World) (e : Ending) (w' : World) : Prop := ∃ b fb A c B d, e = .returned (.tuple #[cptr b, .slice A k c, .slice B n d, .bool true]) ∧ Cd w' b fb k n ∧ Mx w' A k c (stripeAt l k size 0) ∧ Mx w' B n d (Gm.mulL (Gm.gen k n) (stripeAt l k size 0)) ∧ Ext w w'
set_option maxRecDepth 100000 in
set_option maxHeartbeats 4000000 in
theorem shards13_any (w : World) (x y v : UInt8) (A : Option Addr) (q c : Nat) (l : List UInt8) (hl : Bs w A q c l) :
    Calls Try.prog 26 #[.agg #[.int .u8 (x.toNat : Int), .int .u8 (y.toNat : Int), .int .u8 (v.toNat : Int), .slice A q c]] w (GivesSh (1 + x.toNat % 6) (1 + x.toNat % 6 + y.toNat % 6) (v.toNat % 13) l w) := by
  obtain ⟨i0, hi0, hz0, hz1, hz2⟩ := info_parts bytes_info
  obtain ⟨k8, hk8⟩ : ∃ k8, x.toNat % 6 = k8 := ⟨_, rfl⟩
  obtain ⟨m9, hm9⟩ : ∃ m9, y.toNat % 6 = m9 := ⟨_, rfl⟩
  obtain ⟨size, hsz⟩ : ∃ s, v.toNat % 13 = s := ⟨_, rfl⟩
  obtain ⟨k, hk⟩ : ∃ k, 1 + k8 = k := ⟨_, rfl⟩
  obtain ⟨n, hn⟩ : ∃ n, k + m9 = n := ⟨_, rfl⟩
  rw [hk8, hm9, hsz, hk, hn]
  have e1 : (x.toNat : Int) % 6 = (k8 : Int) := by omega
  have e2 : (y.toNat : Int) % 6 = (m9 : Int) := by omega
  have e3 : (v.toNat : Int) % 13 = (size : Int) := by omega
  have e4 : 1 + (k8 : Int) = (k : Int) := by omega
  have e5 : (k : Int) + (m9 : Int) = (n : Int) := by omega
  have b1 : k8 ≤ 5 := by omega
  have b2 : m9 ≤ 5 := by omega
  have b3 : size ≤ 20 := by omega
  have b4 : 1 ≤ k ∧ k ≤ 8 ∧ k ≤ n ∧ n ≤ 16 := by omega
  obtain ⟨b4, b5, b6, b7⟩ := b4
  have h2 : size ≤ 65536 := by omega
  have l1 := x.toNat_lt
  have l2 := y.toNat_lt
  have l3 := v.toNat_lt
  have hmk := fun W => run_make_u8 W size (by omega)
  have HNEW := Lib.hid (fun W fb (hf : FieldAt W fb) => codeNew_ok fb W k n hf b4 b6 (by omega))
  have q1 := hl.max
  have q2 := hl.le
  have LL := Lib.hid hl.len
  have HL0 := Lib.hid hl
  have HML := Lib.hid (stripeAt_length l k size 0)
  have HMR := Lib.hid (fun i (hi : i < k) => row_stripeAt (l := l) (k := k) (size := size) (a := 0) hi)
  have HREC := Lib.hid (stripe_rect l k size 0)
  clear hl hk8 hm9 hsz hk hn
  obtain ⟨M, hM⟩ : ∃ M, stripeAt l k size 0 = M := ⟨_, rfl⟩
  rw [hM] at HML HMR HREC
  have HME := Lib.hid hM
  clear hM
  obtain ⟨g0, hg0⟩ : ∃ g0, w.heap.size = g0 := ⟨_, rfl⟩
  obtain ⟨wb, hwb⟩ : ∃ wb, w.alloc (.cells #[.int .u8 (x.toNat : Int), .int .u8 (y.toNat : Int), .int .u8 (v.toNat : Int), .slice A q c] 67) = wb := ⟨_, rfl⟩
  have XB := Lib.hid (show Ext w wb by rw [← hwb]; exact Ext.alloc _ _)
  have hbk : wb.heap[g0]? = some (.cells #[.int .u8 (x.toNat : Int), .int .u8 (y.toNat : Int), .int .u8 (v.toNat : Int), .slice A q c] 67 (0, 0)) := by rw [← hwb, ← hg0]; exact heap_alloc_new _ _
  have BK := Lib.hid hbk
  have HG0 := Lib.hid hg0
  have HWB := Lib.hid hwb
  clear hg0 hwb hbk
  go_enter Try.func26, Try.ntmps26
  try dsimp only [List.append]
  go_upto_region 1 with (fail)
  rw [HWB.out, HG0.out]
  have k0 : wb.cell? ⟨g0, 0, none⟩ = some (.int .u8 (x.toNat : Int)) := by rw [cell_of_row wb _ _ _ _ _ BK.out]; rfl
  have k1 : wb.cell? ⟨g0, 1, none⟩ = some (.int .u8 (y.toNat : Int)) := by rw [cell_of_row wb _ _ _ _ _ BK.out]; rfl
  have k2 : wb.cell? ⟨g0, 2, none⟩ = some (.int .u8 (v.toNat : Int)) := by rw [cell_of_row wb _ _ _ _ _ BK.out]; rfl
  have k3 : wb.cell? ⟨g0, 3, none⟩ = some (.slice A q c) := by rw [cell_of_row wb _ _ _ _ _ BK.out]; rfl
  go_upto_region 2 with (fail)
  go_cut [7, 8] (fun s1 s2 wx => ∃ wv : World, wv = wx ∧ ∃ b fb, s1 = cptr b ∧ s2 = .int .i64 0 ∧ RowKit.Hid (Cd wx b fb k n) ∧ RowKit.Hid (Ext wb wx))
  case first =>
    have HSS := Lib.hid (fun (W : World) (hW : Ext wb W) => hW.cell k1)
    have f1 : (y.toNat : Int).tmod 6 = (m9 : Int) := by rw [Int.tmod_eq_emod_of_nonneg (by omega)]; exact e2
    have f2 := Lib.hid (show IntKind.i64.wrap ((k : Int) + IntKind.i64.wrap (m9 : Int)) = (n : Int) by rw [IntWalk.i64_in (m9 : Int) (by omega), e5, IntWalk.i64_in _ (by omega)])
    go_region_held3 (fun W : World => W.cell? ⟨g0, 1, none⟩ = some (.int .u8 (y.toNat : Int))) ((refine HSS.out _ ?_; (first | (with_reducible exact Ext.drew _) | (with_reducible exact y1) | (with_reducible exact y3)))) (first
      | (((with_reducible refine (new_any _).mono ?_); (rintro e w1 ⟨rfl, hf, y0⟩; have y1 : Ext wb w1 := (Ext.drew _).trans y0; have HF := Lib.hid (show FieldAt w1 wb.heap.size from hf); clear y0 hf)))
      | (((rw [f2.out]; with_reducible refine (HNEW.out _ _ HF.out).mono ?_); (rintro e w2 ⟨b, rfl, hC, y2⟩; have y3 : Ext wb w2 := y1.trans y2; have HC := Lib.hid hC; clear y2 hC)))
      | fail)
    all_goals
      go_wp2_with (fail)
      go_meet
      exact ⟨_, rfl, b, _, rfl, rfl, HC.out, Lib.hid y3⟩
  case rest =>
  obtain ⟨wo, rfl, b, fb, rfl, rfl, HC, HXb⟩ := hcut
  have HX := Lib.hid (XB.out.trans HXb.out)
  have HL := Lib.hid (HL0.out.ext HX.out)
  have BO := Lib.hid (fun (W : World) (hW : Ext wo W) => (show (W.cell? ⟨g0, 2, none⟩ = some (.int .u8 (v.toNat : Int)) ∧ W.cell? ⟨g0, 3, none⟩ = some (.slice A q c)) from ⟨(HXb.out.trans hW).cell k2, (HXb.out.trans hW).cell k3⟩))
  obtain ⟨NB, hNB⟩ : ∃ NB, wo.heap.size = NB := ⟨_, rfl⟩
  have HNB := Lib.hid hNB
  have hsb0 : NB ≤ wo.heap.size := by omega
  clear hNB HL0 HNEW k0 k1 k2 k3
  go_wp2_with (fail)
  go_loopw [9, 10, 11, 12] (fun v s _ _ wr => ∃ (i : Nat) (cs' : List Value), i ≤ k ∧ s = .int .i64 (i : Int) ∧ Mq wr NB (Hot NB v) v i cs' (M.take i) ∧ Ext wo wr ∧ NB ≤ wr.heap.size) (fun _ s _ _ _ => k - (intOf s).toNat)
  case atStart => exact ⟨0, [], by omega, rfl, by rw [List.take_zero]; exact Mq.nil _ _ _, Ext.refl wo, hsb0⟩
  case round =>
    obtain ⟨i, cs', hi, rfl, hQ, hxi, hsi⟩ := hrel
    clear hsb0
    obtain ⟨j2, j3⟩ := BO.out wr hxi
    obtain ⟨_, j4⟩ := BO.out _ (hxi.thenAlloc (.cells (made size (.int .u8 0)) 5))
    by_cases hik : i < k
    · have r2 : (i : Int) < k := by omega
      have HQ := Lib.hid hQ
      have hm1 : i * size ≤ 8 * 20 := Nat.mul_le_mul (by omega) b3
      obtain ⟨p, hp⟩ : ∃ p, i * size = p := ⟨_, rfl⟩
      have hp2 : (i : Int) * (size : Int) = (p : Int) := by rw [← hp]; simp
      have hrow := HMR.out i hik
      rw [Nat.zero_add] at hrow
      rw [hp] at hrow
      have hsr := take_row (m := M) (j := i) (by rw [HML.out]; exact hik)
      rw [hrow] at hsr
      have hsl := shardAt_length l size p
      have HSR := Lib.hid hsr
      have HSL := Lib.hid hsl
      clear hQ hrow hsr hsl hp
      by_cases hzp : p < q
      · have r3 : (p : Int) < q := by omega
        obtain ⟨bb, oo, rfl, hcc⟩ := (HL.out.ext hxi).rd.2 (by omega)
        have hsrc : ∀ (j : Nat) (u : Value), (bcells ((l.drop p).take size))[j]? = some u → wr.cell? ⟨bb, oo + p + j, none⟩ = some u := fun j u hu => by
          rw [Nat.add_assoc]
          refine hcc _ u ?_
          have hj := (List.getElem?_eq_some_iff.1 hu).1
          rw [bcells_length, List.length_take, List.length_drop] at hj
          rw [← hu]
          simp only [bcells, List.getElem?_map, List.getElem?_take, List.getElem?_drop]
          rw [if_pos (by omega)]
        have hcl : (bcells ((l.drop p).take size)).length = Nat.min (q - p) size := by
          rw [bcells_length, List.length_take, List.length_drop, LL.out]
          exact Nat.min_comm _ _
        have hspl := splice_zeros l size p
        obtain ⟨X, hX⟩ : ∃ X, bcells ((l.drop p).take size) = X := ⟨_, rfl⟩
        have hX1 : ∀ u ∈ X, u.oneCell' = true := by rw [← hX]; exact bcells_one _
        rw [hX] at hsrc hcl hspl
        have HSRC := Lib.hid (fun (W : World) (hW : Ext wr W) (j : Nat) (u : Value) (hu : X[j]? = some u) => hW.cell (hsrc j u hu))
        have HCL := Lib.hid hcl
        have HSPL := Lib.hid hspl
        have HX1 := Lib.hid hX1
        have hmd : made size (Value.int .u8 0) = (List.replicate size (Value.int .u8 0)).toArray := by rw [← made_toList]
        have HBK := Lib.hid (heap_alloc_new wr (.cells (made size (.int .u8 0)) 5))
        rw [hmd] at HBK
        have HMD := Lib.hid hmd
        generalize shardAt l size p = R at *
        clear hsrc hcl hspl hX hX1 hcc hmd
        go_wp2_with (first
          | (with_reducible refine wpList_copy_splice rfl (.tmp 50) (.tmp 54) 35 35 rfl 5 Try.underlying35 (by kernel_rfl) (some ⟨wr.heap.size, 0, none⟩) (some ⟨bb, oo + p, none⟩) size size (q - p) (c - p) rfl rfl wr.heap.size 0 (List.replicate size (.int .u8 0)) 5 (by rw [HMD.out]; exact HBK.out) X HCL.out (fun _ => ⟨rfl, ⟨bb, oo + p, none⟩, rfl, fun j u hu => by rw [addr_add]; exact HSRC.out _ (Ext.alloc _ _) j u hu⟩) (by rw [HCL.out, List.length_replicate, Nat.zero_add]; exact Nat.min_le_right _ _) HX1.out wr.heap.size wr (Ext.alloc _ _) (Nat.le_refl _) ?_
             intro w2 HG2 hB2
             have HB2 := Lib.hid (show Ext wr w2 from hB2)
             have HO4 := Lib.hid (ownsRow_ext (ownsRow_ext HQ.out.own hB2) (Ext.alloc w2 (.cells #[.slice (some ⟨wr.heap.size, 0, none⟩) size size] 35)))
             have hs2 := hB2.size
             clear hB2)
          | (at_builtin; refine wpList_append_rd _ rfl (.tmp 56) (.tmp 58) 25 rfl NB 35 i0 _ 1 24 Try.underlying25 hi0 hz0 hz1 hz2 rfl (by omega) u9 i cs' rfl HO4.out (some ⟨w2.heap.size, 0, none⟩) 1 1 [.slice (some ⟨wr.heap.size, 0, none⟩) size size] rfl (Rd.lit w2 #[.slice (some ⟨wr.heap.size, 0, none⟩) size size] _) (by simp [Value.oneCell']) (by omega) (by unfold maxLen; omega) (by simp; omega) ?_; intro v5 w5 hown hgr hat))
        all_goals
          have hro : w2.ownsRow wr.heap.size 5 1 (.slice (some ⟨wr.heap.size, 0, none⟩) R.length size) R.length (bcells R) := by
            have h := own_of_block HG2.out (r := R) (by rw [List.toList_toArray]; exact HSPL.out) (Nat.le_refl _) (by rw [HSL.out]; exact h2)
            rw [HSL.out] at h ⊢
            exact h
          have hsn2 := HQ.out.snoc HB2.out (r := R) hro (Nat.le_refl _) hsi (Ext.alloc w2 (.cells #[.slice (some ⟨wr.heap.size, 0, none⟩) size size] 35)) (by rw [HSL.out]; exact hown) hgr hat
          rw [HSL.out] at hsn2
          have hne : ∀ q, u9.ownBlock = some q → NB ≤ q := own_row HQ.out.own
          refine ⟨⟨i + 1, cs' ++ [.slice (some ⟨wr.heap.size, 0, none⟩) size size], by omega, by go_num, ?_, ?_, ?_⟩, by simp [intOf]; omega⟩
          · rw [HSR.out]; exact hsn2
          · exact ((hxi.trans HB2.out).thenAlloc _).ofGrown hgr (fun q hq => by have := hne q hq; have := HNB.out; omega)
          · have := hgr.size; simp at this; omega
      · have r3 : ¬ (p : Int) < q := by omega
        have hR : shardAt l size p = List.replicate size 0 := by
          unfold shardAt
          rw [List.drop_eq_nil_of_le (by rw [LL.out]; omega)]
          simp
        have HR := Lib.hid hR
        generalize shardAt l size p = R at *
        have hro := ownsRow_shard wr size h2 (Nat.le_refl _)
        rw [← hR] at hro
        have HRO := Lib.hid hro
        have HO4 := Lib.hid (ownsRow_ext (ownsRow_ext HQ.out.own (Ext.alloc wr (.cells (made size (.int .u8 0)) 5))) (Ext.alloc _ (.cells #[.slice (some ⟨wr.heap.size, 0, none⟩) size size] 35)))
        clear hR hro
        go_wp2_with (at_builtin; refine wpList_append_rd _ rfl (.tmp 56) (.tmp 58) 25 rfl NB 35 i0 _ 1 24 Try.underlying25 hi0 hz0 hz1 hz2 rfl (by omega) u9 i cs' rfl HO4.out (some ⟨wr.heap.size + 1, 0, none⟩) 1 1 [.slice (some ⟨wr.heap.size, 0, none⟩) size size] rfl (rd_lit_at _ (by simp) #[.slice (some ⟨wr.heap.size, 0, none⟩) size size] _) (by simp [Value.oneCell']) (by omega) (by unfold maxLen; omega) (by simp; omega) ?_; intro v5 w5 hown hgr hat)
        have hsn2 := HQ.out.snoc (Ext.alloc wr (.cells (made size (.int .u8 0)) 5)) (r := R) (A := some ⟨wr.heap.size, 0, none⟩) (c := size) (by rw [HSL.out]; exact HRO.out) (Nat.le_refl _) hsi (Ext.alloc _ (.cells #[.slice (some ⟨wr.heap.size, 0, none⟩) size size] 35)) (by rw [HSL.out]; exact hown) hgr hat
        rw [HSL.out] at hsn2
        have hne : ∀ q, u9.ownBlock = some q → NB ≤ q := own_row HQ.out.own
        refine ⟨⟨i + 1, cs' ++ [.slice (some ⟨wr.heap.size, 0, none⟩) size size], by omega, by go_num, ?_, ?_, ?_⟩, by simp [intOf]; omega⟩
        · rw [HSR.out]; exact hsn2
        · exact ((hxi.thenAlloc _).thenAlloc _).ofGrown hgr (fun q hq => by have := hne q hq; have := HNB.out; omega)
        · have := hgr.size; simp at this; omega
    · have r2 : ¬ (i : Int) < k := by omega
      obtain rfl : k = i := by omega
      rw [List.take_of_length_le (by rw [HML.out]; exact Nat.le_refl _)] at hQ
      obtain ⟨A1, c1', rfl, hmx⟩ := hQ.mx
      have HMX := Lib.hid hmx
      clear hQ hmx
      have HEN := Lib.hid (enc_r wr b fb k n size (HC.out.ext hxi) A1 c1' M HMX.out HREC.out h2)
      have p1 := HMX.out.max
      have p2 := HMX.out.le
      go_wp2_with (fail)
      with_reducible refine HEN.out.mono ?_
      rintro e w9 ⟨A9, c9, rfl, hm9', x9⟩
      have HM9 := Lib.hid hm9'
      have X9 := Lib.hid x9
      have p3 := hm9'.max
      have p4 := hm9'.le
      clear hm9' x9
      go_wp2_with (fail)
      refine bodyPost_ret (v := .tuple #[cptr b, .slice A1 k c1', .slice A9 n c9, .bool true]) (by simp [results, Try.f26]) rfl ⟨b, fb, A1, c1', A9, c9, rfl, HC.out.ext (hxi.trans X9.out), ?_, ?_, HX.out.trans (hxi.trans X9.out)⟩
      · rw [HME.out]; exact HMX.out.ext X9.out
      · rw [HME.out]; exact HM9.out
end Go.Proofs.Ytfpglkacjecoeaa
namespace Finds
open Il

/-- Who has a shard (1), who has none (2). -/
def hz (nn : Nat → Bool) (n : Nat) : List Int := (List.range n).map fun j => if nn j then 2 else 1
theorem hz_length (nn : Nat → Bool) (n : Nat) : (hz nn n).length = n := by simp [hz]
theorem hz_get {nn : Nat → Bool} {n j : Nat} (h : j < n) : get (hz nn n) j = if nn j then 2 else 1 := by
  rw [get_of_lt (by rw [hz_length]; exact h)]
  simp [hz]
theorem upto_le_of {l z : List Int} {m : Int} {k : Nat} (h : ∀ j, j < k → get l j = m → get z j = m) : (upto l m k).length ≤ (upto z m k).length := by
  induction k with
  | zero => exact Nat.le_refl _
  | succ k ih =>
    have h1 := ih (fun j hj => h j (by omega))
    rw [upto_succ, upto_succ]
    by_cases e : get l k = m
    · rw [if_pos e, if_pos (h k (by omega) e), List.length_append, List.length_append]
      simp
      exact h1
    · rw [if_neg e]
      split
      · rw [List.length_append]; simp; omega
      · exact h1
theorem hz_sum (nn : Nat → Bool) (n k : Nat) (h : k ≤ n) : (upto (hz nn n) 1 k).length + (upto (hz nn n) 2 k).length = k := by
  induction k with
  | zero => rfl
  | succ k ih =>
    have h1 := ih (by omega)
    rw [upto_succ, upto_succ, hz_get (by omega)]
    cases nn k
    · simp; omega
    · simp; omega
theorem hz_succ {nn : Nat → Bool} {n k : Nat} (h : k < n) : (upto (hz nn n) 1 (k + 1)).length = (upto (hz nn n) 1 k).length + (if nn k then 0 else 1) := by
  rw [upto_succ, hz_get h]
  cases nn k <;> simp
/-- What holds of a find while a stripe's shards are asked. -/
structure Asks (nn : Nat → Bool) (S : Gm.L) (n K size : Nat) (f : F) : Prop where
  r : right f
  len : f.marks.length = n
  need : f.need = (K : Int)
  marks : ∀ j, j < n → get f.marks j ≠ 0 → get f.marks j = if nn j then 2 else 1
  rows : ∀ t, t < f.shards.length → Gm.row f.shards t = Gm.row S (get f.which t).toNat
theorem Asks.which {nn : Nat → Bool} {S : Gm.L} {n K size : Nat} {f : F} (h : Asks nn S n K size f) {t : Nat} (ht : t < f.which.length) : 0 ≤ get f.which t ∧ get f.which t < n := by
  have hm : get f.which t ∈ f.which := by rw [get_of_lt ht]; exact List.getElem_mem ht
  obtain ⟨j, h1, h2, _⟩ := ofL_mem.1 ((which_mem h.r).1 hm)
  rw [h.len] at h1
  omega
theorem Asks.lens {nn : Nat → Bool} {S : Gm.L} {n K size : Nat} {f : F} (h : Asks nn S n K size f) : f.shards.length = f.which.length := by rw [h.r.2.2.2.1, which_len h.r]
theorem get_append_lt {l : List Int} {x : Int} {t : Nat} (h : t < l.length) : get (l ++ [x]) t = get l t := by
  unfold Il.get
  rw [List.getD_eq_getElem?_getD, List.getD_eq_getElem?_getD, List.getElem?_append_left h]
theorem get_append_last (l : List Int) (x : Int) : get (l ++ [x]) l.length = x := by
  unfold Il.get
  simp
/-- A want is met. -/
theorem Asks.told {nn : Nat → Bool} {S : Gm.L} {n K size : Nat} {f : F} (h : Asks nn S n K size f) (hw : ∀ j, j < n → (Gm.row S j).length = size) (hs : size ≤ 100) {k : Nat} (hk : k < n) (hp : f.phase = 1) (hm : get f.marks k = 0) :
    Asks nn S n K size (toldF f (k : Int) (if nn k then 60 else 0) (if nn k then [] else Gm.row S k)) ∧ cnt (toldF f (k : Int) (if nn k then 60 else 0) (if nn k then [] else Gm.row S k)).marks 0 + 1 = cnt f.marks 0 := by
  have hkm : k < f.marks.length := by rw [h.len]; exact hk
  have hc := told_cnt0 (f := f) (i := (k : Int)) h.r (by omega) (by omega) hp (by simpa using hm) (if nn k then 60 else 0) (if nn k then [] else Gm.row S k)
  obtain ⟨m1, m2, m3⟩ := told_marks (f := f) (i := (k : Int)) h.r (by omega) (by omega) hp (by simpa using hm) (if nn k then 60 else 0) (if nn k then [] else Gm.row S k)
  rw [Int.toNat_natCast] at m1 m3
  have hg : gets f (if nn k then 60 else 0) (if nn k then [] else Gm.row S k) = !nn k := by
    cases hn : nn k with
    | true => simp [gets]
    | false =>
      simp only [Bool.false_eq_true, if_false, Bool.not_false]
      unfold gets fitsL
      have h1 : (Gm.row S k).length = size := hw k hk
      rw [h1, decide_eq_true (show size ≤ 65536 by omega)]
      by_cases h0 : f.shards.length = 0
      · simp [h0]
      · have h2 := h.rows 0 (by omega)
        have h3 := h.which (t := 0) (by rw [← h.lens]; omega)
        have h4 : (f.shards.getD 0 []).length = size := by
          show (Gm.row f.shards 0).length = size
          rw [h2]
          exact hw _ (by omega)
        rw [h4]
        simp
  rw [hg] at m1 m2 m3
  refine ⟨⟨right_told h.r _ _ _, by rw [toldF_marks_length]; exact h.len, by rw [toldF_need]; exact h.need, fun j hj hne => ?_, fun t ht => ?_⟩, hc⟩
  · rw [m1] at hne ⊢
    by_cases e : k = j
    · subst e
      rw [get_set_eq hkm]
      cases nn k <;> rfl
    · rw [get_set_ne e] at hne ⊢
      exact h.marks j hj hne
  · rw [m2, m3] at *
    cases hn : nn k with
    | true =>
      rw [hn] at ht
      simp at ht ⊢
      exact h.rows t ht
    | false =>
      rw [hn] at ht
      simp only [Bool.not_false, if_true] at ht ⊢
      rw [List.length_append] at ht
      simp only [List.length_singleton] at ht
      by_cases e : t < f.shards.length
      · rw [get_append_lt (by rw [← h.lens]; exact e)]
        have h1 := h.rows t e
        unfold Gm.row at h1 ⊢
        rw [List.getD_eq_getElem?_getD, List.getElem?_append_left e, ← List.getD_eq_getElem?_getD]
        exact h1
      · have e2 : t = f.which.length := by rw [← h.lens]; omega
        subst e2
        rw [get_append_last, Int.toNat_natCast]
        unfold Gm.row
        rw [List.getD_eq_getElem?_getD, List.getElem?_append_right (by rw [h.lens]; exact Nat.le_refl _), h.lens]
        simp
/-- How it ends. -/
theorem Asks.ends {nn : Nat → Bool} {S : Gm.L} {n K size : Nat} {f : F} (h : Asks nn S n K size f) (hp : f.phase ≠ 1) (hkn : K ≤ n) : ((upto (hz nn n) 1 n).length < K → f.phase = 3) ∧ (¬ (upto (hz nn n) 1 n).length < K → f.phase = 2 ∧ f.which.length = K) := by
  have hl := h.len
  have c1 : cnt f.marks 1 ≤ (upto (hz nn n) 1 n).length := by
    unfold cnt ofL
    rw [hl]
    refine upto_le_of (fun j hj e => ?_)
    rw [hz_get hj, ← h.marks j hj (by rw [e]; decide)]
    exact e
  have c2 : cnt f.marks 2 ≤ (upto (hz nn n) 2 n).length := by
    unfold cnt ofL
    rw [hl]
    refine upto_le_of (fun j hj e => ?_)
    rw [hz_get hj, ← h.marks j hj (by rw [e]; decide)]
    exact e
  have hs := hz_sum nn n n (Nat.le_refl _)
  have hne := h.need
  have h1 := h.r.2.2.2.2.2
  have hw := which_len h.r
  unfold phaseOk at h1
  omega
theorem asks_begin (nn : Nat → Bool) (S : Gm.L) {n K : Nat} (size : Nat) (h1 : 1 ≤ K) (h2 : K ≤ n) (h3 : n ≤ 255) : Asks nn S n K size (beginF 1 1 (n : Int) (K : Int)) ∧ beginE 1 1 (n : Int) (K : Int) = 0 ∧ cnt (beginF 1 1 (n : Int) (K : Int)).marks 0 = n := by
  have hn : named 1 1 (n : Int) (K : Int) := by unfold named; omega
  have hr := begun_right hn
  have he : beginF 1 1 (n : Int) (K : Int) = ⟨1, 1, (K : Int), 1, List.replicate n 0, [], []⟩ := by
    unfold beginF
    rw [if_pos hn, Int.toNat_natCast]
  have hg : ∀ j, j < n → get (List.replicate n (0 : Int)) j = 0 := fun j hj => by rw [get_of_lt (by rw [List.length_replicate]; exact hj)]; simp
  refine ⟨⟨hr, by rw [he]; simp, by rw [he], fun j hj hne => ?_, fun t ht => ?_⟩, if_pos hn, ?_⟩
  · rw [he] at hne
    exact absurd (hg j hj) hne
  · rw [he] at ht
    cases ht
  · rw [he]
    have zero : ∀ k, k ≤ n → (upto (List.replicate n (0 : Int)) 0 k).length = k := fun k => by
      induction k with
      | zero => intro _; rfl
      | succ k ih =>
        intro hk
        rw [upto_succ, if_pos (hg k (by omega)), List.length_append, ih (by omega)]
        rfl
    show (upto (List.replicate n (0 : Int)) 0 (List.replicate n (0 : Int)).length).length = n
    rw [List.length_replicate]
    exact zero n (Nat.le_refl _)
end Finds
