/- The contract of the laws' made: a code, and a stripe of bytes. -/
import Derived.Test.YtfpcldkfmcnjkaaCodeSplit
namespace Go.Proofs.Ytfpcldkfmcnjkaa
open Go.RowKit

theorem run_make_u8 (W : World) (c : Nat) (hc : c ≤ 255) : (Instr.makeSlice 22 (.int .u8 (c : Int)) (.int .u8 (c : Int))).run Try.prog W = .ok (.slice (some ⟨W.heap.size, 0, none⟩) c c) (W.alloc (.cells (made c (.int .u8 0)) 5)) := by
  obtain ⟨i, hi, hz, h1, h2⟩ := info_parts u8_info
  have h := run_make (P := Try.prog) W 22 5 i _ Try.underlying22 hi hz .u8 .u8 (c : Int) (c : Int) (by omega) (Int.le_refl _) (by rw [h2]; omega) (by omega)
  rw [h1] at h
  simpa [made, Value.cells] using h
/-- A code and a stripe are handed back. -/
def GivesMade (k n size : Nat) (l : List UInt8) (w : World) (e : Ending) (w' : World) : Prop := ∃ b fb A c, e = .returned (.tuple #[cptr b, .slice A k c, .bool true]) ∧ Cd w' b fb k n ∧ FieldAt w' fb ∧ Mx w' A k c (stripeAt l k size 0) ∧ Ext w w'
set_option maxRecDepth 100000 in
set_option maxHeartbeats 4000000 in
theorem made_law (w : World) (x y v : UInt8) (A : Option Addr) (q c : Nat) (l : List UInt8) (hl : Bs w A q c l) :
    Calls Try.prog 11 #[.int .u8 (x.toNat : Int), .int .u8 (y.toNat : Int), .int .u8 (v.toNat : Int), .slice A q c] w (GivesMade (1 + x.toNat % 8) (1 + x.toNat % 8 + y.toNat % 9) (v.toNat % 21) l w) := by
  obtain ⟨i0, hi0, hz0, hz1, hz2⟩ := info_parts bytes_info
  obtain ⟨k8, hk8⟩ : ∃ k8, x.toNat % 8 = k8 := ⟨_, rfl⟩
  obtain ⟨m9, hm9⟩ : ∃ m9, y.toNat % 9 = m9 := ⟨_, rfl⟩
  obtain ⟨size, hsz⟩ : ∃ s, v.toNat % 21 = s := ⟨_, rfl⟩
  obtain ⟨k, hk⟩ : ∃ k, 1 + k8 = k := ⟨_, rfl⟩
  obtain ⟨n, hn⟩ : ∃ n, k + m9 = n := ⟨_, rfl⟩
  rw [hk8, hm9, hsz, hk, hn]
  have e1 : (x.toNat : Int) % 8 = (k8 : Int) := by omega
  have e2 : (y.toNat : Int) % 9 = (m9 : Int) := by omega
  have e3 : (v.toNat : Int) % 21 = (size : Int) := by omega
  have e4 : 1 + (k8 : Int) = (k : Int) := by omega
  have e5 : (k : Int) + (m9 : Int) = (n : Int) := by omega
  have b1 : k8 ≤ 7 := by omega
  have b2 : m9 ≤ 8 := by omega
  have b3 : size ≤ 20 := by omega
  have b4 : 1 ≤ k ∧ k ≤ 8 ∧ k ≤ n ∧ n ≤ 16 := by omega
  obtain ⟨b4, b5, b6, b7⟩ := b4
  have h2 : size ≤ 65536 := by omega
  have l1 := x.toNat_lt
  have l2 := y.toNat_lt
  have l3 := v.toNat_lt
  have hmk := fun W => run_make_u8 W size (by omega)
  have HNEW := Lib.hid (fun W fb (hf : FieldAt W fb) => codeNew_ok fb W k n hf b4 b6 (by omega))
  have q1 := hl.max
  have q2 := hl.le
  have LL := Lib.hid hl.len
  have HL0 := Lib.hid hl
  have HML := Lib.hid (stripeAt_length l k size 0)
  have HMR := Lib.hid (fun i (hi : i < k) => row_stripeAt (l := l) (k := k) (size := size) (a := 0) hi)
  clear hl hk8 hm9 hsz hk hn
  obtain ⟨M, hM⟩ : ∃ M, stripeAt l k size 0 = M := ⟨_, rfl⟩
  rw [hM] at HML HMR
  have HME := Lib.hid hM
  clear hM
  go_enter Try.func11, Try.ntmps11
  try dsimp only [List.append]
  go_wp2_with (fail)
  refine (new_any _).mono ?_
  rintro e w1 ⟨rfl, hf, y1⟩
  generalize hb : w.heap.size = fb at *
  have Hb := Lib.hid hb
  clear hb
  go_wp2_with (fail)
  refine (HNEW.out _ fb hf).mono ?_
  rintro e wo ⟨b, rfl, hC, y2⟩
  have HX := Lib.hid (y1.trans y2)
  have HL := Lib.hid (HL0.out.ext (y1.trans y2))
  have HC := Lib.hid hC
  have HF := Lib.hid (hf.ext y2)
  obtain ⟨NB, hNB⟩ : ∃ NB, wo.heap.size = NB := ⟨_, rfl⟩
  have HNB := Lib.hid hNB
  have hsb0 : NB ≤ wo.heap.size := by omega
  clear hNB hC hf y1 y2 HL0 HNEW
  go_wp2_with (fail)
  go_loopw [14, 15, 16, 17] (fun v s _ _ wr => ∃ (i : Nat) (cs' : List Value), i ≤ k ∧ s = .int .i64 (i : Int) ∧ Mq wr NB (Hot NB v) v i cs' (M.take i) ∧ Ext wo wr ∧ NB ≤ wr.heap.size) (fun _ s _ _ _ => k - (intOf s).toNat)
  case atStart => exact ⟨0, [], by omega, rfl, by rw [List.take_zero]; exact Mq.nil _ _ _, Ext.refl wo, hsb0⟩
  case round =>
    obtain ⟨i, cs', hi, rfl, hQ, hxi, hsi⟩ := hrel
    clear hsb0
    by_cases hik : i < k
    · have r2 : (i : Int) < k := by omega
      have HQ := Lib.hid hQ
      have hm1 : i * size ≤ 8 * 20 := Nat.mul_le_mul (by omega) b3
      obtain ⟨p, hp⟩ : ∃ p, i * size = p := ⟨_, rfl⟩
      have hp2 : (i : Int) * (size : Int) = (p : Int) := by rw [← hp]; simp
      have hrow := HMR.out i hik
      rw [Nat.zero_add] at hrow
      rw [hp] at hrow
      have hsr := take_row (m := M) (j := i) (by rw [HML.out]; exact hik)
      rw [hrow] at hsr
      have hsl := shardAt_length l size p
      have HSR := Lib.hid hsr
      have HSL := Lib.hid hsl
      clear hQ hrow hsr hsl hp
      by_cases hzp : p < q
      · have r3 : (p : Int) < q := by omega
        obtain ⟨bb, oo, rfl, hcc⟩ := (HL.out.ext hxi).rd.2 (by omega)
        have hsrc : ∀ (j : Nat) (u : Value), (bcells ((l.drop p).take size))[j]? = some u → wr.cell? ⟨bb, oo + p + j, none⟩ = some u := fun j u hu => by
          rw [Nat.add_assoc]
          refine hcc _ u ?_
          have hj := (List.getElem?_eq_some_iff.1 hu).1
          rw [bcells_length, List.length_take, List.length_drop] at hj
          rw [← hu]
          simp only [bcells, List.getElem?_map, List.getElem?_take, List.getElem?_drop]
          rw [if_pos (by omega)]
        have hcl : (bcells ((l.drop p).take size)).length = Nat.min (q - p) size := by
          rw [bcells_length, List.length_take, List.length_drop, LL.out]
          exact Nat.min_comm _ _
        have hspl := splice_zeros l size p
        obtain ⟨X, hX⟩ : ∃ X, bcells ((l.drop p).take size) = X := ⟨_, rfl⟩
        have hX1 : ∀ u ∈ X, u.oneCell' = true := by rw [← hX]; exact bcells_one _
        rw [hX] at hsrc hcl hspl
        have HSRC := Lib.hid (fun (W : World) (hW : Ext wr W) (j : Nat) (u : Value) (hu : X[j]? = some u) => hW.cell (hsrc j u hu))
        have HCL := Lib.hid hcl
        have HSPL := Lib.hid hspl
        have HX1 := Lib.hid hX1
        have hmd : made size (Value.int .u8 0) = (List.replicate size (Value.int .u8 0)).toArray := by rw [← made_toList]
        have HBK := Lib.hid (heap_alloc_new wr (.cells (made size (.int .u8 0)) 5))
        rw [hmd] at HBK
        have HMD := Lib.hid hmd
        generalize shardAt l size p = R at *
        clear hsrc hcl hspl hX hX1 hcc hmd
        go_wp2_with (first
          | (with_reducible refine wpList_copy_splice rfl (.tmp 52) (.tmp 55) 22 22 rfl 5 Try.underlying22 (by kernel_rfl) (some ⟨wr.heap.size, 0, none⟩) (some ⟨bb, oo + p, none⟩) size size (q - p) (c - p) rfl rfl wr.heap.size 0 (List.replicate size (.int .u8 0)) 5 (by rw [HMD.out]; exact HBK.out) X HCL.out (fun _ => ⟨rfl, ⟨bb, oo + p, none⟩, rfl, fun j u hu => by rw [addr_add]; exact HSRC.out _ (Ext.alloc _ _) j u hu⟩) (by rw [HCL.out, List.length_replicate, Nat.zero_add]; exact Nat.min_le_right _ _) HX1.out wr.heap.size wr (Ext.alloc _ _) (Nat.le_refl _) ?_
             intro w2 HG2 hB2
             have HB2 := Lib.hid (show Ext wr w2 from hB2)
             have HO4 := Lib.hid (ownsRow_ext (ownsRow_ext HQ.out.own hB2) (Ext.alloc w2 (.cells #[.slice (some ⟨wr.heap.size, 0, none⟩) size size] 22)))
             have hs2 := hB2.size
             clear hB2)
          | (at_builtin; refine wpList_append_rd _ rfl (.tmp 57) (.tmp 59) 28 rfl NB 22 i0 _ 1 24 Try.underlying28 hi0 hz0 hz1 hz2 rfl (by omega) u14 i cs' rfl HO4.out (some ⟨w2.heap.size, 0, none⟩) 1 1 [.slice (some ⟨wr.heap.size, 0, none⟩) size size] rfl (Rd.lit w2 #[.slice (some ⟨wr.heap.size, 0, none⟩) size size] _) (by simp [Value.oneCell']) (by omega) (by unfold maxLen; omega) (by simp; omega) ?_; intro v5 w5 hown hgr hat))
        all_goals
          have hro : w2.ownsRow wr.heap.size 5 1 (.slice (some ⟨wr.heap.size, 0, none⟩) R.length size) R.length (bcells R) := by
            have h := own_of_block HG2.out (r := R) (by rw [List.toList_toArray]; exact HSPL.out) (Nat.le_refl _) (by rw [HSL.out]; exact h2)
            rw [HSL.out] at h ⊢
            exact h
          have hsn2 := HQ.out.snoc HB2.out (r := R) hro (Nat.le_refl _) hsi (Ext.alloc w2 (.cells #[.slice (some ⟨wr.heap.size, 0, none⟩) size size] 22)) (by rw [HSL.out]; exact hown) hgr hat
          rw [HSL.out] at hsn2
          have hne : ∀ q, u14.ownBlock = some q → NB ≤ q := own_row HQ.out.own
          refine ⟨⟨i + 1, cs' ++ [.slice (some ⟨wr.heap.size, 0, none⟩) size size], by omega, by go_num, ?_, ?_, ?_⟩, by simp [intOf]; omega⟩
          · rw [HSR.out]; exact hsn2
          · exact ((hxi.trans HB2.out).thenAlloc _).ofGrown hgr (fun q hq => by have := hne q hq; have := HNB.out; omega)
          · have := hgr.size; simp at this; omega
      · have r3 : ¬ (p : Int) < q := by omega
        have hR : shardAt l size p = List.replicate size 0 := by
          unfold shardAt
          rw [List.drop_eq_nil_of_le (by rw [LL.out]; omega)]
          simp
        have HR := Lib.hid hR
        generalize shardAt l size p = R at *
        have hro := ownsRow_shard wr size h2 (Nat.le_refl _)
        rw [← hR] at hro
        have HRO := Lib.hid hro
        have HO4 := Lib.hid (ownsRow_ext (ownsRow_ext HQ.out.own (Ext.alloc wr (.cells (made size (.int .u8 0)) 5))) (Ext.alloc _ (.cells #[.slice (some ⟨wr.heap.size, 0, none⟩) size size] 22)))
        clear hR hro
        go_wp2_with (at_builtin; refine wpList_append_rd _ rfl (.tmp 57) (.tmp 59) 28 rfl NB 22 i0 _ 1 24 Try.underlying28 hi0 hz0 hz1 hz2 rfl (by omega) u14 i cs' rfl HO4.out (some ⟨wr.heap.size + 1, 0, none⟩) 1 1 [.slice (some ⟨wr.heap.size, 0, none⟩) size size] rfl (rd_lit_at _ (by simp) #[.slice (some ⟨wr.heap.size, 0, none⟩) size size] _) (by simp [Value.oneCell']) (by omega) (by unfold maxLen; omega) (by simp; omega) ?_; intro v5 w5 hown hgr hat)
        have hsn2 := HQ.out.snoc (Ext.alloc wr (.cells (made size (.int .u8 0)) 5)) (r := R) (A := some ⟨wr.heap.size, 0, none⟩) (c := size) (by rw [HSL.out]; exact HRO.out) (Nat.le_refl _) hsi (Ext.alloc _ (.cells #[.slice (some ⟨wr.heap.size, 0, none⟩) size size] 22)) (by rw [HSL.out]; exact hown) hgr hat
        rw [HSL.out] at hsn2
        have hne : ∀ q, u14.ownBlock = some q → NB ≤ q := own_row HQ.out.own
        refine ⟨⟨i + 1, cs' ++ [.slice (some ⟨wr.heap.size, 0, none⟩) size size], by omega, by go_num, ?_, ?_, ?_⟩, by simp [intOf]; omega⟩
        · rw [HSR.out]; exact hsn2
        · exact ((hxi.thenAlloc _).thenAlloc _).ofGrown hgr (fun q hq => by have := hne q hq; have := HNB.out; omega)
        · have := hgr.size; simp at this; omega
    · have r2 : ¬ (i : Int) < k := by omega
      obtain rfl : k = i := by omega
      rw [List.take_of_length_le (by rw [HML.out]; exact Nat.le_refl _)] at hQ
      obtain ⟨A1, c1', rfl, hmx⟩ := hQ.mx
      have HMX := Lib.hid hmx
      clear hQ hmx
      go_wp2_with (fail)
      go_ret3
      exact ⟨b, fb, A1, c1', rfl, HC.out.ext hxi, HF.out.ext hxi, by rw [HME.out]; exact HMX.out, HX.out.trans hxi⟩
end Go.Proofs.Ytfpcldkfmcnjkaa
