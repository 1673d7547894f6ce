/- Several texts in one: The contracts of the document's Even and times (chapter 04). The contracts of the document's Encode (chapter 04). The contract of the document's Pick. -/
import Derived.Test.YtfpglkacjecoeaaGreatCt9
import Derived.Test.YtfpglkacjecoeaaGreatCt25
import Derived.Test.YtfpglkacjecoeaaGreatCt15
import Derived.Deep.DrawnRows
import Derived.Test.YtfpglkacjecoeaaGreatCt26
import Derived.Test.YtfpglkacjecoeaaGreatCt21
import Derived.Test.YtfpglkacjecoeaaGreatCt17
namespace Go.Proofs.YtfpglkacjecoeaaGreat
open Go.RowKit
attribute [local go_sem ↓] Go.wp_at_zero Go.wp_at_succ

set_option maxRecDepth 100000 in
set_option maxHeartbeats 1000000 in
theorem ref4Even_any (w : World) (A : Option Addr) (m c : Nat) (s : Gm.L) (n : Nat) (hm : Mx w A m c s) :
    Calls Tryz.prog 66 #[.slice A m c, .int .i64 (n : Int)] w fun e w' => e = .returned (.bool (decide (Gm.even s n))) ∧ Ext w w' := by
  have hmax := hm.max
  have hle := hm.le
  have L := Lib.hid hm.len
  by_cases h1 : m = n
  · subst h1
    have e1 : ((m : Int) != (m : Int)) = false := by simp
    by_cases h2 : 0 < m
    · have g2 : ¬ (m : Int) < 1 := by omega
      have q0 : (0 : Int) < m := by omega
      obtain ⟨b, off, A0, n0, c0, rfl, hc0, hb0⟩ := hm.at_ h2
      rw [Nat.add_zero] at hc0
      have HRI := Lib.hid (even_iff L.out h2 hb0.len)
      have HM := Lib.hid hm
      have hm0 := hb0.max
      have hl0 := hb0.le
      clear hb0 hm
      by_cases h4 : n0 ≤ 65536
      · have g4 : ¬ (65536 : Int) < n0 := by omega
        go_enter Tryz.func66, Tryz.ntmps66
        go_wp2_with (fail)
        go_loopw [5] (fun t wr => ∃ k : Nat, 1 ≤ k ∧ k ≤ m ∧ t = .int .i64 (k : Int) ∧ Ext w wr ∧ RowKit.Hid (∀ i, i < k → (Gm.row s i).length = n0)) (fun t _ => m - (intOf t).toNat)
        case atStart => exact ⟨1, by omega, by omega, rfl, Ext.refl w, Lib.hid fun i hi => by
          obtain rfl : i = 0 := by omega
          obtain ⟨b', off', A', n', c', e1, e2, e3⟩ := HM.out.at_ h2
          injection e1 with e1
          injection e1 with e1 e4
          subst e1 e4
          rw [Nat.add_zero, hc0] at e2
          injection e2 with e2
          injection e2 with _ e2 _
          rw [e2]
          exact e3.len⟩
        case round =>
          obtain ⟨k, hk1, hk, rfl, hx, H⟩ := hrel
          by_cases hlt : k < m
          · have i1 : (k : Int) < m := by omega
            obtain ⟨bm, om, Ai, ni, ci, e1, hce, hbi⟩ := (HM.out.ext hx).at_ hlt
            injection e1 with e1
            injection e1 with e1 e4
            subst e1 e4
            have hni := Lib.hid hbi.len
            have hmi := hbi.max
            have hli := hbi.le
            have hc1 := hx.cell hc0
            clear hbi
            by_cases hs : ni = n0
            · have i2 : ((ni : Int) != n0) = false := by simp [hs]
              go_wp2_with (fail)
              go_region
              all_goals
                go_wp2_with (fail)
                refine ⟨⟨k + 1, by omega, by omega, by go_num, hx.thenDrew, Lib.hid fun i hi => ?_⟩, by simp [intOf]; omega⟩
                by_cases e : i = k
                · rw [e, hni.out]; exact hs
                · exact H.out i (by omega)
            · have i2 : ((ni : Int) != n0) = true := by simp; omega
              go_wp2_with (fail)
              go_region
              all_goals
                go_wp2_with (fail)
                go_ret
                refine ⟨ret_bool ?_, hx.thenDrew⟩
                rw [eq_comm, decide_eq_false_iff_not, HRI.out]
                exact fun q => q.2 ⟨k, hlt, by rw [hni.out, bne_iff_ne]; exact hs⟩
          · have i1 : ¬ (k : Int) < m := by omega
            obtain rfl : m = k := by omega
            go_wp2_with (fail)
            go_ret
            refine ⟨ret_bool ?_, hx⟩
            rw [eq_comm, decide_eq_true_eq, HRI.out]
            refine ⟨h4, ?_⟩
            rintro ⟨i, hi, e⟩
            rw [H.out i hi] at e
            simp at e
      · have g4 : (65536 : Int) < n0 := by omega
        go_enter Tryz.func66, Tryz.ntmps66
        go_wp2_with (fail)
        go_ret
        refine ⟨ret_bool ?_, Ext.refl w⟩
        rw [eq_comm, decide_eq_false_iff_not, HRI.out]
        exact fun h => h4 h.1
    · obtain rfl : m = 0 := by omega
      clear hm
      go_enter Tryz.func66, Tryz.ntmps66
      go_wp2_with (fail)
      go_ret
      refine ⟨ret_bool ?_, Ext.refl w⟩
      rw [eq_comm, decide_eq_false_iff_not]
      exact fun h => absurd h.2.1 (Nat.lt_irrefl _)
  · have e1 : ((m : Int) != (n : Int)) = true := by rw [bne_iff_ne]; omega
    clear hm
    go_enter Tryz.func66, Tryz.ntmps66
    go_wp2_with (fail)
    go_ret
    refine ⟨ret_bool ?_, Ext.refl w⟩
    rw [eq_comm, decide_eq_false_iff_not]
    exact fun h => h1 (by rw [← L.out]; exact h.1)
theorem ownsRow_empty (w : World) (t : TypeId) : (w.alloc (.cells #[] t)).ownsRow w.heap.size t 1 (.slice (some ⟨w.heap.size, 0, none⟩) 0 0) 0 (bcells []) :=
  ⟨rfl, .inr ⟨w.heap.size, 0, #[], rfl, Nat.le_refl _, heap_alloc_new w _, Nat.le_refl _, by unfold maxLen; omega, rfl, rfl⟩⟩
theorem take_getT {l : List UInt8} {j : Nat} (h : j < l.length) : l.take (j + 1) = l.take j ++ [Gf.get l j] := by
  rw [List.take_succ_eq_append_getElem h, Gf.get_of_lt h]
theorem take_rowT {m : Gm.L} {j : Nat} (h : j < m.length) : m.take (j + 1) = m.take j ++ [Gm.row m j] := by
  rw [List.take_succ_eq_append_getElem h, Gm.row_of_lt h]
set_option maxRecDepth 100000 in
set_option maxHeartbeats 4000000 in
theorem ref4Times_any (w : World) (A B : Option Addr) (n ca n0 cb : Nat) (a b : Gm.L) (ha : Mx w A n ca a) (hb : Mx w B n0 cb b) (hn : n ≤ 1000) (hk1 : 0 < n0) (hk2 : n0 ≤ 1000) (hwa : ∀ i, i < n → (Gm.row a i).length = n0) (hwb : ∀ i, i < n0 → (Gm.row b i).length = Gm.cols b) (hL : Gm.cols b ≤ 65536) :
    Calls Tryz.prog 69 #[.slice A n ca, .slice B n0 cb] w (GivesQ (Gm.mulL a b) w) := by
  obtain ⟨i0, hi0, hz0, hz1, hz2⟩ := info_parts bytes_info
  obtain ⟨j1, hj1, hy0, hy1, hy2⟩ := info_parts u8_info
  have q1 := ha.max
  have q2 := ha.le
  have q3 := hb.max
  have q4 := hb.le
  obtain ⟨bb, ob, B0, p, d0, rfl, hd0, hp0⟩ := hb.at_ hk1
  rw [Nat.add_zero] at hd0
  have hcp : Gm.cols b = p := hp0.len
  rw [hcp] at hwb hL
  have hp2 : p ≤ 65536 := hL
  have hml : (Gm.mulL a b).length = n := by rw [(Gm.mulL_rect a b).len, ha.len]
  have hmw : ∀ i, i < n → (Gm.row (Gm.mulL a b) i).length = p := fun i hi => ((Gm.mulL_rect a b).wid i (by rw [ha.len]; exact hi)).trans hcp
  have hma : ∀ i, i < n → ∀ j, j < p → Gf.get (Gm.row (Gm.mulL a b) i) j = Gm.sum (fun t => Gf.mul (Gf.get (Gm.row a i) t) (Gf.get (Gm.row b t) j)) n0 := fun i hi j hj => by
    have := Gm.at_mulL (a := a) (b := b) (i := i) (j := j) (by rw [ha.len]; exact hi) (by rw [hcp]; exact hj)
    rw [hb.len] at this
    exact this
  have hm9 := hp0.max
  have hl9 := hp0.le
  have HU := Lib.hid hml
  have HMW := Lib.hid hmw
  have HMA := Lib.hid hma
  have HWA := Lib.hid hwa
  have HWB := Lib.hid hwb
  have HA := Lib.hid ha
  have HB := Lib.hid hb
  have HD := Lib.hid hd0
  have g1 : (0 : Int) < n0 := by omega
  obtain ⟨N2, hN2⟩ : ∃ N2, w.heap.size = N2 := ⟨_, rfl⟩
  have HN2 := Lib.hid hN2
  have hsz0 : N2 ≤ w.heap.size := by omega
  have x00 : Ext w w := Ext.refl w
  clear ha hb hd0 hp0 hcp hwa hwb hml hmw hma hN2 hL
  generalize Gm.mulL a b = M at *
  go_enter Tryz.func69, Tryz.ntmps69
  try dsimp only [List.append]
  go_wp2_with (fail)
  go_loopw [5, 6, 7, 8, 9, 10] (fun v s _ _ _ _ wr => ∃ (t : Nat) (cs : List Value), t ≤ n ∧ s = .int .i64 t ∧ Mq wr N2 (Hot N2 v) v t cs (M.take t) ∧ Ext w wr ∧ N2 ≤ wr.heap.size) (fun _ s _ _ _ _ _ => n - (intOf s).toNat)
  case atStart => exact ⟨0, [], by omega, rfl, by rw [List.take_zero]; exact Mq.nil _ _ _, x00, hsz0⟩
  case round =>
    obtain ⟨i, cs, hi, rfl, hQ, hx, hsz⟩ := hrel
    clear hsz0 x00
    by_cases hlt : i < n
    · have r1 : (i : Int) < n := by omega
      obtain ⟨wo, rfl⟩ : ∃ wo : World, wo = wr := ⟨_, rfl⟩
      have hF := HMA.out i hlt
      have hl := HMW.out i hlt
      have hsn := take_rowT (m := M) (j := i) (by rw [HU.out]; exact hlt)
      generalize Gm.row M i = F at *
      have HSN := Lib.hid hsn
      have HF := Lib.hid hF
      have HL := Lib.hid hl
      have HQ := Lib.hid hQ
      have HE0 := Lib.hid (ownsRow_empty wo 5)
      clear hF hl hsn hQ
      go_wp2_with (fail)
      go_loopw [7, 8, 9, 10] (fun v s _ _ wr => ∃ j : Nat, j ≤ p ∧ s = .int .i64 j ∧ wr.ownsRow wo.heap.size 5 1 v j (bcells (F.take j)) ∧ Ext wo wr) (fun _ s _ _ _ => p - (intOf s).toNat)
      case atStart => exact ⟨0, by omega, rfl, by rw [List.take_zero]; exact HE0.out, Ext.alloc wo _⟩
      case round =>
        obtain ⟨j, hj, rfl, hown, hxj⟩ := hrel
        have hdj := (hx.trans hxj).cell HD.out
        by_cases hjc : j < p
        · have r2 : (j : Int) < p := by omega
          have hFj := HF.out j hjc
          have hsn := take_getT (l := F) (j := j) (by rw [HL.out]; exact hjc)
          generalize Gf.get F j = y at *
          have HFJ := Lib.hid hFj
          have HS := Lib.hid hsn
          have HO := Lib.hid hown
          have HB2 := Lib.hid (own_row hown)
          have hsj := hxj.size
          obtain ⟨wj, rfl⟩ : ∃ wj : World, wj = wr := ⟨_, rfl⟩
          clear hFj hsn hown
          go_wp2_with (fail)
          clear hdj
          go_loopw [9, 10] (fun v s wr => ∃ t : Nat, t ≤ n0 ∧ s = .int .i64 t ∧ v = .int .u8 ((Gm.sum (fun t => Gf.mul (Gf.get (Gm.row a i) t) (Gf.get (Gm.row b t) j)) t).toNat : Int) ∧ Ext wj wr) (fun _ s _ => n0 - (intOf s).toNat)
          case atStart => exact ⟨0, by omega, rfl, rfl, Ext.refl wj⟩
          case round =>
            obtain ⟨t, ht, rfl, rfl, hxt⟩ := hrel
            by_cases htn : t < n0
            · have r3 : (t : Int) < n0 := by omega
              have hxx := (hx.trans hxj).trans hxt
              obtain ⟨a1, a2, A3, a4, a5, rfl, ha1, ha2⟩ := (HA.out.ext hxx).at_ hlt
              obtain ⟨b1, b2, B3, b4, b5, e1, hb1, hb2⟩ := (HB.out.ext hxx).at_ htn
              injection e1 with e1
              injection e1 with e1 e2
              subst e1 e2
              obtain rfl : n0 = a4 := by rw [← ha2.len]; exact (HWA.out i hlt).symm
              obtain rfl : p = b4 := by rw [← hb2.len]; exact (HWB.out t htn).symm
              obtain ⟨a6, a7, rfl, ha3⟩ := ha2.rd.byte htn
              obtain ⟨b6, b7, rfl, hb3⟩ := hb2.rd.byte hjc
              have ha8 := ha2.max
              have ha9 := ha2.le
              have hb8 := hb2.max
              have hb9 := hb2.le
              have hmu := fun W => refMul_any W (Gf.get (Gm.row a i) t) (Gf.get (Gm.row b t) j)
              have hsum : bits .xor .u8 ((Gm.sum (fun t => Gf.mul (Gf.get (Gm.row a i) t) (Gf.get (Gm.row b t) j)) t).toNat : Int) ((Gf.mul (Gf.get (Gm.row a i) t) (Gf.get (Gm.row b t) j)).toNat : Int) = ((Gm.sum (fun t => Gf.mul (Gf.get (Gm.row a i) t) (Gf.get (Gm.row b t) j)) (t + 1)).toNat : Int) := by rw [xor_u8]; rfl
              generalize Gm.sum (fun t => Gf.mul (Gf.get (Gm.row a i) t) (Gf.get (Gm.row b t) j)) t = s0 at *
              generalize Gf.mul (Gf.get (Gm.row a i) t) (Gf.get (Gm.row b t) j) = s2 at *
              generalize Gf.get (Gm.row a i) t = s3 at *
              generalize Gf.get (Gm.row b t) j = s4 at *
              have HMU := Lib.hid hmu
              have HSUM := Lib.hid hsum
              clear ha2 hb2 hmu hsum hxx
              go_wp2_with (fail)
              go_quiet ((go_at_call 92; exact Calls.quiet_of_same ((HMU.out _).mono fun _ _ h => ⟨h.1, h.2.symm⟩)))
              go_wp2_with (fail)
              exact ⟨⟨t + 1, by omega, by go_num, congrArg (Value.int .u8) HSUM.out, hxt.trans (Ext.drewN _ _)⟩, by simp [intOf]; omega⟩
            · have r3 : ¬ (t : Int) < n0 := by omega
              obtain rfl : n0 = t := by omega
              rw [← HFJ.out]
              have HO2 := Lib.hid ((ownsRow_ext HO.out hxt).alloc (.cells #[.int .u8 (y.toNat : Int)] 5))
              have hst := hxt.size
              go_wp2_with (at_builtin; refine wpList_append_rd _ rfl (.tmp 49) (.tmp 51) 46 rfl wo.heap.size 5 j1 _ 1 1 Tryz.underlying46 hj1 hy0 hy1 hy2 rfl (by omega) u7 j (bcells (F.take j)) rfl HO2.out (some ⟨wr.heap.size, 0, none⟩) 1 1 [.int .u8 (y.toNat : Int)] rfl (Rd.lit wr #[_] _) (by simp [Value.oneCell']) (by omega) (by unfold maxLen; omega) (by simp; omega) ?_; intro v5 w5 hown hgr hat)
              refine ⟨⟨j + 1, by omega, by go_num, ?_, ((hxj.trans hxt).thenAlloc _).ofGrown hgr HB2.out⟩, by simp [intOf]; omega⟩
              rw [HS.out, bcells_append]
              exact hown
        · have r2 : ¬ (j : Int) < p := by omega
          obtain rfl : p = j := by omega
          rw [List.take_of_length_le (by rw [HL.out]; exact Nat.le_refl _)] at hown
          obtain ⟨A4, c4, rfl, hz4, hz5⟩ := ownsRow_slice hown
          have ow4 := Lib.hid (ownsRow_ext (ownsRow_ext HQ.out.own hxj) (Ext.alloc wr (.cells #[.slice A4 p c4] 46)))
          have OW := Lib.hid hown
          have X4 := Lib.hid hxj
          have hs4 := hxj.size
          clear hown hxj
          go_wp2_with (at_builtin; refine wpList_append_rd _ rfl (.tmp 53) (.tmp 55) 23 rfl N2 46 i0 _ 1 24 Tryz.underlying23 hi0 hz0 hz1 hz2 rfl (by omega) u5 i cs rfl ow4.out (some ⟨wr.heap.size, 0, none⟩) 1 1 [.slice A4 p c4] rfl (Rd.lit _ #[.slice A4 p c4] _) (by simp [Value.oneCell']) (by omega) (by unfold maxLen; omega) (by simp; omega) ?_; intro v5 w5 hown hgr hat)
          have hsn2 := HQ.out.snoc X4.out (r := F) (A := A4) (c := c4) (by rw [HL.out]; exact OW.out) (Nat.le_refl _) hsz (Ext.alloc wr (.cells #[.slice A4 p c4] 46)) (by rw [HL.out]; exact hown) hgr hat
          rw [HL.out] at hsn2
          have hne : ∀ q, u5.ownBlock = some q → N2 ≤ q := own_row HQ.out.own
          refine ⟨⟨i + 1, cs ++ [.slice A4 p c4], by omega, by go_num, ?_, ?_, ?_⟩, by simp [intOf]; omega⟩
          · rw [HSN.out]; exact hsn2
          · exact ((hx.trans X4.out).thenAlloc _).ofGrown hgr (fun q hq => by have := hne q hq; have := HN2.out; omega)
          · have := hgr.size; simp at this; omega
    · have r1 : ¬ (i : Int) < n := by omega
      obtain rfl : n = i := by omega
      rw [List.take_of_length_le (by rw [HU.out]; exact Nat.le_refl _)] at hQ
      go_wp2_with (fail)
      go_ret
      refine ⟨_, cs, rfl, ?_, hx⟩
      rw [HU.out, HN2.out]
      exact hQ
end Go.Proofs.YtfpglkacjecoeaaGreat
namespace Go.Proofs.YtfpglkacjecoeaaGreat
open Go.RowKit
attribute [local go_sem ↓] Go.wp_at_zero Go.wp_at_succ

/-- The world of a method on a code of the document: the code lies in a box. -/
abbrev wbox (w : World) (k n : Nat) (A : Option Addr) (c : Nat) : World := w.alloc (.cells #[.int .i64 (k : Int), .int .i64 (n : Int), .slice A n c] 41)
theorem bd_box (w : World) (k n : Nat) (A : Option Addr) (c : Nat) : Bd (wbox w k n A c) w.heap.size k n (.slice A n c) := ⟨heap_alloc_new _ _⟩
end Go.Proofs.YtfpglkacjecoeaaGreat
namespace Go.Proofs.YtfpglkacjecoeaaGreat
open Go.RowKit

theorem pick_bad_at {m : Gm.L} {n k : Nat} {l : List Int} (hm : m.length = n) (hl : l.length = k) (h : Gm.right m) (t : Nat) (ht : t < k) (hn : noRow n (Il.get l t) = true) : pickM m l = [] ∧ pickE m l = 2 := by
  have hno : ¬ rowsOf m.length l := fun q => by
    have h1 := List.any_eq_false.1 q.2.2 _ (Il.get_mem (l := l) (k := t) (by omega))
    rw [hm] at h1
    exact h1 hn
  unfold pickM pickE
  rw [if_neg (fun q => hno q.2), if_pos h, if_neg hno]
  exact ⟨rfl, rfl⟩
theorem pick_good {m : Gm.L} {n k : Nat} {l : List Int} (hm : m.length = n) (hl : l.length = k) (h : Gm.right m) (h1 : 1 ≤ k) (h2 : k ≤ 255) (hn : ∀ t, t < k → noRow n (Il.get l t) = false) : pickM m l = picked m l ∧ pickE m l = 0 := by
  have hyes : rowsOf m.length l := ⟨by omega, by omega, List.any_eq_false.2 fun x hx => by
    obtain ⟨t, ht, rfl⟩ := List.getElem_of_mem hx
    have := hn t (by omega)
    rw [Il.get_of_lt ht] at this
    rw [hm, this]
    simp⟩
  unfold pickM pickE
  rw [if_pos ⟨h, hyes⟩, if_pos h, if_pos hyes]
  exact ⟨rfl, rfl⟩
theorem pick_few {m : Gm.L} {l : List Int} (h : Gm.right m) (hl : ¬ (1 ≤ l.length ∧ l.length ≤ 255)) : pickM m l = [] ∧ pickE m l = 2 := by
  have hno : ¬ rowsOf m.length l := fun q => hl ⟨q.1, q.2.1⟩
  unfold pickM pickE
  rw [if_neg (fun q => hno q.2), if_pos h, if_neg hno]
  exact ⟨rfl, rfl⟩
set_option maxRecDepth 100000 in
set_option maxHeartbeats 4000000 in
theorem ref3Pick_any (w : World) (A : Option Addr) (n c : Nat) (m : Gm.L) (hm : Mx w A n c m) (B : Option Addr) (k d : Nat) (l : List Int) (hl : Is w B k d l) :
    Calls Tryz.prog 67 #[.slice A n c, .slice B k d] w (GivesQE (pickM m l) (pickE m l) w) := by
  have hR := ref3Right_any w A n c m hm
  have q1 := hl.max
  have q2 := hl.le
  have q3 := hm.max
  have q4 := hm.le
  have L := Lib.hid hl.len
  have LM := Lib.hid hm.len
  by_cases h : Gm.right m
  · rw [decide_eq_true h] at hR
    have HF := Lib.hid (fun (q : ¬ (1 ≤ k ∧ k ≤ 255)) => pick_few h (l := l) (by rw [L.out]; exact q))
    have HB := Lib.hid (fun t => pick_bad_at LM.out L.out h t)
    have HGD := Lib.hid (fun a b => pick_good LM.out L.out h a b)
    have hwid : ∀ i, i < n → (Gm.row m i).length ≤ 255 := fun i hi => by rw [h.2.2.2.2 i (by rw [hm.len]; exact hi)]; exact h.2.2.2.1
    have HWID := Lib.hid hwid
    have HR := Lib.hid hR
    have HM := Lib.hid hm
    have HL := Lib.hid hl
    clear hR h hwid hm hl
    generalize pickM m l = PM at *
    generalize pickE m l = PE at *
    by_cases hk1 : k < 1
    · have g1 : (k : Int) < 1 := by omega
      obtain ⟨rfl, rfl⟩ := HF.out (by omega)
      go_enter Tryz.func67, Tryz.ntmps67
      go_wp2_with (fail)
      refine HR.out.mono ?_
      rintro e w1 ⟨rfl, x1⟩
      go_wp2_with (fail)
      go_ret2
      exact GivesQE.none 2 x1
    · have g1 : ¬ (k : Int) < 1 := by omega
      by_cases hk2 : 255 < k
      · have g2 : (255 : Int) < k := by omega
        obtain ⟨rfl, rfl⟩ := HF.out (by omega)
        go_enter Tryz.func67, Tryz.ntmps67
        go_wp2_with (fail)
        refine HR.out.mono ?_
        rintro e w1 ⟨rfl, x1⟩
        go_wp2_with (fail)
        go_ret2
        exact GivesQE.none 2 x1
      · have g2 : ¬ (255 : Int) < k := by omega
        obtain ⟨i0, hi0, hz0, hz1, hz2⟩ := info_parts bytes_info
        obtain ⟨j1, hj1, hy0, hy1, hy2⟩ := info_parts u8_info
        obtain ⟨N2, hN2⟩ : ∃ N2, w.heap.size = N2 := ⟨_, rfl⟩
        have HN2 := Lib.hid hN2
        clear hN2
        go_enter Tryz.func67, Tryz.ntmps67
        go_wp2_with (fail)
        refine HR.out.mono ?_
        rintro e w1 ⟨rfl, x1⟩
        have hsz0 : N2 ≤ w1.heap.size := by have := x1.size; have := HN2.out; omega
        go_wp2_with (fail)
        go_loopw [6, 7, 8] (fun v s _ wr => ∃ (t : Nat) (cs : List Value), t ≤ k ∧ s = .int .i64 t ∧ Mq wr N2 (Hot N2 v) v t cs (picked m (l.take t)) ∧ Ext w wr ∧ N2 ≤ wr.heap.size ∧ RowKit.Hid (∀ i, i < t → noRow n (Il.get l i) = false)) (fun _ s _ _ => k - (intOf s).toNat)
        case atStart => exact ⟨0, [], by omega, rfl, Mq.nil _ _ _, x1, hsz0, Lib.hid fun i hi => absurd hi (Nat.not_lt_zero _)⟩
        case round =>
          obtain ⟨t, cs, ht, rfl, hQ, hx, hsz, HNR⟩ := hrel
          clear hsz0 x1 HR
          by_cases hlt : t < k
          · have i1 : (t : Int) < k := by omega
            obtain ⟨bl, ol, rfl, hcl⟩ := (HL.out.ext hx).rd.intAt hlt
            have hbad := HB.out t hlt
            obtain ⟨x, hxl⟩ : ∃ x, Il.get l t = x := ⟨_, rfl⟩
            rw [hxl] at hcl hbad
            by_cases hx1 : x < 0
            · obtain ⟨rfl, rfl⟩ := hbad (by unfold noRow; simp; omega)
              go_wp2_with (fail)
              go_ret2
              exact GivesQE.none 2 hx
            · by_cases hx2 : (n : Int) ≤ x
              · obtain ⟨rfl, rfl⟩ := hbad (by unfold noRow; simp; omega)
                go_wp2_with (fail)
                go_ret2
                exact GivesQE.none 2 hx
              · clear hbad
                obtain ⟨i, rfl⟩ := Int.eq_ofNat_of_zero_le (show 0 ≤ x by omega)
                have hin : i < n := by omega
                obtain ⟨bm, om, Ai, ni, ci, rfl, hce, hbi⟩ := (HM.out.ext hx).at_ hin
                have hsn := picked_succ m (l := l) (k := t) (by rw [L.out]; exact hlt)
                rw [hxl, Int.toNat_natCast] at hsn
                have hni := hbi.len
                subst hni
                have hrl := HWID.out i hin
                have hnr2 : ∀ j, j < t + 1 → noRow n (Il.get l j) = false := fun j hj => by
                  by_cases e : j = t
                  · rw [e, hxl]; unfold noRow; simp; omega
                  · exact HNR.out j (by omega)
                have i3 : (i : Int) < n := by omega
                have i4 : ¬ (i : Int) < 0 := by omega
                have i5 : ¬ (n : Int) ≤ i := by omega
                generalize Gm.row m i = r at *
                have HSN := Lib.hid hsn
                have HQ := Lib.hid hQ
                have HBI := Lib.hid hbi
                have HN3 := Lib.hid hnr2
                clear hsn hQ hbi hxl hx1 hx2 hnr2
                go_wp2_with (first
                  | (at_builtin; refine wpList_append_rd _ rfl (.tmp 41) (.tmp 48) 46 rfl wr.heap.size 5 j1 _ 1 1 Tryz.underlying46 hj1 hy0 hy1 hy2 rfl (by omega) (.slice none 0 0) 0 [] rfl (World.ownsRow_nil _ _ _ _) Ai r.length ci (bcells r) rfl HBI.out.rd (bcells_one r) (by omega) (by unfold maxLen; omega) (by omega) ?_; intro v4 w4 hown4 hgr4 hat4; rw [Nat.zero_add, List.nil_append] at hown4; obtain ⟨A4, c4, rfl, hz4, hz5⟩ := ownsRow_slice hown4; have x4 : Ext wr w4 := (Ext.refl wr).ofGrown hgr4 (by simp [Value.ownBlock]); have ow4 := Lib.hid (ownsRow_ext (ownsRow_ext HQ.out.own x4) (Ext.alloc w4 (.cells #[.slice A4 r.length c4] 46))); have X4 := Lib.hid x4; have OW := Lib.hid hown4; have hs4 := x4.size; clear hown4 x4 hgr4 hat4 hz4 hz5)
                  | (at_builtin; refine wpList_append_rd _ rfl (.tmp 40) (.tmp 50) 39 rfl N2 46 i0 _ 1 24 Tryz.underlying39 hi0 hz0 hz1 hz2 rfl (by omega) u6 t cs rfl ow4.out (some ⟨w4.heap.size, 0, none⟩) 1 1 [.slice A4 r.length c4] rfl (Rd.lit _ #[.slice A4 r.length c4] _) (by simp [Value.oneCell']) (by omega) (by unfold maxLen; omega) (by simp; omega) ?_; intro v5 w5 hown hgr hat))
                have hsn2 := HQ.out.snoc X4.out OW.out (Nat.le_refl _) hsz (Ext.alloc w4 (.cells #[.slice A4 r.length c4] 46)) hown hgr hat
                have hne : ∀ q, u6.ownBlock = some q → N2 ≤ q := own_row HQ.out.own
                refine ⟨⟨t + 1, cs ++ [.slice A4 r.length c4], by omega, by go_num, ?_, ?_, ?_, HN3⟩, by simp [intOf]; omega⟩
                · rw [HSN.out]; exact hsn2
                · exact ((hx.trans X4.out).thenAlloc _).ofGrown hgr (fun q hq => by have := hne q hq; have := HN2.out; omega)
                · have := hgr.size; simp at this; omega
          · have i1 : ¬ (t : Int) < k := by omega
            obtain rfl : t = k := by omega
            rw [List.take_of_length_le (by rw [L.out]; exact Nat.le_refl _)] at hQ
            obtain ⟨rfl, rfl⟩ := HGD.out (by omega) (by omega) HNR.out
            go_wp2_with (fail)
            go_ret2
            refine ⟨_, cs, rfl, ?_, hx⟩
            rw [picked_length, L.out, HN2.out]
            exact hQ
  · rw [decide_eq_false h] at hR
    have e1 : pickM m l = [] := by unfold pickM; rw [if_neg (fun q => h q.1)]
    have e2 : pickE m l = 30 := by unfold pickE; rw [if_neg h]
    rw [e1, e2]
    have HR := Lib.hid hR
    clear hR h e1 e2 hm hl
    go_enter Tryz.func67, Tryz.ntmps67
    go_wp2_with (fail)
    refine HR.out.mono ?_
    rintro e w1 ⟨rfl, x1⟩
    go_wp2_with (fail)
    go_ret2
    exact GivesQE.none 30 x1
end Go.Proofs.YtfpglkacjecoeaaGreat
