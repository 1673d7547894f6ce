/- Several texts in one: The contract of the document's Data (find). The contract of CopyInts. The contract of CopyLists. -/
import Derived.Test.YtfpglkacjecoeaaGreatCt29
import Derived.Test.YtfpglkacjecoeaaGreatCt21
import Derived.Test.YtfpglkacjecoeaaGreatCt33
import Derived.Test.YtfpglkacjecoeaaGreatCt3
import Derived.Test.YtfpglkacjecoeaaGreatCt15
namespace Go.Proofs.YtfpglkacjecoeaaGreat
open Go.RowKit

set_option maxRecDepth 100000 in
set_option maxHeartbeats 4000000 in
theorem refData13_any (w : World) (K N : Nat) (A0 : Option Addr) (c0 : Nat) (hA : Mx w A0 N c0 (Gm.gen K N)) (h1 : 1 ≤ K) (h2 : K ≤ N) (h3 : N ≤ 255) (f : Finds.F) (A : Option Addr) (n c : Nat) (B : Option Addr) (m d : Nat) (C : Option Addr) (k e : Nat) (h : Fd w f A n c B m d C k e) :
    Calls Tryz.prog 27 #[cval K N A0 N c0, fval f.stripe f.version f.need f.phase (.slice A n c) (.slice B m d) (.slice C k e)] w (GivesME (dataM f K N (decM K N f.which f.shards)) (dataE f K N (decE K N f.which f.shards)) w) := by
  have q1 := h.u.max
  have q2 := h.u.le
  have q3 := h.v.max
  have q4 := h.v.le
  have q5 := h.s.max
  have q6 := h.s.le
  have q7 := hA.max
  have q8 := hA.le
  have LN := Lib.hid h.u.len
  obtain ⟨M, hM⟩ : ∃ M, decM K N f.which f.shards = M := ⟨_, rfl⟩
  obtain ⟨E, hE⟩ : ∃ E, decE K N f.which f.shards = E := ⟨_, rfl⟩
  have hdec := fun (W : World) (hW : Ext w W) => ref4Decode_any W K N A0 c0 (hA.ext hW) h1 h2 h3 B m d f.which (h.v.ext hW) C k e f.shards (h.s.ext hW)
  rw [hM, hE] at hdec ⊢
  have HD := Lib.hid hdec
  obtain ⟨g, hg⟩ : ∃ g, w.heap.size = g := ⟨_, rfl⟩
  have xC := Ext.alloc w (.cells #[.int .i64 (K : Int), .int .i64 (N : Int), .slice A0 N c0] 41)
  have bC : (w.alloc (.cells #[.int .i64 (K : Int), .int .i64 (N : Int), .slice A0 N c0] 41)).heap[g]? = some (.cells #[.int .i64 (K : Int), .int .i64 (N : Int), .slice A0 N c0] 41 (0, 0)) := by rw [← hg]; exact heap_alloc_new _ _
  obtain ⟨W1, hW1⟩ : ∃ W1, w.alloc (.cells #[.int .i64 (K : Int), .int .i64 (N : Int), .slice A0 N c0] 41) = W1 := ⟨_, rfl⟩
  have z1 : W1.heap.size = g + 1 := by rw [← hW1, ← hg]; simp
  rw [hW1] at xC bC
  have s1 := Fb.new W1 f.stripe f.version f.need f.phase (.slice A n c) (.slice B m d) (.slice C k e) z1
  have xA := Ext.alloc W1 (.cells #[.int .i64 f.stripe, .int .i64 f.version, .int .i64 f.need, .int .i64 f.phase, .slice A n c, .slice B m d, .slice C k e] 25)
  obtain ⟨W2, hW2⟩ : ∃ W2, W1.alloc (.cells #[.int .i64 f.stripe, .int .i64 f.version, .int .i64 f.need, .int .i64 f.phase, .slice A n c, .slice B m d, .slice C k e] 25) = W2 := ⟨_, rfl⟩
  rw [hW2] at s1 xA
  have hbd : Bd W2 g K N (.slice A0 N c0) := (⟨bC⟩ : Bd W1 g K N (.slice A0 N c0)).ext xA
  have XA := Lib.hid (xC.trans xA)
  have HR := Lib.hid (refRight13_any W2 f A n c B m d C k e (h.ext (xC.trans xA)))
  have SB := Lib.hid s1
  have BD := Lib.hid hbd
  have HW1 := Lib.hid hW1
  have HW2 := Lib.hid hW2
  clear h xA xC s1 hbd bC hA hdec hM hE hW1 hW2 z1
  go_enter Tryz.func27, Tryz.ntmps27
  try dsimp only [List.append]
  go_upto_region 1 with (fail)
  rw [HW1.out, HW2.out]
  try rw [hg]
  clear hg HW1 HW2
  have k0 := SB.out.c0
  have k1 := SB.out.c1
  have k2 := SB.out.c2
  have k3 := SB.out.c3
  have k4 := SB.out.c4
  have k5 := SB.out.c5
  have k6 := SB.out.c6
  go_wp2_with (fail)
  refine HR.out.mono ?_
  rintro r w1 ⟨rfl, x1⟩
  have X1 := Lib.hid (XA.out.trans x1)
  have s1 := SB.out.ext x1
  have b1 := BD.out.ext x1
  clear k0 k1 k2 k3 k4 k5 k6
  have k2 := s1.c2
  have k3 := s1.c3
  have k4 := s1.c4
  have k5 := s1.c5
  have k6 := s1.c6
  have d0 := b1.c0
  have d1 := b1.c1
  have d2 := b1.c2
  clear x1 s1 b1
  by_cases hr : Finds.right f
  · rw [decide_eq_true hr]
    by_cases hp : f.phase = 2
    · have e1 : (f.phase != 2) = false := by rw [bne_eq_false_iff_eq]; exact hp
      by_cases hk : (K : Int) = f.need
      · have e2 : ((K : Int) != f.need) = false := by rw [bne_eq_false_iff_eq]; exact hk
        by_cases hnn : N = n
        · have e3 : ((N : Int) != (n : Int)) = false := by rw [bne_eq_false_iff_eq]; omega
          have e3n : (N != n) = false := by rw [bne_eq_false_iff_eq]; exact hnn
          have HM := Lib.hid (show dataM f K N M = M from if_pos ⟨hr, hp, hk, by rw [LN.out]; omega⟩)
          have HE := Lib.hid (show dataE f K N E = E by unfold dataE; rw [if_neg (fun q => q hr), if_neg (fun q => q hp), if_neg (fun q => by rw [LN.out] at q; omega)])
          clear hr hp hk hnn
          go_wp2_with (fail)
          refine (HD.out w1 X1.out).mono ?_
          intro r w2 hg2
          obtain ⟨A2, c2, rfl, hm2, x2⟩ := gives_mx hg2
          have HM2 := Lib.hid hm2
          have p1 := hm2.max
          have p2 := hm2.le
          have X2 := Lib.hid x2
          clear hm2 x2 hg2
          go_wp2_with (fail)
          go_ret2
          rw [HM.out, HE.out]
          exact ⟨_, _, rfl, HM2.out, X1.out.trans X2.out⟩
        · have e3 : ((N : Int) != (n : Int)) = true := by rw [bne_iff_ne]; omega
          have e3n : (N != n) = true := by rw [bne_iff_ne]; exact hnn
          have HM := Lib.hid (show dataM f K N M = [] from if_neg (fun q => hnn (by have := q.2.2.2; rw [LN.out] at this; omega)))
          have HE := Lib.hid (show dataE f K N E = 40 by unfold dataE; rw [if_neg (fun q => q hr), if_neg (fun q => q hp), if_pos (by rw [LN.out]; exact .inr (by omega))])
          clear hr hp hk hnn
          go_wp2_with (fail)
          go_ret2
          rw [HM.out, HE.out]
          exact data_none _ _ _ X1.out
      · have e2 : ((K : Int) != f.need) = true := by rw [bne_iff_ne]; exact hk
        have HM := Lib.hid (show dataM f K N M = [] from if_neg (fun q => hk q.2.2.1))
        have HE := Lib.hid (show dataE f K N E = 40 by unfold dataE; rw [if_neg (fun q => q hr), if_neg (fun q => q hp), if_pos (.inl hk)])
        clear hr hp hk
        go_wp2_with (fail)
        go_ret2
        rw [HM.out, HE.out]
        exact data_none _ _ _ X1.out
    · have e1 : (f.phase != 2) = true := by rw [bne_iff_ne]; exact hp
      have HM := Lib.hid (show dataM f K N M = [] from if_neg (fun q => hp q.2.1))
      have HE := Lib.hid (show dataE f K N E = 80 by unfold dataE; rw [if_neg (fun q => q hr), if_pos hp])
      clear hr hp
      go_wp2_with (fail)
      go_ret2
      rw [HM.out, HE.out]
      exact data_none _ _ _ X1.out
  · rw [decide_eq_false hr]
    have HM := Lib.hid (show dataM f K N M = [] from if_neg (fun q => hr q.1))
    have HE := Lib.hid (show dataE f K N E = 140 by unfold dataE; rw [if_pos hr])
    clear hr
    go_wp2_with (fail)
    go_ret2
    rw [HM.out, HE.out]
    exact data_none _ _ _ X1.out
end Go.Proofs.YtfpglkacjecoeaaGreat
namespace Go.Proofs.YtfpglkacjecoeaaGreat
open Go.RowKit

theorem copyInts_any (w : World) (A : Option Addr) (n c : Nat) (l : List Int) (hl : Is w A n c l) (hn : n ≤ 17592186044416) :
    Calls Tryz.prog 12 #[.slice A n c] w fun e w' => ∃ v, e = .returned v ∧ NewInts w w' v l := by
  obtain ⟨i0, hi0, hz0, hz1, hz2⟩ := info_parts int_info
  have hm := hl.max
  have hle := hl.le
  go_enter Tryz.func12, Tryz.ntmps12
  go_wp2_with (
    at_builtin
    refine wpList_append_rd _ rfl (.tmp 4) (.tmp 5) 22 rfl w.heap.size 3 i0 _ 1 8 Tryz.underlying22 hi0 hz0 hz1 hz2 rfl (by omega) (.slice none 0 0) 0 [] rfl (World.ownsRow_nil _ _ _ _) A n c (icells l) rfl hl.rd (icells_one l) (by omega) (by unfold maxLen; omega) (Nat.le_refl _) ?_
    intro v1 w1 hown hg hat)
  go_ret
  refine ⟨v1, rfl, ?_, ?_⟩
  · rw [hl.len]; simpa using hown
  · exact (Ext.refl w).ofGrown hg (by simp [Value.ownBlock])
end Go.Proofs.YtfpglkacjecoeaaGreat
namespace Go.Proofs.YtfpglkacjecoeaaGreat
open Go.RowKit

set_option maxRecDepth 100000 in
set_option maxHeartbeats 2000000 in
theorem copyLists_any (w : World) (A : Option Addr) (n c : Nat) (m : Gm.L) (hm : Mx w A n c m) (hn : n ≤ 1000) (hw : ∀ i, i < n → (Gm.row m i).length ≤ 1000) :
    Calls Tryz.prog 13 #[.slice A n c] w (GivesQ m w) := by
  obtain ⟨i0, hi0, hz0, hz1, hz2⟩ := info_parts bytes_info
  have hmx := hm.max
  have hml := hm.le
  have LM := Lib.hid hm.len
  obtain ⟨N2, hN2⟩ : ∃ N2, w.heap.size = N2 := ⟨_, rfl⟩
  have HN2 := Lib.hid hN2
  have HW := Lib.hid hw
  have hsz0 : N2 ≤ w.heap.size := by omega
  clear hN2 hw
  go_enter Tryz.func13, Tryz.ntmps13
  go_wp2_with (fail)
  go_loopw [3, 4] (fun v s wr => ∃ (t : Nat) (cs : List Value), t ≤ n ∧ s = .int .i64 t ∧ Mq wr N2 (Hot N2 v) v t cs (m.take t) ∧ Ext w wr ∧ N2 ≤ wr.heap.size) (fun _ s _ => n - (intOf s).toNat)
  case atStart => exact ⟨0, [], by omega, rfl, by rw [List.take_zero]; exact Mq.nil _ _ _, Ext.refl w, hsz0⟩
  case round =>
    obtain ⟨t, cs, ht, rfl, hQ, hx, hsz⟩ := hrel
    clear hsz0
    by_cases hlt : t < n
    · have i1 : (t : Int) < n := by omega
      obtain ⟨bm, om, Ai, ni, ci, rfl, hce, hbi⟩ := (hm.ext hx).at_ hlt
      have hni := hbi.len
      have hsn : m.take (t + 1) = m.take t ++ [Gm.row m t] := by
        rw [List.take_add_one, List.getElem?_eq_getElem (by rw [LM.out]; exact hlt), Gm.row_of_lt (by rw [LM.out]; exact hlt)]; rfl
      subst hni
      have hcp := copyBytes_any wr Ai _ ci _ hbi (by have := HW.out t hlt; omega)
      have hrl := HW.out t hlt
      generalize Gm.row m t = r at *
      have HSN := Lib.hid hsn
      have HQ := Lib.hid hQ
      have HCP := Lib.hid hcp
      clear hsn hQ hcp
      go_wp2_with (fail)
      refine HCP.out.mono ?_
      rintro e w4 ⟨v4, rfl, hv⟩
      obtain ⟨A4, c4, rfl, _⟩ := hv.bs
      have hs4 := hv.ext.size
      have ow4 := ownsRow_ext (ownsRow_ext HQ.out.own hv.ext) (Ext.alloc w4 (.cells #[.slice A4 r.length c4] 46))
      have HO4 := Lib.hid ow4
      have HV := Lib.hid hv
      clear ow4 hv
      go_wp2_with (at_builtin; refine wpList_append_rd _ rfl (.tmp 11) (.tmp 17) 23 rfl N2 46 i0 _ 1 24 Tryz.underlying23 hi0 hz0 hz1 hz2 rfl (by omega) u3 t cs rfl HO4.out (some ⟨w4.heap.size, 0, none⟩) 1 1 [.slice A4 r.length c4] rfl (Rd.lit _ #[.slice A4 r.length c4] _) (by simp [Value.oneCell']) (by omega) (by unfold maxLen; omega) (by simp; omega) ?_; intro v5 w5 hown hgr hat)
      have hsn2 := HQ.out.snoc HV.out.ext HV.out.own (Nat.le_refl _) hsz (Ext.alloc w4 (.cells #[.slice A4 r.length c4] 46)) hown hgr hat
      have hne : ∀ q, u3.ownBlock = some q → N2 ≤ q := own_row HQ.out.own
      refine ⟨⟨t + 1, cs ++ [.slice A4 r.length c4], by omega, by go_num, ?_, ?_, ?_⟩, by simp [intOf]; omega⟩
      · rw [HSN.out]; exact hsn2
      · exact ((hx.trans HV.out.ext).thenAlloc _).ofGrown hgr (fun q hq => by have := hne q hq; have := HN2.out; omega)
      · have := hgr.size; simp at this; omega
    · have i1 : ¬ (t : Int) < n := by omega
      obtain rfl : t = n := by omega
      rw [List.take_of_length_le (by rw [LM.out]; exact Nat.le_refl _)] at hQ
      go_wp2_with (fail)
      go_ret
      refine ⟨_, cs, rfl, ?_, hx⟩
      rw [LM.out, HN2.out]
      exact hQ
/-- No side is longer. -/
def small (m : Gm.L) (k : Nat) : Prop := m.length ≤ k ∧ ∀ i, i < m.length → (Gm.row m i).length ≤ k
instance (m : Gm.L) (k : Nat) : Decidable (small m k) := by unfold small; infer_instance
end Go.Proofs.YtfpglkacjecoeaaGreat
