/- Several texts in one: The contract of the document's Rebuild (chapter 04). The contract of the document's Join (chapter 04). -/
import Derived.Test.YtfpcldkfmcnjkaaRef4Dec
import Derived.Test.YtfpcldkfmcnjkaaCodeJoin
import Derived.Test.YtfpcldkfmcnjkaaCodeReb
import Derived.Test.YtfpcldkfmcnjkaaRef4Enc
import Derived.Deep.RegionHeld3
namespace Go.Proofs.Ytfpcldkfmcnjkaa
open Go.RowKit
attribute [local go_sem ↓] Go.wp_at_zero Go.wp_at_succ

/-- One row of a matrix, as a matrix. -/
theorem mx_single {w : World} {b o c : Nat} {r : List UInt8} {Ai : Option Addr} {ni ci : Nat} (hce : w.cell? ⟨b, o, none⟩ = some (.slice Ai ni ci)) (hb : Bs w Ai ni ci r) (h1 : 1 ≤ c) (hc : c ≤ 9223372036854775807) : Mx w (some ⟨b, o, none⟩) 1 c [r] := by
  refine ⟨rfl, h1, hc, [.slice Ai ni ci], ⟨rfl, fun _ => ⟨b, o, rfl, fun j u hu => ?_⟩⟩, ⟨rfl, fun i hi => ?_⟩⟩
  · cases j with
    | zero => simp at hu; subst hu; exact hce
    | succ j => simp at hu
  · obtain rfl : i = 0 := by simp at hi; omega
    exact ⟨Ai, ni, ci, rfl, hb⟩
theorem mulL_one (r : List UInt8) (d : Gm.L) : Gm.mulL [r] d = [Gm.rowL r d] := rfl
set_option maxRecDepth 100000 in
set_option maxHeartbeats 4000000 in
theorem ref4Rebuild_any (w : World) (k n : Nat) (A : Option Addr) (c : Nat) (hA : Mx w A n c (Gm.gen k n)) (h1 : 1 ≤ k) (h2 : k ≤ n) (h3 : n ≤ 255) (B : Option Addr) (q d : Nat) (l : List Int) (hl : Is w B q d l) (As : Option Addr) (m cs : Nat) (s : Gm.L) (hs : Mx w As m cs s) (i : Int) :
    Calls Try.prog 33 #[cval k n A n c, .slice B q d, .slice As m cs, .int .i64 i] w (GivesR (rebL k n l s i) (rebE k n l s i) w) := by
  have xA : Ext w (wbox w k n A c) := Ext.alloc _ _
  have hB0 := bd_box w k n A c
  have hD := ref4Decode_any (wbox w k n A c) k n A c (hA.ext xA) h1 h2 h3 B q d l (hl.ext xA) As m cs s (hs.ext xA)
  have HD := Lib.hid hD
  have HB := Lib.hid hB0
  have c0 := hB0.c0
  have c1 := hB0.c1
  have c2 := hB0.c2
  have hq1 := hA.max
  have hq2 := hA.le
  clear hD hl hs hB0
  by_cases h : decOk k n l s
  · have hsh := decM_shape h1 h3 h2 h
    have e0 : decE k n l s = 0 := by unfold decE; rw [if_pos h]
    rw [e0] at HD
    by_cases hi : 0 ≤ i ∧ i < n
    · have e1 : rebL k n l s i = Gm.rowL (Gm.row (Gm.gen k n) i.toNat) (decM k n l s) := by unfold rebL; rw [if_pos ⟨h, hi⟩]
      have e2 : rebE k n l s i = 0 := by unfold rebE; rw [if_pos h, if_pos hi]
      rw [e1, e2]
      obtain ⟨t, rfl⟩ := Int.eq_ofNat_of_zero_le hi.1
      rw [Int.toNat_natCast]
      have htn : t < n := by omega
      have g1 : ¬ (t : Int) < 0 := by omega
      have g2 : ¬ (n : Int) ≤ t := by omega
      have g3 : (t : Int) < n := by omega
      have g4 : (t : Int) + 1 ≤ c := by omega
      have g5 : (0 : Int) ≤ (t : Int) + 1 := by omega
      obtain ⟨bm, om, Ai, ni, ci, rfl, hce, hbi⟩ := hA.at_ htn
      have hni : ni = k := by rw [← hbi.len]; exact (Gm.gen_rect h2).wid t htn
      subst hni
      have HBI := Lib.hid hbi
      have HCE := Lib.hid hce
      have HSH := Lib.hid hsh
      clear h hi e0 e1 e2 hsh hA hbi hce
      generalize decM ni n l s = DM at *
      go_enter Try.func33, Try.ntmps33
      go_wp2_with (fail)
      refine HD.out.mono ?_
      intro e w1 hg
      obtain ⟨A1, c1', rfl, m1, x1⟩ := gives_mx hg
      clear hg
      rw [HSH.out.1] at m1
      rw [HSH.out.1]
      have b1 := HB.out.ext x1
      have c1 := b1.c1
      have c2 := b1.c2
      have hwone : ∀ i, i < 1 → (Gm.row [Gm.row (Gm.gen ni n) t] i).length = ni := by
        intro i hi
        obtain rfl : i = 0 := by omega
        exact (Gm.gen_rect h2).wid t htn
      have hT := ref4Times_any w1 (some ⟨bm, om + t, none⟩) A1 1 (c - t) ni c1' [Gm.row (Gm.gen ni n) t] DM (mx_single ((xA.trans x1).cell HCE.out) (HBI.out.ext (xA.trans x1)) (by omega) (by omega)) m1 (by omega) h1 (by omega) hwone (fun i hi => by rw [HSH.out.2.1 i hi, HSH.out.2.2.1]) (by rw [HSH.out.2.2.1]; exact HSH.out.2.2.2)
      rw [mulL_one] at hT
      generalize Gm.rowL (Gm.row (Gm.gen ni n) t) DM = R at *
      have HT := Lib.hid hT
      have hm1 := m1.max
      clear m1 b1 hT HSH HBI HCE HD HB
      go_wp2_with (fail)
      refine HT.out.mono ?_
      rintro e w2 ⟨v2, cs2, rfl, hq, x2⟩
      obtain ⟨A2, c2', rfl, hm2⟩ := hq.mx
      obtain ⟨b3, o3, A3, n3, c3, rfl, hc3, hb3⟩ := hm2.at_ (i := 0) Nat.zero_lt_one
      rw [Nat.add_zero] at hc3
      have hb4 : Bs w2 A3 n3 c3 R := hb3
      have e9 : R.length = n3 := hb4.len
      subst e9
      have HB4 := Lib.hid hb4
      have hmm := hm2.max
      clear hb3 hb4 hq hm2
      go_wp2_with (fail)
      go_ret2
      exact ⟨A3, c3, rfl, HB4.out, (xA.trans x1).trans x2⟩
    · have e1 : rebL k n l s i = [] := by unfold rebL; rw [if_neg (fun q => hi q.2)]
      have e2 : rebE k n l s i = 2 := by unfold rebE; rw [if_pos h, if_neg hi]
      rw [e1, e2]
      generalize decM k n l s = DM at *
      clear h e0 e1 e2 hsh hA
      by_cases g1 : i < 0
      · go_enter Try.func33, Try.ntmps33
        go_wp2_with (fail)
        refine HD.out.mono ?_
        intro e w1 hg
        obtain ⟨A1, c1', rfl, m1, x1⟩ := gives_mx hg
        have b1 := HB.out.ext x1
        have c1 := b1.c1
        clear hg m1 b1
        go_wp2_with (fail)
        go_ret2
        exact GivesR.none 2 (xA.trans x1)
      · have g2 : (n : Int) ≤ i := by omega
        go_enter Try.func33, Try.ntmps33
        go_wp2_with (fail)
        refine HD.out.mono ?_
        intro e w1 hg
        obtain ⟨A1, c1', rfl, m1, x1⟩ := gives_mx hg
        have b1 := HB.out.ext x1
        have c1 := b1.c1
        clear hg m1 b1
        go_wp2_with (fail)
        go_ret2
        exact GivesR.none 2 (xA.trans x1)
  · have e0 : decE k n l s = 40 := by unfold decE; rw [if_neg h]
    have e1 : rebL k n l s i = [] := by unfold rebL; rw [if_neg (fun q => h q.1)]
    have e2 : rebE k n l s i = 40 := by unfold rebE; rw [if_neg h]
    rw [e0] at HD
    rw [e1, e2]
    generalize decM k n l s = DM at *
    clear h e0 e1 e2 hA
    go_enter Try.func33, Try.ntmps33
    go_wp2_with (fail)
    refine HD.out.mono ?_
    intro e w1 hg
    obtain ⟨A1, c1', rfl, m1, x1⟩ := gives_mx hg
    clear hg m1
    go_wp2_with (fail)
    go_ret2
    exact GivesR.none 40 (xA.trans x1)
end Go.Proofs.Ytfpcldkfmcnjkaa
namespace Go.Proofs.Ytfpcldkfmcnjkaa
open Go.RowKit
attribute [local go_sem ↓] Go.wp_at_zero Go.wp_at_succ

set_option maxRecDepth 100000 in
set_option maxHeartbeats 4000000 in
theorem ref4Join_any (w : World) (k n : Nat) (A : Option Addr) (c : Nat) (hA : Mx w A n c (Gm.gen k n)) (h1 : 1 ≤ k) (h2 : k ≤ n) (h3 : n ≤ 255) (As : Option Addr) (q cs : Nat) (ss : List Gm.L) (hs : Mxs w As q cs ss) (hq : q ≤ 1000) (i : Int) :
    Calls Try.prog 38 #[cval k n A n c, .slice As q cs, .int .i64 i] w (GivesR (joinL k ss i) (joinE k ss i) w) := by
  obtain ⟨j1, hj1, hy0, hy1, hy2⟩ := info_parts u8_info
  have xA : Ext w (wbox w k n A c) := Ext.alloc _ _
  have hB0 := bd_box w k n A c
  have q1 := hs.max
  have q2 := hs.le
  have LS := Lib.hid hs.len
  have hk2 : k ≤ 255 := by omega
  have HS := Lib.hid hs
  have hno : ¬ joinOk k ss → joinL k ss i = [] ∧ joinE k ss i = 40 := fun h => ⟨by unfold joinL; rw [if_neg (fun q => h q.1)], by unfold joinE; rw [if_neg h]⟩
  have hin : joinOk k ss → 0 ≤ i → i ≤ (joinAll ss).length → joinL k ss i = (joinAll ss).take i.toNat ∧ joinE k ss i = 0 := fun h h1 h2 => ⟨by unfold joinL; rw [if_pos ⟨h, h1, h2⟩], by unfold joinE; rw [if_pos h, if_pos ⟨h1, h2⟩]⟩
  have hout : joinOk k ss → ¬ (0 ≤ i ∧ i ≤ (joinAll ss).length) → joinL k ss i = [] ∧ joinE k ss i = 11 := fun h h1 => ⟨by unfold joinL; rw [if_neg (fun q => h1 q.2)], by unfold joinE; rw [if_pos h, if_neg h1]⟩
  have HNO := Lib.hid hno
  have HIN := Lib.hid hin
  have HOUT := Lib.hid hout
  clear hno hin hout hA hs
  generalize joinL k ss i = JL at *
  generalize joinE k ss i = JE at *
  have c00 := hB0.c0
  have hx1 := xA
  obtain ⟨w1, hw1⟩ : ∃ w1, wbox w k n A c = w1 := ⟨_, rfl⟩
  have HB := Lib.hid hB0
  obtain ⟨N2, hN2⟩ : ∃ N2, (wbox w k n A c).heap.size = N2 := ⟨_, rfl⟩
  have HN2 := Lib.hid hN2
  clear hB0 hw1 w1 hN2
  go_enter Try.func38, Try.ntmps38
  go_wp2_with (fail)
  go_loopw [8, 9, 10] (fun v t _ wr => ∃ i : Nat, i ≤ q ∧ t = .int .i64 (i : Int) ∧ wr.ownsRow N2 5 1 v (joinAll (ss.take i)).length (bcells (joinAll (ss.take i))) ∧ Ext (wbox w k n A c) wr ∧ RowKit.Hid ((joinAll (ss.take i)).length ≤ i * 16711680 ∧ ∀ i', i' < i → Gm.even (sget ss i') k)) (fun _ t _ _ => q - (intOf t).toNat)
  case atStart => exact ⟨0, by omega, rfl, World.ownsRow_nil _ _ _ _, Ext.refl _, Lib.hid ⟨Nat.zero_le _, fun i hi => absurd hi (Nat.not_lt_zero _)⟩⟩
  case round =>
    obtain ⟨t, ht, rfl, hown, hx, HEV⟩ := hrel
    have xx : Ext w wr := xA.trans hx
    have b1 := HB.out.ext hx
    have c0 := b1.c0
    by_cases htq : t < q
    · have r1 : (t : Int) < q := by omega
      obtain ⟨bm, om, Ai, ni, ci, rfl, hce0, hmi⟩ := HS.out.at_ _ htq
      have hce := xx.cell hce0
      have HCE0 := Lib.hid hce0
      have hmx := hmi.max
      have hml := hmi.le
      have HE := Lib.hid (fun (W : World) (hW : Ext w W) => ref4Even_any W Ai ni ci (sget ss t) k (hmi.ext hW))
      have hSB : ∀ W : World, Ext wr W → (W.cell? ⟨w.heap.size, 0, none⟩ = some (.int .i64 (k : Int)) ∧ W.cell? ⟨bm, om + t, none⟩ = some (.slice Ai ni ci)) := fun W hW => ⟨hW.cell c0, hW.cell hce⟩
      have HSB := Lib.hid hSB
      have XX := Lib.hid xx
      have HMI := Lib.hid hmi
      have HOW := Lib.hid hown
      have HEr := Lib.hid (HE.out wr.drew xx.thenDrew)
      have hsx := hx.size
      clear hSB xx hmi hown b1 hce0
      by_cases hev : Gm.even (sget ss t) k
      · rw [decide_eq_true hev] at HEr
        have HE0 := Lib.hid hev
        clear hev
        go_wp2_with (fail)
        go_region_held3 (fun W => W.cell? ⟨w.heap.size, 0, none⟩ = some (.int .i64 (k : Int)) ∧ W.cell? ⟨bm, om + t, none⟩ = some (.slice Ai ni ci))
          (first | exact HSB.out _ (Ext.drew _) | exact HSB.out _ x12)
          (first | (((with_reducible refine HEr.out.mono ?_); (rintro e w2 ⟨rfl, x2⟩; have x12 : Ext wr w2 := (Ext.drew wr).trans x2))))
        all_goals
          have xw : Ext w w2 := XX.out.trans x12
          have hx2 : Ext (wbox w k n A c) w2 := hx.trans x12
          have c02 := (HSB.out w2 x12).1
          have hce2 := (HSB.out w2 x12).2
          have hle1 := HEV.out.1
          have hle2 := flat_le HE0.out
          have hjs := joinAll_succ (ss := ss) (i := t) (by rw [LS.out]; exact htq)
          have hSl : (sget ss t).length = k := HE0.out.1
          have hnk : ni = k := by rw [← HMI.out.len]; exact hSl
          rw [← List.take_of_length_le (show (sget ss t).length ≤ k by omega)] at hjs
          have hnb : (joinAll (ss.take (t + 1))).length ≤ (t + 1) * 16711680 := by
            rw [hjs, List.length_append]
            have := hle2 k (Nat.le_refl _)
            omega
          have hev2 : ∀ i', i' < t + 1 → Gm.even (sget ss i') k := fun i' hi' => by
            by_cases e : i' = t
            · rw [e]; exact HE0.out
            · exact HEV.out.2 i' (by omega)
          have hown := ownsRow_ext HOW.out x12
          obtain ⟨J, hJ⟩ : ∃ J, joinAll (ss.take t) = J := ⟨_, rfl⟩
          rw [hJ] at hown hle1 hjs
          have HNB := Lib.hid hnb
          have HEV2 := Lib.hid hev2
          have HNK := Lib.hid hnk
          have HSL := Lib.hid hSl
          have HL2 := Lib.hid hle2
          have HJS := Lib.hid hjs
          have HOJ := Lib.hid hown
          have hs2 := x12.size
          clear hle2 hjs hown hJ hnb hev2 hnk hSl HOW HE HEr HEV
          generalize sget ss t = S at *
          go_wp2_with (fail)
          go_loopw [8, 10] (fun v s wr' => ∃ j : Nat, j ≤ k ∧ s = .int .i64 (j : Int) ∧ wr'.ownsRow N2 5 1 v (J ++ (S.take j).flatten).length (bcells (J ++ (S.take j).flatten)) ∧ Ext (wbox w k n A c) wr') (fun _ s _ => k - (intOf s).toNat)
          case atStart => exact ⟨0, by omega, rfl, by rw [List.take_zero, List.flatten_nil, List.append_nil]; exact HOJ.out, hx2⟩
          case round =>
            obtain ⟨j, hj, rfl, hown, hyj⟩ := hrel
            have c03 := (HB.out.ext hyj).c0
            have hce3 := (xA.trans hyj).cell HCE0.out
            by_cases hjk : j < k
            · have r2 : (j : Int) < k := by omega
              have r3 : (j : Int) < ni := by rw [HNK.out]; exact r2
              obtain ⟨b2, o2, A2, n2, c2, rfl, hc2, hb2⟩ := (HMI.out.ext (xA.trans hyj)).at_ (i := j) (by rw [HNK.out]; exact hjk)
              have hfs := flat_succ (s := S) (j := j) (by rw [HSL.out]; exact hjk)
              have hl2 := HL2.out j hj
              have hn2 : n2 ≤ 65536 := by rw [← hb2.len, HE0.out.2.2.2 j hjk]; exact HE0.out.2.2.1
              have hmx2 := hb2.max
              have hml2 := hb2.le
              have hln := hb2.len
              have HFS := Lib.hid hfs
              have HLN := Lib.hid hln
              have hll : (J ++ (S.take j).flatten).length ≤ 1000 * 16711680 + 255 * 65536 := by rw [List.length_append]; omega
              have HB1 := Lib.hid (bcells_one (Gm.row S j))
              have HRD := Lib.hid hb2.rd
              have HOW2 := Lib.hid hown
              have hsj := hyj.size
              have hsj2 := HN2.out
              obtain ⟨n9, hn9⟩ : ∃ n9, (J ++ (S.take j).flatten).length = n9 := ⟨_, rfl⟩
              have HN9 := Lib.hid hn9
              rw [hn9] at hll
              clear hfs hln hb2 hown hn9
              go_wp2_with (at_builtin; refine wpList_append_rd _ rfl (.tmp 31) (.tmp 38) 22 rfl N2 5 j1 _ 1 1 Try.underlying22 hj1 hy0 hy1 hy2 rfl (by omega) _ n9 (bcells (J ++ (S.take j).flatten)) rfl (by rw [← HN9.out]; exact HOW2.out) A2 n2 c2 (bcells (Gm.row S j)) rfl HRD.out HB1.out (by omega) (by unfold maxLen; omega) (by omega) ?_; intro v5 w5 hown hgr hat)
              have hne := own_row HOW2.out
              refine ⟨⟨j + 1, by omega, by go_num, ?_, ?_⟩, by simp [intOf]; omega⟩
              · rw [HFS.out, ← List.append_assoc, List.length_append, HN9.out, HLN.out, bcells_append]
                exact hown
              · exact hyj.ofGrown hgr (fun q hq => by have := hne q hq; have := HN2.out; omega)
            · have r2 : ¬ (j : Int) < k := by omega
              obtain rfl : k = j := by omega
              rw [← HJS.out] at hown
              have HOW3 := Lib.hid hown
              clear hown
              go_wp2_with (fail)
              exact ⟨⟨t + 1, by omega, by go_num, HOW3.out, hyj, Lib.hid ⟨HNB.out, HEV2.out⟩⟩, by simp [intOf]; omega⟩
      · obtain ⟨rfl, rfl⟩ := HNO.out (fun h => hev (h t (by rw [LS.out]; exact htq)))
        rw [decide_eq_false hev] at HEr
        clear hev HIN HOUT HNO
        go_wp2_with (fail)
        go_region_held3 (fun W => W.cell? ⟨w.heap.size, 0, none⟩ = some (.int .i64 (k : Int)) ∧ W.cell? ⟨bm, om + t, none⟩ = some (.slice Ai ni ci))
          (first | exact HSB.out _ (Ext.drew _) | exact HSB.out _ x12)
          (first | (((with_reducible refine HEr.out.mono ?_); (rintro e w2 ⟨rfl, x2⟩; have x12 : Ext wr w2 := (Ext.drew wr).trans x2))))
        all_goals
          go_wp2_with (fail)
          go_ret2
          exact GivesR.none 40 (XX.out.trans x12)
    · have r1 : ¬ (t : Int) < q := by omega
      obtain rfl : q = t := by omega
      have HO := Lib.hid (show joinOk k ss from fun i hi => HEV.out.2 i (by rw [← LS.out]; exact hi))
      rw [List.take_of_length_le (by rw [LS.out]; exact Nat.le_refl _)] at hown
      obtain ⟨A5, c5, rfl, hc5, hc6⟩ := ownsRow_slice hown
      have hbs : Bs wr A5 (joinAll ss).length c5 (joinAll ss) := (Own.mk (base := N2) (e := 5) hown).bs
      have HBS := Lib.hid hbs
      clear hown hbs
      by_cases h1 : i < 0
      · obtain ⟨rfl, rfl⟩ := HOUT.out HO.out (fun q => by omega)
        go_wp2_with (fail)
        go_ret2
        exact GivesR.none 11 xx
      · by_cases h2 : ((joinAll ss).length : Int) < i
        · obtain ⟨rfl, rfl⟩ := HOUT.out HO.out (fun q => by omega)
          go_wp2_with (fail)
          go_ret2
          exact GivesR.none 11 xx
        · obtain ⟨rfl, rfl⟩ := HIN.out HO.out (by omega) (by omega)
          obtain ⟨t, rfl⟩ := Int.eq_ofNat_of_zero_le (show 0 ≤ i by omega)
          have g1 : t ≤ (joinAll ss).length := by omega
          have HT := Lib.hid (HBS.out.take g1)
          generalize (joinAll ss).length = LJ at *
          clear HOUT HIN HBS
          go_wp2_with (fail)
          go_ret2
          have hb := HT.out
          refine ⟨A5, c5, by rw [hb.len]; rfl, ?_, xx⟩
          rw [hb.len]
          exact hb
end Go.Proofs.Ytfpcldkfmcnjkaa
