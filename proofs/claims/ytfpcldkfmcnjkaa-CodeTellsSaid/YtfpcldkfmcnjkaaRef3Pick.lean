/- The contract of the document's Pick. -/
import Derived.Test.YtfpcldkfmcnjkaaCt6
import Derived.Test.YtfpcldkfmcnjkaaMatPick
namespace Go.Proofs.Ytfpcldkfmcnjkaa
open Go.RowKit

theorem pick_bad_at {m : Gm.L} {n k : Nat} {l : List Int} (hm : m.length = n) (hl : l.length = k) (h : Gm.right m) (t : Nat) (ht : t < k) (hn : noRow n (Il.get l t) = true) : pickM m l = [] ∧ pickE m l = 2 := by
  have hno : ¬ rowsOf m.length l := fun q => by
    have h1 := List.any_eq_false.1 q.2.2 _ (Il.get_mem (l := l) (k := t) (by omega))
    rw [hm] at h1
    exact h1 hn
  unfold pickM pickE
  rw [if_neg (fun q => hno q.2), if_pos h, if_neg hno]
  exact ⟨rfl, rfl⟩
theorem pick_good {m : Gm.L} {n k : Nat} {l : List Int} (hm : m.length = n) (hl : l.length = k) (h : Gm.right m) (h1 : 1 ≤ k) (h2 : k ≤ 255) (hn : ∀ t, t < k → noRow n (Il.get l t) = false) : pickM m l = picked m l ∧ pickE m l = 0 := by
  have hyes : rowsOf m.length l := ⟨by omega, by omega, List.any_eq_false.2 fun x hx => by
    obtain ⟨t, ht, rfl⟩ := List.getElem_of_mem hx
    have := hn t (by omega)
    rw [Il.get_of_lt ht] at this
    rw [hm, this]
    simp⟩
  unfold pickM pickE
  rw [if_pos ⟨h, hyes⟩, if_pos h, if_pos hyes]
  exact ⟨rfl, rfl⟩
theorem pick_few {m : Gm.L} {l : List Int} (h : Gm.right m) (hl : ¬ (1 ≤ l.length ∧ l.length ≤ 255)) : pickM m l = [] ∧ pickE m l = 2 := by
  have hno : ¬ rowsOf m.length l := fun q => hl ⟨q.1, q.2.1⟩
  unfold pickM pickE
  rw [if_neg (fun q => hno q.2), if_pos h, if_neg hno]
  exact ⟨rfl, rfl⟩
set_option maxRecDepth 100000 in
set_option maxHeartbeats 4000000 in
theorem ref3Pick_any (w : World) (A : Option Addr) (n c : Nat) (m : Gm.L) (hm : Mx w A n c m) (B : Option Addr) (k d : Nat) (l : List Int) (hl : Is w B k d l) :
    Calls Try.prog 62 #[.slice A n c, .slice B k d] w (GivesQE (pickM m l) (pickE m l) w) := by
  have hR := ref3Right_any w A n c m hm
  have q1 := hl.max
  have q2 := hl.le
  have q3 := hm.max
  have q4 := hm.le
  have L := Lib.hid hl.len
  have LM := Lib.hid hm.len
  by_cases h : Gm.right m
  · rw [decide_eq_true h] at hR
    have HF := Lib.hid (fun (q : ¬ (1 ≤ k ∧ k ≤ 255)) => pick_few h (l := l) (by rw [L.out]; exact q))
    have HB := Lib.hid (fun t => pick_bad_at LM.out L.out h t)
    have HGD := Lib.hid (fun a b => pick_good LM.out L.out h a b)
    have hwid : ∀ i, i < n → (Gm.row m i).length ≤ 255 := fun i hi => by rw [h.2.2.2.2 i (by rw [hm.len]; exact hi)]; exact h.2.2.2.1
    have HWID := Lib.hid hwid
    have HR := Lib.hid hR
    have HM := Lib.hid hm
    have HL := Lib.hid hl
    clear hR h hwid hm hl
    generalize pickM m l = PM at *
    generalize pickE m l = PE at *
    by_cases hk1 : k < 1
    · have g1 : (k : Int) < 1 := by omega
      obtain ⟨rfl, rfl⟩ := HF.out (by omega)
      go_enter Try.func62, Try.ntmps62
      go_wp2_with (fail)
      refine HR.out.mono ?_
      rintro e w1 ⟨rfl, x1⟩
      go_wp2_with (fail)
      go_ret2
      exact GivesQE.none 2 x1
    · have g1 : ¬ (k : Int) < 1 := by omega
      by_cases hk2 : 255 < k
      · have g2 : (255 : Int) < k := by omega
        obtain ⟨rfl, rfl⟩ := HF.out (by omega)
        go_enter Try.func62, Try.ntmps62
        go_wp2_with (fail)
        refine HR.out.mono ?_
        rintro e w1 ⟨rfl, x1⟩
        go_wp2_with (fail)
        go_ret2
        exact GivesQE.none 2 x1
      · have g2 : ¬ (255 : Int) < k := by omega
        obtain ⟨i0, hi0, hz0, hz1, hz2⟩ := info_parts bytes_info
        obtain ⟨j1, hj1, hy0, hy1, hy2⟩ := info_parts u8_info
        obtain ⟨N2, hN2⟩ : ∃ N2, w.heap.size = N2 := ⟨_, rfl⟩
        have HN2 := Lib.hid hN2
        clear hN2
        go_enter Try.func62, Try.ntmps62
        go_wp2_with (fail)
        refine HR.out.mono ?_
        rintro e w1 ⟨rfl, x1⟩
        have hsz0 : N2 ≤ w1.heap.size := by have := x1.size; have := HN2.out; omega
        go_wp2_with (fail)
        go_loopw [6, 7, 8] (fun v s _ wr => ∃ (t : Nat) (cs : List Value), t ≤ k ∧ s = .int .i64 t ∧ Mq wr N2 (Hot N2 v) v t cs (picked m (l.take t)) ∧ Ext w wr ∧ N2 ≤ wr.heap.size ∧ RowKit.Hid (∀ i, i < t → noRow n (Il.get l i) = false)) (fun _ s _ _ => k - (intOf s).toNat)
        case atStart => exact ⟨0, [], by omega, rfl, Mq.nil _ _ _, x1, hsz0, Lib.hid fun i hi => absurd hi (Nat.not_lt_zero _)⟩
        case round =>
          obtain ⟨t, cs, ht, rfl, hQ, hx, hsz, HNR⟩ := hrel
          clear hsz0 x1 HR
          by_cases hlt : t < k
          · have i1 : (t : Int) < k := by omega
            obtain ⟨bl, ol, rfl, hcl⟩ := (HL.out.ext hx).rd.intAt hlt
            have hbad := HB.out t hlt
            obtain ⟨x, hxl⟩ : ∃ x, Il.get l t = x := ⟨_, rfl⟩
            rw [hxl] at hcl hbad
            by_cases hx1 : x < 0
            · obtain ⟨rfl, rfl⟩ := hbad (by unfold noRow; simp; omega)
              go_wp2_with (fail)
              go_ret2
              exact GivesQE.none 2 hx
            · by_cases hx2 : (n : Int) ≤ x
              · obtain ⟨rfl, rfl⟩ := hbad (by unfold noRow; simp; omega)
                go_wp2_with (fail)
                go_ret2
                exact GivesQE.none 2 hx
              · clear hbad
                obtain ⟨i, rfl⟩ := Int.eq_ofNat_of_zero_le (show 0 ≤ x by omega)
                have hin : i < n := by omega
                obtain ⟨bm, om, Ai, ni, ci, rfl, hce, hbi⟩ := (HM.out.ext hx).at_ hin
                have hsn := picked_succ m (l := l) (k := t) (by rw [L.out]; exact hlt)
                rw [hxl, Int.toNat_natCast] at hsn
                have hni := hbi.len
                subst hni
                have hrl := HWID.out i hin
                have hnr2 : ∀ j, j < t + 1 → noRow n (Il.get l j) = false := fun j hj => by
                  by_cases e : j = t
                  · rw [e, hxl]; unfold noRow; simp; omega
                  · exact HNR.out j (by omega)
                have i3 : (i : Int) < n := by omega
                have i4 : ¬ (i : Int) < 0 := by omega
                have i5 : ¬ (n : Int) ≤ i := by omega
                generalize Gm.row m i = r at *
                have HSN := Lib.hid hsn
                have HQ := Lib.hid hQ
                have HBI := Lib.hid hbi
                have HN3 := Lib.hid hnr2
                clear hsn hQ hbi hxl hx1 hx2 hnr2
                go_wp2_with (first
                  | (at_builtin; refine wpList_append_rd _ rfl (.tmp 41) (.tmp 48) 22 rfl wr.heap.size 5 j1 _ 1 1 Try.underlying22 hj1 hy0 hy1 hy2 rfl (by omega) (.slice none 0 0) 0 [] rfl (World.ownsRow_nil _ _ _ _) Ai r.length ci (bcells r) rfl HBI.out.rd (bcells_one r) (by omega) (by unfold maxLen; omega) (by omega) ?_; intro v4 w4 hown4 hgr4 hat4; rw [Nat.zero_add, List.nil_append] at hown4; obtain ⟨A4, c4, rfl, hz4, hz5⟩ := ownsRow_slice hown4; have x4 : Ext wr w4 := (Ext.refl wr).ofGrown hgr4 (by simp [Value.ownBlock]); have ow4 := Lib.hid (ownsRow_ext (ownsRow_ext HQ.out.own x4) (Ext.alloc w4 (.cells #[.slice A4 r.length c4] 22))); have X4 := Lib.hid x4; have OW := Lib.hid hown4; have hs4 := x4.size; clear hown4 x4 hgr4 hat4 hz4 hz5)
                  | (at_builtin; refine wpList_append_rd _ rfl (.tmp 40) (.tmp 50) 60 rfl N2 22 i0 _ 1 24 Try.underlying60 hi0 hz0 hz1 hz2 rfl (by omega) u6 t cs rfl ow4.out (some ⟨w4.heap.size, 0, none⟩) 1 1 [.slice A4 r.length c4] rfl (Rd.lit _ #[.slice A4 r.length c4] _) (by simp [Value.oneCell']) (by omega) (by unfold maxLen; omega) (by simp; omega) ?_; intro v5 w5 hown hgr hat))
                have hsn2 := HQ.out.snoc X4.out OW.out (Nat.le_refl _) hsz (Ext.alloc w4 (.cells #[.slice A4 r.length c4] 22)) hown hgr hat
                have hne : ∀ q, u6.ownBlock = some q → N2 ≤ q := own_row HQ.out.own
                refine ⟨⟨t + 1, cs ++ [.slice A4 r.length c4], by omega, by go_num, ?_, ?_, ?_, HN3⟩, by simp [intOf]; omega⟩
                · rw [HSN.out]; exact hsn2
                · exact ((hx.trans X4.out).thenAlloc _).ofGrown hgr (fun q hq => by have := hne q hq; have := HN2.out; omega)
                · have := hgr.size; simp at this; omega
          · have i1 : ¬ (t : Int) < k := by omega
            obtain rfl : t = k := by omega
            rw [List.take_of_length_le (by rw [L.out]; exact Nat.le_refl _)] at hQ
            obtain ⟨rfl, rfl⟩ := HGD.out (by omega) (by omega) HNR.out
            go_wp2_with (fail)
            go_ret2
            refine ⟨_, cs, rfl, ?_, hx⟩
            rw [picked_length, L.out, HN2.out]
            exact hQ
  · rw [decide_eq_false h] at hR
    have e1 : pickM m l = [] := by unfold pickM; rw [if_neg (fun q => h q.1)]
    have e2 : pickE m l = 30 := by unfold pickE; rw [if_neg h]
    rw [e1, e2]
    have HR := Lib.hid hR
    clear hR h e1 e2 hm hl
    go_enter Try.func62, Try.ntmps62
    go_wp2_with (fail)
    refine HR.out.mono ?_
    rintro e w1 ⟨rfl, x1⟩
    go_wp2_with (fail)
    go_ret2
    exact GivesQE.none 30 x1
end Go.Proofs.Ytfpcldkfmcnjkaa
