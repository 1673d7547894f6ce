/- The contract of the document's Right (chapter 16). -/
import Derived.Test.YtkclimblcipmlaaRef16C
namespace Il
theorem nodup_iff_take {l : List Int} : l.Nodup ↔ ∀ j, j < l.length → get l j ∉ l.take j := by
  constructor
  · intro h j hj hm
    obtain ⟨i, hi, e⟩ := mem_get hm
    rw [List.length_take] at hi
    rw [get_take (by omega), get_of_lt (by omega), get_of_lt hj] at e
    exact (List.pairwise_iff_getElem.1 h) i j (by omega) hj (by omega) e
  · intro h
    refine List.pairwise_iff_getElem.2 (fun i j hi hj hij e => h j hj ?_)
    rw [get_of_lt hj, ← e]
    rw [List.mem_iff_getElem]
    exact ⟨i, by rw [List.length_take]; omega, by rw [List.getElem_take]⟩
end Il
namespace Go.Proofs.Ytkclimblcipmlaa
open Go.RowKit

set_option maxRecDepth 100000 in
set_option maxHeartbeats 4000000 in
theorem ref16Right_any (w : World) (s : Scrubs.S) (A : Option Addr) (n c : Nat) (B : Option Addr) (m d : Nat) (hu : Is w A n c s.urged) (hb : Is w B m d s.busy) :
    Calls Try.prog 19 #[sval s.cur s.queue (.slice A n c) (.slice B m d)] w fun e w' => e = .returned (.bool (decide (Scrubs.right s))) ∧ Ext w w' := by
  have q1 := hu.max
  have q2 := hu.le
  have q3 := hb.max
  have q4 := hb.le
  obtain ⟨cu, qu, u, b⟩ := s
  have lu := Lib.hid hu.len
  have lb := Lib.hid hb.len
  obtain ⟨R, hR⟩ : ∃ R, decide (Scrubs.right ⟨cu, qu, u, b⟩) = R := ⟨_, rfl⟩
  rw [hR]
  have hRi : R = true ↔ ((cu = -1 ∨ Scrubs.stripe cu) ∧ n ≤ 1000 ∧ m ≤ 1000 ∧ Il.rising 0 Scrubs.great b ∧ (∀ x ∈ u, 0 ≤ x ∧ x ≤ Scrubs.great) ∧ u.Nodup) := by
    rw [← hR, decide_eq_true_eq, Scrubs.right_iff, ← lu.out, ← lb.out]
  have HRI := Lib.hid hRi
  have no : ¬ ((cu = -1 ∨ Scrubs.stripe cu) ∧ n ≤ 1000 ∧ m ≤ 1000 ∧ Il.rising 0 Scrubs.great b ∧ (∀ x ∈ u, 0 ≤ x ∧ x ≤ Scrubs.great) ∧ u.Nodup) → R = false := fun h => by
    cases R with
    | false => rfl
    | true => exact absurd (hRi.1 rfl) h
  have NO := Lib.hid no
  clear hR hRi no
  have xA : Ext w (w.alloc (.cells #[.int .i64 cu, .bool qu, .slice A n c, .slice B m d] 24)) := Ext.alloc _ _
  have s1 := Sb.new w cu qu (.slice A n c) (.slice B m d) rfl
  have k0 := s1.c0
  have k2 := s1.c2
  have k3 := s1.c3
  have S1 := Lib.hid s1
  have hRB := stripes_any (w.alloc (.cells #[.int .i64 cu, .bool qu, .slice A n c, .slice B m d] 24)) B m d b (hb.ext xA)
  have HU := Lib.hid (hu.ext xA)
  clear hu hb s1
  by_cases hc1 : cu < -1
  · obtain rfl := NO.out (fun h => by rcases h.1 with h | h; omega; have := h.1; omega)
    clear hRB
    go_enter Try.func19, Try.ntmps19
    go_wp2_with (fail)
    go_ret
    exact ⟨rfl, xA⟩
  by_cases hc2 : 1099511627776 < cu
  · obtain rfl := NO.out (fun h => by
      rcases h.1 with h | h
      · omega
      · have : cu ≤ 1099511627776 := h.2
        omega)
    clear hRB
    go_enter Try.func19, Try.ntmps19
    go_wp2_with (fail)
    go_ret
    exact ⟨rfl, xA⟩
  have HC := Lib.hid (show cu = -1 ∨ Scrubs.stripe cu from by
    by_cases h : cu = -1
    · exact .inl h
    · exact .inr ⟨by omega, by show cu ≤ 1099511627776; omega⟩)
  by_cases hn : n ≤ 1000
  · by_cases hm : m ≤ 1000
    · have g1 : ¬ (1000 : Int) < n := by omega
      have g2 : ¬ (1000 : Int) < m := by omega
      by_cases hr : Il.rising 0 Scrubs.great b
      · rw [decide_eq_true hr] at hRB
        have HRB := Lib.hid hRB
        have HR := Lib.hid hr
        have bad : ∀ k, k < n → (¬ (0 ≤ Il.get u k ∧ Il.get u k ≤ Scrubs.great) ∨ Il.get u k ∈ u.take k) → R = false := fun k hk h => NO.out (fun q => by
          have hku : k < u.length := by rw [lu.out]; exact hk
          rcases h with h | h
          · exact h (q.2.2.2.2.1 _ (Il.get_mem hku))
          · exact Il.nodup_iff_take.1 q.2.2.2.2.2 k hku h)
        have BAD := Lib.hid bad
        clear hRB hr bad
        go_enter Try.func19, Try.ntmps19
        go_wp2_with (fail)
        refine HRB.out.mono ?_
        rintro e w1 ⟨rfl, x1⟩
        have j2 := (S1.out.ext x1).c2
        have HU1 := Lib.hid (HU.out.ext x1)
        have X1 := Lib.hid (xA.trans x1)
        clear x1 k0 k2 k3
        go_wp2_with (fail)
        go_loopw [3] (fun s wr => ∃ k : Nat, k ≤ n ∧ s = .int .i64 k ∧ Ext w1 wr ∧ RowKit.Hid (∀ j, j < k → (0 ≤ Il.get u j ∧ Il.get u j ≤ Scrubs.great) ∧ Il.get u j ∉ u.take j)) (fun s _ => n - (intOf s).toNat)
        case atStart => exact ⟨0, by omega, rfl, Ext.refl w1, Lib.hid fun j hj => absurd hj (Nat.not_lt_zero _)⟩
        case round =>
          obtain ⟨k, hk, rfl, hx, H⟩ := hrel
          have i2 := hx.cell j2
          by_cases hlt : k < n
          · have i1 : (k : Int) < n := by omega
            obtain ⟨bb, o, rfl, hc⟩ := (HU1.out.ext hx).rd.intAt hlt
            obtain ⟨x, hxx⟩ : ∃ x, Il.get u k = x := ⟨_, rfl⟩
            have HX := Lib.hid hxx
            rw [hxx] at hc
            clear hxx
            have g5 : (k : Int) ≤ n := by omega
            have g6 : (k : Int) ≤ c := by omega
            have g7 : (0 : Int) ≤ k := by omega
            have HHAS := Lib.hid (fun (W : World) (hW : Ext wr W) => has_any W (some ⟨bb, o, none⟩) k c (u.take k) x (((HU1.out.ext hx).ext hW).take (by omega)))
            by_cases h1 : x < 0
            · have e1 : decide (x < 0) = true := decide_eq_true h1
              obtain rfl := BAD.out k hlt (.inl (by rw [HX.out]; exact fun h => by omega))
              go_wp2_with (fail)
              go_region
              all_goals
                go_wp2_with (fail)
                go_ret
                exact ⟨rfl, (X1.out.trans hx).thenDrew⟩
            · have e1 : decide (x < 0) = false := decide_eq_false h1
              by_cases h2 : 1099511627776 < x
              · have e2 : decide (1099511627776 < x) = true := decide_eq_true h2
                obtain rfl := BAD.out k hlt (.inl (by rw [HX.out]; exact fun h => by have : x ≤ 1099511627776 := h.2; omega))
                go_wp2_with (fail)
                go_region
                all_goals
                  go_wp2_with (fail)
                  go_ret
                  exact ⟨rfl, (X1.out.trans hx).thenDrew⟩
              · have e2 : decide (1099511627776 < x) = false := decide_eq_false h2
                have HST := Lib.hid (show 0 ≤ x ∧ x ≤ Scrubs.great from ⟨by omega, by show x ≤ 1099511627776; omega⟩)
                by_cases h3 : x ∈ u.take k
                · rw [decide_eq_true h3] at HHAS
                  obtain rfl := BAD.out k hlt (.inr (by rw [HX.out]; exact h3))
                  clear h3
                  go_wp2_with (fail)
                  go_region_with (((with_reducible refine (HHAS.out _ (Ext.drew _)).mono ?_); (rintro e w9 ⟨rfl, rfl⟩)))
                  all_goals
                    go_wp2_with (fail)
                    go_ret
                    exact ⟨rfl, (X1.out.trans hx).thenDrew⟩
                · rw [decide_eq_false h3] at HHAS
                  have H3 := Lib.hid h3
                  clear h3
                  go_wp2_with (fail)
                  go_region_with (((with_reducible refine (HHAS.out _ (Ext.drew _)).mono ?_); (rintro e w9 ⟨rfl, rfl⟩)))
                  all_goals
                    go_wp2_with (fail)
                    exact ⟨⟨k + 1, by omega, by go_num, hx.thenDrew, Lib.hid fun j hj => by
                      by_cases e : j = k
                      · rw [e, HX.out]; exact ⟨HST.out, H3.out⟩
                      · exact H.out j (by omega)⟩, by simp [intOf]; omega⟩
          · have i1 : ¬ (k : Int) < n := by omega
            obtain rfl : k = n := by omega
            have hR : R = true := HRI.out.2 ⟨HC.out, hn, hm, HR.out, fun x hx => by
              obtain ⟨j, hj, rfl⟩ := Il.mem_get hx
              exact (H.out j (by rw [lu.out] at hj; exact hj)).1, Il.nodup_iff_take.2 (fun j hj => (H.out j (by rw [lu.out] at hj; exact hj)).2)⟩
            subst hR
            go_wp2_with (fail)
            go_ret
            exact ⟨rfl, X1.out.trans hx⟩
      · obtain rfl := NO.out (fun h => hr h.2.2.2.1)
        rw [decide_eq_false hr] at hRB
        have HRB := Lib.hid hRB
        clear hRB hr
        go_enter Try.func19, Try.ntmps19
        go_wp2_with (fail)
        refine HRB.out.mono ?_
        rintro e w1 ⟨rfl, x1⟩
        go_wp2_with (fail)
        go_ret
        exact ⟨rfl, xA.trans x1⟩
    · obtain rfl := NO.out (fun h => hm h.2.2.1)
      have g1 : ¬ (1000 : Int) < n := by omega
      have g2 : (1000 : Int) < m := by omega
      clear hRB
      go_enter Try.func19, Try.ntmps19
      go_wp2_with (fail)
      go_ret
      exact ⟨rfl, xA⟩
  · obtain rfl := NO.out (fun h => hn h.2.1)
    have g1 : (1000 : Int) < n := by omega
    clear hRB
    go_enter Try.func19, Try.ntmps19
    go_wp2_with (fail)
    go_ret
    exact ⟨rfl, xA⟩
end Go.Proofs.Ytkclimblcipmlaa
