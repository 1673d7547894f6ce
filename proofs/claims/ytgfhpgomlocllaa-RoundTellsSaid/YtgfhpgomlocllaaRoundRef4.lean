/- The contract of the document's Wants. -/
import Derived.Test.YtgfhpgomlocllaaRoundRef3
import Derived.Test.YtgfhpgomlocllaaRoundWants
namespace Go.Proofs.Ytgfhpgomlocllaa
open Go.RowKit

set_option maxRecDepth 100000 in
set_option maxHeartbeats 4000000 in
theorem refWants_any (w : World) (r : Rounds.R) (A : Option Addr) (n c : Nat) (hl : Is w A n c r.marks) :
    Calls Try.prog 32 #[rval r A n c] w (GivesW (Rounds.wants r) w) := by
  obtain ⟨s, v, d, p, l⟩ := r
  show Calls Try.prog 32 #[.agg #[.int .i64 s, .int .i64 v, .int .i64 d, .int .i64 p, .slice A n c]] w _
  have hl' : Is w A n c l := hl
  have hR := refRight_any (w.alloc (.cells #[.int .i64 s, .int .i64 v, .int .i64 d, .int .i64 p, .slice A n c] 25)) ⟨s, v, d, p, l⟩ A n c (hl'.up _)
  unfold Rounds.wants
  by_cases hr : Rounds.Right ⟨s, v, d, p, l⟩
  · rw [if_pos hr]
    rw [decide_eq_true hr] at hR
    have HR := Lib.hid hR
    have hp := Rounds.right_phase hr
    have hn : n ≤ 255 := by
      have h1 := (Rounds.right_len hr).2
      have h2 := hl'.len
      simp only at h1
      omega
    have L := Lib.hid hl'.len
    have hmx := hl.max
    have hle := hl.le
    obtain ⟨i0, hi0, hz0, hz1, hz2⟩ := info_parts want_info
    simp only at hp
    obtain ⟨hp1, hp6⟩ := hp
    clear hR hr hl
    go_enter Try.func32, Try.ntmps32
    try dsimp only [List.append]
    go_wp2_with (fail)
    refine HR.out.mono ?_
    rintro x w1 ⟨rfl, x1⟩
    have bx := (Bx.new w s v d p (.slice A n c) rfl).ext x1
    replace x1 := (Ext.alloc w _).trans x1
    have hl1 := hl'.ext x1
    have g1 : w.heap.size < w1.heap.size := bx.lt
    have X1 := Lib.hid x1
    clear HR x1
    generalize hg : w.heap.size = g at *
    clear hg
    have c3 := bx.c3
    have c4 := bx.c4
    clear bx
    go_wp2_with (fail)
    go_loopw [3, 4] (fun q i wr => ∃ k : Nat, k ≤ n ∧ i = .int .i64 k ∧ wr.ownsRow w1.heap.size 62 2 q (Rounds.wantsOf p l k).length (wcells (Rounds.wantsOf p l k)) ∧ Ext w1 wr) (fun _ i _ => n - (intOf i).toNat)
    case atStart => exact ⟨0, by omega, rfl, World.ownsRow_nil _ _ _ _, Ext.refl w1⟩
    case round =>
      obtain ⟨k, hk, rfl, own, hx⟩ := hrel
      replace c3 := hx.cell c3
      replace c4 := hx.cell c4
      by_cases hlt : k < n
      · have q1 : (k : Int) < n := by omega
        obtain ⟨b, o, rfl, hc⟩ := (hl1.ext hx).rd.intAt hlt
        have hs := Rounds.wantsOf_succ p l k
        have hln := Rounds.wantsOf_length p l k
        have hsz := hx.size
        generalize hmk : Il.get l k = mk at *
        have HS := Lib.hid hs
        have OWN := Lib.hid own
        clear hs own hmk

        by_cases p1 : p = 1
        · subst p1
          by_cases m0 : mk = 0
          · subst m0
            have hw : Rounds.want 1 0 = 1 := by simp [Rounds.want]
            rw [hw] at HS
            clear hw
            go_wp2_with (at_builtin; refine wpList_append_rd _ rfl (.tmp 42) (.tmp 45) 47 rfl w1.heap.size 62 i0 _ 2 16 Try.underlying47 hi0 hz0 hz1 hz2 rfl (by omega) u3 (Rounds.wantsOf 1 l k).length (wcells (Rounds.wantsOf 1 l k)) rfl (ownsRow_ext OWN.out (Ext.alloc _ _)) (some ⟨wr.heap.size, 0, none⟩) 1 1 [.int .i64 k, .int .u8 1] rfl (Rd.lit2w _ _ _ _) (by simp [Value.oneCell']) (by omega) (by unfold maxLen; omega) (by simp; omega) ?_; intro v1 w2 hown hgr hat; have c3' : w2.cell? ⟨g, 3, .none⟩ = some (.int .i64 1) := hgr.cell (w := wr.alloc (.cells #[.int .i64 k, .int .u8 1] 62)) (Ext.cell (Ext.alloc wr _) c3) (fun e => by have := own_row OWN.out _ e.symm; simp at this; omega))
            refine ⟨⟨k + 1, by omega, by go_num, ?_, ?_⟩, by simp [intOf]; omega⟩
            · rw [HS.out, if_pos (by omega), wcells_append, List.length_append]
              exact hown
            · exact Ext.ofGrown (hx.thenAlloc _) hgr (own_row OWN.out)
          · have e0 : (mk == 0) = false := by rw [beq_eq_false_iff_ne]; exact m0
            have n0 : (mk != 0) = true := by rw [bne_iff_ne]; exact m0
            have hw : Rounds.want 1 mk = 0 := by simp [Rounds.want, m0]
            rw [hw] at HS
            clear hw
            clear m0
            go_wp2_with (fail)
            refine ⟨⟨k + 1, by omega, by go_num, ?_, hx⟩, by simp [intOf]; omega⟩
            rw [HS.out, if_neg (fun h => h rfl), List.append_nil]
            exact OWN.out
        · skip
          by_cases p2 : p = 2
          · subst p2
            by_cases m0 : mk = 0
            · subst m0
              have hw : Rounds.want 2 0 = 1 := by simp [Rounds.want]
              rw [hw] at HS
              clear hw
              go_wp2_with (at_builtin; refine wpList_append_rd _ rfl (.tmp 42) (.tmp 45) 47 rfl w1.heap.size 62 i0 _ 2 16 Try.underlying47 hi0 hz0 hz1 hz2 rfl (by omega) u3 (Rounds.wantsOf 2 l k).length (wcells (Rounds.wantsOf 2 l k)) rfl (ownsRow_ext OWN.out (Ext.alloc _ _)) (some ⟨wr.heap.size, 0, none⟩) 1 1 [.int .i64 k, .int .u8 1] rfl (Rd.lit2w _ _ _ _) (by simp [Value.oneCell']) (by omega) (by unfold maxLen; omega) (by simp; omega) ?_; intro v1 w2 hown hgr hat; have c3' : w2.cell? ⟨g, 3, .none⟩ = some (.int .i64 2) := hgr.cell (w := wr.alloc (.cells #[.int .i64 k, .int .u8 1] 62)) (Ext.cell (Ext.alloc wr _) c3) (fun e => by have := own_row OWN.out _ e.symm; simp at this; omega))
              refine ⟨⟨k + 1, by omega, by go_num, ?_, ?_⟩, by simp [intOf]; omega⟩
              · rw [HS.out, if_pos (by omega), wcells_append, List.length_append]
                exact hown
              · exact Ext.ofGrown (hx.thenAlloc _) hgr (own_row OWN.out)
            · have e0 : (mk == 0) = false := by rw [beq_eq_false_iff_ne]; exact m0
              have n0 : (mk != 0) = true := by rw [bne_iff_ne]; exact m0
              have hw : Rounds.want 2 mk = 0 := by simp [Rounds.want, m0]
              rw [hw] at HS
              clear hw
              clear m0
              go_wp2_with (fail)
              refine ⟨⟨k + 1, by omega, by go_num, ?_, hx⟩, by simp [intOf]; omega⟩
              rw [HS.out, if_neg (fun h => h rfl), List.append_nil]
              exact OWN.out
          · skip
            by_cases p3 : p = 3
            · subst p3
              by_cases m0 : mk = 0
              · subst m0
                have hw : Rounds.want 3 0 = 1 := by simp [Rounds.want]
                rw [hw] at HS
                clear hw
                go_wp2_with (at_builtin; refine wpList_append_rd _ rfl (.tmp 42) (.tmp 45) 47 rfl w1.heap.size 62 i0 _ 2 16 Try.underlying47 hi0 hz0 hz1 hz2 rfl (by omega) u3 (Rounds.wantsOf 3 l k).length (wcells (Rounds.wantsOf 3 l k)) rfl (ownsRow_ext OWN.out (Ext.alloc _ _)) (some ⟨wr.heap.size, 0, none⟩) 1 1 [.int .i64 k, .int .u8 1] rfl (Rd.lit2w _ _ _ _) (by simp [Value.oneCell']) (by omega) (by unfold maxLen; omega) (by simp; omega) ?_; intro v1 w2 hown hgr hat; have c3' : w2.cell? ⟨g, 3, .none⟩ = some (.int .i64 3) := hgr.cell (w := wr.alloc (.cells #[.int .i64 k, .int .u8 1] 62)) (Ext.cell (Ext.alloc wr _) c3) (fun e => by have := own_row OWN.out _ e.symm; simp at this; omega))
                refine ⟨⟨k + 1, by omega, by go_num, ?_, ?_⟩, by simp [intOf]; omega⟩
                · rw [HS.out, if_pos (by omega), wcells_append, List.length_append]
                  exact hown
                · exact Ext.ofGrown (hx.thenAlloc _) hgr (own_row OWN.out)
              · have e0 : (mk == 0) = false := by rw [beq_eq_false_iff_ne]; exact m0
                have n0 : (mk != 0) = true := by rw [bne_iff_ne]; exact m0
                by_cases m3 : mk = 3
                · subst m3
                  have hw : Rounds.want 3 3 = 1 := by simp [Rounds.want]
                  rw [hw] at HS
                  clear hw
                  go_wp2_with (at_builtin; refine wpList_append_rd _ rfl (.tmp 42) (.tmp 45) 47 rfl w1.heap.size 62 i0 _ 2 16 Try.underlying47 hi0 hz0 hz1 hz2 rfl (by omega) u3 (Rounds.wantsOf 3 l k).length (wcells (Rounds.wantsOf 3 l k)) rfl (ownsRow_ext OWN.out (Ext.alloc _ _)) (some ⟨wr.heap.size, 0, none⟩) 1 1 [.int .i64 k, .int .u8 1] rfl (Rd.lit2w _ _ _ _) (by simp [Value.oneCell']) (by omega) (by unfold maxLen; omega) (by simp; omega) ?_; intro v1 w2 hown hgr hat; have c3' : w2.cell? ⟨g, 3, .none⟩ = some (.int .i64 3) := hgr.cell (w := wr.alloc (.cells #[.int .i64 k, .int .u8 1] 62)) (Ext.cell (Ext.alloc wr _) c3) (fun e => by have := own_row OWN.out _ e.symm; simp at this; omega))
                  refine ⟨⟨k + 1, by omega, by go_num, ?_, ?_⟩, by simp [intOf]; omega⟩
                  · rw [HS.out, if_pos (by omega), wcells_append, List.length_append]
                    exact hown
                  · exact Ext.ofGrown (hx.thenAlloc _) hgr (own_row OWN.out)
                · have e3 : (mk == 3) = false := by rw [beq_eq_false_iff_ne]; exact m3
                  have n3 : (mk != 3) = true := by rw [bne_iff_ne]; exact m3
                  by_cases m1 : mk = 1
                  · subst m1
                    have hw : Rounds.want 3 1 = 2 := by simp [Rounds.want]
                    rw [hw] at HS
                    clear hw
                    go_wp2_with (at_builtin; refine wpList_append_rd _ rfl (.tmp 54) (.tmp 57) 47 rfl w1.heap.size 62 i0 _ 2 16 Try.underlying47 hi0 hz0 hz1 hz2 rfl (by omega) u3 (Rounds.wantsOf 3 l k).length (wcells (Rounds.wantsOf 3 l k)) rfl (ownsRow_ext OWN.out (Ext.alloc _ _)) (some ⟨wr.heap.size, 0, none⟩) 1 1 [.int .i64 k, .int .u8 2] rfl (Rd.lit2w _ _ _ _) (by simp [Value.oneCell']) (by omega) (by unfold maxLen; omega) (by simp; omega) ?_; intro v1 w2 hown hgr hat; have c3' : w2.cell? ⟨g, 3, .none⟩ = some (.int .i64 3) := hgr.cell (w := wr.alloc (.cells #[.int .i64 k, .int .u8 2] 62)) (Ext.cell (Ext.alloc wr _) c3) (fun e => by have := own_row OWN.out _ e.symm; simp at this; omega))
                    refine ⟨⟨k + 1, by omega, by go_num, ?_, ?_⟩, by simp [intOf]; omega⟩
                    · rw [HS.out, if_pos (by omega), wcells_append, List.length_append]
                      exact hown
                    · exact Ext.ofGrown (hx.thenAlloc _) hgr (own_row OWN.out)
                  · have e1 : (mk == 1) = false := by rw [beq_eq_false_iff_ne]; exact m1
                    have n1 : (mk != 1) = true := by rw [bne_iff_ne]; exact m1
                    have hw : Rounds.want 3 mk = 0 := by simp [Rounds.want, m0, m3, m1]
                    rw [hw] at HS
                    clear hw
                    clear m0 m3 m1
                    go_wp2_with (fail)
                    refine ⟨⟨k + 1, by omega, by go_num, ?_, hx⟩, by simp [intOf]; omega⟩
                    rw [HS.out, if_neg (fun h => h rfl), List.append_nil]
                    exact OWN.out
            · skip
              by_cases p5 : p = 5
              · subst p5
                by_cases m4 : mk = 4
                · subst m4
                  have hw : Rounds.want 5 4 = 0 := by simp [Rounds.want]
                  rw [hw] at HS
                  clear hw
                  go_wp2_with (fail)
                  refine ⟨⟨k + 1, by omega, by go_num, ?_, hx⟩, by simp [intOf]; omega⟩
                  rw [HS.out, if_neg (fun h => h rfl), List.append_nil]
                  exact OWN.out
                · have e4 : (mk == 4) = false := by rw [beq_eq_false_iff_ne]; exact m4
                  have n4 : (mk != 4) = true := by rw [bne_iff_ne]; exact m4
                  have hw : Rounds.want 5 mk = 3 := by simp [Rounds.want, m4]
                  rw [hw] at HS
                  clear hw
                  clear m4
                  go_wp2_with (at_builtin; refine wpList_append_rd _ rfl (.tmp 66) (.tmp 69) 47 rfl w1.heap.size 62 i0 _ 2 16 Try.underlying47 hi0 hz0 hz1 hz2 rfl (by omega) u3 (Rounds.wantsOf 5 l k).length (wcells (Rounds.wantsOf 5 l k)) rfl (ownsRow_ext OWN.out (Ext.alloc _ _)) (some ⟨wr.heap.size, 0, none⟩) 1 1 [.int .i64 k, .int .u8 3] rfl (Rd.lit2w _ _ _ _) (by simp [Value.oneCell']) (by omega) (by unfold maxLen; omega) (by simp; omega) ?_; intro v1 w2 hown hgr hat; have c3' : w2.cell? ⟨g, 3, .none⟩ = some (.int .i64 5) := hgr.cell (w := wr.alloc (.cells #[.int .i64 k, .int .u8 3] 62)) (Ext.cell (Ext.alloc wr _) c3) (fun e => by have := own_row OWN.out _ e.symm; simp at this; omega))
                  refine ⟨⟨k + 1, by omega, by go_num, ?_, ?_⟩, by simp [intOf]; omega⟩
                  · rw [HS.out, if_pos (by omega), wcells_append, List.length_append]
                    exact hown
                  · exact Ext.ofGrown (hx.thenAlloc _) hgr (own_row OWN.out)
              · skip
                have g2 : ¬ p ≤ 2 := by omega
                have f3 : (p == 3) = false := by rw [beq_eq_false_iff_ne]; exact p3
                have f5 : (p == 5) = false := by rw [beq_eq_false_iff_ne]; exact p5
                have hw : Rounds.want p mk = 0 := by simp [Rounds.want, p1, p2, p3, p5]
                rw [hw] at HS
                clear hw
                clear p1 p2 p3 p5
                go_wp2_with (fail)
                refine ⟨⟨k + 1, by omega, by go_num, ?_, hx⟩, by simp [intOf]; omega⟩
                rw [HS.out, if_neg (fun h => h rfl), List.append_nil]
                exact OWN.out
      · have q1 : ¬ (k : Int) < n := by omega
        have hkl : k = l.length := by rw [L.out]; omega
        rw [hkl] at own
        clear hkl
        obtain ⟨D, e, rfl, hW⟩ := Ws.own own
        go_wp2_with (fail)
        go_ret
        exact ⟨D, _, e, rfl, hW, X1.out.trans hx⟩
  · rw [if_neg hr]
    rw [decide_eq_false hr] at hR
    have HR := Lib.hid hR
    clear hR hr
    go_enter Try.func32, Try.ntmps32
    try dsimp only [List.append]
    go_wp2_with (fail)
    refine HR.out.mono ?_
    rintro x w1 ⟨rfl, x1⟩
    go_wp2_with (fail)
    go_ret
    exact ⟨none, 0, 0, rfl, Ws.none _, (Ext.alloc _ _).trans x1⟩
end Go.Proofs.Ytgfhpgomlocllaa
