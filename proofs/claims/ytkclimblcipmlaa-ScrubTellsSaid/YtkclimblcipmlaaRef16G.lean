/- The contract of the document's Over (chapter 16). -/
import Derived.Test.YtkclimblcipmlaaRef16F
namespace Go.Proofs.Ytkclimblcipmlaa
open Go.RowKit

set_option maxRecDepth 100000 in
set_option maxHeartbeats 4000000 in
theorem ref16Over_any (w : World) (s : Scrubs.S) (A : Option Addr) (n c : Nat) (B : Option Addr) (m d : Nat) (x : Int) (hu : Is w A n c s.urged) (hb : Is w B m d s.busy) :
    Calls Try.prog 17 #[sval s.cur s.queue (.slice A n c) (.slice B m d), .int .i64 x] w (GivesSL (Scrubs.overS s x) (Scrubs.overE s x) A n B m w) := by
  obtain ⟨i0, hi0, hz0, hz1, hz2⟩ := info_parts int_info
  have q1 := hu.max
  have q2 := hu.le
  have q3 := hb.max
  have q4 := hb.le
  have sw := Sw.start w s.cur s.queue (.slice A n c) (.slice B m d) rfl
  have hRT := ref16Right_any _ s A n c B m d (hu.ext sw.x) (hb.ext sw.x)
  have HU := Lib.hid hu
  have HB := Lib.hid hb
  have LU := Lib.hid hu.len
  have LB := Lib.hid hb.len
  have k0 := sw.a.c0
  have k1 := sw.a.c1
  have k2 := sw.a.c2
  have k3 := sw.a.c3
  by_cases hr : Scrubs.right s
  · rw [decide_eq_true hr] at hRT
    have HRT := Lib.hid hRT
    have SW := Lib.hid sw
    have HR := Lib.hid hr
    have HM := Lib.hid (show m ≤ 1000 by have := hr.2.2.1; have := hb.len; omega)
    clear hRT hu hb sw hr
    go_enter Try.func17, Try.ntmps17
    go_wp2_with (fail)
    refine HRT.out.mono ?_
    rintro e w1 ⟨rfl, x1⟩
    have s1 := SW.out.ext x1
    have S1 := Lib.hid s1
    have a3 := s1.a.c3
    clear s1 k0 k1 k2 k3
    go_wp2_with (fail)
    go_loopw [6] (fun t wr => ∃ k : Nat, k ≤ m ∧ t = .int .i64 k ∧ w1 = wr ∧ RowKit.Hid (∀ j, j < k → Il.get s.busy j ≠ x)) (fun t _ => m - (intOf t).toNat)
    case atStart => exact ⟨0, by omega, rfl, rfl, Lib.hid fun j hj => absurd hj (Nat.not_lt_zero _)⟩
    case round =>
      obtain ⟨k, hk, rfl, rfl, H⟩ := hrel
      by_cases hlt : k < m
      · have i1 : (k : Int) < m := by omega
        obtain ⟨bb, o, rfl, hc⟩ := (HB.out.ext S1.out.x).rd.intAt hlt
        obtain ⟨y, hyy⟩ : ∃ y, Il.get s.busy k = y := ⟨_, rfl⟩
        have HY := Lib.hid hyy
        rw [hyy] at hc
        clear hyy
        by_cases he : y = x
        · subst he
          obtain ⟨e1, e2⟩ := Scrubs.over_found HR.out (by rw [LB.out]; exact hlt) HY.out H.out
          rw [e1, e2]
          have HWO := Lib.hid (without_any w1 (some ⟨bb, o, none⟩) m d k s.busy (HB.out.ext S1.out.x) hlt (by have := HM.out; omega))
          clear e1 e2
          go_wp2_with (fail)
          refine HWO.out.mono ?_
          rintro e w5 ⟨v, rfl, hnew⟩
          obtain ⟨A5, c5, rfl, hi5⟩ := hnew.is
          have s5 := S1.out.ext hnew.ext
          have h0 := s5.a.c0
          have h1 := s5.a.c1
          have h2 := s5.a.c2
          have h3 := s5.a.c3
          have h4 := s5.a.fz
          have b0 := s5.b.c0
          have b1 := s5.b.c1
          have b2 := s5.b.c2
          have b3 := s5.b.c3
          have b4 := s5.b.fz
          have hsz1 : w.heap.size + 2 ≤ w1.heap.size := by have := S1.out.b.lt; omega
          have OB := Lib.hid (ownsRow_base hnew.own hsz1)
          have S5 := Lib.hid s5
          have hl : (s.busy.eraseIdx k).length = m - 1 := by rw [List.length_eraseIdx_of_lt (by rw [LB.out]; exact hlt), LB.out]
          have HL5 := Lib.hid hl
          generalize (s.busy.eraseIdx k).length = l5 at *
          clear s5 hnew hi5 a3 hl
          go_wp2_with (fail)
          have s6 := S5.out.set3 (.slice A5 l5 c5)
          have ob : w5.ownsRow (w.heap.size + 2) 3 1 (.slice A5 l5 c5) (s.busy.eraseIdx k).length (icells (s.busy.eraseIdx k)) := by
            rw [show (s.busy.eraseIdx k).length = l5 by rw [List.length_eraseIdx_of_lt (by rw [LB.out]; exact hlt), LB.out, HL5.out]]
            exact OB.out
          have hl6 : (s.busy.eraseIdx k).length = l5 := by rw [List.length_eraseIdx_of_lt (by rw [LB.out]; exact hlt), LB.out, HL5.out]
          refine bodyPost_ret (v := .tuple #[sval s.cur s.queue (.slice A n c) (.slice A5 l5 c5), .int .i64 0]) ?_ rfl ⟨A, n, c, A5, _, c5, rfl, HU.out.ext s6.end, own_is_four (ownsRow_far ob (p := ⟨w.heap.size, 3, none⟩) (by show w.heap.size < _; omega) _) (by omega) _ _ _ _ rfl hl6, s6.end, .inl ⟨rfl, rfl⟩, own_passL_four (ownsRow_far ob (p := ⟨w.heap.size, 3, none⟩) (by show w.heap.size < _; omega) _) (by omega) (by omega) _ _ _ _ rfl hl6⟩
          rw [results_cell_tmp rfl]
          simp [asAddr, Result.andThen, s6.res]
        · have hne : (y == x) = false := by simpa using he
          have HE := Lib.hid he
          clear he
          go_wp2_with (fail)
          exact ⟨⟨k + 1, by omega, by go_num, by trivial, Lib.hid fun j hj => by
            by_cases e : j = k
            · rw [e, HY.out]; exact HE.out
            · exact H.out j (by omega)⟩, by simp [intOf]; omega⟩
      · have i1 : ¬ (k : Int) < m := by omega
        obtain rfl : k = m := by omega
        obtain ⟨e1, e2⟩ := Scrubs.over_none (s := s) (x := x) (fun j hj => H.out j (by rw [LB.out] at hj; exact hj))
        have E1 := Lib.hid e1
        have E2 := Lib.hid e2
        have a0 := S1.out.a.c0
        have a1 := S1.out.a.c1
        have a2 := S1.out.a.c2
        have b0 := S1.out.b.c0
        have b1 := S1.out.b.c1
        have b2 := S1.out.b.c2
        have b3 := S1.out.b.c3
        have b4 := S1.out.b.fz
        clear e1 e2
        go_wp2_with (fail)
        refine bodyPost_ret (v := .tuple #[sval s.cur s.queue (.slice A n c) (.slice B k d), .int .i64 165]) ?_ rfl (show GivesSL (Scrubs.overS s x) (Scrubs.overE s x) A n B k w _ _ from by rw [E1.out, E2.out]; exact ⟨A, n, c, B, k, d, rfl, HU.out.four (g := w.heap.size + 1) S1.out.x (by omega) _ _ _ _, HB.out.four (g := w.heap.size + 1) S1.out.x (by omega) _ _ _ _, S1.out.end, .inl ⟨rfl, rfl⟩, .inl ⟨rfl, rfl⟩⟩)
        rw [results_cell_tmp rfl]
        simp [asAddr, Result.andThen, S1.out.res]
  · obtain ⟨e1, e2⟩ := Scrubs.over_bad (s := s) (n := x) (fun h => hr h.1)
    rw [e1, e2]
    clear e1 e2
    rw [decide_eq_false hr] at hRT
    have HRT := Lib.hid hRT
    have SW := Lib.hid sw
    clear hr hRT hu hb sw
    go_enter Try.func17, Try.ntmps17
    go_wp2_with (fail)
    refine HRT.out.mono ?_
    rintro e w1 ⟨rfl, x1⟩
    have s1 := SW.out.ext x1
    have a0 := s1.a.c0
    have a1 := s1.a.c1
    have a2 := s1.a.c2
    have a3 := s1.a.c3
    have b0 := s1.b.c0
    have b1 := s1.b.c1
    have b2 := s1.b.c2
    have b3 := s1.b.c3
    have b4 := s1.b.fz
    have S1 := Lib.hid s1
    clear s1
    go_wp2_with (fail)
    refine bodyPost_ret (v := .tuple #[sval s.cur s.queue (.slice A n c) (.slice B m d), .int .i64 165]) ?_ rfl ⟨A, n, c, B, m, d, rfl, HU.out.four (g := w.heap.size + 1) S1.out.x (by omega) _ _ _ _, HB.out.four (g := w.heap.size + 1) S1.out.x (by omega) _ _ _ _, S1.out.end, .inl ⟨rfl, rfl⟩, .inl ⟨rfl, rfl⟩⟩
    rw [results_cell_tmp rfl]
    simp [asAddr, Result.andThen, S1.out.res]
end Go.Proofs.Ytkclimblcipmlaa
