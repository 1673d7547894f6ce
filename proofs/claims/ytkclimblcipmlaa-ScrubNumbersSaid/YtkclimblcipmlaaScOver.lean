/- The contract of scrub.Over. -/
import Derived.Test.YtkclimblcipmlaaScUrge
namespace Go.Proofs.Ytkclimblcipmlaa
open Go.RowKit

set_option maxRecDepth 100000 in
set_option maxHeartbeats 4000000 in
theorem scOver_any (w : World) (s : Scrubs.S) (A : Option Addr) (n c : Nat) (B : Option Addr) (m d : Nat) (x : Int) (hu : Is w A n c s.urged) (hb : Is w B m d s.busy) :
    Calls Try.prog 10 #[sval s.cur s.queue (.slice A n c) (.slice B m d), .int .i64 x] w (GivesS (Scrubs.overS s x) (Scrubs.overE s x) A n B m w) := by
  have q1 := hu.max
  have q2 := hu.le
  have q3 := hb.max
  have q4 := hb.le
  have sw := Sw.start w s.cur s.queue (.slice A n c) (.slice B m d) rfl
  have hRT := scRight_any _ s A n c B m d (hu.ext sw.x) (hb.ext sw.x)
  have HU := Lib.hid hu
  have HB := Lib.hid hb
  have LU := Lib.hid hu.len
  have LB := Lib.hid hb.len
  have k0 := sw.a.c0
  have k1 := sw.a.c1
  have k2 := sw.a.c2
  have k3 := sw.a.c3
  have hIX := index_any (begun w s.cur s.queue (.slice A n c) (.slice B m d)) B m d s.busy x (hb.ext sw.x)
  by_cases hr : Scrubs.right s
  · rw [decide_eq_true hr] at hRT
    have HRT := Lib.hid hRT
    have HO := Lib.hid (fun (W : World) (hW : Ext w W) => scOwn_any W s.cur s.queue A n c B m d s.urged s.busy (hu.ext hW) (hb.ext hW) (by have := hr.2.1; have := hu.len; omega) (by have := hr.2.2.1; have := hb.len; omega))
    have SW := Lib.hid sw
    rcases Il.idx_cases s.busy x with ⟨i, hi, hid, hg, _⟩ | ⟨hid, hno⟩
    · obtain ⟨e1, e2⟩ := Scrubs.over_ok (n := x) ⟨hr, by rw [← hg]; exact Il.get_mem hi⟩ hid
      rw [e1, e2]
      rw [hid] at hIX
      have HIX := Lib.hid hIX
      have him : i < m := by rw [← hb.len]; exact hi
      have hm1 : m ≤ 1000 := by rw [← hb.len]; exact hr.2.2.1
      have HI := Lib.hid hi
      have g1 : ¬ (i : Int) < 0 := by omega
      clear hRT hu hb sw hIX e1 e2 hid hg hr hi
      go_enter Try.func10, Try.ntmps10
      go_wp2_with (fail)
      refine HIX.out.mono ?_
      rintro e w' ⟨rfl, rfl⟩
      go_wp2_with (fail)
      refine HRT.out.mono ?_
      rintro e w1 ⟨rfl, x1⟩
      have s1 := SW.out.ext x1
      have a0 := s1.a.c0
      have a1 := s1.a.c1
      have a2 := s1.a.c2
      have a3 := s1.a.c3
      have b0 := s1.b.c0
      have b1 := s1.b.c1
      have b2 := s1.b.c2
      have b3 := s1.b.c3
      have b4 := s1.b.fz
      have S1 := Lib.hid s1
      clear s1
      have f4 := S1.out.a.fz
      go_upto_region 4 with (fail)
      go_cut [] (fun wx => ∃ wv : World, wv = wx ∧ ∃ (A1 A2 : Option Addr) (c1 c2 : Nat), Sw w wx w.heap.size s.cur s.queue (.slice A1 s.urged.length c1) (.slice A2 s.busy.length c2) ∧ Ow wx (w.heap.size + 2) (.slice A1 s.urged.length c1) (.slice A2 s.busy.length c2) s.urged s.busy)
      case first =>
        go_wp2_with (fail)
        refine (HO.out _ S1.out.x).mono ?_
        rintro e w2 ⟨U1, B1, rfl, ho, x2⟩
        obtain ⟨A1, c1, rfl, hi1⟩ := own_is ho.u
        obtain ⟨A2, c2, rfl, hi2⟩ := own_is ho.b
        have s2 := S1.out.ext x2
        have d0 := s2.a.c0
        have d1 := s2.a.c1
        have d2 := s2.a.c2
        have d3 := s2.a.c3
        have d4 := s2.a.fz
        have S2 := Lib.hid s2
        have OW := Lib.hid (ho.base (b' := w.heap.size + 2) (by have := x1.size; simp [begun] at this; omega))
        clear s2 ho hi1 hi2
        go_wp2_with (fail)
        go_meet
        exact ⟨_, rfl, A1, A2, c1, c2, S2.out.four _ _ _ _, OW.out.four (by omega) _ _⟩
      case rest =>
        obtain ⟨w3, rfl, A1, A2, c1, c2, s3, ow⟩ := hcut
        have d0 := s3.a.c0
        have d1 := s3.a.c1
        have d2 := s3.a.c2
        have d3 := s3.a.c3
        have HDE := Lib.hid (delete_own w3 (w.heap.size + 2) s.busy.length c2 i A2 s.busy rfl HI.out ow.b)
        have OW := Lib.hid ow
        have S3 := Lib.hid s3
        clear s3 ow a0 a1 a2 a3 b0 b1 b2 b3 b4 f4 k0 k1 k2 k3
        go_wp2_with (fail)
        refine HDE.out.mono ?_
        rintro e w5 ⟨rfl, hown, hgr⟩
        have s5 := S3.out.grown hgr (fun k hk => (OW.out.b.lt k hk).1)
        have h0 := s5.a.c0
        have h1 := s5.a.c1
        have h2 := s5.a.c2
        have h3 := s5.a.c3
        have h4 := s5.a.fz
        have b0 := s5.b.c0
        have b1 := s5.b.c1
        have b2 := s5.b.c2
        have b3 := s5.b.c3
        have b4 := s5.b.fz
        have OU := Lib.hid (ownsRow_grown OW.out.u hgr OW.out.apart')
        have OB := Lib.hid hown
        have S5 := Lib.hid s5
        clear s5 hown d0 d1 d2 d3
        go_wp2_with (fail)
        have s6 := S5.out.set3 (.slice A2 (s.busy.length - 1) c2)
        have hl : (s.busy.eraseIdx i).length = s.busy.length - 1 := List.length_eraseIdx_of_lt HI.out
        have ob : w5.ownsRow (w.heap.size + 2) 3 1 (.slice A2 (s.busy.length - 1) c2) (s.busy.eraseIdx i).length (icells (s.busy.eraseIdx i)) := by rw [hl]; exact OB.out
        refine bodyPost_ret (v := .tuple #[sval s.cur s.queue (.slice A1 s.urged.length c1) (.slice A2 (s.busy.length - 1) c2), .int .i64 0]) ?_ rfl ⟨A1, _, c1, A2, _, c2, rfl, own_is_four (ownsRow_far OU.out (p := ⟨w.heap.size, 3, none⟩) (by show w.heap.size < _; omega) _) (by omega) _ _ _ _ rfl rfl, own_is_four (ownsRow_far ob (p := ⟨w.heap.size, 3, none⟩) (by show w.heap.size < _; omega) _) (by omega) _ _ _ _ rfl hl, s6.end, own_pass_four (ownsRow_far OU.out (p := ⟨w.heap.size, 3, none⟩) (by show w.heap.size < _; omega) _) (by omega) (by omega) _ _ _ _ rfl rfl, own_pass_four (ownsRow_far ob (p := ⟨w.heap.size, 3, none⟩) (by show w.heap.size < _; omega) _) (by omega) (by omega) _ _ _ _ rfl hl⟩
        rw [results_cell_tmp rfl]
        simp [asAddr, Result.andThen, s6.res]
    · obtain ⟨e1, e2⟩ := Scrubs.over_bad (s := s) (n := x) (fun h => by
        obtain ⟨j, hj, e⟩ := Il.mem_get h.2
        exact hno j hj e)
      rw [e1, e2]
      rw [hid] at hIX
      have HIX := Lib.hid hIX
      clear hRT hu hb sw hIX e1 e2 hid hno hr
      go_enter Try.func10, Try.ntmps10
      go_wp2_with (fail)
      refine HIX.out.mono ?_
      rintro e w' ⟨rfl, rfl⟩
      go_wp2_with (fail)
      refine HRT.out.mono ?_
      rintro e w1 ⟨rfl, x1⟩
      have s1 := SW.out.ext x1
      have a0 := s1.a.c0
      have a1 := s1.a.c1
      have a2 := s1.a.c2
      have a3 := s1.a.c3
      have b0 := s1.b.c0
      have b1 := s1.b.c1
      have b2 := s1.b.c2
      have b3 := s1.b.c3
      have b4 := s1.b.fz
      have S1 := Lib.hid s1
      clear s1
      go_wp2_with (fail)
      refine bodyPost_ret (v := .tuple #[sval s.cur s.queue (.slice A n c) (.slice B m d), .int .i64 165]) ?_ rfl ⟨A, n, c, B, m, d, rfl, HU.out.four S1.out.x (by omega) _ _ _ _, HB.out.four S1.out.x (by omega) _ _ _ _, S1.out.end, Pass.same _ _ _ _ _ (by decide), Pass.same _ _ _ _ _ (by decide)⟩
      rw [results_cell_tmp rfl]
      simp [asAddr, Result.andThen, S1.out.res]
  · obtain ⟨e1, e2⟩ := Scrubs.over_bad (s := s) (n := x) (fun h => hr h.1)
    rw [e1, e2]
    rw [decide_eq_false hr] at hRT
    have HRT := Lib.hid hRT
    have HIX := Lib.hid hIX
    have SW := Lib.hid sw
    clear hRT hu hb sw hIX e1 e2 hr
    go_enter Try.func10, Try.ntmps10
    go_wp2_with (fail)
    refine HIX.out.mono ?_
    rintro e w' ⟨rfl, rfl⟩
    go_wp2_with (fail)
    refine HRT.out.mono ?_
    rintro e w1 ⟨rfl, x1⟩
    have s1 := SW.out.ext x1
    have a0 := s1.a.c0
    have a1 := s1.a.c1
    have a2 := s1.a.c2
    have a3 := s1.a.c3
    have b0 := s1.b.c0
    have b1 := s1.b.c1
    have b2 := s1.b.c2
    have b3 := s1.b.c3
    have b4 := s1.b.fz
    have S1 := Lib.hid s1
    clear s1
    go_wp2_with (fail)
    refine bodyPost_ret (v := .tuple #[sval s.cur s.queue (.slice A n c) (.slice B m d), .int .i64 165]) ?_ rfl ⟨A, n, c, B, m, d, rfl, HU.out.four S1.out.x (by omega) _ _ _ _, HB.out.four S1.out.x (by omega) _ _ _ _, S1.out.end, Pass.same _ _ _ _ _ (by decide), Pass.same _ _ _ _ _ (by decide)⟩
    rw [results_cell_tmp rfl]
    simp [asAddr, Result.andThen, S1.out.res]
end Go.Proofs.Ytkclimblcipmlaa
