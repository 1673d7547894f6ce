/- The contract of scrub.Take. -/
import Derived.Test.YtkclimblcipmlaaScOver
import Derived.Laws.EntriesVeiled
namespace Go.Proofs.Ytkclimblcipmlaa
open Go.RowKit

/-- A scrubbing, a stripe and an error are handed back. -/
def GivesN (s : Scrubs.S) (x er : Int) (A0 : Option Addr) (n0 : Nat) (B0 : Option Addr) (m0 : Nat) (w : World) (e : Ending) (w' : World) : Prop := ∃ A n c B m d, e = .returned (.tuple #[sval s.cur s.queue (.slice A n c) (.slice B m d), .int .i64 x, .int .i64 er]) ∧ Is w' A n c s.urged ∧ Is w' B m d s.busy ∧ Ext w w' ∧ Pass w.heap.size w' er A0 n0 A n ∧ Pass w.heap.size w' er B0 m0 B m
theorem take1_asks (w : World) (g : Nat) (s : Scrubs.S) (B : Option Addr) (m d : Nat) (hc : w.cell? ⟨g, 3, none⟩ = some (.slice B m d)) (hb : Is w B m d s.busy) : AsksNum w 26 #[.pointer (some ⟨g, 0, none⟩)] (Scrubs.free s) := by
  intro W x hx
  have c3 := hx.cell hc
  have HC := Lib.hid (contains_any W B m d s.busy x (hb.ext hx))
  show Calls Try.prog 26 #[.int .i64 x, .pointer (some ⟨g, 0, none⟩)] W _
  unfold Scrubs.free
  generalize decide (x ∈ s.busy) = t at *
  clear hb
  go_enter Try.func26, Try.ntmps26
  go_wp2_with (fail)
  refine HC.out.mono ?_
  rintro e w' ⟨rfl, rfl⟩
  go_wp2_with (fail)
  go_ret
  exact ⟨rfl, rfl⟩
/-- The function free, as a value. -/
abbrev freeF (g : Nat) : Value := .func (.func 26) #[] #[.pointer (some ⟨g, 0, none⟩)]
theorem take2_asks (w : World) (g h : Nat) (s : Scrubs.S) (B : Option Addr) (m d : Nat) (hc : w.cell? ⟨g, 3, none⟩ = some (.slice B m d)) (hb : Is w B m d s.busy) (h0 : w.cell? ⟨g, 0, none⟩ = some (.int .i64 s.cur)) (hf : w.cell? ⟨h, 0, none⟩ = some (freeF g)) : AsksNum w 28 #[.pointer (some ⟨g, 0, none⟩), .pointer (some ⟨h, 0, none⟩)] (fun x => decide (s.cur < x) && Scrubs.free s x) := by
  intro W x hx
  have c0 := hx.cell h0
  have cf := hx.cell hf
  have HA := Lib.hid (take1_asks W g s B m d (hx.cell hc) (hb.ext hx) W x (Ext.refl W))
  show Calls Try.prog 28 #[.int .i64 x, .pointer (some ⟨g, 0, none⟩), .pointer (some ⟨h, 0, none⟩)] W fun e w' => e = .returned (.bool (decide (s.cur < x) && Scrubs.free s x)) ∧ W = w'
  generalize Scrubs.free s x = t at *
  clear hb hc h0 hf
  by_cases hlt : s.cur < x
  · rw [decide_eq_true hlt, Bool.true_and]
    go_enter Try.func28, Try.ntmps28
    go_wp2_with (fail)
    refine HA.out.mono ?_
    rintro e w' ⟨rfl, rfl⟩
    go_wp2_with (fail)
    go_ret
    exact ⟨rfl, rfl⟩
  · rw [decide_eq_false hlt, Bool.false_and]
    go_enter Try.func28, Try.ntmps28
    go_wp2_with (fail)
    go_ret
    exact ⟨rfl, rfl⟩
set_option maxRecDepth 100000 in
set_option maxHeartbeats 4000000 in
theorem scTake_any (w : World) (s : Scrubs.S) (A : Option Addr) (n c : Nat) (B : Option Addr) (m d : Nat) (C : Option Addr) (k e0 : Nat) (l : List Int) (hu : Is w A n c s.urged) (hb : Is w B m d s.busy) (hl : Is w C k e0 l) :
    Calls Try.prog 9 #[sval s.cur s.queue (.slice A n c) (.slice B m d), .slice C k e0] w (GivesN (Scrubs.takeS s l) (Scrubs.takeN s l) (Scrubs.takeE s l) A n B m w) := by
  obtain ⟨i0, hi0, hz0, hz1, hz2⟩ := info_parts int_info
  have q1 := hu.max
  have q2 := hu.le
  have q3 := hb.max
  have q4 := hb.le
  have q5 := hl.max
  have q6 := hl.le
  have sw := Sw.start w s.cur s.queue (.slice A n c) (.slice B m d) rfl
  have hRT := scRight_any _ s A n c B m d (hu.ext sw.x) (hb.ext sw.x)
  have HU := Lib.hid hu
  have HB := Lib.hid hb
  have HL := Lib.hid hl
  have LU := Lib.hid hu.len
  have LB := Lib.hid hb.len
  have LL := Lib.hid hl.len
  have k0 := sw.a.c0
  have k1 := sw.a.c1
  have k2 := sw.a.c2
  have k3 := sw.a.c3
  have hRS := fun (W : World) (hW : Ext w W) => scRising_any W C k e0 l (hl.ext hW)
  by_cases hr : Scrubs.right s
  · rw [decide_eq_true hr] at hRT
    have HRT := Lib.hid hRT
    have SW := Lib.hid sw
    by_cases hs : Il.rising 0 Scrubs.great l
    · rw [decide_eq_true hs] at hRS
      have HRS := Lib.hid hRS
      by_cases hm : 1000 ≤ m
      · have e1 := Scrubs.takeE_full hr hs (by rw [LB.out]; exact hm)
        obtain ⟨e2, e3⟩ := Scrubs.take_err (s := s) (l := l) (by rw [e1]; decide)
        rw [e1, e2, e3]
        have g1 : (1000 : Int) ≤ m := by omega
        clear hRT hu hb hl sw hRS e1 e2 e3 hs hr
        go_enter Try.func9, Try.ntmps9
        go_wp2_with (fail)
        refine HRT.out.mono ?_
        rintro e w1 ⟨rfl, x1⟩
        have s1 := SW.out.ext x1
        have a0 := s1.a.c0
        have a1 := s1.a.c1
        have a2 := s1.a.c2
        have a3 := s1.a.c3
        have b0 := s1.b.c0
        have b1 := s1.b.c1
        have b2 := s1.b.c2
        have b3 := s1.b.c3
        have b4 := s1.b.fz
        have S1 := Lib.hid s1
        clear s1
        go_wp2_with (fail)
        refine (HRS.out _ S1.out.x).mono ?_
        rintro e w' ⟨rfl, rfl⟩
        go_wp2_with (fail)
        refine bodyPost_ret (v := .tuple #[sval s.cur s.queue (.slice A n c) (.slice B m d), .int .i64 0, .int .i64 5]) ?_ rfl ⟨A, n, c, B, m, d, rfl, HU.out.four S1.out.x (by omega) _ _ _ _, HB.out.four S1.out.x (by omega) _ _ _ _, S1.out.end, Pass.same _ _ _ _ _ (by decide), Pass.same _ _ _ _ _ (by decide)⟩
        rw [results_cell_tmp2 rfl]
        simp [asAddr, Result.andThen, S1.out.res]
      · have g1 : ¬ (1000 : Int) ≤ m := by omega
        have HR := Lib.hid hr
        have HS := Lib.hid hs
        have hbl : ¬ 1000 ≤ s.busy.length := by rw [LB.out]; exact hm
        have HBL := Lib.hid hbl
        have HUL := Lib.hid (show n ≤ 1000 by have := hr.2.1; have := hu.len; omega)
        have HO := Lib.hid (fun (W : World) (hW : Ext w W) => scOwn_any W s.cur s.queue A n c B m d s.urged s.busy (hu.ext hW) (hb.ext hW) (by have := hr.2.1; have := hu.len; omega) (by omega))
        obtain ⟨Q, hQ⟩ : ∃ Q, Scrubs.fromQ s = Q := ⟨_, rfl⟩
        obtain ⟨F, hF⟩ : ∃ F, Scrubs.fromC s l = F := ⟨_, rfl⟩
        obtain ⟨H, hH⟩ : ∃ H, Scrubs.ahead s l = H := ⟨_, rfl⟩
        have HQ := Lib.hid hQ
        have HF := Lib.hid hF
        have HHE := Lib.hid hH
        have hF1 : 0 ≤ H → F = H := fun h => by rw [← hF, ← hH]; unfold Scrubs.fromC; rw [if_neg (by rw [hH]; omega)]
        have hF2 : H < 0 → Il.idxf l (Scrubs.free s) = F := fun h => by rw [← hF]; unfold Scrubs.fromC; rw [if_pos (by rw [hH]; exact h)]
        have HF1 := Lib.hid hF1
        have HF2 := Lib.hid hF2
        clear hRT hu hb hl sw hRS hs hr hQ hF hH hF1 hF2 hbl
        go_enter Try.func9, Try.ntmps9
        go_wp2_with (fail)
        refine HRT.out.mono ?_
        rintro e w1 ⟨rfl, x1⟩
        have s1 := SW.out.ext x1
        have a0 := s1.a.c0
        have a1 := s1.a.c1
        have a2 := s1.a.c2
        have a3 := s1.a.c3
        have b0 := s1.b.c0
        have b1 := s1.b.c1
        have b2 := s1.b.c2
        have b3 := s1.b.c3
        have b4 := s1.b.fz
        have S1 := Lib.hid s1
        clear s1
        go_wp2_with (fail)
        refine (HRS.out _ S1.out.x).mono ?_
        rintro e w' ⟨rfl, rfl⟩
        have f4 := S1.out.a.fz
        obtain ⟨w2, hw2⟩ : ∃ w2, w1.alloc (.cells #[freeF w.heap.size] 49) = w2 := ⟨_, rfl⟩
        have hxf : Ext w1 w2 := by rw [← hw2]; exact Ext.alloc _ _
        have hcf : w2.cell? ⟨w1.heap.size, 0, none⟩ = some (freeF w.heap.size) := by rw [← hw2, World.cell?_alloc_new]; rfl
        have HW2 := Lib.hid hw2
        clear hw2
        have s2 := S1.out.ext hxf
        have hA1 := take1_asks _ w.heap.size s B m d s2.a.c3 (HB.out.ext s2.x)
        have hA2 := take2_asks _ w.heap.size w1.heap.size s B m d s2.a.c3 (HB.out.ext s2.x) s2.a.c0 hcf
        have hN1 := scNext_any _ A n c s.urged (HU.out.ext s2.x) _ _ _ (fun _ _ => rfl) hA1
        have hN2 := scNext_any _ C k e0 l (HL.out.ext s2.x) _ _ _ (fun _ _ => rfl) hA2
        have hN3 := scNext_any _ C k e0 l (HL.out.ext s2.x) _ _ _ (fun _ _ => rfl) hA1
        change Calls _ _ _ _ (fun r w' => r = .returned (.int .i64 (Scrubs.fromQ s)) ∧ _) at hN1
        change Calls _ _ _ _ (fun r w' => r = .returned (.int .i64 (Scrubs.ahead s l)) ∧ _) at hN2
        rw [HQ.out] at hN1
        rw [HHE.out] at hN2
        have HN1 := Lib.hid hN1
        have HN2 := Lib.hid hN2
        have HN3 := Lib.hid hN3
        have t0 := s2.a.c0
        have t1 := s2.a.c1
        have t2 := s2.a.c2
        have t3 := s2.a.c3
        have S2 := Lib.hid s2
        clear hN1 hN2 hN3 hA1 hA2 s2
        go_upto_region 8 with (fail)
        rw [HW2.out]
        clear a0 a1 a2 a3 b0 b1 b2 b3 b4 f4 k0 k1 k2 k3
        go_wp2_with (fail)
        refine HN1.out.mono ?_
        rintro e w' ⟨rfl, rfl⟩
        go_wp2_with (fail)
        refine HN2.out.mono ?_
        rintro e w' ⟨rfl, rfl⟩
        go_upto_if 36 with (fail)
        go_cut [9] (fun s9 wx => ∃ wv : World, wv = wx ∧ w2 = wx ∧ s9 = .int .i64 F)
        case first =>
          by_cases hh : H < 0
          · have hn3 := HN3.out
            rw [HF2.out hh] at hn3
            have HN4 := Lib.hid hn3
            clear hn3
            go_wp2_with (fail)
            refine HN4.out.mono ?_
            rintro e w' ⟨rfl, rfl⟩
            go_wp2_with (fail)
            go_meet
            exact ⟨_, rfl, rfl, rfl⟩
          · have hfh := HF1.out (by omega)
            go_wp2_with (fail)
            go_meet
            exact ⟨_, rfl, rfl, by rw [hfh]⟩
        case rest =>
          obtain ⟨_, rfl, rfl, rfl⟩ := hcut
          go_upto_region 12 with (fail)
          go_cut [45] (fun s45 wx => ∃ wv : World, wv = wx ∧ w2 = wx ∧ s45 = .bool (decide (Q < 0 ∧ F < 0)))
          case first =>
            by_cases h1 : Q < 0
            · by_cases h2 : F < 0
              · go_wp2_with (fail)
                go_meet
                exact ⟨_, rfl, rfl, by rw [decide_eq_true ⟨h1, h2⟩]⟩
              · go_wp2_with (fail)
                go_meet
                exact ⟨_, rfl, rfl, by rw [decide_eq_false (fun h => by omega)]⟩
            · go_wp2_with (fail)
              go_meet
              exact ⟨_, rfl, rfl, by rw [decide_eq_false (fun h => by omega)]⟩
          case rest =>
            obtain ⟨_, rfl, rfl, rfl⟩ := hcut
            by_cases hi : Q < 0 ∧ F < 0
            · rw [decide_eq_true hi]
              have e1 := Scrubs.takeE_idle HR.out HS.out HBL.out ⟨by rw [HQ.out]; exact hi.1, by rw [HF.out]; exact hi.2⟩
              obtain ⟨e2, e3⟩ := Scrubs.take_err (s := s) (l := l) (by rw [e1]; decide)
              have E1 := Lib.hid e1
              have E2 := Lib.hid e2
              have E3 := Lib.hid e3
              have b0 := S2.out.b.c0
              have b1 := S2.out.b.c1
              have b2 := S2.out.b.c2
              have b3 := S2.out.b.c3
              have b4 := S2.out.b.fz
              clear e1 e2 e3 hi
              go_wp2_with (fail)
              refine bodyPost_ret (v := .tuple #[sval s.cur s.queue (.slice A n c) (.slice B m d), .int .i64 0, .int .i64 166]) ?_ rfl (show GivesN (Scrubs.takeS s l) (Scrubs.takeN s l) (Scrubs.takeE s l) A n B m w _ _ from by rw [E1.out, E2.out, E3.out]; exact ⟨A, n, c, B, m, d, rfl, HU.out.four S2.out.x (by omega) _ _ _ _, HB.out.four S2.out.x (by omega) _ _ _ _, S2.out.end, Pass.same _ _ _ _ _ (by decide), Pass.same _ _ _ _ _ (by decide)⟩)
              rw [results_cell_tmp2 rfl]
              simp [asAddr, Result.andThen, S2.out.res]
            · rw [decide_eq_false hi]
              have e1 := Scrubs.takeE_ok HR.out HS.out HBL.out (by rw [HQ.out, HF.out]; exact hi)
              obtain ⟨e2, e3⟩ := Scrubs.take_ok (s := s) (l := l) e1
              have E1 := Lib.hid e1
              have E2 := Lib.hid e2
              have E3 := Lib.hid e3
              have HI := Lib.hid hi
              have f4 := S2.out.a.fz
              clear e1 e2 e3 hi
              go_upto_region 14 with (fail)
              go_cut [] (fun wx => ∃ wv : World, wv = wx ∧ ∃ (A1 A2 : Option Addr) (c1 c2 : Nat), Sw w wx w.heap.size s.cur s.queue (.slice A1 s.urged.length c1) (.slice A2 s.busy.length c2) ∧ Ow wx (w.heap.size + 2) (.slice A1 s.urged.length c1) (.slice A2 s.busy.length c2) s.urged s.busy)
              case first =>
                go_wp2_with (fail)
                refine (HO.out _ S2.out.x).mono ?_
                rintro e w3 ⟨U1, B1, rfl, ho, x2⟩
                obtain ⟨A1, c1, rfl, hi1⟩ := own_is ho.u
                obtain ⟨A2, c2, rfl, hi2⟩ := own_is ho.b
                have s3 := S2.out.ext x2
                have d0 := s3.a.c0
                have d1 := s3.a.c1
                have d2 := s3.a.c2
                have d3 := s3.a.c3
                have d4 := s3.a.fz
                have S3 := Lib.hid s3
                have OW := Lib.hid (ho.base (b' := w.heap.size + 2) (by have := S2.out.b.lt; omega))
                clear s3 ho hi1 hi2
                go_wp2_with (fail)
                go_meet
                exact ⟨_, rfl, A1, A2, c1, c2, S3.out.four _ _ _ _, OW.out.four (by omega) _ _⟩
              case rest =>
                obtain ⟨w3, rfl, A1, A2, c1, c2, s3, ow⟩ := hcut
                have d0 := s3.a.c0
                have d1 := s3.a.c1
                have d2 := s3.a.c2
                have d3 := s3.a.c3
                have d4 := s3.a.fz
                have S3 := Lib.hid s3
                have OW := Lib.hid ow
                clear s3 ow t0 t1 t2 t3 hcf f4
                obtain ⟨qu, hqu⟩ : ∃ qu, s.queue = qu := ⟨_, rfl⟩
                have HQU := Lib.hid hqu
                rw [hqu] at d1
                go_upto_region 16 with (fail)
                go_cut [58] (fun s58 wx => ∃ wv : World, wv = wx ∧ w3 = wx ∧ s58 = .bool (decide (0 ≤ Q ∧ (qu = true ∨ F < 0))))
                case first =>
                  clear hqu
                  by_cases h1 : 0 ≤ Q
                  · cases qu with
                    | true =>
                      go_wp2_with (fail)
                      go_meet
                      exact ⟨_, rfl, rfl, by simp; try omega⟩
                    | false =>
                      by_cases h2 : F < 0
                      · go_wp2_with (fail)
                        go_meet
                        exact ⟨_, rfl, rfl, by simp; try omega⟩
                      · go_wp2_with (fail)
                        go_meet
                        exact ⟨_, rfl, rfl, by simp; try omega⟩
                  · go_wp2_with (fail)
                    go_meet
                    exact ⟨_, rfl, rfl, by rw [decide_eq_false (fun h => by omega)]⟩
                case rest =>
                  obtain ⟨_, rfl, rfl, rfl⟩ := hcut
                  go_upto_if 58 with (fail)
                  go_cut [10] (fun s10 wx => ∃ wv : World, wv = wx ∧ s10 = .int .i64 (Scrubs.taken s l) ∧ ∃ (A1 A2 : Option Addr) (c1 c2 : Nat), Sw w wx w.heap.size (Scrubs.takenS s l).cur (Scrubs.takenS s l).queue (.slice A1 (Scrubs.takenS s l).urged.length c1) (.slice A2 s.busy.length c2) ∧ Ow wx (w.heap.size + 2) (.slice A1 (Scrubs.takenS s l).urged.length c1) (.slice A2 s.busy.length c2) (Scrubs.takenS s l).urged s.busy)
                  case first =>
                    have hvq : (0 ≤ Q ∧ (qu = true ∨ F < 0)) ↔ Scrubs.viaQ s l := by unfold Scrubs.viaQ; rw [HQ.out, HF.out, HQU.out]
                    by_cases hv : 0 ≤ Q ∧ (qu = true ∨ F < 0)
                    · rw [decide_eq_true hv]
                      obtain ⟨i, rfl⟩ : ∃ i : Nat, Q = (i : Int) := ⟨Q.toNat, by omega⟩
                      obtain ⟨e1, e2⟩ := Scrubs.takenS_q (hvq.1 hv) HQ.out
                      have hi : i < s.urged.length := by have := Scrubs.fromQ_lt s; rw [HQ.out] at this; omega
                      have E4 := Lib.hid e1
                      have E5 := Lib.hid e2
                      have his := (Own.mk (base := w.heap.size + 2) (e := 3) OW.out.u).ints
                      obtain ⟨bb, oo, rfl, hcel⟩ := his.rd.intAt hi
                      have q7 := his.max
                      have q8 := his.le
                      have hii : (i : Int) < s.urged.length := by omega
                      have HDE := Lib.hid (delete_own w3 (w.heap.size + 2) s.urged.length c1 i _ s.urged rfl hi OW.out.u)
                      have HII := Lib.hid hi
                      clear e1 e2 hvq hv his hi hqu
                      go_wp2_with (fail)
                      refine HDE.out.mono ?_
                      rintro e w4 ⟨rfl, hown, hgr⟩
                      have s4 := S3.out.grown hgr (fun k hk => (OW.out.u.lt k hk).1)
                      have h0 := s4.a.c0
                      have h1 := s4.a.c1
                      have h2 := s4.a.c2
                      have h3 := s4.a.c3
                      have h4 := s4.a.fz
                      have OB := Lib.hid (ownsRow_grown OW.out.b hgr OW.out.apart)
                      have OU := Lib.hid hown
                      have S4 := Lib.hid s4
                      clear s4 hown d0 d1 d2 d3 d4
                      go_wp2_with (fail)
                      go_meet
                      rw [E4.out, E5.out]
                      have hl : (s.urged.eraseIdx i).length = s.urged.length - 1 := List.length_eraseIdx_of_lt HII.out
                      refine ⟨_, rfl, rfl, some ⟨bb, oo, none⟩, A2, c1, c2, by rw [hl]; exact (S4.out.set2 _).set1 false, ?_⟩
                      have ou : w4.ownsRow (w.heap.size + 2) 3 1 (.slice (some ⟨bb, oo, none⟩) (s.urged.length - 1) c1) (s.urged.eraseIdx i).length (icells (s.urged.eraseIdx i)) := by rw [hl]; exact OU.out
                      rw [← hl] at ou ⊢
                      have on : Ow w4 (w.heap.size + 2) (.slice (some ⟨bb, oo, none⟩) (s.urged.eraseIdx i).length c1) (.slice A2 s.busy.length c2) (s.urged.eraseIdx i) s.busy := ⟨ou, OB.out, fun k hk => OW.out.ne k hk⟩
                      exact (on.far (p := ⟨w.heap.size, 2, none⟩) (by show w.heap.size < _; omega) _).far (p := ⟨w.heap.size, 1, none⟩) (by show w.heap.size < _; omega) _
                    · rw [decide_eq_false hv]
                      have hF0 : 0 ≤ F := by
                        by_cases h : F < 0
                        · by_cases h' : Q < 0
                          · exact absurd ⟨h', h⟩ HI.out
                          · exact absurd ⟨by omega, .inr h⟩ hv
                        · omega
                      obtain ⟨i, rfl⟩ : ∃ i : Nat, F = (i : Int) := ⟨F.toNat, by omega⟩
                      obtain ⟨e1, e2⟩ := Scrubs.takenS_c (fun h => hv (hvq.2 h)) HF.out
                      have hi : i < k := by have := Scrubs.fromC_lt s l; rw [HF.out, LL.out] at this; omega
                      have E4 := Lib.hid e1
                      have E5 := Lib.hid e2
                      have his := HL.out.ext S3.out.x
                      obtain ⟨bb, oo, rfl, hcel⟩ := his.rd.intAt hi
                      have hii : (i : Int) < k := by omega
                      clear e1 e2 hvq hv his hi hqu hF0
                      go_wp2_with (fail)
                      go_meet
                      rw [E4.out, E5.out]
                      exact ⟨_, rfl, rfl, A1, A2, c1, c2, (S3.out.set0 _).set1 true, (OW.out.far (p := ⟨w.heap.size, 0, none⟩) (by show w.heap.size < _; omega) _).far (p := ⟨w.heap.size, 1, none⟩) (by show w.heap.size < _; omega) _⟩
                  case rest =>
                    obtain ⟨w5, rfl, rfl, A1', A2', c1', c2', s5, ow⟩ := hcut
                    obtain ⟨cu', hcu⟩ : ∃ z, (Scrubs.takenS s l).cur = z := ⟨_, rfl⟩
                    obtain ⟨qu', hqu'⟩ : ∃ z, (Scrubs.takenS s l).queue = z := ⟨_, rfl⟩
                    obtain ⟨ur', hur⟩ : ∃ z, (Scrubs.takenS s l).urged = z := ⟨_, rfl⟩
                    obtain ⟨x, hx⟩ : ∃ z, Scrubs.taken s l = z := ⟨_, rfl⟩
                    rw [hcu, hqu', hur] at s5
                    rw [hur] at ow
                    rw [hx]
                    have HCU := Lib.hid hcu
                    have HQU' := Lib.hid hqu'
                    have HUR := Lib.hid hur
                    have HX := Lib.hid hx
                    clear hcu hqu' hur hx hqu
                    have j0 := s5.a.c0
                    have j1 := s5.a.c1
                    have j2 := s5.a.c2
                    have j3 := s5.a.c3
                    have HO4 := Lib.hid (ownsRow_ext ow.b (Ext.alloc w5 (.cells #[.int .i64 x] 3)))
                    have hnl : s.busy.length ≤ 1000 := by have := HBL.out; omega
                    have hsz3 : w.heap.size + 2 ≤ w5.heap.size := by have := s5.b.lt; omega
                    have S5 := Lib.hid s5
                    have OW5 := Lib.hid ow
                    clear s5 ow d0 d1 d2 d3 d4
                    go_wp2_with (at_builtin; refine wpList_append_rd _ rfl (.tmp 80) (.tmp 82) 22 rfl (w.heap.size + 2) 3 i0 _ 1 8 Try.underlying22 hi0 hz0 hz1 hz2 rfl (by omega) (.slice A2' s.busy.length c2') s.busy.length (icells s.busy) rfl HO4.out (some ⟨w5.heap.size, 0, none⟩) 1 1 [.int .i64 x] rfl (Rd.lit w5 #[_] _) (by simp [Value.oneCell']) (by omega) (by unfold maxLen; omega) (by simp; omega) ?_; intro v6 w6 hown hgr hat; obtain ⟨A6, c6, rfl, _, _⟩ := ownsRow_slice hown; have s6 := (S5.out.ext (Ext.alloc w5 (.cells #[.int .i64 x] 3))).grown hgr (fun k hk => (OW5.out.b.lt k hk).1); have h0 := s6.a.c0; have h1 := s6.a.c1; have h2 := s6.a.c2; have h3 := s6.a.c3; have h4 := s6.a.fz; have HGR := Lib.hid hgr; have HAT := Lib.hid hat; have OB := Lib.hid hown; have S6 := Lib.hid s6; clear s6 hown hgr hat; go_upto_region 22 with (fail))
                    have hl : (s.busy ++ [x]).length = s.busy.length + 1 := by simp
                    have ob : (w6.setCell ⟨w.heap.size, 3, none⟩ (.slice A6 (s.busy.length + 1) c6)).ownsRow (w.heap.size + 2) 3 1 (.slice A6 (s.busy.length + 1) c6) (s.busy.length + 1) (icells (s.busy ++ [x])) := ownsRow_far (by rw [icells_append]; exact OB.out) (p := ⟨w.heap.size, 3, none⟩) (by show w.heap.size < _; omega) _
                    have HSO := sort_own _ (w.heap.size + 2) (s.busy.length + 1) c6 A6 (s.busy ++ [x]) hl (by omega) ob
                    refine HSO.mono ?_
                    rintro e w7 ⟨rfl, ho, hg7⟩
                    have s7 := (S6.out.set3 (.slice A6 (s.busy.length + 1) c6)).grown hg7 (fun k hk => (OB.out.lt k hk).1)
                    have ou6 := ownsRow_grown (ownsRow_ext OW5.out.u (Ext.alloc w5 (.cells #[.int .i64 x] 3))) HGR.out OW5.out.apart'
                    have OU7 := Lib.hid (ownsRow_grown (ownsRow_far ou6 (p := ⟨w.heap.size, 3, none⟩) (by show w.heap.size < _; omega) (.slice A6 (s.busy.length + 1) c6)) hg7 (by
                      rcases hb : (Value.slice A1' ur'.length c1').ownBlock with _ | k
                      · exact .inl rfl
                      · refine .inr (fun e => ?_)
                        have hk := (OW5.out.u.lt k hb).2
                        rcases HAT.out with h | h
                        · rw [h] at e; exact OW5.out.ne k hb e.symm
                        · rw [h] at e; injection e with e; simp at e; omega))
                    have h0 := s7.a.c0
                    have h1 := s7.a.c1
                    have h2 := s7.a.c2
                    have h3 := s7.a.c3
                    have b0 := s7.b.c0
                    have b1 := s7.b.c1
                    have b2 := s7.b.c2
                    have b3 := s7.b.c3
                    have b4 := s7.b.fz
                    have S7 := Lib.hid s7
                    have OB7 := Lib.hid ho
                    clear s7 ho ou6 ob HSO hg7
                    go_wp2_with (fail)
                    have hls : (Il.srt (s.busy ++ [x])).length = s.busy.length + 1 := by rw [Il.srt_length, hl]
                    have ob7 : w7.ownsRow (w.heap.size + 2) 3 1 (.slice A6 (s.busy.length + 1) c6) (Il.srt (s.busy ++ [x])).length (icells (Il.srt (s.busy ++ [x]))) := by rw [hls]; exact OB7.out
                    refine bodyPost_ret (v := .tuple #[sval cu' qu' (.slice A1' ur'.length c1') (.slice A6 (s.busy.length + 1) c6), .int .i64 x, .int .i64 0]) ?_ rfl (show GivesN (Scrubs.takeS s l) (Scrubs.takeN s l) (Scrubs.takeE s l) A n B m w _ _ from by
                      rw [E1.out, E2.out, E3.out]
                      exact ⟨A1', _, c1', A6, _, c6, by rw [HCU.out, HQU'.out, HX.out], by rw [HUR.out]; exact own_is_four OU7.out (by omega) _ _ _ _ rfl rfl, by rw [Scrubs.takenS_busy, HX.out]; exact own_is_four ob7 (by omega) _ _ _ _ rfl hls, S7.out.end, own_pass_four OU7.out (by omega) (by omega) _ _ _ _ rfl rfl, own_pass_four ob7 (by omega) (by omega) _ _ _ _ rfl hls⟩)
                    rw [results_cell_tmp2 rfl]
                    simp [asAddr, Result.andThen, S7.out.res]
    · have e1 := Scrubs.takeE_rising hr hs
      obtain ⟨e2, e3⟩ := Scrubs.take_err (s := s) (l := l) (by rw [e1]; decide)
      rw [e1, e2, e3]
      rw [decide_eq_false hs] at hRS
      have HRS := Lib.hid hRS
      clear hRT hu hb hl sw hRS e1 e2 e3 hs hr
      go_enter Try.func9, Try.ntmps9
      go_wp2_with (fail)
      refine HRT.out.mono ?_
      rintro e w1 ⟨rfl, x1⟩
      have s1 := SW.out.ext x1
      have a0 := s1.a.c0
      have a1 := s1.a.c1
      have a2 := s1.a.c2
      have a3 := s1.a.c3
      have b0 := s1.b.c0
      have b1 := s1.b.c1
      have b2 := s1.b.c2
      have b3 := s1.b.c3
      have b4 := s1.b.fz
      have S1 := Lib.hid s1
      clear s1
      go_wp2_with (fail)
      refine (HRS.out _ S1.out.x).mono ?_
      rintro e w' ⟨rfl, rfl⟩
      go_wp2_with (fail)
      refine bodyPost_ret (v := .tuple #[sval s.cur s.queue (.slice A n c) (.slice B m d), .int .i64 0, .int .i64 2]) ?_ rfl ⟨A, n, c, B, m, d, rfl, HU.out.four S1.out.x (by omega) _ _ _ _, HB.out.four S1.out.x (by omega) _ _ _ _, S1.out.end, Pass.same _ _ _ _ _ (by decide), Pass.same _ _ _ _ _ (by decide)⟩
      rw [results_cell_tmp2 rfl]
      simp [asAddr, Result.andThen, S1.out.res]
  · have e1 := Scrubs.takeE_right (l := l) hr
    obtain ⟨e2, e3⟩ := Scrubs.take_err (s := s) (l := l) (by rw [e1]; decide)
    rw [e1, e2, e3]
    rw [decide_eq_false hr] at hRT
    have HRT := Lib.hid hRT
    have SW := Lib.hid sw
    clear hRT hu hb hl sw hRS e1 e2 e3 hr
    go_enter Try.func9, Try.ntmps9
    go_wp2_with (fail)
    refine HRT.out.mono ?_
    rintro e w1 ⟨rfl, x1⟩
    have s1 := SW.out.ext x1
    have a0 := s1.a.c0
    have a1 := s1.a.c1
    have a2 := s1.a.c2
    have a3 := s1.a.c3
    have b0 := s1.b.c0
    have b1 := s1.b.c1
    have b2 := s1.b.c2
    have b3 := s1.b.c3
    have b4 := s1.b.fz
    have S1 := Lib.hid s1
    clear s1
    go_wp2_with (fail)
    refine bodyPost_ret (v := .tuple #[sval s.cur s.queue (.slice A n c) (.slice B m d), .int .i64 0, .int .i64 165]) ?_ rfl ⟨A, n, c, B, m, d, rfl, HU.out.four S1.out.x (by omega) _ _ _ _, HB.out.four S1.out.x (by omega) _ _ _ _, S1.out.end, Pass.same _ _ _ _ _ (by decide), Pass.same _ _ _ _ _ (by decide)⟩
    rw [results_cell_tmp2 rfl]
    simp [asAddr, Result.andThen, S1.out.res]
end Go.Proofs.Ytkclimblcipmlaa
