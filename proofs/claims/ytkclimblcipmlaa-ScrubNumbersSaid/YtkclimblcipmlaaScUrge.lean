/- The contracts of scrub.New and Urge. -/
import Derived.Test.YtkclimblcipmlaaScRight
import Derived.Deep.DeepCutAuto
import Derived.Deep.CutBlock
namespace Go.Proofs.Ytkclimblcipmlaa
open Go.RowKit

/-- A scrubbing and an error are handed back. -/
def GivesS (s : Scrubs.S) (er : Int) (A0 : Option Addr) (n0 : Nat) (B0 : Option Addr) (m0 : Nat) (w : World) (e : Ending) (w' : World) : Prop := ∃ A n c B m d, e = .returned (.tuple #[sval s.cur s.queue (.slice A n c) (.slice B m d), .int .i64 er]) ∧ Is w' A n c s.urged ∧ Is w' B m d s.busy ∧ Ext w w' ∧ Pass w.heap.size w' er A0 n0 A n ∧ Pass w.heap.size w' er B0 m0 B m
theorem scNew_any (w : World) : Calls Try.prog 12 #[] w fun e w' => e = .returned (sval (-1) true (.slice none 0 0) (.slice none 0 0)) ∧ Ext w w' := by
  have hr := (Sb.new w (-1) true (.slice none 0 0) (.slice none 0 0) rfl).res
  go_enter Try.func12, Try.ntmps12
  go_wp2_with (fail)
  refine bodyPost_ret (v := sval (-1) true (.slice none 0 0) (.slice none 0 0)) ?_ rfl ⟨rfl, Ext.alloc _ _⟩
  rw [results_cell1 rfl]
  simp [asAddr, Result.andThen, hr]
/-- Where a method begins: the scrubbing in its box, a box for the result. -/
structure Sw (w W : World) (g : Nat) (cu : Int) (qu : Bool) (U B : Value) : Prop where
  a : Sb W g cu qu U B
  b : Sb W (g + 1) 0 false (.slice none 0 0) (.slice none 0 0)
  x : Ext w W
  base : w.heap.size = g
abbrev begun (w : World) (cu : Int) (qu : Bool) (U B : Value) : World :=
  (w.alloc (.cells #[.int .i64 cu, .bool qu, U, B] 24)).alloc (.cells #[.int .i64 0, .bool false, .slice none 0 0, .slice none 0 0] 24)
theorem Sw.start (w : World) (cu : Int) (qu : Bool) (U B : Value) {g : Nat} (hg : w.heap.size = g) : Sw w (begun w cu qu U B) g cu qu U B :=
  ⟨(Sb.new w cu qu U B hg).ext (Ext.alloc _ _), Sb.new _ _ _ _ _ (by simp [hg]), (Ext.alloc _ _).thenAlloc _, hg⟩
section
variable {w W : World} {g : Nat} {cu : Int} {qu : Bool} {U B : Value}
theorem Sw.ext {W' : World} (h : Sw w W g cu qu U B) (hx : Ext W W') : Sw w W' g cu qu U B := ⟨h.a.ext hx, h.b.ext hx, h.x.trans hx, h.base⟩
theorem Sw.four (h : Sw w W g cu qu U B) (c : Int) (q : Bool) (U' B' : Value) : Sw w (four W g c q U' B') g c q U' B' :=
  ⟨h.a.whole c q U' B', (((h.b.far (by show g ≠ g + 1; omega) _).far (by show g ≠ g + 1; omega) _).far (by show g ≠ g + 1; omega) _).far (by show g ≠ g + 1; omega) _, h.x.four (by have := h.base; omega) _ _ _ _, h.base⟩
theorem Sw.set2 (h : Sw w W g cu qu U B) (x : Value) : Sw w (W.setCell ⟨g, 2, none⟩ x) g cu qu x B := ⟨h.a.set2 x, h.b.far (by show g ≠ g + 1; omega) _, h.x.set_ (by have := h.base; show w.heap.size ≤ g; omega) _, h.base⟩
theorem Sw.set3 (h : Sw w W g cu qu U B) (x : Value) : Sw w (W.setCell ⟨g, 3, none⟩ x) g cu qu U x := ⟨h.a.set3 x, h.b.far (by show g ≠ g + 1; omega) _, h.x.set_ (by have := h.base; show w.heap.size ≤ g; omega) _, h.base⟩
theorem Sw.set0 (h : Sw w W g cu qu U B) (x : Int) : Sw w (W.setCell ⟨g, 0, none⟩ (.int .i64 x)) g x qu U B := ⟨h.a.set0 x, h.b.far (by show g ≠ g + 1; omega) _, h.x.set_ (by have := h.base; show w.heap.size ≤ g; omega) _, h.base⟩
theorem Sw.set1 (h : Sw w W g cu qu U B) (x : Bool) : Sw w (W.setCell ⟨g, 1, none⟩ (.bool x)) g cu x U B := ⟨h.a.set1 x, h.b.far (by show g ≠ g + 1; omega) _, h.x.set_ (by have := h.base; show w.heap.size ≤ g; omega) _, h.base⟩
theorem Sw.grown {W' : World} {row : Option Nat} (h : Sw w W g cu qu U B) (hg : W.grownBy W' row) (hr : ∀ k, row = some k → g + 2 ≤ k) : Sw w W' g cu qu U B :=
  ⟨h.a.kept hg (fun e => by have := hr _ e; omega), h.b.kept hg (fun e => by have := hr _ e; omega), h.x.ofGrown hg (fun k hk => by have := hr k hk; have := h.base; omega), h.base⟩
/-- The end: the scrubbing is stored into the result's box, and loaded. -/
theorem Sw.res (h : Sw w W g cu qu U B) : (loadVar 24 ⟨g + 1, 0, none⟩).run Try.prog (Go.Proofs.Ytkclimblcipmlaa.four W (g + 1) cu qu U B) = .ok (sval cu qu U B) (Go.Proofs.Ytkclimblcipmlaa.four W (g + 1) cu qu U B) := (h.b.whole cu qu U B).res
theorem Sw.end (h : Sw w W g cu qu U B) : Ext w (Go.Proofs.Ytkclimblcipmlaa.four W (g + 1) cu qu U B) := h.x.four (by have := h.base; omega) _ _ _ _
end
theorem Is.four {W : World} {g n c : Nat} {D : Option Addr} {l : List Int} {w : World} (h : Is w D n c l) (hx : Ext w W) (hg : w.heap.size ≤ g) (cu : Int) (qu : Bool) (U B : Value) : Is (four W g cu qu U B) D n c l := h.ext (hx.four hg cu qu U B)
theorem own_is_four {W : World} {base g : Nat} {v : Value} {l : List Int} (h : W.ownsRow base 3 1 v l.length (icells l)) (hg : g < base) (cu : Int) (qu : Bool) (U B : Value) {A : Option Addr} {n c : Nat} (hv : v = .slice A n c) (hn : l.length = n) : Is (four W g cu qu U B) A n c l := by
  subst hv hn
  exact (Own.mk (base := base) (e := 3) (own_four h hg cu qu U B)).ints
theorem own_pass_four {W : World} {base g N : Nat} {v : Value} {l : List Int} {er : Int} (h : W.ownsRow base 3 1 v l.length (icells l)) (hg : g < base) (hN : N ≤ base) (cu : Int) (qu : Bool) (U B : Value) {A : Option Addr} {n c : Nat} (hv : v = .slice A n c) (hn : l.length = n) {A0 : Option Addr} {n0 : Nat} : Pass N (four W g cu qu U B) er A0 n0 A n := by
  subst hv hn
  exact .inr (own_fr (own_four h hg cu qu U B) hN)
theorem Pass.same (N : Nat) (w : World) (er : Int) (A : Option Addr) (n : Nat) (he : er ≠ 0) : Pass N w er A n A n := .inl ⟨rfl, rfl, he⟩
set_option maxRecDepth 100000 in
set_option maxHeartbeats 4000000 in
theorem scUrge_any (w : World) (s : Scrubs.S) (A : Option Addr) (n c : Nat) (B : Option Addr) (m d : Nat) (x : Int) (hu : Is w A n c s.urged) (hb : Is w B m d s.busy) :
    Calls Try.prog 8 #[sval s.cur s.queue (.slice A n c) (.slice B m d), .int .i64 x] w (GivesS (Scrubs.urgeS s x) (Scrubs.urgeE s x) A n B m w) := by
  obtain ⟨i0, hi0, hz0, hz1, hz2⟩ := info_parts int_info
  have q1 := hu.max
  have q2 := hu.le
  have q3 := hb.max
  have q4 := hb.le
  have sw := Sw.start w s.cur s.queue (.slice A n c) (.slice B m d) rfl
  have hRT := scRight_any _ s A n c B m d (hu.ext sw.x) (hb.ext sw.x)
  have HU := Lib.hid hu
  have HB := Lib.hid hb
  have LU := Lib.hid hu.len
  have LB := Lib.hid hb.len
  have k0 := sw.a.c0
  have k1 := sw.a.c1
  have k2 := sw.a.c2
  have k3 := sw.a.c3
  by_cases hr : Scrubs.right s
  · rw [decide_eq_true hr] at hRT
    have HRT := Lib.hid hRT
    have HC := Lib.hid (fun (W : World) (hW : Ext w W) => contains_any W A n c s.urged x (hu.ext hW))
    have HO := Lib.hid (fun (W : World) (hW : Ext w W) (h1 : n ≤ 100000) => scOwn_any W s.cur s.queue A n c B m d s.urged s.busy (hu.ext hW) (hb.ext hW) h1 (by have := hr.2.2.1; have := hb.len; omega))
    have hST := scStripe_any (begun w s.cur s.queue (.slice A n c) (.slice B m d)) x
    have HST := Lib.hid (fun W => scStripe_any W x)
    have HN1 := Lib.hid (show n ≤ 1000 by have := hr.2.1; have := hu.len; omega)
    have SW := Lib.hid sw
    clear hRT hu hb sw hST
    by_cases hs : Scrubs.stripe x
    · have hok : Scrubs.urgeOk s x := ⟨hr, hs⟩
      have HOK := Lib.hid hok
      clear hr hok
      by_cases hm : x ∈ s.urged
      · obtain ⟨e1, e2⟩ := Scrubs.urge_there HOK.out hm
        rw [e1, e2]
        have HST2 := Lib.hid (fun W => (show Calls Try.prog 22 #[.int .i64 x] W fun e w' => e = .returned (.bool true) ∧ W = w' by have := HST.out W; rwa [decide_eq_true hs] at this))
        have HC2 := Lib.hid (fun (W : World) (hW : Ext w W) => (show Calls Try.prog 23 #[.slice A n c, .int .i64 x] W fun e w' => e = .returned (.bool true) ∧ W = w' by have := HC.out W hW; rwa [decide_eq_true hm] at this))
        clear e1 e2 hs hm
        go_enter Try.func8, Try.ntmps8
        go_wp2_with (fail)
        refine HRT.out.mono ?_
        rintro e w1 ⟨rfl, x1⟩
        have s1 := SW.out.ext x1
        have a0 := s1.a.c0
        have a1 := s1.a.c1
        have a2 := s1.a.c2
        have a3 := s1.a.c3
        have b0 := s1.b.c0
        have b1 := s1.b.c1
        have b2 := s1.b.c2
        have b3 := s1.b.c3
        have b4 := s1.b.fz
        have S1 := Lib.hid s1
        clear s1
        go_wp2_with (fail)
        refine (HST2.out _).mono ?_
        rintro e w' ⟨rfl, rfl⟩
        go_wp2_with (fail)
        refine (HC2.out _ S1.out.x).mono ?_
        rintro e w' ⟨rfl, rfl⟩
        go_wp2_with (fail)
        refine (HO.out _ S1.out.x (by have := HN1.out; omega)).mono ?_
        rintro e w2 ⟨U1, B1, rfl, ho, x2⟩
        obtain ⟨A1, c1, rfl, hi1⟩ := own_is ho.u
        obtain ⟨A2, c2, rfl, hi2⟩ := own_is ho.b
        have s2 := S1.out.ext x2
        have b0 := s2.b.c0
        have b1 := s2.b.c1
        have b2 := s2.b.c2
        have b3 := s2.b.c3
        have b4 := s2.b.fz
        have S2 := Lib.hid s2
        have OW := Lib.hid ho
        have hsz := Lib.hid (show w.heap.size + 2 ≤ w1.heap.size by have := x1.size; simp [begun] at this; omega)
        clear s2 ho hi1 hi2
        go_wp2_with (fail)
        refine bodyPost_ret (v := .tuple #[sval s.cur s.queue (.slice A1 s.urged.length c1) (.slice A2 s.busy.length c2), .int .i64 0]) ?_ rfl ⟨A1, _, c1, A2, _, c2, rfl, own_is_four OW.out.u (by have := hsz.out; omega) _ _ _ _ rfl rfl, own_is_four OW.out.b (by have := hsz.out; omega) _ _ _ _ rfl rfl, S2.out.x.four (by omega) _ _ _ _, own_pass_four OW.out.u (by have := hsz.out; omega) (by have := hsz.out; omega) _ _ _ _ rfl rfl, own_pass_four OW.out.b (by have := hsz.out; omega) (by have := hsz.out; omega) _ _ _ _ rfl rfl⟩
        rw [results_cell_tmp rfl]
        simp [asAddr, Result.andThen, (S2.out.b.whole s.cur s.queue (.slice A1 s.urged.length c1) (.slice A2 s.busy.length c2)).res]
      · have HST2 := Lib.hid (fun W => (show Calls Try.prog 22 #[.int .i64 x] W fun e w' => e = .returned (.bool true) ∧ W = w' by have := HST.out W; rwa [decide_eq_true hs] at this))
        have HC2 := Lib.hid (fun (W : World) (hW : Ext w W) => (show Calls Try.prog 23 #[.slice A n c, .int .i64 x] W fun e w' => e = .returned (.bool false) ∧ W = w' by have := HC.out W hW; rwa [decide_eq_false hm] at this))
        by_cases hf : 1000 ≤ n
        · obtain ⟨e1, e2⟩ := Scrubs.urge_full HOK.out hm (by rw [LU.out]; exact hf)
          rw [e1, e2]
          have g1 : (1000 : Int) ≤ n := by omega
          clear e1 e2 hs hm
          go_enter Try.func8, Try.ntmps8
          go_wp2_with (fail)
          refine HRT.out.mono ?_
          rintro e w1 ⟨rfl, x1⟩
          have s1 := SW.out.ext x1
          have a0 := s1.a.c0
          have a1 := s1.a.c1
          have a2 := s1.a.c2
          have a3 := s1.a.c3
          have b0 := s1.b.c0
          have b1 := s1.b.c1
          have b2 := s1.b.c2
          have b3 := s1.b.c3
          have b4 := s1.b.fz
          have S1 := Lib.hid s1
          clear s1
          go_wp2_with (fail)
          refine (HST2.out _).mono ?_
          rintro e w' ⟨rfl, rfl⟩
          go_wp2_with (fail)
          refine (HC2.out _ S1.out.x).mono ?_
          rintro e w' ⟨rfl, rfl⟩
          go_wp2_with (fail)
          refine bodyPost_ret (v := .tuple #[sval s.cur s.queue (.slice A n c) (.slice B m d), .int .i64 5]) ?_ rfl ⟨A, n, c, B, m, d, rfl, HU.out.four S1.out.x (by omega) _ _ _ _, HB.out.four S1.out.x (by omega) _ _ _ _, S1.out.end, Pass.same _ _ _ _ _ (by decide), Pass.same _ _ _ _ _ (by decide)⟩
          rw [results_cell_tmp rfl]
          simp [asAddr, Result.andThen, S1.out.res]
        · obtain ⟨e1, e2⟩ := Scrubs.urge_new HOK.out hm (by rw [LU.out]; exact hf)
          rw [e1, e2]
          have g1 : ¬ (1000 : Int) ≤ n := by omega
          clear e1 e2 hs hm
          go_enter Try.func8, Try.ntmps8
          go_wp2_with (fail)
          refine HRT.out.mono ?_
          rintro e w1 ⟨rfl, x1⟩
          have s1 := SW.out.ext x1
          have a0 := s1.a.c0
          have a1 := s1.a.c1
          have a2 := s1.a.c2
          have a3 := s1.a.c3
          have b0 := s1.b.c0
          have b1 := s1.b.c1
          have b2 := s1.b.c2
          have b3 := s1.b.c3
          have b4 := s1.b.fz
          have S1 := Lib.hid s1
          clear s1
          go_wp2_with (fail)
          refine (HST2.out _).mono ?_
          rintro e w' ⟨rfl, rfl⟩
          go_wp2_with (fail)
          refine (HC2.out _ S1.out.x).mono ?_
          rintro e w' ⟨rfl, rfl⟩
          have f4 := S1.out.a.fz
          go_upto_region 7 with (fail)
          go_cut [] (fun wx => ∃ wv : World, wv = wx ∧ ∃ (A1 A2 : Option Addr) (c1 c2 : Nat), Sw w wx w.heap.size s.cur s.queue (.slice A1 s.urged.length c1) (.slice A2 s.busy.length c2) ∧ Ow wx (w.heap.size + 2) (.slice A1 s.urged.length c1) (.slice A2 s.busy.length c2) s.urged s.busy)
          case first =>
            go_wp2_with (fail)
            refine (HO.out _ S1.out.x (by have := HN1.out; omega)).mono ?_
            rintro e w2 ⟨U1, B1, rfl, ho, x2⟩
            obtain ⟨A1, c1, rfl, hi1⟩ := own_is ho.u
            obtain ⟨A2, c2, rfl, hi2⟩ := own_is ho.b
            have s2 := S1.out.ext x2
            have d0 := s2.a.c0
            have d1 := s2.a.c1
            have d2 := s2.a.c2
            have d3 := s2.a.c3
            have d4 := s2.a.fz
            have S2 := Lib.hid s2
            have OW := Lib.hid (ho.base (b' := w.heap.size + 2) (by have := x1.size; simp [begun] at this; omega))
            clear s2 ho hi1 hi2
            go_wp2_with (fail)
            go_meet
            exact ⟨_, rfl, A1, A2, c1, c2, S2.out.four _ _ _ _, OW.out.four (by omega) _ _⟩
          case rest =>
            obtain ⟨w3, rfl, A1, A2, c1, c2, s3, ow⟩ := hcut
            have d0 := s3.a.c0
            have d1 := s3.a.c1
            have d2 := s3.a.c2
            have d3 := s3.a.c3
            have HO4 := Lib.hid (ownsRow_ext ow.u (Ext.alloc w3 (.cells #[.int .i64 x] 3)))
            have OW := Lib.hid ow
            have S3 := Lib.hid s3
            have hsz3 : w.heap.size + 2 ≤ w3.heap.size := by have := s3.b.lt; omega
            have hnl : s.urged.length ≤ 1000 := by rw [LU.out]; exact HN1.out
            clear s3 ow a0 a1 a2 a3 b0 b1 b2 b3 b4 f4 k0 k1 k2 k3
            go_wp2_with ((at_builtin; refine wpList_append_rd _ rfl (.tmp 32) (.tmp 34) 22 rfl (w.heap.size + 2) 3 i0 _ 1 8 Try.underlying22 hi0 hz0 hz1 hz2 rfl (by omega) (.slice A1 s.urged.length c1) s.urged.length (icells s.urged) rfl HO4.out (some ⟨w3.heap.size, 0, none⟩) 1 1 [.int .i64 x] rfl (Rd.lit w3 #[_] _) (by simp [Value.oneCell']) (by omega) (by unfold maxLen; omega) (by simp; omega) ?_; intro v5 w5 hown hgr hat; obtain ⟨A5, c5, rfl, _, _⟩ := ownsRow_slice hown; have s5 := (S3.out.ext (Ext.alloc w3 (.cells #[.int .i64 x] 3))).grown hgr (fun k hk => (OW.out.u.lt k hk).1); have h0 := s5.a.c0; have h1 := s5.a.c1; have h2 := s5.a.c2; have h3 := s5.a.c3; have h4 := s5.a.fz; have b0 := s5.b.c0; have b1 := s5.b.c1; have b2 := s5.b.c2; have b3 := s5.b.c3; have b4 := s5.b.fz; have OB := Lib.hid (ownsRow_grown (ownsRow_ext OW.out.b (Ext.alloc w3 (.cells #[.int .i64 x] 3))) hgr OW.out.apart); have OU := Lib.hid hown; have S5 := Lib.hid s5; clear s5 hown))
            have s6 := S5.out.set2 (.slice A5 (s.urged.length + 1) c5)
            have hl : (s.urged ++ [x]).length = s.urged.length + 1 := by simp
            have ou : w5.ownsRow (w.heap.size + 2) 3 1 (.slice A5 (s.urged.length + 1) c5) (s.urged ++ [x]).length (icells (s.urged ++ [x])) := by
              rw [hl, icells_append]; exact OU.out
            refine bodyPost_ret (v := .tuple #[sval s.cur s.queue (.slice A5 (s.urged.length + 1) c5) (.slice A2 s.busy.length c2), .int .i64 0]) ?_ rfl ⟨A5, _, c5, A2, _, c2, rfl, own_is_four (ownsRow_far ou (p := ⟨w.heap.size, 2, none⟩) (by show w.heap.size < _; omega) _) (by omega) _ _ _ _ rfl hl, own_is_four (ownsRow_far OB.out (p := ⟨w.heap.size, 2, none⟩) (by show w.heap.size < _; omega) _) (by omega) _ _ _ _ rfl rfl, s6.end, own_pass_four (ownsRow_far ou (p := ⟨w.heap.size, 2, none⟩) (by show w.heap.size < _; omega) _) (by omega) (by omega) _ _ _ _ rfl hl, own_pass_four (ownsRow_far OB.out (p := ⟨w.heap.size, 2, none⟩) (by show w.heap.size < _; omega) _) (by omega) (by omega) _ _ _ _ rfl rfl⟩
            rw [results_cell_tmp rfl]
            simp [asAddr, Result.andThen, s6.res]
    · obtain ⟨e1, e2⟩ := Scrubs.urge_bad (s := s) (n := x) (fun h => hs h.2)
      rw [e1, e2]
      have HST2 := Lib.hid (fun W => (show Calls Try.prog 22 #[.int .i64 x] W fun e w' => e = .returned (.bool false) ∧ W = w' by have := HST.out W; rwa [decide_eq_false hs] at this))
      clear e1 e2 hs hr
      go_enter Try.func8, Try.ntmps8
      go_wp2_with (fail)
      refine HRT.out.mono ?_
      rintro e w1 ⟨rfl, x1⟩
      have s1 := SW.out.ext x1
      have a0 := s1.a.c0
      have a1 := s1.a.c1
      have a2 := s1.a.c2
      have a3 := s1.a.c3
      have b0 := s1.b.c0
      have b1 := s1.b.c1
      have b2 := s1.b.c2
      have b3 := s1.b.c3
      have b4 := s1.b.fz
      have S1 := Lib.hid s1
      clear s1
      go_wp2_with (fail)
      refine (HST2.out _).mono ?_
      rintro e w' ⟨rfl, rfl⟩
      go_wp2_with (fail)
      refine bodyPost_ret (v := .tuple #[sval s.cur s.queue (.slice A n c) (.slice B m d), .int .i64 165]) ?_ rfl ⟨A, n, c, B, m, d, rfl, HU.out.four S1.out.x (by omega) _ _ _ _, HB.out.four S1.out.x (by omega) _ _ _ _, S1.out.end, Pass.same _ _ _ _ _ (by decide), Pass.same _ _ _ _ _ (by decide)⟩
      rw [results_cell_tmp rfl]
      simp [asAddr, Result.andThen, S1.out.res]
  · obtain ⟨e1, e2⟩ := Scrubs.urge_bad (s := s) (n := x) (fun h => hr h.1)
    rw [e1, e2]
    clear e1 e2
    rw [decide_eq_false hr] at hRT
    have HRT := Lib.hid hRT
    clear hr hRT hu hb
    have SW := Lib.hid sw
    clear sw
    go_enter Try.func8, Try.ntmps8
    go_wp2_with (fail)
    refine HRT.out.mono ?_
    rintro e w1 ⟨rfl, x1⟩
    have s1 := SW.out.ext x1
    have a0 := s1.a.c0
    have a1 := s1.a.c1
    have a2 := s1.a.c2
    have a3 := s1.a.c3
    have b0 := s1.b.c0
    have b1 := s1.b.c1
    have b2 := s1.b.c2
    have b3 := s1.b.c3
    have b4 := s1.b.fz
    have S1 := Lib.hid s1
    clear s1
    go_wp2_with (fail)
    refine bodyPost_ret (v := .tuple #[sval s.cur s.queue (.slice A n c) (.slice B m d), .int .i64 165]) ?_ rfl ⟨A, n, c, B, m, d, rfl, HU.out.four S1.out.x (by omega) _ _ _ _, HB.out.four S1.out.x (by omega) _ _ _ _, S1.out.end, Pass.same _ _ _ _ _ (by decide), Pass.same _ _ _ _ _ (by decide)⟩
    rw [results_cell_tmp rfl]
    simp [asAddr, Result.andThen, S1.out.res]
end Go.Proofs.Ytkclimblcipmlaa
