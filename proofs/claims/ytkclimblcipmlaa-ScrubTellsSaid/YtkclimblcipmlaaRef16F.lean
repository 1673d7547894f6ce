/- The contracts of the document's Urge and Over (chapter 16). -/
import Derived.Test.YtkclimblcipmlaaRef16D
import Derived.Test.YtkclimblcipmlaaScHold
namespace Scrubs
open Il
theorem over_found {s : S} {x : Int} {k : Nat} (hr : right s) (hk : k < s.busy.length) (hg : get s.busy k = x) (hno : ∀ j, j < k → get s.busy j ≠ x) : overS s x = { s with busy := s.busy.eraseIdx k } ∧ overE s x = 0 := by
  rcases idx_cases s.busy x with ⟨i, hi, hid, hgi, hni⟩ | ⟨_, h⟩
  · have : i = k := by
      rcases Nat.lt_trichotomy i k with h | h | h
      · exact absurd hgi (hno i h)
      · exact h
      · exact absurd hg (hni k h)
    subst this
    exact over_ok ⟨hr, by rw [← hg]; exact get_mem hk⟩ hid
  · exact absurd hg (h k hk)
theorem over_none {s : S} {x : Int} (hno : ∀ j, j < s.busy.length → get s.busy j ≠ x) : overS s x = s ∧ overE s x = 165 := over_bad (fun h => by
  obtain ⟨j, hj, e⟩ := mem_get h.2
  exact hno j hj e)
end Scrubs
namespace Go.Proofs.Ytkclimblcipmlaa
open Go.RowKit

/-- A list that is handed through, or is new. -/
def PassL (N : Nat) (w : World) (A0 : Option Addr) (n0 : Nat) (A : Option Addr) (n : Nat) : Prop := (A = A0 ∧ n = n0) ∨ Fr N w n A
theorem PassL.lo {b0 N : Nat} {w w' : World} {n0 n : Nat} {A0 A : Option Addr} (h : PassL N w' A0 n0 A n) (h0 : Lo b0 w n0 A0) (hx : Ext w w') : Lo b0 w' n A := by
  rcases h with ⟨rfl, rfl⟩ | h
  · exact h0.ext hx
  · exact h.lo
/-- The document's Urge and Over hand back. -/
def GivesSL (s : Scrubs.S) (er : Int) (A0 : Option Addr) (n0 : Nat) (B0 : Option Addr) (m0 : Nat) (w : World) (e : Ending) (w' : World) : Prop := ∃ A n c B m d, e = .returned (.tuple #[sval s.cur s.queue (.slice A n c) (.slice B m d), .int .i64 er]) ∧ Is w' A n c s.urged ∧ Is w' B m d s.busy ∧ Ext w w' ∧ PassL w.heap.size w' A0 n0 A n ∧ PassL w.heap.size w' B0 m0 B m
/-- The document's Take hands back. -/
def GivesNL (s : Scrubs.S) (x er : Int) (A0 : Option Addr) (n0 : Nat) (B0 : Option Addr) (m0 : Nat) (w : World) (e : Ending) (w' : World) : Prop := ∃ A n c B m d, e = .returned (.tuple #[sval s.cur s.queue (.slice A n c) (.slice B m d), .int .i64 x, .int .i64 er]) ∧ Is w' A n c s.urged ∧ Is w' B m d s.busy ∧ Ext w w' ∧ PassL w.heap.size w' A0 n0 A n ∧ PassL w.heap.size w' B0 m0 B m
theorem GivesSL.ls {s : Scrubs.S} {er : Int} {A0 : Option Addr} {n0 : Nat} {B0 : Option Addr} {m0 b0 : Nat} {w w' : World} {e : Ending} (h : GivesSL s er A0 n0 B0 m0 w e w') (h1 : Lo b0 w n0 A0) (h2 : Lo b0 w m0 B0) :
    ∃ A n c B m d, e = .returned (.tuple #[sval s.cur s.queue (.slice A n c) (.slice B m d), .int .i64 er]) ∧ Ls b0 w' s A n c B m d ∧ Ext w w' := by
  obtain ⟨A, n, c, B, m, d, rfl, hu, hb, hx, p1, p2⟩ := h
  exact ⟨A, n, c, B, m, d, rfl, ⟨hu, hb, p1.lo h1 hx, p2.lo h2 hx⟩, hx⟩
theorem GivesNL.ls {s : Scrubs.S} {x er : Int} {A0 : Option Addr} {n0 : Nat} {B0 : Option Addr} {m0 b0 : Nat} {w w' : World} {e : Ending} (h : GivesNL s x er A0 n0 B0 m0 w e w') (h1 : Lo b0 w n0 A0) (h2 : Lo b0 w m0 B0) :
    ∃ A n c B m d, e = .returned (.tuple #[sval s.cur s.queue (.slice A n c) (.slice B m d), .int .i64 x, .int .i64 er]) ∧ Ls b0 w' s A n c B m d ∧ Ext w w' := by
  obtain ⟨A, n, c, B, m, d, rfl, hu, hb, hx, p1, p2⟩ := h
  exact ⟨A, n, c, B, m, d, rfl, ⟨hu, hb, p1.lo h1 hx, p2.lo h2 hx⟩, hx⟩
theorem own_passL_four {W : World} {base g N : Nat} {v : Value} {l : List Int} (h : W.ownsRow base 3 1 v l.length (icells l)) (hg : g < base) (hN : N ≤ base) (cu : Int) (qu : Bool) (U B : Value) {A : Option Addr} {n c : Nat} (hv : v = .slice A n c) (hn : l.length = n) {A0 : Option Addr} {n0 : Nat} : PassL N (four W g cu qu U B) A0 n0 A n := by
  subst hv hn
  exact .inr (own_fr (own_four h hg cu qu U B) hN)
set_option maxRecDepth 100000 in
set_option maxHeartbeats 4000000 in
theorem ref16Urge_any (w : World) (s : Scrubs.S) (A : Option Addr) (n c : Nat) (B : Option Addr) (m d : Nat) (x : Int) (hu : Is w A n c s.urged) (hb : Is w B m d s.busy) :
    Calls Try.prog 15 #[sval s.cur s.queue (.slice A n c) (.slice B m d), .int .i64 x] w (GivesSL (Scrubs.urgeS s x) (Scrubs.urgeE s x) A n B m w) := by
  obtain ⟨i0, hi0, hz0, hz1, hz2⟩ := info_parts int_info
  have q1 := hu.max
  have q2 := hu.le
  have q3 := hb.max
  have q4 := hb.le
  have sw := Sw.start w s.cur s.queue (.slice A n c) (.slice B m d) rfl
  have hRT := ref16Right_any _ s A n c B m d (hu.ext sw.x) (hb.ext sw.x)
  have HU := Lib.hid hu
  have HB := Lib.hid hb
  have LU := Lib.hid hu.len
  have LB := Lib.hid hb.len
  have k0 := sw.a.c0
  have k1 := sw.a.c1
  have k2 := sw.a.c2
  have k3 := sw.a.c3
  by_cases hr : Scrubs.right s
  · rw [decide_eq_true hr] at hRT
    have HRT := Lib.hid hRT
    have SW := Lib.hid sw
    have HN1 := Lib.hid (show n ≤ 1000 by have := hr.2.1; have := hu.len; omega)
    by_cases h1 : x < 0
    · obtain ⟨e1, e2⟩ := Scrubs.urge_bad (s := s) (n := x) (fun h => by have := h.2.1; omega)
      rw [e1, e2]
      have g1 : decide (x < 0) = true := decide_eq_true h1
      clear hRT hu hb sw e1 e2 hr
      go_enter Try.func15, Try.ntmps15
      go_wp2_with (fail)
      refine HRT.out.mono ?_
      rintro e w1 ⟨rfl, x1⟩
      have s1 := SW.out.ext x1
      have a0 := s1.a.c0
      have a1 := s1.a.c1
      have a2 := s1.a.c2
      have a3 := s1.a.c3
      have b0 := s1.b.c0
      have b1 := s1.b.c1
      have b2 := s1.b.c2
      have b3 := s1.b.c3
      have b4 := s1.b.fz
      have S1 := Lib.hid s1
      clear s1
      go_wp2_with (fail)
      refine bodyPost_ret (v := .tuple #[sval s.cur s.queue (.slice A n c) (.slice B m d), .int .i64 165]) ?_ rfl ⟨A, n, c, B, m, d, rfl, HU.out.four (g := w.heap.size + 1) S1.out.x (by omega) _ _ _ _, HB.out.four (g := w.heap.size + 1) S1.out.x (by omega) _ _ _ _, S1.out.end, .inl ⟨rfl, rfl⟩, .inl ⟨rfl, rfl⟩⟩
      rw [results_cell_tmp rfl]
      simp [asAddr, Result.andThen, S1.out.res]
    by_cases h2 : 1099511627776 < x
    · obtain ⟨e1, e2⟩ := Scrubs.urge_bad (s := s) (n := x) (fun h => by have : x ≤ 1099511627776 := h.2.2; omega)
      rw [e1, e2]
      have g2 : decide (x < 0) = false := decide_eq_false h1
      have g1 : decide (1099511627776 < x) = true := decide_eq_true h2
      clear hRT hu hb sw e1 e2 hr
      go_enter Try.func15, Try.ntmps15
      go_wp2_with (fail)
      refine HRT.out.mono ?_
      rintro e w1 ⟨rfl, x1⟩
      have s1 := SW.out.ext x1
      have a0 := s1.a.c0
      have a1 := s1.a.c1
      have a2 := s1.a.c2
      have a3 := s1.a.c3
      have b0 := s1.b.c0
      have b1 := s1.b.c1
      have b2 := s1.b.c2
      have b3 := s1.b.c3
      have b4 := s1.b.fz
      have S1 := Lib.hid s1
      clear s1
      go_wp2_with (fail)
      refine bodyPost_ret (v := .tuple #[sval s.cur s.queue (.slice A n c) (.slice B m d), .int .i64 165]) ?_ rfl ⟨A, n, c, B, m, d, rfl, HU.out.four (g := w.heap.size + 1) S1.out.x (by omega) _ _ _ _, HB.out.four (g := w.heap.size + 1) S1.out.x (by omega) _ _ _ _, S1.out.end, .inl ⟨rfl, rfl⟩, .inl ⟨rfl, rfl⟩⟩
      rw [results_cell_tmp rfl]
      simp [asAddr, Result.andThen, S1.out.res]
    have hok : Scrubs.urgeOk s x := ⟨hr, by omega, by show x ≤ 1099511627776; omega⟩
    have HOK := Lib.hid hok
    have HC := Lib.hid (fun (W : World) (hW : Ext w W) => has_any W A n c s.urged x (hu.ext hW))
    clear hr hok hRT hu hb sw
    by_cases hm : x ∈ s.urged
    · obtain ⟨e1, e2⟩ := Scrubs.urge_there HOK.out hm
      rw [e1, e2]
      rw [decide_eq_true hm] at HC
      clear e1 e2 hm
      go_enter Try.func15, Try.ntmps15
      go_wp2_with (fail)
      refine HRT.out.mono ?_
      rintro e w1 ⟨rfl, x1⟩
      have s1 := SW.out.ext x1
      have a0 := s1.a.c0
      have a1 := s1.a.c1
      have a2 := s1.a.c2
      have a3 := s1.a.c3
      have b0 := s1.b.c0
      have b1 := s1.b.c1
      have b2 := s1.b.c2
      have b3 := s1.b.c3
      have b4 := s1.b.fz
      have S1 := Lib.hid s1
      clear s1
      go_wp2_with (fail)
      refine (HC.out _ S1.out.x).mono ?_
      rintro e w' ⟨rfl, rfl⟩
      go_wp2_with (fail)
      refine bodyPost_ret (v := .tuple #[sval s.cur s.queue (.slice A n c) (.slice B m d), .int .i64 0]) ?_ rfl ⟨A, n, c, B, m, d, rfl, HU.out.four (g := w.heap.size + 1) S1.out.x (by omega) _ _ _ _, HB.out.four (g := w.heap.size + 1) S1.out.x (by omega) _ _ _ _, S1.out.end, .inl ⟨rfl, rfl⟩, .inl ⟨rfl, rfl⟩⟩
      rw [results_cell_tmp rfl]
      simp [asAddr, Result.andThen, S1.out.res]
    · rw [decide_eq_false hm] at HC
      by_cases hf : 1000 ≤ n
      · obtain ⟨e1, e2⟩ := Scrubs.urge_full HOK.out hm (by rw [LU.out]; exact hf)
        rw [e1, e2]
        have g1 : (1000 : Int) ≤ n := by omega
        clear e1 e2 hm
        go_enter Try.func15, Try.ntmps15
        go_wp2_with (fail)
        refine HRT.out.mono ?_
        rintro e w1 ⟨rfl, x1⟩
        have s1 := SW.out.ext x1
        have a0 := s1.a.c0
        have a1 := s1.a.c1
        have a2 := s1.a.c2
        have a3 := s1.a.c3
        have b0 := s1.b.c0
        have b1 := s1.b.c1
        have b2 := s1.b.c2
        have b3 := s1.b.c3
        have b4 := s1.b.fz
        have S1 := Lib.hid s1
        clear s1
        go_wp2_with (fail)
        refine (HC.out _ S1.out.x).mono ?_
        rintro e w' ⟨rfl, rfl⟩
        go_wp2_with (fail)
        refine bodyPost_ret (v := .tuple #[sval s.cur s.queue (.slice A n c) (.slice B m d), .int .i64 5]) ?_ rfl ⟨A, n, c, B, m, d, rfl, HU.out.four (g := w.heap.size + 1) S1.out.x (by omega) _ _ _ _, HB.out.four (g := w.heap.size + 1) S1.out.x (by omega) _ _ _ _, S1.out.end, .inl ⟨rfl, rfl⟩, .inl ⟨rfl, rfl⟩⟩
        rw [results_cell_tmp rfl]
        simp [asAddr, Result.andThen, S1.out.res]
      · obtain ⟨e1, e2⟩ := Scrubs.urge_new HOK.out hm (by rw [LU.out]; exact hf)
        rw [e1, e2]
        have g1 : ¬ (1000 : Int) ≤ n := by omega
        clear e1 e2 hm
        go_enter Try.func15, Try.ntmps15
        go_wp2_with (fail)
        refine HRT.out.mono ?_
        rintro e w1 ⟨rfl, x1⟩
        have s1 := SW.out.ext x1
        have a0 := s1.a.c0
        have a1 := s1.a.c1
        have a2 := s1.a.c2
        have a3 := s1.a.c3
        have b0 := s1.b.c0
        have b1 := s1.b.c1
        have b2 := s1.b.c2
        have b3 := s1.b.c3
        have b4 := s1.b.fz
        have S1 := Lib.hid s1
        clear s1
        go_wp2_with (fail)
        refine (HC.out _ S1.out.x).mono ?_
        rintro e w' ⟨rfl, rfl⟩
        have f4 := S1.out.a.fz
        have HO0 := Lib.hid (World.ownsRow_nil w1 (w.heap.size + 2) 3 1)
        have T1 := Lib.hid (HU.out.ext S1.out.x).rd
        have hsz1 : w.heap.size + 2 ≤ w1.heap.size := by have := S1.out.b.lt; omega
        clear k0 k1 k2 k3
        go_wp2_with (first
          | (at_builtin; refine wpList_append_rd _ rfl (.tmp 29) (.tmp 31) 22 rfl (w.heap.size + 2) 3 i0 _ 1 8 Try.underlying22 hi0 hz0 hz1 hz2 rfl (by omega) (.slice none 0 0) 0 [] rfl HO0.out A n c (icells s.urged) rfl T1.out (icells_one _) (by omega) (by unfold maxLen; omega) (by first | omega | (simp; done) | (simp; omega)) ?_; intro v5 w5 hown hgr hat; have s5 := S1.out.grown hgr (fun k hk => by cases hk); have h0 := s5.a.c0; have h1 := s5.a.c1; have h2 := s5.a.c2; have h3 := s5.a.c3; have h4 := s5.a.fz; have HOW := Lib.hid hown; have hsz5 := hgr.size; have S5 := Lib.hid s5; have HO5 := Lib.hid (ownsRow_ext hown (Ext.alloc w5 (.cells #[.int .i64 x] 3))); clear hown hgr s5 a0 a1 a2 a3 b0 b1 b2 b3 b4 f4)
          | (at_builtin; refine wpList_append_rd _ rfl (.tmp 33) (.tmp 35) 22 rfl (w.heap.size + 2) 3 i0 _ 1 8 Try.underlying22 hi0 hz0 hz1 hz2 rfl (by omega) v5 (0 + n) ([] ++ icells s.urged) rfl HO5.out (some ⟨w5.heap.size, 0, none⟩) 1 1 [.int .i64 x] rfl (Rd.lit w5 #[_] _) (by simp [Value.oneCell']) (by omega) (by unfold maxLen; omega) (by first | omega | (simp; done) | (simp; omega)) ?_; intro v6 w6 hown hgr hat; obtain ⟨A6, c6, rfl, _, _⟩ := ownsRow_slice hown; have s6 := (S5.out.ext (Ext.alloc w5 (.cells #[.int .i64 x] 3))).grown hgr (fun k hk => (HOW.out.lt k hk).1); have h0 := s6.a.c0; have h1 := s6.a.c1; have h2 := s6.a.c2; have h3 := s6.a.c3; have h4 := s6.a.fz; have b0 := s6.b.c0; have b1 := s6.b.c1; have b2 := s6.b.c2; have b3 := s6.b.c3; have b4 := s6.b.fz; have HOW6 := Lib.hid hown; have hsz6 := hgr.size; have S6 := Lib.hid s6; clear hown hgr s6))
        have s7 := S6.out.set2 (.slice A6 (n + 1) c6)
        have hl : (s.urged ++ [x]).length = n + 1 := by rw [List.length_append, LU.out, List.length_singleton]
        have ou : w6.ownsRow (w.heap.size + 2) 3 1 (.slice A6 (n + 1) c6) (s.urged ++ [x]).length (icells (s.urged ++ [x])) := by
          rw [hl, icells_append]
          have := HOW6.out
          rw [List.nil_append, Nat.zero_add] at this
          exact this
        refine bodyPost_ret (v := .tuple #[sval s.cur s.queue (.slice A6 (n + 1) c6) (.slice B m d), .int .i64 0]) ?_ rfl ⟨A6, _, c6, B, m, d, rfl, own_is_four (ownsRow_far ou (p := ⟨w.heap.size, 2, none⟩) (by show w.heap.size < _; omega) _) (by omega) _ _ _ _ rfl hl, HB.out.ext s7.end, s7.end, own_passL_four (ownsRow_far ou (p := ⟨w.heap.size, 2, none⟩) (by show w.heap.size < _; omega) _) (by omega) (by omega) _ _ _ _ rfl hl, .inl ⟨rfl, rfl⟩⟩
        rw [results_cell_tmp rfl]
        simp [asAddr, Result.andThen, s7.res]
  · obtain ⟨e1, e2⟩ := Scrubs.urge_bad (s := s) (n := x) (fun h => hr h.1)
    rw [e1, e2]
    clear e1 e2
    rw [decide_eq_false hr] at hRT
    have HRT := Lib.hid hRT
    have SW := Lib.hid sw
    clear hr hRT hu hb sw
    go_enter Try.func15, Try.ntmps15
    go_wp2_with (fail)
    refine HRT.out.mono ?_
    rintro e w1 ⟨rfl, x1⟩
    have s1 := SW.out.ext x1
    have a0 := s1.a.c0
    have a1 := s1.a.c1
    have a2 := s1.a.c2
    have a3 := s1.a.c3
    have b0 := s1.b.c0
    have b1 := s1.b.c1
    have b2 := s1.b.c2
    have b3 := s1.b.c3
    have b4 := s1.b.fz
    have S1 := Lib.hid s1
    clear s1
    go_wp2_with (fail)
    refine bodyPost_ret (v := .tuple #[sval s.cur s.queue (.slice A n c) (.slice B m d), .int .i64 165]) ?_ rfl ⟨A, n, c, B, m, d, rfl, HU.out.four (g := w.heap.size + 1) S1.out.x (by omega) _ _ _ _, HB.out.four (g := w.heap.size + 1) S1.out.x (by omega) _ _ _ _, S1.out.end, .inl ⟨rfl, rfl⟩, .inl ⟨rfl, rfl⟩⟩
    rw [results_cell_tmp rfl]
    simp [asAddr, Result.andThen, S1.out.res]
end Go.Proofs.Ytkclimblcipmlaa
