/- MatrixTells' walk. -/
import Derived.Test.YtiianhlppkocgaaMatTellsPl
import Derived.Deep.DeepCutAuto
import Derived.Deep.CutBlock
namespace Go.Proofs.Ytiianhlppkocgaa
open Go.ChangeShapes Go.WideShapes Go.ChangeAt Go.RowKit

theorem IsRow.ints {w : World} {a : Option Addr} {len cap : Nat} {zs : List Int} (h : IsRow .i64 w a len cap zs) : Is w a len cap (zs.take len) := by
  rcases h with ⟨rfl, rfl, rfl, rfl⟩ | ⟨x, rfl, h1, h2, h3, h4, _⟩
  · exact Is.none w
  · have hl : (zs.take len).length = len := by rw [List.length_take]; omega
    refine ⟨hl, h1, by unfold maxLen at h2; omega, by rw [icells_length, hl]; omega, fun hn => ?_⟩
    have h0 := h4 0 (by omega)
    have hsp := cells_spot h0
    refine ⟨x.block, x.off, by rw [← hsp], fun j u hu => ?_⟩
    have hj : j < len := by
      have := (List.getElem?_eq_some_iff.1 hu).1
      rwa [icells_length, hl] at this
    have hc := h4 j (by omega)
    rw [hsp, addr_add] at hc
    rw [hc, ← hu, icells_get (by rw [hl]; exact hj), Il.get_take hj]
    rfl
namespace matrixTells
set_option maxRecDepth 100000 in
set_option maxHeartbeats 8000000 in
theorem tells_any (w : World) (A B C : Option Addr) (q1 c1 q2 c2 q3 c3 : Nat) (a b : Gm.L) (l : List Int) (n k : Int) (ha : Mx w A q1 c1 a) (hb : Mx w B q2 c2 b) (hl : Is w C q3 c3 l) :
    Calls Try.prog 4 #[.slice A q1 c1, .slice B q2 c2, .slice C q3 c3, .int .i64 n, .int .i64 k] w fun e w' => e = .returned (.bool true) ∧ Ext w w' := by
  have hs1 := smallMatrix_any w A q1 c1 a 12 ha
  have hs2 := fun (W : World) (hW : Ext w W) => smallMatrix_any W B q2 c2 b 12 (hb.ext hW)
  have p1 := ha.max
  have p2 := ha.le
  have p3 := hb.max
  have p4 := hb.le
  have p5 := hl.max
  have p6 := hl.le
  by_cases h1 : small a 12
  · rw [decide_eq_true h1] at hs1
    by_cases h2 : small b 12
    · rw [decide_eq_true h2] at hs2
      by_cases h3 : 20 < q3
      · have g3 : (20 : Int) < q3 := by omega
        have HS1 := Lib.hid hs1
        have HS2 := Lib.hid hs2
        clear hs1 hs2 h1 h2 ha hb hl
        go_enter Try.func4, Try.ntmps4
        try dsimp only [List.append]
        go_wp2_with (fail)
        refine HS1.out.mono ?_
        rintro e u1 ⟨rfl, x1⟩
        go_wp2_with (fail)
        refine (HS2.out u1 x1).mono ?_
        rintro e u2 ⟨rfl, x2⟩
        go_wp2_with (fail)
        refine (awake_any3 _).mono ?_
        rintro e u3 ⟨rfl, x3⟩
        go_wp2_with (fail)
        go_ret
        exact ⟨rfl, (x1.trans x2).trans x3⟩
      · have g3 : ¬ (20 : Int) < q3 := by omega
        have HA1 := Lib.hid (show q1 ≤ 1000 by have := h1.1; have := ha.len; omega)
        have HA2 := Lib.hid (fun i (hi : i < q1) => show (Gm.row a i).length ≤ 1000 by have := h1.2 i (by rw [ha.len]; exact hi); omega)
        have HB1 := Lib.hid (show q2 ≤ 1000 by have := h2.1; have := hb.len; omega)
        have HB2 := Lib.hid (fun i (hi : i < q2) => show (Gm.row b i).length ≤ 1000 by have := h2.2 i (by rw [hb.len]; exact hi); omega)
        have HS1 := Lib.hid hs1
        have HS2 := Lib.hid hs2
        clear hs1 hs2 h1 h2
        go_enter Try.func4, Try.ntmps4
        try dsimp only [List.append]
        go_wp2_with (fail)
        refine HS1.out.mono ?_
        rintro e u1 ⟨rfl, x1⟩
        go_wp2_with (fail)
        refine (HS2.out u1 x1).mono ?_
        rintro e u2 ⟨rfl, x2⟩
        have x0 := x1.trans x2
        replace ha := ha.ext x0
        replace hb := hb.ext x0
        replace hl := hl.ext x0
        clear x1 x2 HS1 HS2
        go_wp2_with (fail)
        refine (new_any _).mono ?_
        rintro e u3 ⟨rfl, hf, y1⟩
        generalize hbk : u2.heap.size = fb at *
        have Hb := Lib.hid hbk
        clear hbk
        have y0 := y1
        replace ha := ha.ext y0
        replace hb := hb.ext y0
        replace hl := hl.ext y0
        replace x0 := Ext.trans x0 y0
        clear y0
        clear y1
        go_wp2_with (fail)
        refine (copyMatrix_any _ A _ _ a ha HA1.out HA2.out).mono ?_
        intro e u4 hg
        obtain ⟨v9, cs9, rfl, hq9, y1⟩ := hg
        obtain ⟨Ax, cx, rfl, hx⟩ := hq9.mx
        clear hq9
        have y0 := y1
        replace ha := ha.ext y0
        replace hb := hb.ext y0
        replace hl := hl.ext y0
        replace hf := hf.ext y0
        replace x0 := Ext.trans x0 y0
        clear y0
        clear y1
        go_wp2_with (fail)
        refine (copyMatrix_any _ B _ _ b hb HB1.out HB2.out).mono ?_
        intro e u5 hg
        obtain ⟨v9, cs9, rfl, hq9, y1⟩ := hg
        obtain ⟨Ay, cy, rfl, hy⟩ := hq9.mx
        clear hq9
        have y0 := y1
        replace ha := ha.ext y0
        replace hb := hb.ext y0
        replace hl := hl.ext y0
        replace hf := hf.ext y0
        replace hx := hx.ext y0
        replace x0 := Ext.trans x0 y0
        clear y0
        clear y1
        go_wp2_with (fail)
        refine (mul_p fb _ _ _ _ _ _ _ a b hf hx hy).mono ?_
        rintro e u6 ⟨Ac, cc, rfl, hc, y1⟩
        have y0 := y1
        replace ha := ha.ext y0
        replace hb := hb.ext y0
        replace hl := hl.ext y0
        replace hf := hf.ext y0
        replace hx := hx.ext y0
        replace hy := hy.ext y0
        replace x0 := Ext.trans x0 y0
        clear y0
        clear y1
        go_wp2_with (fail)
        refine (mul_d _ _ _ _ _ _ _ a b ha hb).mono ?_
        rintro e u7 ⟨Ae, ce, rfl, he, y1⟩
        have y0 := y1
        replace ha := ha.ext y0
        replace hb := hb.ext y0
        replace hl := hl.ext y0
        replace hf := hf.ext y0
        replace hx := hx.ext y0
        replace hy := hy.ext y0
        replace hc := hc.ext y0
        replace x0 := Ext.trans x0 y0
        clear y0
        clear y1
        generalize mulM a b = M1 at *
        generalize mulE a b = E1 at *
        go_wp2_with (fail)
        refine (invert_any3 fb _ _ _ _ a hf hx).mono ?_
        intro e u8 hg
        obtain ⟨Ah, ch, rfl, hh, y1⟩ := gives_mx hg
        clear hg
        have y0 := y1
        replace ha := ha.ext y0
        replace hb := hb.ext y0
        replace hl := hl.ext y0
        replace hf := hf.ext y0
        replace hx := hx.ext y0
        replace hy := hy.ext y0
        replace hc := hc.ext y0
        replace he := he.ext y0
        replace x0 := Ext.trans x0 y0
        clear y0
        clear y1
        go_wp2_with (fail)
        refine (ref3Invert_any _ _ _ _ a ha).mono ?_
        rintro e u9 ⟨Aj, cj, rfl, hj, y1⟩
        have y0 := y1
        replace ha := ha.ext y0
        replace hb := hb.ext y0
        replace hl := hl.ext y0
        replace hf := hf.ext y0
        replace hx := hx.ext y0
        replace hy := hy.ext y0
        replace hc := hc.ext y0
        replace he := he.ext y0
        replace hh := hh.ext y0
        replace x0 := Ext.trans x0 y0
        clear y0
        clear y1
        generalize invM a = M2 at *
        generalize invE a = E2 at *
        go_wp2_with (fail)
        refine (pick_any3 _ _ _ _ a hx _ _ _ l hl).mono ?_
        intro e u10 hg
        obtain ⟨Am, cm, rfl, hm, y1⟩ := gives_mx hg
        clear hg
        have y0 := y1
        replace ha := ha.ext y0
        replace hb := hb.ext y0
        replace hl := hl.ext y0
        replace hf := hf.ext y0
        replace hx := hx.ext y0
        replace hy := hy.ext y0
        replace hc := hc.ext y0
        replace he := he.ext y0
        replace hh := hh.ext y0
        replace hj := hj.ext y0
        replace x0 := Ext.trans x0 y0
        clear y0
        clear y1
        go_wp2_with (fail)
        refine (ref3Pick_any _ _ _ _ a ha _ _ _ l hl).mono ?_
        intro e u11 hg
        obtain ⟨Ap, cp, rfl, hp, y1⟩ := gives_mx hg
        clear hg
        have y0 := y1
        replace ha := ha.ext y0
        replace hb := hb.ext y0
        replace hl := hl.ext y0
        replace hf := hf.ext y0
        replace hx := hx.ext y0
        replace hy := hy.ext y0
        replace hc := hc.ext y0
        replace he := he.ext y0
        replace hh := hh.ext y0
        replace hj := hj.ext y0
        replace hm := hm.ext y0
        replace x0 := Ext.trans x0 y0
        clear y0
        clear y1
        generalize pickM a l = M3 at *
        generalize pickE a l = E3 at *
        clear hl
        have b1 : (E1 != E1) = false := by simp
        have b2 : (E2 != E2) = false := by simp
        have b3 : (E3 != E3) = false := by simp
        go_wp2_with (fail)
        refine (same_p _ _ _ _ _ _ _ _ _ hc he rfl).mono ?_
        rintro e u12 ⟨rfl, y1⟩
        have y0 := y1
        replace ha := ha.ext y0
        replace hb := hb.ext y0
        replace hf := hf.ext y0
        replace hx := hx.ext y0
        replace hy := hy.ext y0
        replace hc := hc.ext y0
        replace he := he.ext y0
        replace hh := hh.ext y0
        replace hj := hj.ext y0
        replace hm := hm.ext y0
        replace hp := hp.ext y0
        replace x0 := Ext.trans x0 y0
        clear y0
        clear y1
        clear hc he
        go_wp2_with (fail)
        refine (same_p _ _ _ _ _ _ _ _ _ hh hj rfl).mono ?_
        rintro e u13 ⟨rfl, y1⟩
        have y0 := y1
        replace ha := ha.ext y0
        replace hb := hb.ext y0
        replace hf := hf.ext y0
        replace hx := hx.ext y0
        replace hy := hy.ext y0
        replace hh := hh.ext y0
        replace hj := hj.ext y0
        replace hm := hm.ext y0
        replace hp := hp.ext y0
        replace x0 := Ext.trans x0 y0
        clear y0
        clear y1
        clear hh hj
        go_wp2_with (fail)
        refine (same_p _ _ _ _ _ _ _ _ _ hm hp rfl).mono ?_
        rintro e u14 ⟨rfl, y1⟩
        have y0 := y1
        replace ha := ha.ext y0
        replace hb := hb.ext y0
        replace hf := hf.ext y0
        replace hx := hx.ext y0
        replace hy := hy.ext y0
        replace hm := hm.ext y0
        replace hp := hp.ext y0
        replace x0 := Ext.trans x0 y0
        clear y0
        clear y1
        clear hm hp
        go_wp2_with (fail)
        refine (matRight_any _ _ _ _ a hx).mono ?_
        rintro e u15 ⟨rfl, y1⟩
        have y0 := y1
        replace ha := ha.ext y0
        replace hb := hb.ext y0
        replace hf := hf.ext y0
        replace hx := hx.ext y0
        replace hy := hy.ext y0
        replace x0 := Ext.trans x0 y0
        clear y0
        clear y1
        go_wp2_with (fail)
        refine (ref3Right_any _ _ _ _ a ha).mono ?_
        rintro e u16 ⟨rfl, y1⟩
        have y0 := y1
        replace ha := ha.ext y0
        replace hb := hb.ext y0
        replace hf := hf.ext y0
        replace hx := hx.ext y0
        replace hy := hy.ext y0
        replace x0 := Ext.trans x0 y0
        clear y0
        clear y1
        generalize decide (Gm.right a) = rb at *
        have b4 : (rb != rb) = false := by simp
        obtain ⟨rk, hrk⟩ : ∃ rk : Nat, (if Gm.right a then Gm.rank a else 0 : Nat) = rk := ⟨_, rfl⟩
        have HRK := Lib.hid hrk
        clear hrk
        go_wp2_with (fail)
        refine (rank_any3 fb _ _ _ _ a hf hx).mono ?_
        rintro e u17 ⟨rfl, y1⟩
        have y0 := y1
        replace ha := ha.ext y0
        replace hb := hb.ext y0
        replace hf := hf.ext y0
        replace hx := hx.ext y0
        replace hy := hy.ext y0
        replace x0 := Ext.trans x0 y0
        clear y0
        clear y1
        rw [HRK.out]
        go_wp2_with (fail)
        refine (ref3Rank_any _ _ _ _ a ha).mono ?_
        rintro e u18 ⟨rfl, y1⟩
        have y0 := y1
        replace ha := ha.ext y0
        replace hb := hb.ext y0
        replace hf := hf.ext y0
        replace hx := hx.ext y0
        replace hy := hy.ext y0
        replace x0 := Ext.trans x0 y0
        clear y0
        clear y1
        rw [HRK.out]
        have b5 : ((rk : Int) != (rk : Int)) = false := by simp
        have b6 : ∀ z : Int, (z == z) = true := fun z => by simp
        go_wp2_with (fail)
        all_goals
          refine (unit_p _ _).mono ?_
          rintro e u19 ⟨Ar, cr, rfl, hr, y1⟩
          have y0 := y1
          replace ha := ha.ext y0
          replace hb := hb.ext y0
          replace hf := hf.ext y0
          replace hx := hx.ext y0
          replace hy := hy.ext y0
          replace x0 := Ext.trans x0 y0
          clear y0
          clear y1
          go_wp2_with (fail)
          refine (unit_d _ _).mono ?_
          rintro e u20 ⟨At, ct, rfl, ht, y1⟩
          have y0 := y1
          replace ha := ha.ext y0
          replace hb := hb.ext y0
          replace hf := hf.ext y0
          replace hx := hx.ext y0
          replace hy := hy.ext y0
          replace hr := hr.ext y0
          replace x0 := Ext.trans x0 y0
          clear y0
          clear y1
          go_wp2_with (fail)
          refine (cauchy_p fb _ _ _ hf).mono ?_
          rintro e u21 ⟨Av, cv, rfl, hv, y1⟩
          have y0 := y1
          replace ha := ha.ext y0
          replace hb := hb.ext y0
          replace hf := hf.ext y0
          replace hx := hx.ext y0
          replace hy := hy.ext y0
          replace hr := hr.ext y0
          replace ht := ht.ext y0
          replace x0 := Ext.trans x0 y0
          clear y0
          clear y1
          go_wp2_with (fail)
          refine (cauchy_d _ _ _).mono ?_
          rintro e u22 ⟨Az, cz, rfl, hz, y1⟩
          have y0 := y1
          replace ha := ha.ext y0
          replace hb := hb.ext y0
          replace hf := hf.ext y0
          replace hx := hx.ext y0
          replace hy := hy.ext y0
          replace hr := hr.ext y0
          replace ht := ht.ext y0
          replace hv := hv.ext y0
          replace x0 := Ext.trans x0 y0
          clear y0
          clear y1
          go_wp2_with (fail)
          refine (same_p _ _ _ _ _ _ _ _ _ hr ht rfl).mono ?_
          rintro e u23 ⟨rfl, y1⟩
          have y0 := y1
          replace ha := ha.ext y0
          replace hb := hb.ext y0
          replace hf := hf.ext y0
          replace hx := hx.ext y0
          replace hy := hy.ext y0
          replace hr := hr.ext y0
          replace ht := ht.ext y0
          replace hv := hv.ext y0
          replace hz := hz.ext y0
          replace x0 := Ext.trans x0 y0
          clear y0
          clear y1
          clear hr ht
          go_wp2_with (fail)
          refine (same_p _ _ _ _ _ _ _ _ _ hv hz rfl).mono ?_
          rintro e u24 ⟨rfl, y1⟩
          have y0 := y1
          replace ha := ha.ext y0
          replace hb := hb.ext y0
          replace hf := hf.ext y0
          replace hx := hx.ext y0
          replace hy := hy.ext y0
          replace hv := hv.ext y0
          replace hz := hz.ext y0
          replace x0 := Ext.trans x0 y0
          clear y0
          clear y1
          clear hv hz
          go_wp2_with (fail)
          refine (same_p _ _ _ _ _ _ _ _ _ hx ha rfl).mono ?_
          rintro e u25 ⟨rfl, y1⟩
          have y0 := y1
          replace ha := ha.ext y0
          replace hb := hb.ext y0
          replace hf := hf.ext y0
          replace hx := hx.ext y0
          replace hy := hy.ext y0
          replace x0 := Ext.trans x0 y0
          clear y0
          clear y1
          go_wp2_with (fail)
          refine (same_p _ _ _ _ _ _ _ _ _ hy hb rfl).mono ?_
          rintro e u26 ⟨rfl, y1⟩
          have y0 := y1
          replace ha := ha.ext y0
          replace hb := hb.ext y0
          replace hf := hf.ext y0
          replace hx := hx.ext y0
          replace hy := hy.ext y0
          replace x0 := Ext.trans x0 y0
          clear y0
          clear y1
          go_wp2_with (fail)
          refine (awake_any3 _).mono ?_
          rintro e u27 ⟨rfl, y1⟩
          have y0 := y1
          replace ha := ha.ext y0
          replace hb := hb.ext y0
          replace hf := hf.ext y0
          replace hx := hx.ext y0
          replace hy := hy.ext y0
          replace x0 := Ext.trans x0 y0
          clear y0
          clear y1
          go_wp2_with (fail)
          go_ret
          exact ⟨rfl, x0⟩
    · rw [decide_eq_false h2] at hs2
      have HS1 := Lib.hid hs1
      have HS2 := Lib.hid hs2
      clear hs1 hs2 h1 h2 ha hb hl
      go_enter Try.func4, Try.ntmps4
      try dsimp only [List.append]
      go_wp2_with (fail)
      refine HS1.out.mono ?_
      rintro e u1 ⟨rfl, x1⟩
      go_wp2_with (fail)
      refine (HS2.out u1 x1).mono ?_
      rintro e u2 ⟨rfl, x2⟩
      go_wp2_with (fail)
      refine (awake_any3 _).mono ?_
      rintro e u3 ⟨rfl, x3⟩
      go_wp2_with (fail)
      go_ret
      exact ⟨rfl, (x1.trans x2).trans x3⟩
  · rw [decide_eq_false h1] at hs1
    have HS1 := Lib.hid hs1
    clear hs1 hs2 h1 ha hb hl
    go_enter Try.func4, Try.ntmps4
    try dsimp only [List.append]
    go_wp2_with (fail)
    refine HS1.out.mono ?_
    rintro e u1 ⟨rfl, x1⟩
    go_wp2_with (fail)
    refine (awake_any3 _).mono ?_
    rintro e u3 ⟨rfl, x3⟩
    go_wp2_with (fail)
    go_ret
    exact ⟨rfl, x1.trans x3⟩
theorem walk {H : Type} {enc : TypeId × Value → H} {base : Nat} (w : World) (v0 : Value) (d0 : DataW H) (p0 : List MemPlace) (v1 : Value) (d1 : DataW H) (p1 : List MemPlace) (A2 : Option Addr) (n2 c2 : Nat) (z2 : List Int) (a3 a4 : Int)
    (o0 : Value.okWide Try.prog w .any base 25 v0) (h0 : DataW.Trod enc Try.prog w 0 (fun _ => true) true 25 v0 d0 p0) (o1 : Value.okWide Try.prog w .any base 25 v1) (h1 : DataW.Trod enc Try.prog w 0 (fun _ => true) true 25 v1 d1 p1) (w2 : IsRow .i64 w A2 n2 c2 z2) (_w3 : (Lit.int .i64 a3).wf = true) (_w4 : (Lit.int .i64 a4).wf = true) :
    Calls Try.prog 4 #[v0, v1, .slice A2 n2 c2, .int .i64 a3, .int .i64 a4] w fun e w' => e = .returned (.bool true) ∧ Ext w w' := by
  obtain ⟨A, q1, c1, a, rfl, ha⟩ := mx_open Try.underlying25 (by kernel_rfl) Try.underlying26 Try.underlying5 (by kernel_rfl) o0 h0
  obtain ⟨B, q2, c2', b, rfl, hb⟩ := mx_open Try.underlying25 (by kernel_rfl) Try.underlying26 Try.underlying5 (by kernel_rfl) o1 h1
  exact tells_any w A B A2 q1 c1 q2 c2' n2 c2 a b _ a3 a4 ha hb w2.ints
end matrixTells
end Go.Proofs.Ytiianhlppkocgaa
