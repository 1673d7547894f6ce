/- The contracts of the law's small, same and fits (chapter 04); the struct Case, opened. -/
import Derived.Test.YtfpcldkfmcnjkaaRef4Split
import Derived.Test.YtfpcldkfmcnjkaaCt9
import Derived.Test.YtfpcldkfmcnjkaaCt10
namespace Go.Proofs.Ytfpcldkfmcnjkaa
open Go.ChangeShapes Go.WideShapes Go.ChangeAt Go.RowKit

theorem IsRow.ints {w : World} {a : Option Addr} {len cap : Nat} {zs : List Int} (h : IsRow .i64 w a len cap zs) : Is w a len cap (zs.take len) := by
  rcases h with ⟨rfl, rfl, rfl, rfl⟩ | ⟨x, rfl, h1, h2, h3, h4, _⟩
  · exact Is.none w
  · have hl : (zs.take len).length = len := by rw [List.length_take]; omega
    refine ⟨hl, h1, by unfold maxLen at h2; omega, by rw [icells_length, hl]; omega, fun hn => ?_⟩
    have h0 := h4 0 (by omega)
    have hsp := cells_spot h0
    refine ⟨x.block, x.off, by rw [← hsp], fun j u hu => ?_⟩
    have hj : j < len := by
      have := (List.getElem?_eq_some_iff.1 hu).1
      rwa [icells_length, hl] at this
    have hc := h4 j (by omega)
    rw [hsp, addr_add] at hc
    rw [hc, ← hu, icells_get (by rw [hl]; exact hj), Il.get_take hj]
    rfl
/-- At most thirty rows, of at most thirty bytes. -/
def small4 (m : Gm.L) : Prop := m.length ≤ 30 ∧ ∀ i, i < m.length → (Gm.row m i).length ≤ 30
instance (m : Gm.L) : Decidable (small4 m) := by unfold small4; infer_instance
set_option maxRecDepth 100000 in
theorem lawSmall_any (w : World) (A : Option Addr) (n c : Nat) (m : Gm.L) (hm : Mx w A n c m) :
    Calls Try.prog 29 #[.slice A n c] w fun e w' => e = .returned (.bool (decide (small4 m))) ∧ Ext w w' := by
  have hmx := hm.max
  have hml := hm.le
  have LM := Lib.hid hm.len
  by_cases h : n ≤ 30
  · have q0 : ¬ (30 : Int) < n := by omega
    go_enter Try.func29, Try.ntmps29
    go_wp2_with (fail)
    go_loopw [3] (fun s wr => ∃ t : Nat, t ≤ n ∧ s = .int .i64 t ∧ Ext w wr ∧ RowKit.Hid (∀ i, i < t → (Gm.row m i).length ≤ 30)) (fun s _ => n - (intOf s).toNat)
    case atStart => exact ⟨0, by omega, rfl, Ext.refl w, Lib.hid fun i hi => absurd hi (Nat.not_lt_zero _)⟩
    case round =>
      obtain ⟨t, ht, rfl, hx, H⟩ := hrel
      by_cases hlt : t < n
      · have i1 : (t : Int) < n := by omega
        obtain ⟨bm, om, Ai, ni, ci, rfl, hce, hbi⟩ := (hm.ext hx).at_ hlt
        have hni := Lib.hid hbi.len
        have hmi := hbi.max
        have hli := hbi.le
        clear hbi
        by_cases hs : ni ≤ 30
        · have i2 : ¬ (30 : Int) < ni := by omega
          go_wp2_with (fail)
          refine ⟨⟨t + 1, by omega, by go_num, hx, Lib.hid fun i hi => ?_⟩, by simp [intOf]; omega⟩
          by_cases e : i = t
          · rw [e, hni.out]; exact hs
          · exact H.out i (by omega)
        · have i2 : (30 : Int) < ni := by omega
          go_wp2_with (fail)
          go_ret
          exact ⟨ret_bool (decide_eq_false (fun q => hs (by rw [← hni.out]; exact q.2 t (by rw [LM.out]; exact hlt)))).symm, hx⟩
      · have i1 : ¬ (t : Int) < n := by omega
        have htn : t = n := by omega
        rw [htn] at H
        go_wp2_with (fail)
        go_ret
        exact ⟨ret_bool (decide_eq_true ⟨by rw [LM.out]; exact h, fun i hi => H.out i (by rw [← LM.out]; exact hi)⟩).symm, hx⟩
  · have q0 : (30 : Int) < n := by omega
    go_enter Try.func29, Try.ntmps29
    go_wp2_with (fail)
    go_ret
    exact ⟨ret_bool (decide_eq_false (fun q => h (by rw [← LM.out]; exact q.1))).symm, Ext.refl w⟩
set_option maxRecDepth 100000 in
set_option maxHeartbeats 2000000 in
/-- Of one list of stripes, told twice. -/
theorem lawSame_any (w : World) (A B : Option Addr) (n c d : Nat) (ss : List Gm.L) (ha : Mxs w A n c ss) (hb : Mxs w B n d ss) :
    Calls Try.prog 39 #[.slice A n c, .slice B n d] w fun e w' => e = .returned (.bool true) ∧ Ext w w' := by
  have q1 := ha.max
  have q2 := ha.le
  have q3 := hb.max
  have q4 := hb.le
  have e1 : ((n : Int) != (n : Int)) = false := by simp
  go_enter Try.func39, Try.ntmps39
  go_wp2_with (fail)
  go_loopw [5] (fun s wr => ∃ t : Nat, t ≤ n ∧ s = .int .i64 t ∧ Ext w wr) (fun s _ => n - (intOf s).toNat)
  case atStart => exact ⟨0, by omega, rfl, Ext.refl w⟩
  case round =>
    obtain ⟨t, ht, rfl, hx⟩ := hrel
    by_cases hlt : t < n
    · have i1 : (t : Int) < n := by omega
      obtain ⟨b1, o1, A1, n1, c1, rfl, hc1, hm1⟩ := (ha.ext hx).at_ t hlt
      obtain ⟨b2, o2, A2, n2, c2, rfl, hc2, hm2⟩ := (hb.ext hx).at_ t hlt
      have hS := sameLists_any wr.drew A1 A2 n1 c1 n2 c2 _ _ (hm1.ext (Ext.drew _)) (hm2.ext (Ext.drew _))
      rw [decide_eq_true rfl] at hS
      have HS := Lib.hid hS
      have HSS := Lib.hid (fun (W : World) (hW : Ext wr W) => (⟨hW.cell hc1, hW.cell hc2⟩ : W.cell? ⟨b1, o1 + t, none⟩ = some (.slice A1 n1 c1) ∧ W.cell? ⟨b2, o2 + t, none⟩ = some (.slice A2 n2 c2)))
      clear hS hm1 hm2
      go_wp2_with (fail)
      go_region_held3 (fun W => W.cell? ⟨b1, o1 + t, none⟩ = some (.slice A1 n1 c1) ∧ W.cell? ⟨b2, o2 + t, none⟩ = some (.slice A2 n2 c2))
        (first | exact HSS.out _ (Ext.drew _) | exact HSS.out _ z1)
        (first | (((with_reducible refine HS.out.mono ?_); (rintro e w1 ⟨rfl, x1⟩; have z1 : Ext wr w1 := (Ext.drew _).trans x1))) | fail)
      all_goals
        go_wp2_with (fail)
        exact ⟨⟨t + 1, by omega, by go_num, hx.trans z1⟩, by simp [intOf]; omega⟩
    · have i1 : ¬ (t : Int) < n := by omega
      obtain rfl : t = n := by omega
      go_wp2_with (fail)
      go_ret
      exact ⟨rfl, hx⟩
set_option maxRecDepth 100000 in
set_option maxHeartbeats 2000000 in
theorem lawFits_any (w : World) (k n : Nat) (A : Option Addr) (c : Nat) (hA : Mx w A n c (Gm.gen k n)) (h1 : 1 ≤ k) (h2 : k ≤ n) (h3 : n ≤ 255) (As : Option Addr) (m cs : Nat) (s : Gm.L) (hs : Mx w As m cs s) :
    Calls Try.prog 36 #[cval k n A n c, .slice As m cs] w fun e w' => e = .returned (.bool (fitsB k n s)) ∧ Ext w w' := by
  have xA : Ext w (wbox w k n A c) := Ext.alloc _ _
  have hB0 := bd_box w k n A c
  have hE := ref4Even_any (wbox w k n A c) As m cs s n (hs.ext xA)
  have q3 := hs.max
  have q4 := hs.le
  by_cases h : Gm.even s n
  · rw [decide_eq_true h] at hE
    obtain rfl : m = n := by rw [← hs.len]; exact h.1
    have hEN := fun (W : World) (hW : Ext w W) => ref4Encode_any W k m A c (hA.ext hW) h1 h2 h3 As k cs (s.take k) ((hs.ext hW).take h2)
    have e1 : encM k m (s.take k) = Gm.mulL (Gm.gen k m) (s.take k) := by unfold encM; rw [if_pos (even_take h h1 h2)]
    have e2 : encE k (s.take k) = 0 := by unfold encE; rw [if_pos (even_take h h1 h2)]
    rw [e1, e2] at hEN
    have hf : fitsB k m s = decide (Gm.mulL (Gm.gen k m) (s.take k) = s) := by
      unfold fitsB
      rw [Bool.eq_iff_iff, decide_eq_true_eq, decide_eq_true_eq]
      exact ⟨fun q => q.2, fun q => ⟨h, q⟩⟩
    rw [hf]
    have g1 : (k : Int) ≤ m := by omega
    have g2 : (k : Int) ≤ cs := by omega
    have g3 : (0 : Int) ≤ k := by omega
    have hml : (Gm.mulL (Gm.gen k m) (s.take k)).length = m := by rw [Gm.mulL_length, Gm.gen_length h2]
    have HML := Lib.hid hml
    have HE := Lib.hid hE
    have HEN := Lib.hid hEN
    have HS := Lib.hid hs
    have HB := Lib.hid hB0
    have c1 := hB0.c1
    clear hE h hs hEN e1 e2 hf hml hA hB0
    generalize Gm.mulL (Gm.gen k m) (s.take k) = M at *
    go_enter Try.func36, Try.ntmps36
    go_wp2_with (fail)
    refine HE.out.mono ?_
    rintro e w1 ⟨rfl, x1⟩
    have c0 := (HB.out.ext x1).c0
    have c1 := (HB.out.ext x1).c1
    have c2 := (HB.out.ext x1).c2
    have HSS := Lib.hid (fun (W : World) (hW : Ext w1 W) => (⟨hW.cell c0, hW.cell c1, hW.cell c2⟩ : W.cell? ⟨w.heap.size, 0, none⟩ = some (.int .i64 (k : Int)) ∧ W.cell? ⟨w.heap.size, 1, none⟩ = some (.int .i64 (m : Int)) ∧ W.cell? ⟨w.heap.size, 2, none⟩ = some (.slice A m c)))
    go_wp2_with (fail)
    go_region_held3 (fun W => W.cell? ⟨w.heap.size, 0, none⟩ = some (.int .i64 (k : Int)) ∧ W.cell? ⟨w.heap.size, 1, none⟩ = some (.int .i64 (m : Int)) ∧ W.cell? ⟨w.heap.size, 2, none⟩ = some (.slice A m c))
      (first | exact HSS.out _ (Ext.drew _) | exact HSS.out _ z2)
      (first | (((with_reducible refine (HEN.out w1.drew ((xA.trans x1).trans (Ext.drew _))).mono ?_); (intro e w2 hg; obtain ⟨A2, c2', rfl, m2, x2⟩ := gives_mx hg; have z2 : Ext w1 w2 := (Ext.drew _).trans x2; have M2 := Lib.hid m2; clear hg m2))) | fail)
    all_goals
      have m2 := M2.out
      rw [HML.out] at m2
      rw [HML.out]
      have HF := Lib.hid (sameLists_any w2 A2 As m c2' m cs M s m2 (HS.out.ext ((xA.trans x1).trans z2)))
      clear m2
      go_wp2_with (fail)
      refine HF.out.mono ?_
      rintro e w3 ⟨rfl, x3⟩
      go_wp2_with (fail)
      go_ret
      exact ⟨rfl, ((xA.trans x1).trans z2).trans x3⟩
  · rw [decide_eq_false h] at hE
    have hf : fitsB k n s = false := by
      unfold fitsB
      exact decide_eq_false (fun q => h q.1)
    rw [hf]
    have HE := Lib.hid hE
    have c1 := hB0.c1
    clear hE h hs hA hB0 hf
    go_enter Try.func36, Try.ntmps36
    go_wp2_with (fail)
    refine HE.out.mono ?_
    rintro e w1 ⟨rfl, x1⟩
    go_wp2_with (fail)
    go_ret
    exact ⟨rfl, xA.trans x1⟩
set_option maxRecDepth 100000 in
set_option maxHeartbeats 1000000 in
theorem case_open {H : Type} {enc : TypeId × Value → H} {W : World} {r : Reach} {b0 : Nat} {v : Value} {d : DataW H} {p : List MemPlace} (hv : Value.okWide Try.prog W r b0 59 v) (h : DataW.Trod enc Try.prog W 0 (fun _ => true) true 59 v d p) :
    ∃ (a0 a1 a2 a3 a4 : Int) (A : Option Addr) (n c : Nat) (D : Gm.L) (A' : Option Addr) (n' c' : Nat) (S : Gm.L) (B : Option Addr) (q e : Nat) (l : List Int) (F : Option Addr) (g f : Nat) (bs : List UInt8),
      v = .agg #[.int .i64 a0, .int .i64 a1, .int .i64 a2, .int .i64 a3, .int .i64 a4, .slice A n c, .slice A' n' c', .slice B q e, .slice F g f] ∧ Mx W A n c D ∧ Mx W A' n' c' S ∧ Is W B q e l ∧ Bs W F g f bs := by
  obtain ⟨cs, rfl, hsz⟩ := okWide_struct Try.underlying59 hv
  obtain ⟨l⟩ := cs
  match l, hsz.trans (show Try.prog.cellsOf 59 = 9 by kernel_rfl) with
  | [c0, c1, c2, c3, c4, c5, c6, c7, c8], _ =>
    obtain ⟨fuel, hf⟩ := h
    obtain ⟨xs, n, _, hx, _, hlen, hg⟩ := DataW.trod_struct Try.underlying59 hf
    have fld : ∀ (i : Nat) (f : Field) (c : Value), f.offset = i → Try.prog.cellsOf f.type = 1 → ([c0, c1, c2, c3, c4, c5, c6, c7, c8] : List Value)[i]? = some c → DataW.trod enc Try.prog W 0 (fun _ => true) true n f.type ((([c0, c1, c2, c3, c4, c5, c6, c7, c8] : List Value).drop f.offset).take (Try.prog.cellsOf f.type)) = xs[i]? → i < 9 → ∃ y, DataW.trod enc Try.prog W 0 (fun _ => true) true n f.type [c] = some y := by
      intro i f c ho hc hi hy h5
      have hx5 : xs.length = 9 := hlen
      rw [List.getElem?_eq_getElem (by omega), ho, hc] at hy
      have hl : i < ([c0, c1, c2, c3, c4, c5, c6, c7, c8] : List Value).length := h5
      rw [List.drop_eq_getElem_cons hl] at hy
      rw [List.getElem?_eq_getElem hl] at hi
      injection hi with hi
      rw [hi] at hy
      exact ⟨_, hy⟩
    obtain ⟨y0, k0⟩ := fld 0 _ c0 rfl (by kernel_rfl) rfl (hg 0 _ rfl) (by omega)
    obtain ⟨y1, k1⟩ := fld 1 _ c1 rfl (by kernel_rfl) rfl (hg 1 _ rfl) (by omega)
    obtain ⟨y2, k2⟩ := fld 2 _ c2 rfl (by kernel_rfl) rfl (hg 2 _ rfl) (by omega)
    obtain ⟨y3, k3⟩ := fld 3 _ c3 rfl (by kernel_rfl) rfl (hg 3 _ rfl) (by omega)
    obtain ⟨y4, k4⟩ := fld 4 _ c4 rfl (by kernel_rfl) rfl (hg 4 _ rfl) (by omega)
    obtain ⟨y5, k5⟩ := fld 5 _ c5 rfl (by kernel_rfl) rfl (hg 5 _ rfl) (by omega)
    obtain ⟨y6, k6⟩ := fld 6 _ c6 rfl (by kernel_rfl) rfl (hg 6 _ rfl) (by omega)
    obtain ⟨y7, k7⟩ := fld 7 _ c7 rfl (by kernel_rfl) rfl (hg 7 _ rfl) (by omega)
    obtain ⟨y8, k8⟩ := fld 8 _ c8 rfl (by kernel_rfl) rfl (hg 8 _ rfl) (by omega)
    obtain ⟨z0, e0, _, _⟩ := DataW.trod_int Try.underlying3 k0
    obtain ⟨z1, e1, _, _⟩ := DataW.trod_int Try.underlying3 k1
    obtain ⟨z2, e2, _, _⟩ := DataW.trod_int Try.underlying3 k2
    obtain ⟨z3, e3, _, _⟩ := DataW.trod_int Try.underlying3 k3
    obtain ⟨z4, e4, _, _⟩ := DataW.trod_int Try.underlying3 k4
    injection e0 with e0
    injection e1 with e1
    injection e2 with e2
    injection e3 with e3
    injection e4 with e4
    subst e0 e1 e2 e3 e4
    obtain ⟨A, m, c, D, rfl, hD⟩ := mx_of_trod Try.underlying28 (by kernel_rfl) Try.underlying22 Try.underlying5 (by kernel_rfl) k5
    obtain ⟨A', m', c', S, rfl, hS⟩ := mx_of_trod Try.underlying28 (by kernel_rfl) Try.underlying22 Try.underlying5 (by kernel_rfl) k6
    have hs : ∀ {t u : TypeId} {v : Value} {y : DataW H × List MemPlace}, Try.prog.underlying t = some (.slice u) → DataW.trod enc Try.prog W 0 (fun _ => true) true n t [v] = some y → ∃ A n c, v = .slice A n c := by
      intro t u v y ht hk
      rcases Go.Deep.open_slice ht hk with ⟨hcs, _⟩ | ⟨x, l, c, _, _, _, _, hcs, _⟩
      · injection hcs with hcs; exact ⟨_, _, _, hcs⟩
      · injection hcs with hcs; exact ⟨_, _, _, hcs⟩
    obtain ⟨B, q, e, rfl⟩ := hs Try.underlying39 k7
    obtain ⟨F, g, f, rfl⟩ := hs Try.underlying22 k8
    obtain ⟨zs, hz⟩ := IsRow.of_trod (k := .i64) (e := 3) Try.underlying39 Try.underlying3 (by kernel_rfl) (show DataW.Trod enc Try.prog W 0 (fun _ => true) true 39 (.slice B q e) y7.1 y7.2 from ⟨n, by simpa [Value.cells] using k7⟩)
    obtain ⟨zb, hb⟩ := IsRow.of_trod (k := .u8) (e := 5) Try.underlying22 Try.underlying5 (by kernel_rfl) (show DataW.Trod enc Try.prog W 0 (fun _ => true) true 22 (.slice F g f) y8.1 y8.2 from ⟨n, by simpa [Value.cells] using k8⟩)
    obtain ⟨bs, hbs⟩ := hb.bytes
    exact ⟨z0, z1, z2, z3, z4, A, m, c, D, A', m', c', S, B, q, e, _, F, g, f, bs, rfl, hD, hS, hz.ints, hbs⟩
end Go.Proofs.Ytfpcldkfmcnjkaa
