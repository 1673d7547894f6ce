/- Several texts in one: The contract of SameFind. Matrices that are written out. The chapter's examples. -/
import Derived.Test.YtfpglkacjecoeaaGreatCt12
import Derived.Test.YtfpglkacjecoeaaGreatCt22
import Derived.Test.YtfpglkacjecoeaaGreatCt4
import Derived.Lib.SlBytesConst
import Derived.Lib.SmallJoins
import Derived.Test.YtfpglkacjecoeaaGreatCt15
import Derived.Test.YtfpglkacjecoeaaGreatCt21
namespace Go.Proofs.YtfpglkacjecoeaaGreat
open Go.RowKit

/-- Are two finds the same? -/
def sameF (f g : Finds.F) : Bool := f.stripe == g.stripe && (f.version == g.version && (f.need == g.need && (f.phase == g.phase && (decide (f.marks = g.marks) && (decide (f.which = g.which) && decide (f.shards = g.shards))))))
theorem sameF_iff {f g : Finds.F} : sameF f g = true ↔ f = g := by
  obtain ⟨a, b, c, d, e, h, i⟩ := f
  obtain ⟨a', b', c', d', e', h', i'⟩ := g
  simp [sameF]
theorem sameF_refl (f : Finds.F) : sameF f f = true := sameF_iff.2 rfl
set_option maxRecDepth 100000 in
set_option maxHeartbeats 4000000 in
theorem sameFind_any (w : World) (f g : Finds.F) (A : Option Addr) (n c : Nat) (B : Option Addr) (m d : Nat) (C : Option Addr) (k e : Nat) (A' : Option Addr) (n' c' : Nat) (B' : Option Addr) (m' d' : Nat) (C' : Option Addr) (k' e' : Nat) (hf : Fd w f A n c B m d C k e) (hg : Fd w g A' n' c' B' m' d' C' k' e') :
    Calls Tryz.prog 8 #[fval f.stripe f.version f.need f.phase (.slice A n c) (.slice B m d) (.slice C k e), fval g.stripe g.version g.need g.phase (.slice A' n' c') (.slice B' m' d') (.slice C' k' e')] w fun r w' => r = .returned (.bool (sameF f g)) ∧ Ext w w' := by
  obtain ⟨a, b, x, y, l, h, s⟩ := f
  obtain ⟨a', b', x', y', l', h', s'⟩ := g
  have q1 := hf.u.max
  have q2 := hf.u.le
  have q3 := hf.v.max
  have q4 := hf.v.le
  have q5 := hf.s.max
  have q6 := hf.s.le
  have q7 := hg.u.max
  have q8 := hg.u.le
  have q9 := hg.v.max
  have q10 := hg.v.le
  have q11 := hg.s.max
  have q12 := hg.s.le
  obtain ⟨u0, v0, t0⟩ := hf
  obtain ⟨u1, v1, t1⟩ := hg
  simp only at u0 v0 t0 u1 v1 t1
  have x0 : Ext w ((w.alloc (.cells #[.int .i64 a, .int .i64 b, .int .i64 x, .int .i64 y, .slice A n c, .slice B m d, .slice C k e] 25)).alloc (.cells #[.int .i64 a', .int .i64 b', .int .i64 x', .int .i64 y', .slice A' n' c', .slice B' m' d', .slice C' k' e'] 25)) := (Ext.alloc _ _).thenAlloc _
  have H1 := Lib.hid (fun (W : World) (hW : Ext w W) => sameInts_any W A A' n c n' c' l l' (u0.ext hW) (u1.ext hW))
  have H2 := Lib.hid (fun (W : World) (hW : Ext w W) => sameInts_any W B B' m d m' d' h h' (v0.ext hW) (v1.ext hW))
  have H3 := Lib.hid (fun (W : World) (hW : Ext w W) => sameLists_any W C C' k e k' e' s s' (t0.ext hW) (t1.ext hW))
  have SA := Lib.hid ((Fb.new w a b x y (.slice A n c) (.slice B m d) (.slice C k e) rfl).ext (Ext.alloc _ (.cells #[.int .i64 a', .int .i64 b', .int .i64 x', .int .i64 y', .slice A' n' c', .slice B' m' d', .slice C' k' e'] 25)))
  have SB := Lib.hid (Fb.new (w.alloc (.cells #[.int .i64 a, .int .i64 b, .int .i64 x, .int .i64 y, .slice A n c, .slice B m d, .slice C k e] 25)) a' b' x' y' (.slice A' n' c') (.slice B' m' d') (.slice C' k' e') (g := w.heap.size + 1) (by simp))
  have X0 := Lib.hid x0
  clear u0 u1 v0 v1 t0 t1 x0
  unfold sameF
  simp only
  generalize @Decidable.decide (l = l') _ = D1 at *
  generalize @Decidable.decide (h = h') _ = D2 at *
  generalize @Decidable.decide (s = s') _ = D3 at *
  by_cases h0 : a = a'
  · subst h0
    have e0 : (a == a) = true := by simp
    rw [e0, Bool.true_and]
    by_cases h1 : b = b'
    · subst h1
      have e1 : (b == b) = true := by simp
      rw [e1, Bool.true_and]
      by_cases h2 : x = x'
      · subst h2
        have e2 : (x == x) = true := by simp
        rw [e2, Bool.true_and]
        by_cases h3 : y = y'
        · subst h3
          have e3 : (y == y) = true := by simp
          rw [e3, Bool.true_and]
          go_enter Tryz.func8, Tryz.ntmps8
          go_wp2_with (fail)
          refine (H1.out _ X0.out).mono ?_
          rintro r w1 ⟨rfl, x1⟩
          have c4 := (SA.out.ext x1.ext).c4
          have c5 := (SA.out.ext x1.ext).c5
          have c6 := (SA.out.ext x1.ext).c6
          have d4 := (SB.out.ext x1.ext).c4
          have d5 := (SB.out.ext x1.ext).c5
          have d6 := (SB.out.ext x1.ext).c6
          have X1 := Lib.hid x1.ext
          clear x1
          cases D1 with
          | false =>
            go_wp2_with (fail)
            go_ret
            exact ⟨rfl, X0.out.trans X1.out⟩
          | true =>
            go_wp2_with (fail)
            refine (H2.out _ (X0.out.trans X1.out)).mono ?_
            rintro r w2 ⟨rfl, x2⟩
            clear c4 c5 c6 d4 d5 d6
            have c4 := (SA.out.ext (X1.out.trans x2.ext)).c4
            have c5 := (SA.out.ext (X1.out.trans x2.ext)).c5
            have c6 := (SA.out.ext (X1.out.trans x2.ext)).c6
            have d4 := (SB.out.ext (X1.out.trans x2.ext)).c4
            have d5 := (SB.out.ext (X1.out.trans x2.ext)).c5
            have d6 := (SB.out.ext (X1.out.trans x2.ext)).c6
            have X2 := Lib.hid (X1.out.trans x2.ext)
            clear x2
            cases D2 with
            | false =>
              go_wp2_with (fail)
              go_ret
              exact ⟨rfl, X0.out.trans X2.out⟩
            | true =>
              go_wp2_with (fail)
              refine (H3.out _ (X0.out.trans X2.out)).mono ?_
              rintro r w3 ⟨rfl, x3⟩
              have X3 := Lib.hid (X2.out.trans x3)
              clear x3
              go_wp2_with (fail)
              go_ret
              exact ⟨rfl, X0.out.trans X3.out⟩
        · have e3 : (y == y') = false := by rw [beq_eq_false_iff_ne]; exact h3
          rw [e3, Bool.false_and]
          clear h3
          go_enter Tryz.func8, Tryz.ntmps8
          go_wp2_with (fail)
          go_ret
          exact ⟨rfl, X0.out⟩
      · have e2 : (x == x') = false := by rw [beq_eq_false_iff_ne]; exact h2
        rw [e2, Bool.false_and]
        clear h2
        go_enter Tryz.func8, Tryz.ntmps8
        go_wp2_with (fail)
        go_ret
        exact ⟨rfl, X0.out⟩
    · have e1 : (b == b') = false := by rw [beq_eq_false_iff_ne]; exact h1
      rw [e1, Bool.false_and]
      clear h1
      go_enter Tryz.func8, Tryz.ntmps8
      go_wp2_with (fail)
      go_ret
      exact ⟨rfl, X0.out⟩
  · have e0 : (a == a') = false := by rw [beq_eq_false_iff_ne]; exact h0
    rw [e0, Bool.false_and]
    clear h0
    go_enter Tryz.func8, Tryz.ntmps8
    go_wp2_with (fail)
    go_ret
    exact ⟨rfl, X0.out⟩
end Go.Proofs.YtfpglkacjecoeaaGreat
namespace Go.Proofs.YtfpglkacjecoeaaGreat
open Go.RowKit

theorem Mx.lit (w : World) {g : Nat} (hg : w.heap.size = g) (cs : Array Value) (t : TypeId) {n : Nat} {m : Gm.L} (hn : m.length = n) (hr : Rows w cs.toList m) (hl : n ≤ 1000) : Mx (w.alloc (.cells cs t)) (some ⟨g, 0, .none⟩) n n m := by
  subst hg hn
  refine ⟨rfl, Nat.le_refl _, by omega, cs.toList, ?_, hr.ext (Ext.alloc _ _)⟩
  have h := Rd.lit w cs t
  have hs : cs.size = m.length := by have := hr.len; rw [Array.length_toList] at this; exact this
  rw [← hs]
  exact h
theorem rows_one {w : World} {A : Option Addr} {n c : Nat} {r : List UInt8} (h : Bs w A n c r) : Rows w [.slice A n c] [r] := (Rows.nil w).snoc h
theorem rows_two {w : World} {A A' : Option Addr} {n c n' c' : Nat} {r r' : List UInt8} (h : Bs w A n c r) (h' : Bs w A' n' c' r') : Rows w [.slice A n c, .slice A' n' c'] [r, r'] := ((Rows.nil w).snoc h).snoc h'
theorem bs_lit (w : World) {g : Nat} (hg : w.heap.size = g) (l : List UInt8) (cs : Array Value) (t : TypeId) {n : Nat} (hn : l.length = n) (h : cs.toList = bcells l) (hl : n ≤ 1000) : Bs (w.alloc (.cells cs t)) (some ⟨g, 0, .none⟩) n n l := by
  subst hn hg
  have hs : cs.size = l.length := by rw [← Array.length_toList, h]; simp [bcells]
  refine ⟨rfl, Nat.le_refl _, by omega, ?_⟩
  have h2 := Rd.lit w cs t
  rw [hs, h] at h2
  exact h2
theorem mx_one (W : World) (r : List UInt8) (cs : Array Value) (t tt : TypeId) {k : Nat} (hk : r.length = k) (hc : cs.toList = bcells r) (hl : k ≤ 1000) :
    Mx ((W.alloc (.cells cs t)).alloc (.cells #[.slice (some ⟨W.heap.size, 0, .none⟩) k k] tt)) (some ⟨W.heap.size + 1, 0, .none⟩) 1 1 [r] :=
  Mx.lit _ (by simp) _ _ rfl (rows_one (bs_lit W rfl r cs t hk hc hl)) (by omega)
theorem mx_two (W : World) (r r' : List UInt8) (cs cs' : Array Value) (t t' tt : TypeId) {k k' : Nat} (hk : r.length = k) (hc : cs.toList = bcells r) (hl : k ≤ 1000) (hk' : r'.length = k') (hc' : cs'.toList = bcells r') (hl' : k' ≤ 1000) :
    Mx (((W.alloc (.cells cs t)).alloc (.cells cs' t')).alloc (.cells #[.slice (some ⟨W.heap.size, 0, .none⟩) k k, .slice (some ⟨W.heap.size + 1, 0, .none⟩) k' k'] tt)) (some ⟨W.heap.size + 1 + 1, 0, .none⟩) 2 2 [r, r'] :=
  Mx.lit _ (by simp) _ _ rfl (rows_two ((bs_lit W rfl r cs t hk hc hl).ext (Ext.alloc _ _)) (bs_lit _ (by simp) r' cs' t' hk' hc' hl')) (by omega)
theorem mx_two_at (W : World) {g : Nat} (hg : W.heap.size = g) (r r' : List UInt8) (cs cs' : Array Value) (t t' tt : TypeId) {k k' : Nat} (hk : r.length = k) (hc : cs.toList = bcells r) (hl : k ≤ 1000) (hk' : r'.length = k') (hc' : cs'.toList = bcells r') (hl' : k' ≤ 1000) :
    Mx (((W.alloc (.cells cs t)).alloc (.cells cs' t')).alloc (.cells #[.slice (some ⟨g, 0, .none⟩) k k, .slice (some ⟨g + 1, 0, .none⟩) k' k'] tt)) (some ⟨g + 1 + 1, 0, .none⟩) 2 2 [r, r'] := by
  subst hg
  exact mx_two W r r' cs cs' t t' tt hk hc hl hk' hc' hl'
theorem mx_one_at (W : World) {g : Nat} (hg : W.heap.size = g) (r : List UInt8) (cs : Array Value) (t tt : TypeId) {k : Nat} (hk : r.length = k) (hc : cs.toList = bcells r) (hl : k ≤ 1000) :
    Mx ((W.alloc (.cells cs t)).alloc (.cells #[.slice (some ⟨g, 0, .none⟩) k k] tt)) (some ⟨g + 1, 0, .none⟩) 1 1 [r] := by
  subst hg
  exact mx_one W r cs t tt hk hc hl
theorem rows_three {w : World} {A A' A'' : Option Addr} {n c n' c' n'' c'' : Nat} {r r' r'' : List UInt8} (h : Bs w A n c r) (h' : Bs w A' n' c' r') (h'' : Bs w A'' n'' c'' r'') : Rows w [.slice A n c, .slice A' n' c', .slice A'' n'' c''] [r, r', r''] := (((Rows.nil w).snoc h).snoc h').snoc h''
theorem mx_three_at (W : World) {g : Nat} (hg : W.heap.size = g) (r r' r'' : List UInt8) (cs cs' cs'' : Array Value) (t t' t'' tt : TypeId) {k k' k'' : Nat} (hk : r.length = k) (hc : cs.toList = bcells r) (hl : k ≤ 1000) (hk' : r'.length = k') (hc' : cs'.toList = bcells r') (hl' : k' ≤ 1000) (hk'' : r''.length = k'') (hc'' : cs''.toList = bcells r'') (hl'' : k'' ≤ 1000) :
    Mx ((((W.alloc (.cells cs t)).alloc (.cells cs' t')).alloc (.cells cs'' t'')).alloc (.cells #[.slice (some ⟨g, 0, .none⟩) k k, .slice (some ⟨g + 1, 0, .none⟩) k' k', .slice (some ⟨g + 1 + 1, 0, .none⟩) k'' k''] tt)) (some ⟨g + 1 + 1 + 1, 0, .none⟩) 3 3 [r, r', r''] := by
  subst hg
  exact Mx.lit _ (by simp) _ _ rfl (rows_three (((bs_lit W rfl r cs t hk hc hl).ext (Ext.alloc _ _)).ext (Ext.alloc _ _)) ((bs_lit _ (by simp) r' cs' t' hk' hc' hl').ext (Ext.alloc _ _)) (bs_lit _ (by simp) r'' cs'' t'' hk'' hc'' hl'')) (by omega)
/-- '[]byte("..")': the row is marked. -/
theorem bs_mark (w : World) {g : Nat} (hg : w.heap.size = g) (l : List UInt8) (cs : Array Value) (t : TypeId) (fr : Nat × Nat) {n : Nat} (hn : l.length = n) (h : cs.toList = bcells l) (hl : n ≤ 1000) : Bs (w.alloc (.cells cs t fr)) (some ⟨g, 0, .none⟩) n n l := by
  subst hn hg
  refine ⟨rfl, Nat.le_refl _, by omega, by rw [bcells_length]; omega, fun _ => ⟨w.heap.size, 0, rfl, fun j u hu => ?_⟩⟩
  rw [Nat.zero_add, World.cell?_alloc_mark, ← Array.getElem?_toList, h]
  exact hu
theorem mx_two_mark (W : World) {g : Nat} (hg : W.heap.size = g) (r r' : List UInt8) (cs cs' : Array Value) (t t' tt : TypeId) (fr fr' : Nat × Nat) {k k' : Nat} (hk : r.length = k) (hc : cs.toList = bcells r) (hl : k ≤ 1000) (hk' : r'.length = k') (hc' : cs'.toList = bcells r') (hl' : k' ≤ 1000) :
    Mx (((W.alloc (.cells cs t fr)).alloc (.cells cs' t' fr')).alloc (.cells #[.slice (some ⟨g, 0, .none⟩) k k, .slice (some ⟨g + 1, 0, .none⟩) k' k'] tt)) (some ⟨g + 1 + 1, 0, .none⟩) 2 2 [r, r'] := by
  subst hg
  exact Mx.lit _ (by simp) _ _ rfl (rows_two ((bs_mark W rfl r cs t fr hk hc hl).ext (Ext.alloc _ _)) (bs_mark _ (by simp) r' cs' t' fr' hk' hc' hl')) (by omega)
end Go.Proofs.YtfpglkacjecoeaaGreat
namespace Go.Proofs.YtfpglkacjecoeaaGreat
open Go.RowKit

/-- A variable that holds a find, and is not written again. -/
def Fv (w : World) (g : Nat) (f : Finds.F) : Prop := ∃ A n c B m d C k e, Fb w g f.stripe f.version f.need f.phase (.slice A n c) (.slice B m d) (.slice C k e) ∧ Fd w f A n c B m d C k e
theorem Fv.ext {w w' : World} {g : Nat} {f : Finds.F} (h : Fv w g f) (hx : Ext w w') : Fv w' g f := by
  obtain ⟨A, n, c, B, m, d, C, k, e, h1, h2⟩ := h
  exact ⟨A, n, c, B, m, d, C, k, e, h1.ext hx, h2.ext hx⟩
theorem Fv.new {w : World} {f : Finds.F} {A : Option Addr} {n c : Nat} {B : Option Addr} {m d : Nat} {C : Option Addr} {k e g : Nat} (h : Fd w f A n c B m d C k e) (hg : w.heap.size = g) : Fv (w.alloc (.cells #[.int .i64 f.stripe, .int .i64 f.version, .int .i64 f.need, .int .i64 f.phase, .slice A n c, .slice B m d, .slice C k e] 25)) g f :=
  ⟨A, n, c, B, m, d, C, k, e, Fb.new w _ _ _ _ _ _ _ hg, h.ext (Ext.alloc _ _)⟩
theorem os_cells (w : World) (g : Nat) (cs : Array Value) (fr : Nat × Nat) (hb : w.heap[g]? = some (.cells cs 48 fr)) (n : Nat) (o : Nat → Op13) (hn : n ≤ 1000)
    (h : ∀ k, k < n → cs[k * 4]? = some (.bool (o k).lost) ∧ cs[k * 4 + 1]? = some (.int .i64 (o k).index) ∧ cs[k * 4 + 2]? = some (.int .i64 (o k).e) ∧ cs[k * 4 + 3]? = some (.slice (o k).A (o k).m (o k).c) ∧ Bs w (o k).A (o k).m (o k).c (o k).b) : Os13 w (some ⟨g, 0, none⟩) n n o := by
  refine ⟨Nat.le_refl _, by omega, fun k hk => ?_⟩
  obtain ⟨h0, h1, h2, h3, h4⟩ := h k hk
  exact ⟨g, 0, rfl, by rw [Nat.zero_add, cell_of_row w _ _ _ _ _ hb]; exact h0, by rw [Nat.zero_add, cell_of_row w _ _ _ _ _ hb]; exact h1, by rw [Nat.zero_add, cell_of_row w _ _ _ _ _ hb]; exact h2, by rw [Nat.zero_add, cell_of_row w _ _ _ _ _ hb]; exact h3, h4⟩
theorem bs_none (w : World) : Bs w none 0 0 [] := ⟨rfl, Nat.le_refl _, by omega, Rd.nil _ _ _⟩
def f0A : Finds.F := ⟨7, 1, 2, 1, [0, 0, 0], [], []⟩
def f1A : Finds.F := ⟨7, 1, 2, 1, [0, 2, 1], [2], [[122]]⟩
def f2A : Finds.F := ⟨7, 1, 2, 2, [1, 2, 1], [2, 0], [[122], [1]]⟩
def f3A : Finds.F := ⟨7, 1, 2, 3, [2, 2, 1], [2], [[122]]⟩
theorem aw_begin : Finds.beginF 7 1 3 2 = f0A ∧ Finds.beginE 7 1 3 2 = 0 ∧ Finds.right f0A := by
  have h := Finds.begun_right (s := 7) (v := 1) (n := 3) (need := 2) (by decide)
  have e : Finds.beginF 7 1 3 2 = f0A := sameF_iff.1 (by decide +kernel)
  rw [e] at h
  exact ⟨e, by decide +kernel, h⟩
theorem told_case {f f' : Finds.F} {i : Int} {e : Int} {b : List UInt8} (hr : Finds.right f) (h0 : 0 ≤ i) (h1 : i < f.marks.length) (hp : f.phase = 1) (hm : Il.get f.marks i.toNat = 0) (h : sameF (Finds.phased (Finds.told0 f i.toNat e b)) f' = true) : Finds.toldF f i e b = f' ∧ Finds.right f' := by
  have h2 := Finds.told_opened hr h0 h1 hp hm e b
  have h3 := Finds.right_told hr i e b
  rw [sameF_iff.1 h] at h2
  rw [h2] at h3
  exact ⟨h2, h3⟩
theorem aw_told : Finds.toldF (Finds.toldF f0A 1 60 []) 2 0 [122] = f1A ∧ Finds.right f1A := by
  have h1 := told_case (f := f0A) (f' := ⟨7, 1, 2, 1, [0, 2, 0], [], []⟩) (i := 1) (e := 60) (b := []) aw_begin.2.2 (by decide) (by decide) rfl rfl (by decide +kernel)
  have h2 := told_case (f := ⟨7, 1, 2, 1, [0, 2, 0], [], []⟩) (f' := f1A) (i := 2) (e := 0) (b := [122]) h1.2 (by decide) (by decide) rfl rfl (by decide +kernel)
  rw [h1.1]
  exact h2
theorem aw_two : Finds.toldF f1A 0 0 [1] = f2A ∧ Finds.right f2A := told_case aw_told.2 (by decide) (by decide) rfl rfl (by decide +kernel)
theorem aw_three : Finds.toldF f1A 0 12 [] = f3A ∧ Finds.right f3A := told_case aw_told.2 (by decide) (by decide) rfl rfl (by decide +kernel)
theorem aw_rest : wants4 (Finds.wantsL f0A) = [(0, 4), (1, 4), (2, 4)] ∧ Finds.lacksL f1A = [1] ∧ dataE f2A 2 3 (decE 2 3 f2A.which f2A.shards) = 0 ∧ dataM f2A 2 3 (decM 2 3 f2A.which f2A.shards) = [[1], [1]] := by
  have hd : mayData f2A 2 3 := ⟨aw_two.2, rfl, rfl, rfl⟩
  refine ⟨?_, ?_, ?_, ?_⟩
  · rw [show Finds.wantsL f0A = Finds.ofL f0A.marks 0 from if_pos ⟨aw_begin.2.2, rfl⟩]
    decide +kernel
  · rw [show Finds.lacksL f1A = Finds.ofL f1A.marks 2 from if_pos aw_told.2]
    decide +kernel
  · unfold dataE
    rw [if_neg (fun q => q aw_two.2), if_neg (by decide), if_neg (by decide)]
    decide +kernel
  · rw [show dataM f2A 2 3 (decM 2 3 f2A.which f2A.shards) = decM 2 3 f2A.which f2A.shards from if_pos hd]
    decide +kernel
theorem begin_aw (W : World) : Calls Tryz.prog 6 #[.int .i64 7, .int .i64 1, .int .i64 3, .int .i64 2] W fun e w' => ∃ A n c B m d C k e9, e = .returned (.tuple #[fval 7 1 2 1 (.slice A n c) (.slice B m d) (.slice C k e9), .int .i64 0]) ∧ Fd w' f0A A n c B m d C k e9 ∧ Ext W w' := by
  have h := fBegin_any W 7 1 3 2
  rw [aw_begin.1, aw_begin.2.1] at h
  refine h.mono ?_
  rintro e w' ⟨U, V, S, rfl, ⟨A, n, c, B, m, d, C, k, e9, rfl, rfl, rfl, hd⟩, hx, _⟩
  exact ⟨A, n, c, B, m, d, C, k, e9, rfl, hd, hx⟩
def aw3 : List (Int × Int) := [(0, 4), (1, 4), (2, 4)]
theorem wants_aw (W : World) (A : Option Addr) (n c : Nat) (B : Option Addr) (m d : Nat) (C : Option Addr) (k e : Nat) (h : Fd W f0A A n c B m d C k e) : Calls Tryz.prog 21 #[fval f0A.stripe f0A.version f0A.need f0A.phase (.slice A n c) (.slice B m d) (.slice C k e)] W (GivesW aw3 W) := by
  have h0 := fWants_any W f0A A n c B m d C k e h (by have := h.u.len; have : f0A.marks.length = 3 := rfl; omega) (by have := h.v.len; have : f0A.which.length = 0 := rfl; omega)
  rw [aw_rest.1] at h0
  exact h0
theorem same_aw (W : World) (A : Option Addr) (n c : Nat) (h : Ws W A n c aw3) : Calls Tryz.prog 20 #[.slice A n c, .slice (some ⟨W.heap.size, 0, none⟩) 3 3] (W.alloc (.cells #[.int .i64 0, .int .u8 4, .int .i64 1, .int .u8 4, .int .i64 2, .int .u8 4] 63)) fun e w' => e = .returned (.bool true) ∧ Ext W w' := by
  have hl : Ws (W.alloc (.cells #[.int .i64 0, .int .u8 4, .int .i64 1, .int .u8 4, .int .i64 2, .int .u8 4] 63)) (some ⟨W.heap.size, 0, none⟩) 3 3 aw3 := ⟨rfl, Nat.le_refl _, by omega, rfl, fun _ => ⟨W.heap.size, 0, rfl, fun j u hu => by rw [Nat.zero_add, World.cell?_alloc_new]; simpa [wcells, aw3] using hu⟩⟩
  refine (sameWants_any _ A _ n c 3 3 aw3 aw3 (h.ext (Ext.alloc _ _)) hl).mono ?_
  rintro e w' ⟨rfl, hd⟩
  exact ⟨by simp, (Ext.alloc _ _).trans hd.ext⟩
theorem op_two (W : World) : Os13 ((W.alloc (.cells #[.int .u8 122] 5)).alloc (.cells #[.bool false, .int .i64 1, .int .i64 60, .slice none 0 0, .bool false, .int .i64 2, .int .i64 0, .slice (some ⟨W.heap.size, 0, none⟩) 1 1] 48)) (some ⟨W.heap.size + 1, 0, none⟩) 2 2 (fun k => if k = 0 then ⟨false, 1, 60, none, 0, 0, []⟩ else ⟨false, 2, 0, some ⟨W.heap.size, 0, none⟩, 1, 1, [122]⟩) := by
  have hb : Bs ((W.alloc (.cells #[.int .u8 122] 5)).alloc (.cells #[.bool false, .int .i64 1, .int .i64 60, .slice none 0 0, .bool false, .int .i64 2, .int .i64 0, .slice (some ⟨W.heap.size, 0, none⟩) 1 1] 48)) (some ⟨W.heap.size, 0, none⟩) 1 1 [122] := (bs_lit W rfl [122] #[.int .u8 122] 5 (n := 1) rfl rfl (by omega)).ext (Ext.alloc _ _)
  refine os_cells _ (W.heap.size + 1) _ (0, 0) (by have := heap_alloc_new (W.alloc (.cells #[.int .u8 122] 5)) (.cells #[.bool false, .int .i64 1, .int .i64 60, .slice none 0 0, .bool false, .int .i64 2, .int .i64 0, .slice (some ⟨W.heap.size, 0, none⟩) 1 1] 48); simpa using this) 2 _ (by omega) (fun k hk => ?_)
  match k, hk with
  | 0, _ => exact ⟨rfl, rfl, rfl, rfl, bs_none _⟩
  | 1, _ => exact ⟨rfl, rfl, rfl, rfl, hb⟩
theorem op_one (W : World) : Os13 ((W.alloc (.cells #[.int .u8 1] 5)).alloc (.cells #[.bool false, .int .i64 0, .int .i64 0, .slice (some ⟨W.heap.size, 0, none⟩) 1 1] 48)) (some ⟨W.heap.size + 1, 0, none⟩) 1 1 (fun _ => ⟨false, 0, 0, some ⟨W.heap.size, 0, none⟩, 1, 1, [1]⟩) := by
  have hb : Bs ((W.alloc (.cells #[.int .u8 1] 5)).alloc (.cells #[.bool false, .int .i64 0, .int .i64 0, .slice (some ⟨W.heap.size, 0, none⟩) 1 1] 48)) (some ⟨W.heap.size, 0, none⟩) 1 1 [1] := (bs_lit W rfl [1] #[.int .u8 1] 5 (n := 1) rfl rfl (by omega)).ext (Ext.alloc _ _)
  refine os_cells _ (W.heap.size + 1) _ (0, 0) (by have := heap_alloc_new (W.alloc (.cells #[.int .u8 1] 5)) (.cells #[.bool false, .int .i64 0, .int .i64 0, .slice (some ⟨W.heap.size, 0, none⟩) 1 1] 48); simpa using this) 1 _ (by omega) (fun k hk => ?_)
  match k, hk with
  | 0, _ => exact ⟨rfl, rfl, rfl, rfl, hb⟩
theorem op_err (W : World) : Os13 (W.alloc (.cells #[.bool false, .int .i64 0, .int .i64 12, .slice none 0 0] 48)) (some ⟨W.heap.size, 0, none⟩) 1 1 (fun _ => ⟨false, 0, 12, none, 0, 0, []⟩) := by
  refine os_cells _ W.heap.size _ (0, 0) (heap_alloc_new W _) 1 _ (by omega) (fun k hk => ?_)
  match k, hk with
  | 0, _ => exact ⟨rfl, rfl, rfl, rfl, bs_none _⟩
/-- told, where the find behind it is known. -/
theorem told_at (w : World) (f f' : Finds.F) (A : Option Addr) (n c : Nat) (B : Option Addr) (m d : Nat) (C : Option Addr) (k e : Nat) (h : Fd w f A n c B m d C k e) (hr : Finds.right f) (D : Option Addr) (q c9 : Nat) (o : Nat → Op13) (W : World) (hx : Ext w W) (ho : Os13 W D q c9 o) (hin : ∀ i, i < q → 0 ≤ (o i).index ∧ (o i).index < f.marks.length) (ht : tolds f o q = f') :
    Calls Tryz.prog 29 #[fval f.stripe f.version f.need f.phase (.slice A n c) (.slice B m d) (.slice C k e), .slice D q c9] W fun e w' => GivesT13 f' W e w' := by
  have h0 := told13_any W f A n c B m d C k e (h.ext hx) hr D q c9 o ho hin
  rw [ht] at h0
  exact h0
set_option maxRecDepth 100000 in
set_option maxHeartbeats 4000000 in
theorem awake_any13 (w : World) : Calls Tryz.prog 5 #[] w fun e w' => e = .returned (.bool true) ∧ Ext w w' := by
  go_enter Tryz.func5, Tryz.ntmps5
  try dsimp only [List.append]
  go_upto_region 1 with (fail)
  go_cut [1, 2] (fun s1 s2 wx => ∃ wv : World, wv = wx ∧ ∃ g, s1 = .pointer (some ⟨g, 0, none⟩) ∧ s2 = .int .i64 0 ∧ RowKit.Hid (Fv wx g f0A) ∧ RowKit.Hid (Ext w wx))
  case first =>
    go_wp2_with (fail)
    with_reducible refine (begin_aw _).mono ?_
    rintro e w1 ⟨A, n, c, B, m, d, C, k, e9, rfl, hd, x1⟩
    have q1 := hd.u.max
    have q2 := hd.u.le
    have q3 := hd.v.max
    have q4 := hd.v.le
    have q5 := hd.s.max
    have q6 := hd.s.le
    have HD := Lib.hid hd
    have X1 := Lib.hid x1
    clear hd x1
    go_wp2_with (fail)
    go_meet
    exact ⟨_, rfl, _, rfl, rfl, Lib.hid (Fv.new HD.out rfl), Lib.hid (X1.out.thenAlloc _)⟩
  case rest =>
  obtain ⟨w1, rfl, g0, rfl, rfl, F0, X1⟩ := hcut
  go_upto_region 2 with (fail)
  go_cut [3, 4] (fun s1 s2 wx => ∃ wv : World, wv = wx ∧ ∃ b fb, s1 = cptr b ∧ s2 = .int .i64 0 ∧ RowKit.Hid (Cd wx b fb 2 3) ∧ RowKit.Hid (Ext w1 wx))
  case first =>
    go_wp2_with (fail)
    refine (new_any _).mono ?_
    rintro e w2 ⟨rfl, hf, y1⟩
    generalize hb : w1.heap.size = fb at *
    have Hb := Lib.hid hb
    clear hb
    go_wp2_with (fail)
    refine (codeNew_ok fb _ 2 3 hf (by omega) (by omega) (by omega)).mono ?_
    rintro e w3 ⟨b1, rfl, hC, y2⟩
    have HC := Lib.hid hC
    have Y := Lib.hid (y1.trans y2)
    clear hC y1 y2 hf
    go_wp2_with (fail)
    go_meet
    exact ⟨_, rfl, _, _, rfl, rfl, HC, Y⟩
  case rest =>
  obtain ⟨w2, rfl, b, fb, rfl, rfl, HC, X2⟩ := hcut
  have F0b := Lib.hid (F0.out.ext X2.out)
  clear F0
  have BX := Lib.hid aw_told
  have HWa := Lib.hid wants_aw
  have HT1 := Lib.hid (fun (A : Option Addr) (n c : Nat) (B : Option Addr) (m d : Nat) (C : Option Addr) (k e : Nat) (w : World) (h : Fd w f0A A n c B m d C k e) => told_at w f0A f1A A n c B m d C k e h aw_begin.2.2 _ 2 2 _ _ ((Ext.alloc _ _).thenAlloc _) (op_two w) (fun i hi => by match i, hi with | 0, _ => exact ⟨show (0 : Int) ≤ 1 by decide, show (1 : Int) < 3 by decide⟩ | 1, _ => exact ⟨show (0 : Int) ≤ 2 by decide, show (2 : Int) < 3 by decide⟩) aw_told.1)
  have HT2 := Lib.hid (fun (A : Option Addr) (n c : Nat) (B : Option Addr) (m d : Nat) (C : Option Addr) (k e : Nat) (w : World) (h : Fd w f1A A n c B m d C k e) => told_at w f1A f2A A n c B m d C k e h aw_told.2 _ 1 1 _ _ ((Ext.alloc _ _).thenAlloc _) (op_one w) (fun _ _ => ⟨show (0 : Int) ≤ 0 by decide, show (0 : Int) < 3 by decide⟩) aw_two.1)
  have HT3 := Lib.hid (fun (A : Option Addr) (n c : Nat) (B : Option Addr) (m d : Nat) (C : Option Addr) (k e : Nat) (w : World) (h : Fd w f1A A n c B m d C k e) => told_at w f1A f3A A n c B m d C k e h aw_told.2 _ 1 1 _ _ (Ext.alloc _ _) (op_err w) (fun _ _ => ⟨show (0 : Int) ≤ 0 by decide, show (0 : Int) < 3 by decide⟩) aw_three.1)
  obtain ⟨A0, n0, c0, B0, m0, d0, C0, k0, e0, sb0, fd0⟩ := F0b.out
  have h0 := sb0.c0
  have h1 := sb0.c1
  have h2 := sb0.c2
  have h3 := sb0.c3
  have h4 := sb0.c4
  have h5 := sb0.c5
  have h6 := sb0.c6
  have p1 := fd0.u.max
  have p2 := fd0.u.le
  have p3 := fd0.v.max
  have p4 := fd0.v.le
  have p5 := fd0.s.max
  have p6 := fd0.s.le
  have HW := Lib.hid (HWa.out w2 _ _ _ _ _ _ _ _ _ fd0)
  clear sb0 fd0
  go_wp2_with (fail)
  with_reducible refine HW.out.mono ?_
  rintro e w3 ⟨A3, n3, c3, rfl, hw3, x3⟩
  have HS := Lib.hid (same_aw w3 A3 n3 c3 hw3)
  have q1 := hw3.max
  have q2 := hw3.le
  have X3 := Lib.hid x3
  clear hw3 x3 h0 h1 h2 h3 h4 h5 h6
  go_upto_region 5 with (with_reducible refine HS.out.mono ?_; rintro e w4 ⟨rfl, x4⟩)
  have X4 := Lib.hid (X3.out.trans x4)
  have F04 := Lib.hid (F0b.out.ext X4.out)
  have HC4 := Lib.hid (HC.out.ext X4.out)
  clear x4
  go_upto_region 5 with (fail)
  go_cut [5, 6] (fun s1 s2 wx => ∃ wv : World, wv = wx ∧ ∃ g, s1 = .pointer (some ⟨g, 0, none⟩) ∧ s2 = .bool true ∧ RowKit.Hid (Fv wx g f1A) ∧ RowKit.Hid (Ext w4 wx))
  case first =>
    obtain ⟨A0, n0, c0, B0, m0, d0, C0, k0, e0, sb0, fd0⟩ := F04.out
    have h0 := sb0.c0
    have h1 := sb0.c1
    have h2 := sb0.c2
    have h3 := sb0.c3
    have h4 := sb0.c4
    have h5 := sb0.c5
    have h6 := sb0.c6
    have p1 := fd0.u.max
    have p2 := fd0.u.le
    have p3 := fd0.v.max
    have p4 := fd0.v.le
    have p5 := fd0.s.max
    have p6 := fd0.s.le
    have HTT := Lib.hid (HT1.out _ _ _ _ _ _ _ _ _ _ fd0)
    clear sb0 fd0
    go_wp2_with (fail)
    with_reducible refine HTT.out.mono ?_
    rintro e w9 ⟨A, n, c, B, m, d, C, k, e9, rfl, hd, x1⟩
    have q1 := hd.u.max
    have q2 := hd.u.le
    have q3 := hd.v.max
    have q4 := hd.v.le
    have q5 := hd.s.max
    have q6 := hd.s.le
    have HD := Lib.hid hd
    have X9 := Lib.hid x1
    clear hd x1 h0 h1 h2 h3 h4 h5 h6
    go_wp2_with (fail)
    go_meet
    exact ⟨_, rfl, _, rfl, rfl, Lib.hid (Fv.new HD.out rfl), Lib.hid (((by first | exact (Ext.alloc _ _).thenAlloc _ | exact Ext.alloc _ _ : Ext w4 _).trans X9.out).thenAlloc _)⟩
  case rest =>
  obtain ⟨w5, rfl, ga, rfl, rfl, F1, Xw5⟩ := hcut
  have HC5 := Lib.hid (HC4.out.ext Xw5.out)
  go_upto_region 6 with (fail)
  go_cut [7, 8] (fun s1 s2 wx => ∃ wv : World, wv = wx ∧ ∃ g, s1 = .pointer (some ⟨g, 0, none⟩) ∧ s2 = .bool true ∧ RowKit.Hid (Fv wx g f2A) ∧ RowKit.Hid (Ext w5 wx))
  case first =>
    obtain ⟨A0, n0, c0, B0, m0, d0, C0, k0, e0, sb0, fd0⟩ := F1.out
    have h0 := sb0.c0
    have h1 := sb0.c1
    have h2 := sb0.c2
    have h3 := sb0.c3
    have h4 := sb0.c4
    have h5 := sb0.c5
    have h6 := sb0.c6
    have p1 := fd0.u.max
    have p2 := fd0.u.le
    have p3 := fd0.v.max
    have p4 := fd0.v.le
    have p5 := fd0.s.max
    have p6 := fd0.s.le
    have HTT := Lib.hid (HT2.out _ _ _ _ _ _ _ _ _ _ fd0)
    clear sb0 fd0
    go_wp2_with (fail)
    with_reducible refine HTT.out.mono ?_
    rintro e w9 ⟨A, n, c, B, m, d, C, k, e9, rfl, hd, x1⟩
    have q1 := hd.u.max
    have q2 := hd.u.le
    have q3 := hd.v.max
    have q4 := hd.v.le
    have q5 := hd.s.max
    have q6 := hd.s.le
    have HD := Lib.hid hd
    have X9 := Lib.hid x1
    clear hd x1 h0 h1 h2 h3 h4 h5 h6
    go_wp2_with (fail)
    go_meet
    exact ⟨_, rfl, _, rfl, rfl, Lib.hid (Fv.new HD.out rfl), Lib.hid (((by first | exact (Ext.alloc _ _).thenAlloc _ | exact Ext.alloc _ _ : Ext w5 _).trans X9.out).thenAlloc _)⟩
  case rest =>
  obtain ⟨w6, rfl, gb, rfl, rfl, F2, Xw6⟩ := hcut
  have HC6 := Lib.hid (HC5.out.ext Xw6.out)
  have F16 := Lib.hid (F1.out.ext Xw6.out)
  go_upto_region 7 with (fail)
  go_cut [9, 10] (fun s1 s2 wx => ∃ wv : World, wv = wx ∧ ∃ A c, s1 = .slice A 2 c ∧ s2 = .int .i64 0 ∧ RowKit.Hid (Mx wx A 2 c [[1], [1]]) ∧ RowKit.Hid (Ext w6 wx))
  case first =>
    obtain ⟨A0, n0, c0, B0, m0, d0, C0, k0, e0, sb0, fd0⟩ := F2.out
    have h0 := sb0.c0
    have h1 := sb0.c1
    have h2 := sb0.c2
    have h3 := sb0.c3
    have h4 := sb0.c4
    have h5 := sb0.c5
    have h6 := sb0.c6
    have p1 := fd0.u.max
    have p2 := fd0.u.le
    have p3 := fd0.v.max
    have p4 := fd0.v.le
    have p5 := fd0.s.max
    have p6 := fd0.s.le
    have hda := fData_any w6 b fb 2 3 HC6.out f2A A0 n0 c0 B0 m0 d0 C0 k0 e0 fd0 (by have := fd0.u.len; have : f2A.marks.length = 3 := rfl; omega) (by have := fd0.v.len; have : f2A.which.length = 2 := rfl; omega)
    rw [show dataE f2A ((2 : Nat) : Int) ((3 : Nat) : Int) (decE 2 3 f2A.which f2A.shards) = 0 from aw_rest.2.2.1, show dataM f2A ((2 : Nat) : Int) ((3 : Nat) : Int) (decM 2 3 f2A.which f2A.shards) = [[1], [1]] from aw_rest.2.2.2] at hda
    have HDA := Lib.hid hda
    clear sb0 fd0 hda
    go_wp2_with (fail)
    with_reducible refine HDA.out.mono ?_
    rintro e w9 ⟨A9, c9, rfl, hm9, x9⟩
    have q1 := hm9.max
    have q2 := hm9.le
    have HM := Lib.hid hm9
    have X9 := Lib.hid x9
    clear hm9 x9
    go_wp2_with (fail)
    go_meet
    exact ⟨_, rfl, A9, c9, rfl, rfl, HM, X9⟩
  case rest =>
  obtain ⟨w7, rfl, A9, c9, rfl, rfl, HM, X7⟩ := hcut
  have F17 := Lib.hid (F16.out.ext X7.out)
  go_upto_region 8 with (fail)
  go_cut [11, 12] (fun s1 s2 wx => ∃ wv : World, wv = wx ∧ ∃ g, s1 = .pointer (some ⟨g, 0, none⟩) ∧ s2 = .bool true ∧ RowKit.Hid (Fv wx g f3A) ∧ RowKit.Hid (Ext w7 wx))
  case first =>
    obtain ⟨A0, n0, c0, B0, m0, d0, C0, k0, e0, sb0, fd0⟩ := F17.out
    have h0 := sb0.c0
    have h1 := sb0.c1
    have h2 := sb0.c2
    have h3 := sb0.c3
    have h4 := sb0.c4
    have h5 := sb0.c5
    have h6 := sb0.c6
    have p1 := fd0.u.max
    have p2 := fd0.u.le
    have p3 := fd0.v.max
    have p4 := fd0.v.le
    have p5 := fd0.s.max
    have p6 := fd0.s.le
    have HTT := Lib.hid (HT3.out _ _ _ _ _ _ _ _ _ _ fd0)
    clear sb0 fd0
    go_wp2_with (fail)
    with_reducible refine HTT.out.mono ?_
    rintro e w9 ⟨A, n, c, B, m, d, C, k, e9, rfl, hd, x1⟩
    have q1 := hd.u.max
    have q2 := hd.u.le
    have q3 := hd.v.max
    have q4 := hd.v.le
    have q5 := hd.s.max
    have q6 := hd.s.le
    have HD := Lib.hid hd
    have X9 := Lib.hid x1
    clear hd x1 h0 h1 h2 h3 h4 h5 h6
    go_wp2_with (fail)
    go_meet
    exact ⟨_, rfl, _, rfl, rfl, Lib.hid (Fv.new HD.out rfl), Lib.hid (((by first | exact (Ext.alloc _ _).thenAlloc _ | exact Ext.alloc _ _ : Ext w7 _).trans X9.out).thenAlloc _)⟩
  case rest =>
  obtain ⟨w8, rfl, gc, rfl, rfl, F3, Xw8⟩ := hcut
  have F18 := Lib.hid (F17.out.ext Xw8.out)
  have F28 := Lib.hid (F2.out.ext (X7.out.trans Xw8.out))
  have HM8 := Lib.hid (HM.out.ext Xw8.out)
  obtain ⟨A1, n1, c1, B1, m1, d1, C1, k1, e1, sb1, fd1⟩ := F18.out
  obtain ⟨A2, n2, c2, B2, m2, d2, C2, k2, e2, sb2, fd2⟩ := F28.out
  obtain ⟨A3, n3, c3, B3, m3, d3, C3, k3, e3, sb3, fd3⟩ := F3.out
  have h0 := sb1.c0
  have h1 := sb1.c1
  have h2 := sb1.c2
  have h3 := sb1.c3
  have h4 := sb1.c4
  have h5 := sb1.c5
  have h6 := sb1.c6
  have p1 := fd1.u.max
  have p2 := fd1.u.le
  have p3 := fd1.v.max
  have p4 := fd1.v.le
  have p5 := fd1.s.max
  have p6 := fd1.s.le
  have hla := fLacks_any w8 f1A A1 n1 c1 B1 m1 d1 C1 k1 e1 fd1 (by have := fd1.u.len; have : f1A.marks.length = 3 := rfl; omega) (by have := fd1.v.len; have : f1A.which.length = 1 := rfl; omega)
  rw [aw_rest.2.1] at hla
  have HLA := Lib.hid hla
  have S2 := Lib.hid sb2
  have S3 := Lib.hid sb3
  have D2 := Lib.hid fd2.v
  clear sb1 fd1 sb2 fd2 sb3 fd3 hla
  go_wp2_with (fail)
  with_reducible refine HLA.out.mono ?_
  rintro e w9 ⟨v9, rfl, hv9⟩
  obtain ⟨A4, c4, rfl, hi4⟩ := hv9.is
  have X9 := Lib.hid hv9.ext
  have p7 := hi4.max
  have p8 := hi4.le
  have HI4 := Lib.hid (show Is (w9.alloc (.cells #[.int .i64 1] 3)) A4 1 c4 [1] from hi4.ext (Ext.alloc w9 (.cells #[.int .i64 1] 3)))
  have HL4 := Lib.hid (Is.lit w9 _ rfl [1] #[.int .i64 1] 3 1 rfl rfl (by omega))
  clear hi4 hv9 h0 h1 h2 h3 h4 h5 h6
  go_wp2_with (fail)
  with_reducible refine (sameInts_any _ _ _ _ _ _ _ _ _ HI4.out HL4.out).mono ?_
  rintro e w10 ⟨rfl, hd10⟩
  have X10 := Lib.hid ((X9.out.thenAlloc (.cells #[.int .i64 1] 3)).trans hd10.ext)
  have s2 := S2.out.ext X10.out
  have g3 := s2.c3
  have g5 := s2.c5
  have hph : f2A.phase = 2 := rfl
  rw [hph] at g3
  have e0 : decide (([1] : List Int) = [1]) = true := by decide
  rw [e0]
  have p9 := D2.out.max
  have p10 := D2.out.le
  have HI5 := Lib.hid (fun (W : World) (hW : Ext w8 W) => sameInts_any (W.alloc (.cells #[.int .i64 2, .int .i64 0] 3)) _ _ _ _ _ _ _ _ (D2.out.ext (hW.thenAlloc _)) (Is.lit W _ rfl [2, 0] #[.int .i64 2, .int .i64 0] 3 2 rfl rfl (by omega)))
  clear hd10 s2 e0 hph
  go_wp2_with (fail)
  with_reducible refine (HI5.out _ X10.out).mono ?_
  rintro e w11 ⟨rfl, hd11⟩
  have X11 := Lib.hid ((X10.out.thenAlloc (.cells #[.int .i64 2, .int .i64 0] 3)).trans hd11.ext)
  have e0 : decide (f2A.which = [2, 0]) = true := by decide
  rw [e0]
  have HS6 := Lib.hid (sameLists_any _ _ _ _ _ _ _ _ _ (HM8.out.ext (X11.out.trans (((Ext.alloc w11 (.cells #[.int .u8 1] 5)).thenAlloc (.cells #[.int .u8 1] 5)).thenAlloc (.cells #[.slice (some ⟨w11.heap.size, 0, none⟩) 1 1, .slice (some ⟨w11.heap.size + 1, 0, none⟩) 1 1] 46)))) (mx_two w11 [1] [1] #[.int .u8 1] #[.int .u8 1] 5 5 46 rfl rfl (by omega) rfl rfl (by omega)))
  have p11 := HM8.out.max
  have p12 := HM8.out.le
  clear hd11 e0 g3 g5
  go_wp2_with (fail)
  with_reducible refine HS6.out.mono ?_
  rintro e w12 ⟨he, x12⟩
  obtain rfl : e = .returned (.bool true) := he.trans (by simp)
  have X12 := Lib.hid ((X11.out.trans (((Ext.alloc w11 (.cells #[.int .u8 1] 5)).thenAlloc (.cells #[.int .u8 1] 5)).thenAlloc (.cells #[.slice (some ⟨w11.heap.size, 0, none⟩) 1 1, .slice (some ⟨w11.heap.size + 1, 0, none⟩) 1 1] 46))).trans x12)
  have s3 := S3.out.ext X12.out
  have g3 := s3.c3
  have hph : f3A.phase = 3 := rfl
  rw [hph] at g3
  clear x12 s3 hph
  go_wp2_with (fail)
  go_ret
  exact ⟨rfl, X1.out.trans (X2.out.trans (X4.out.trans (Xw5.out.trans (Xw6.out.trans (X7.out.trans (Xw8.out.trans X12.out))))))⟩
end Go.Proofs.YtfpglkacjecoeaaGreat
