/- Several texts in one: The contract of SameInts. The contract of SameFind. -/
import Derived.Test.YtfpglkacjecoeaaCt4
import Derived.Test.YtfpglkacjecoeaaCt17
import Derived.Test.YtfpglkacjecoeaaCt32
namespace Go.Proofs.Ytfpglkacjecoeaa
open Go.RowKit

set_option maxHeartbeats 1000000 in
theorem sameInts_any (w : World) (A B : Option Addr) (n c m d : Nat) (x y : List Int) (hx : Is w A n c x) (hy : Is w B m d y) :
    Calls Try.prog 16 #[.slice A n c, .slice B m d] w fun e w' => e = .returned (.bool (decide (x = y))) ∧ Dr w w' := by
  have hm1 := hx.max
  have hm2 := hx.le
  have hm3 := hy.max
  have hm4 := hy.le
  have L1 := Lib.hid hx.len
  have L2 := Lib.hid hy.len
  by_cases hnm : n = m
  · subst hnm
    go_enter Try.func16, Try.ntmps16
    go_wp2
    go_loopw [5] (fun i wr => ∃ k : Nat, k ≤ n ∧ i = .int .i64 k ∧ (∀ j, j < k → Il.get x j = Il.get y j) ∧ Dr w wr) (fun i _ => n - (intOf i).toNat)
    case atStart => exact ⟨0, by omega, rfl, (fun j hj => by omega), Dr.refl w⟩
    case round =>
      obtain ⟨k, hk, rfl, hno, hd⟩ := hrel
      have H := Lib.hid hno
      clear hno
      by_cases hlt : k < n
      · obtain ⟨b1, o1, rfl, hc1⟩ := (hx.ext hd.ext).rd.intAt hlt
        obtain ⟨b2, o2, rfl, hc2⟩ := (hy.ext hd.ext).rd.intAt hlt
        have i1 : (k : Int) < n := by omega
        by_cases he : Il.get x k = Il.get y k
        · have e1 : (Il.get x k != Il.get y k) = false := by rw [he]; simp
          have E := Lib.hid he
          clear he
          go_wp2
          go_quiet (fail)
          go_wp2
          refine ⟨⟨k + 1, by omega, by go_num, (fun j hj => ?_), hd.more _⟩, by simp [intOf]; omega⟩
          by_cases hj' : j = k
          · rw [hj']; exact E.out
          · exact H.out j (by omega)
        · have e1 : (Il.get x k != Il.get y k) = true := by rw [bne_iff_ne]; exact he
          have E := Lib.hid he
          clear he
          go_wp2
          go_quiet (fail)
          go_wp2
          go_ret
          refine ⟨ret_bool (show false = decide (x = y) from ?_), hd.more _⟩
          rw [eq_comm, decide_eq_false_iff_not]
          exact fun e => E.out (by rw [e])
      · have i1 : ¬ (k : Int) < n := by omega
        go_wp2
        go_ret
        refine ⟨ret_bool (show true = decide (x = y) from ?_), hd⟩
        rw [eq_comm, decide_eq_true_eq]
        exact Il.ext_get (by rw [L1.out, L2.out]) fun j hj => H.out j (by rw [L1.out] at hj; omega)
  · have e1 : ((n : Int) != (m : Int)) = true := by rw [bne_iff_ne]; omega
    have N := Lib.hid hnm
    clear hnm
    go_enter Try.func16, Try.ntmps16
    go_wp2
    go_ret
    refine ⟨ret_bool (show false = decide (x = y) from ?_), Dr.refl w⟩
    rw [eq_comm, decide_eq_false_iff_not]
    exact fun e => N.out (by rw [← L1.out, ← L2.out, e])
end Go.Proofs.Ytfpglkacjecoeaa
namespace Go.Proofs.Ytfpglkacjecoeaa
open Go.RowKit

/-- Are two finds the same? -/
def sameF (f g : Finds.F) : Bool := f.stripe == g.stripe && (f.version == g.version && (f.need == g.need && (f.phase == g.phase && (decide (f.marks = g.marks) && (decide (f.which = g.which) && decide (f.shards = g.shards))))))
theorem sameF_iff {f g : Finds.F} : sameF f g = true ↔ f = g := by
  obtain ⟨a, b, c, d, e, h, i⟩ := f
  obtain ⟨a', b', c', d', e', h', i'⟩ := g
  simp [sameF]
theorem sameF_refl (f : Finds.F) : sameF f f = true := sameF_iff.2 rfl
set_option maxRecDepth 100000 in
set_option maxHeartbeats 4000000 in
theorem sameFind_any (w : World) (f g : Finds.F) (A : Option Addr) (n c : Nat) (B : Option Addr) (m d : Nat) (C : Option Addr) (k e : Nat) (A' : Option Addr) (n' c' : Nat) (B' : Option Addr) (m' d' : Nat) (C' : Option Addr) (k' e' : Nat) (hf : Fd w f A n c B m d C k e) (hg : Fd w g A' n' c' B' m' d' C' k' e') :
    Calls Try.prog 17 #[fval f.stripe f.version f.need f.phase (.slice A n c) (.slice B m d) (.slice C k e), fval g.stripe g.version g.need g.phase (.slice A' n' c') (.slice B' m' d') (.slice C' k' e')] w fun r w' => r = .returned (.bool (sameF f g)) ∧ Ext w w' := by
  obtain ⟨a, b, x, y, l, h, s⟩ := f
  obtain ⟨a', b', x', y', l', h', s'⟩ := g
  have q1 := hf.u.max
  have q2 := hf.u.le
  have q3 := hf.v.max
  have q4 := hf.v.le
  have q5 := hf.s.max
  have q6 := hf.s.le
  have q7 := hg.u.max
  have q8 := hg.u.le
  have q9 := hg.v.max
  have q10 := hg.v.le
  have q11 := hg.s.max
  have q12 := hg.s.le
  obtain ⟨u0, v0, t0⟩ := hf
  obtain ⟨u1, v1, t1⟩ := hg
  simp only at u0 v0 t0 u1 v1 t1
  have x0 : Ext w ((w.alloc (.cells #[.int .i64 a, .int .i64 b, .int .i64 x, .int .i64 y, .slice A n c, .slice B m d, .slice C k e] 27)).alloc (.cells #[.int .i64 a', .int .i64 b', .int .i64 x', .int .i64 y', .slice A' n' c', .slice B' m' d', .slice C' k' e'] 27)) := (Ext.alloc _ _).thenAlloc _
  have H1 := Lib.hid (fun (W : World) (hW : Ext w W) => sameInts_any W A A' n c n' c' l l' (u0.ext hW) (u1.ext hW))
  have H2 := Lib.hid (fun (W : World) (hW : Ext w W) => sameInts_any W B B' m d m' d' h h' (v0.ext hW) (v1.ext hW))
  have H3 := Lib.hid (fun (W : World) (hW : Ext w W) => sameLists_any W C C' k e k' e' s s' (t0.ext hW) (t1.ext hW))
  have SA := Lib.hid ((Fb.new w a b x y (.slice A n c) (.slice B m d) (.slice C k e) rfl).ext (Ext.alloc _ (.cells #[.int .i64 a', .int .i64 b', .int .i64 x', .int .i64 y', .slice A' n' c', .slice B' m' d', .slice C' k' e'] 27)))
  have SB := Lib.hid (Fb.new (w.alloc (.cells #[.int .i64 a, .int .i64 b, .int .i64 x, .int .i64 y, .slice A n c, .slice B m d, .slice C k e] 27)) a' b' x' y' (.slice A' n' c') (.slice B' m' d') (.slice C' k' e') (g := w.heap.size + 1) (by simp))
  have X0 := Lib.hid x0
  clear u0 u1 v0 v1 t0 t1 x0
  unfold sameF
  simp only
  generalize @Decidable.decide (l = l') _ = D1 at *
  generalize @Decidable.decide (h = h') _ = D2 at *
  generalize @Decidable.decide (s = s') _ = D3 at *
  by_cases h0 : a = a'
  · subst h0
    have e0 : (a == a) = true := by simp
    rw [e0, Bool.true_and]
    by_cases h1 : b = b'
    · subst h1
      have e1 : (b == b) = true := by simp
      rw [e1, Bool.true_and]
      by_cases h2 : x = x'
      · subst h2
        have e2 : (x == x) = true := by simp
        rw [e2, Bool.true_and]
        by_cases h3 : y = y'
        · subst h3
          have e3 : (y == y) = true := by simp
          rw [e3, Bool.true_and]
          go_enter Try.func17, Try.ntmps17
          go_wp2_with (fail)
          refine (H1.out _ X0.out).mono ?_
          rintro r w1 ⟨rfl, x1⟩
          have c4 := (SA.out.ext x1.ext).c4
          have c5 := (SA.out.ext x1.ext).c5
          have c6 := (SA.out.ext x1.ext).c6
          have d4 := (SB.out.ext x1.ext).c4
          have d5 := (SB.out.ext x1.ext).c5
          have d6 := (SB.out.ext x1.ext).c6
          have X1 := Lib.hid x1.ext
          clear x1
          cases D1 with
          | false =>
            go_wp2_with (fail)
            go_ret
            exact ⟨rfl, X0.out.trans X1.out⟩
          | true =>
            go_wp2_with (fail)
            refine (H2.out _ (X0.out.trans X1.out)).mono ?_
            rintro r w2 ⟨rfl, x2⟩
            clear c4 c5 c6 d4 d5 d6
            have c4 := (SA.out.ext (X1.out.trans x2.ext)).c4
            have c5 := (SA.out.ext (X1.out.trans x2.ext)).c5
            have c6 := (SA.out.ext (X1.out.trans x2.ext)).c6
            have d4 := (SB.out.ext (X1.out.trans x2.ext)).c4
            have d5 := (SB.out.ext (X1.out.trans x2.ext)).c5
            have d6 := (SB.out.ext (X1.out.trans x2.ext)).c6
            have X2 := Lib.hid (X1.out.trans x2.ext)
            clear x2
            cases D2 with
            | false =>
              go_wp2_with (fail)
              go_ret
              exact ⟨rfl, X0.out.trans X2.out⟩
            | true =>
              go_wp2_with (fail)
              refine (H3.out _ (X0.out.trans X2.out)).mono ?_
              rintro r w3 ⟨rfl, x3⟩
              have X3 := Lib.hid (X2.out.trans x3)
              clear x3
              go_wp2_with (fail)
              go_ret
              exact ⟨rfl, X0.out.trans X3.out⟩
        · have e3 : (y == y') = false := by rw [beq_eq_false_iff_ne]; exact h3
          rw [e3, Bool.false_and]
          clear h3
          go_enter Try.func17, Try.ntmps17
          go_wp2_with (fail)
          go_ret
          exact ⟨rfl, X0.out⟩
      · have e2 : (x == x') = false := by rw [beq_eq_false_iff_ne]; exact h2
        rw [e2, Bool.false_and]
        clear h2
        go_enter Try.func17, Try.ntmps17
        go_wp2_with (fail)
        go_ret
        exact ⟨rfl, X0.out⟩
    · have e1 : (b == b') = false := by rw [beq_eq_false_iff_ne]; exact h1
      rw [e1, Bool.false_and]
      clear h1
      go_enter Try.func17, Try.ntmps17
      go_wp2_with (fail)
      go_ret
      exact ⟨rfl, X0.out⟩
  · have e0 : (a == a') = false := by rw [beq_eq_false_iff_ne]; exact h0
    rw [e0, Bool.false_and]
    clear h0
    go_enter Try.func17, Try.ntmps17
    go_wp2_with (fail)
    go_ret
    exact ⟨rfl, X0.out⟩
end Go.Proofs.Ytfpglkacjecoeaa
