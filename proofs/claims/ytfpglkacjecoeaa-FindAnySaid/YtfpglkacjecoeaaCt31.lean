/- Several texts in one: A code that New did not make: what it is. The contract of find.Data. -/
import Derived.Test.YtfpglkacjecoeaaCt24
import Derived.Test.YtfpglkacjecoeaaCt15
import Derived.Test.YtfpglkacjecoeaaCt21
import Derived.Test.YtfpglkacjecoeaaCt30
import Derived.Deep.QuietTactic
namespace Go.Proofs.Ytfpglkacjecoeaa
open Go.RowKit

/-- What is no code that New made: none, or one without a field. -/
def NoCode (w : World) (p : Value) : Prop := p = .pointer none ∨ ∃ b, p = .pointer (some ⟨b, 0, none⟩) ∧ w.cell? ⟨b, 0, none⟩ = some (.pointer none)
theorem NoCode.ext {w w' : World} {p : Value} (h : NoCode w p) (hx : Ext w w') : NoCode w' p := by
  rcases h with h | ⟨b, h, hc⟩
  · exact .inl h
  · exact .inr ⟨b, h, hx.cell hc⟩
theorem noc_made_nil (w : World) : Calls Try.prog 45 #[.pointer none] w fun e w' => e = .returned (.bool false) ∧ w = w' := by
  go_enter Try.func45, Try.ntmps45
  go_wp2
  go_ret
  exact ⟨rfl, rfl⟩
theorem noc_made (w : World) (p : Value) (h : NoCode w p) : Calls Try.prog 45 #[p] w fun e w' => e = .returned (.bool false) ∧ w = w' := by
  rcases h with rfl | ⟨b, rfl, hc⟩
  · exact noc_made_nil w
  · go_enter Try.func45, Try.ntmps45
    go_wp2
    go_ret
    exact ⟨rfl, rfl⟩
theorem noc_need (w : World) (p : Value) (h : NoCode w p) : Calls Try.prog 28 #[p] w fun e w' => e = .returned (.int .i64 0) ∧ w = w' := by
  go_enter Try.func28, Try.ntmps28
  go_wp2_with (fail)
  refine (noc_made _ _ h).mono ?_
  rintro e w' ⟨rfl, rfl⟩
  go_wp2_with (fail)
  go_ret
  exact ⟨rfl, rfl⟩
theorem noc_all (w : World) (p : Value) (h : NoCode w p) : Calls Try.prog 27 #[p] w fun e w' => e = .returned (.int .i64 0) ∧ w = w' := by
  go_enter Try.func27, Try.ntmps27
  go_wp2_with (fail)
  refine (noc_made _ _ h).mono ?_
  rintro e w' ⟨rfl, rfl⟩
  go_wp2_with (fail)
  go_ret
  exact ⟨rfl, rfl⟩
end Go.Proofs.Ytfpglkacjecoeaa
namespace Go.Proofs.Ytfpglkacjecoeaa
open Go.RowKit

/-- May the data be told by a code of K and N? -/
def mayData (f : Finds.F) (K N : Int) : Prop := Finds.right f ∧ f.phase = 2 ∧ K = f.need ∧ N = f.marks.length
instance (f : Finds.F) (K N : Int) : Decidable (mayData f K N) := by unfold mayData; infer_instance
def dataE (f : Finds.F) (K N E : Int) : Int := if ¬ Finds.right f then 140 else if f.phase ≠ 2 then 80 else if K ≠ f.need ∨ N ≠ f.marks.length then 40 else E
def dataM (f : Finds.F) (K N : Int) (M : Gm.L) : Gm.L := if mayData f K N then M else []
theorem data_none (w w' : World) (E : Int) (hx : Ext w w') : GivesME [] E w (.returned (.tuple #[.slice none 0 0, .int .i64 E])) w' := ⟨_, _, rfl, Mx.none w', hx⟩
set_option maxRecDepth 100000 in
set_option maxHeartbeats 4000000 in
theorem fData_core (w : World) (p : Value) (K N E : Int) (M : Gm.L) (f : Finds.F) (A : Option Addr) (n c : Nat) (B : Option Addr) (m d : Nat) (C : Option Addr) (k e : Nat) (h : Fd w f A n c B m d C k e) (hn : n ≤ 1000) (hm : m ≤ 1000)
    (hN : ∀ W, Ext w W → Calls Try.prog 28 #[p] W fun e w' => e = .returned (.int .i64 K) ∧ W = w') (hA : ∀ W, Ext w W → Calls Try.prog 27 #[p] W fun e w' => e = .returned (.int .i64 N) ∧ W = w')
    (hD : mayData f K N → ∀ W, Ext w W → Calls Try.prog 42 #[p, .slice B m d, .slice C k e] W (GivesME M E W)) :
    Calls Try.prog 14 #[p, fval f.stripe f.version f.need f.phase (.slice A n c) (.slice B m d) (.slice C k e)] w (GivesME (dataM f K N M) (dataE f K N E) w) := by
  have q1 := h.u.max
  have q2 := h.u.le
  have q3 := h.v.max
  have q4 := h.v.le
  have q5 := h.s.max
  have q6 := h.s.le
  have LN := Lib.hid h.u.len
  have xA := Ext.alloc w (.cells #[.int .i64 f.stripe, .int .i64 f.version, .int .i64 f.need, .int .i64 f.phase, .slice A n c, .slice B m d, .slice C k e] 27)
  have hR := fRight_any _ f A n c B m d C k e (h.ext xA) hn hm
  have s1 := Fb.new w f.stripe f.version f.need f.phase (.slice A n c) (.slice B m d) (.slice C k e) rfl
  have XA := Lib.hid xA
  have HR := Lib.hid hR
  have SB := Lib.hid s1
  have HNd := Lib.hid hN
  have HAl := Lib.hid hA
  have HDe := Lib.hid hD
  clear h hR xA s1 hN hA hD
  go_enter Try.func14, Try.ntmps14
  go_wp2_with (fail)
  refine HR.out.mono ?_
  rintro r w1 ⟨rfl, x1⟩
  have X1 := Lib.hid (XA.out.trans x1)
  have s1 := SB.out.ext x1
  have k0 := s1.c0
  have k1 := s1.c1
  have k2 := s1.c2
  have k3 := s1.c3
  have k4 := s1.c4
  have k5 := s1.c5
  have k6 := s1.c6
  have S1 := Lib.hid s1
  clear x1 s1
  by_cases hr : Finds.right f
  · rw [decide_eq_true hr]
    by_cases hp : f.phase = 2
    · have e1 : (f.phase != 2) = false := by rw [bne_eq_false_iff_eq]; exact hp
      have HRR := Lib.hid hr
      have HPP := Lib.hid hp
      by_cases hk : K = f.need
      · have e2 : (K != f.need) = false := by rw [bne_eq_false_iff_eq]; exact hk
        by_cases hnn : N = n
        · have e3 : (N != (n : Int)) = false := by rw [bne_eq_false_iff_eq]; exact hnn
          have hmd : mayData f K N := ⟨hr, hp, hk, by rw [LN.out]; exact hnn⟩
          have HM := Lib.hid (show dataM f K N M = M from if_pos hmd)
          have HE := Lib.hid (show dataE f K N E = E by unfold dataE; rw [if_neg (fun q => q hr), if_neg (fun q => q hp), if_neg (fun q => by rw [LN.out] at q; omega)])
          have HD1 := Lib.hid (HDe.out hmd)
          clear hr hp hk hnn hmd
          go_wp2_with (fail)
          go_quiet ((first | (go_at_call 28; exact Calls.quiet_of_same ((HNd.out _ (X1.out.trans (Ext.drewN _ _))).mono fun _ _ h => ⟨h.1, h.2.symm⟩)) | (go_at_call 27; exact Calls.quiet_of_same ((HAl.out _ (X1.out.trans (Ext.drewN _ _))).mono fun _ _ h => ⟨h.1, h.2.symm⟩))))
          go_wp2_with (fail)
          refine (HD1.out _ (X1.out.trans (Ext.drewN _ _))).mono ?_
          rintro r w2 ⟨A2, c2, rfl, hm2, x2⟩
          have HM2 := Lib.hid hm2
          have p1 := hm2.max
          have p2 := hm2.le
          have X2 := Lib.hid x2
          clear hm2 x2
          go_wp2_with (fail)
          go_ret2
          rw [HM.out, HE.out]
          exact ⟨_, _, rfl, HM2.out, (X1.out.trans (Ext.drewN _ _)).trans X2.out⟩
        · have e3 : (N != (n : Int)) = true := by rw [bne_iff_ne]; exact hnn
          have HM := Lib.hid (show dataM f K N M = [] from if_neg (fun q => hnn (by rw [q.2.2.2, LN.out])))
          have HE := Lib.hid (show dataE f K N E = 40 by unfold dataE; rw [if_neg (fun q => q hr), if_neg (fun q => q hp), if_pos (by rw [LN.out]; exact .inr hnn)])
          clear hr hp hk hnn
          go_wp2_with (fail)
          go_quiet ((first | (go_at_call 28; exact Calls.quiet_of_same ((HNd.out _ (X1.out.trans (Ext.drewN _ _))).mono fun _ _ h => ⟨h.1, h.2.symm⟩)) | (go_at_call 27; exact Calls.quiet_of_same ((HAl.out _ (X1.out.trans (Ext.drewN _ _))).mono fun _ _ h => ⟨h.1, h.2.symm⟩))))
          go_wp2_with (fail)
          go_ret2
          rw [HM.out, HE.out]
          exact data_none _ _ _ (X1.out.trans (Ext.drewN _ _))
      · have e2 : (K != f.need) = true := by rw [bne_iff_ne]; exact hk
        have HM := Lib.hid (show dataM f K N M = [] from if_neg (fun q => hk q.2.2.1))
        have HE := Lib.hid (show dataE f K N E = 40 by unfold dataE; rw [if_neg (fun q => q hr), if_neg (fun q => q hp), if_pos (.inl hk)])
        clear hr hp hk
        go_wp2_with (fail)
        go_quiet ((first | (go_at_call 28; exact Calls.quiet_of_same ((HNd.out _ (X1.out.trans (Ext.drewN _ _))).mono fun _ _ h => ⟨h.1, h.2.symm⟩)) | (go_at_call 27; exact Calls.quiet_of_same ((HAl.out _ (X1.out.trans (Ext.drewN _ _))).mono fun _ _ h => ⟨h.1, h.2.symm⟩))))
        go_wp2_with (fail)
        go_ret2
        rw [HM.out, HE.out]
        exact data_none _ _ _ (X1.out.trans (Ext.drewN _ _))
    · have e1 : (f.phase != 2) = true := by rw [bne_iff_ne]; exact hp
      have HM := Lib.hid (show dataM f K N M = [] from if_neg (fun q => hp q.2.1))
      have HE := Lib.hid (show dataE f K N E = 80 by unfold dataE; rw [if_neg (fun q => q hr), if_pos hp])
      clear hr hp
      go_wp2_with (fail)
      go_ret2
      rw [HM.out, HE.out]
      exact data_none _ _ _ X1.out
  · rw [decide_eq_false hr]
    have HM := Lib.hid (show dataM f K N M = [] from if_neg (fun q => hr q.1))
    have HE := Lib.hid (show dataE f K N E = 140 by unfold dataE; rw [if_pos hr])
    clear hr
    go_wp2_with (fail)
    go_ret2
    rw [HM.out, HE.out]
    exact data_none _ _ _ X1.out
/-- Data by a code that New made. -/
theorem fData_any (w : World) (b fb K N : Nat) (hC : Cd w b fb K N) (f : Finds.F) (A : Option Addr) (n c : Nat) (B : Option Addr) (m d : Nat) (C : Option Addr) (k e : Nat) (h : Fd w f A n c B m d C k e) (hn : n ≤ 1000) (hm : m ≤ 1000) :
    Calls Try.prog 14 #[cptr b, fval f.stripe f.version f.need f.phase (.slice A n c) (.slice B m d) (.slice C k e)] w (GivesME (dataM f K N (decM K N f.which f.shards)) (dataE f K N (decE K N f.which f.shards)) w) :=
  fData_core w (cptr b) K N _ _ f A n c B m d C k e h hn hm (fun W hW => need_any W b fb K N (hC.ext hW)) (fun W hW => all_any W b fb K N (hC.ext hW))
    (fun _ W hW => (decode_any W b fb K N (hC.ext hW) B m d f.which (h.v.ext hW) C k e f.shards (h.s.ext hW)).mono fun e w' hg => gives_mx hg)
/-- Data by none. -/
theorem fData_none (w : World) (f : Finds.F) (A : Option Addr) (n c : Nat) (B : Option Addr) (m d : Nat) (C : Option Addr) (k e : Nat) (h : Fd w f A n c B m d C k e) (hn : n ≤ 1000) (hm : m ≤ 1000) :
    Calls Try.prog 14 #[.pointer none, fval f.stripe f.version f.need f.phase (.slice A n c) (.slice B m d) (.slice C k e)] w (GivesME [] (dataE f 0 0 40) w) := by
  have hno : ∀ E, ¬ mayData f 0 0 ∧ dataE f 0 0 E = dataE f 0 0 40 := fun E => by
    have hz : Finds.right f → (0 : Int) ≠ f.need := fun hr => by have := (Finds.right_need hr).1; omega
    refine ⟨fun q => hz q.1 q.2.2.1, ?_⟩
    unfold dataE
    split
    · rfl
    · rename_i hr
      have := hz (Classical.not_not.1 hr)
      have h2 : (0 : Int) ≠ f.need ∨ (0 : Int) ≠ f.marks.length := Or.inl this
      rw [if_pos h2, if_pos h2]
  have h0 := fData_core w (.pointer none) 0 0 40 [] f A n c B m d C k e h hn hm (fun W _ => noc_need W _ (.inl rfl)) (fun W _ => noc_all W _ (.inl rfl)) (fun q => absurd q (hno 0).1)
  rwa [show dataM f 0 0 [] = [] from if_neg (hno 0).1] at h0
end Go.Proofs.Ytfpglkacjecoeaa
