/- The contract of code's Fits. -/
import Derived.Test.YtfpcldkfmcnjkaaCodeReb
namespace Go.Proofs.Ytfpcldkfmcnjkaa
open Go.RowKit

/-- Are they all shards of a stripe? -/
def fitsB (k n : Nat) (s : Gm.L) : Bool := decide (Gm.even s n ∧ Gm.mulL (Gm.gen k n) (s.take k) = s)
theorem even_take {s : Gm.L} {k n : Nat} (h : Gm.even s n) (hk : 0 < k) (hkn : k ≤ n) : Gm.even (s.take k) k :=
  ⟨by rw [List.length_take, h.1]; omega, hk, by rw [cols_take hk]; exact h.2.2.1, fun i hi => by rw [row_take hi, cols_take hk]; exact h.2.2.2 i (by omega)⟩
set_option maxRecDepth 100000 in
set_option maxHeartbeats 2000000 in
theorem fits_any (w : World) (b fb k n : Nat) (hC : Cd w b fb k n) (As : Option Addr) (m cs : Nat) (s : Gm.L) (hs : Mx w As m cs s) :
    Calls Try.prog 23 #[cptr b, .slice As m cs] w fun e w' => e = .returned (.bool (fitsB k n s)) ∧ Ext w w' := by
  have HM := Lib.hid (made_any w b fb k n hC)
  have hE := even_any w As m cs s n hs
  have q3 := hs.max
  have q4 := hs.le
  obtain ⟨Ag, cg, c2, hmg⟩ := hC.mx
  have q5 := hmg.max
  have q6 := hmg.le
  by_cases h : Gm.even s n
  · rw [decide_eq_true h] at hE
    obtain rfl : m = n := by rw [← hs.len]; exact h.1
    have hkn := hC.kn
    have hEN := fun (W : World) (hW : Ext w W) => encode_any W b fb k m (hC.ext hW) As k cs (s.take k) ((hs.ext hW).take hkn)
    have e1 : encM k m (s.take k) = Gm.mulL (Gm.gen k m) (s.take k) := by unfold encM; rw [if_pos (even_take h hC.k1 hkn)]
    have e2 : encE k (s.take k) = 0 := by unfold encE; rw [if_pos (even_take h hC.k1 hkn)]
    rw [e1, e2] at hEN
    have hf : fitsB k m s = decide (Gm.mulL (Gm.gen k m) (s.take k) = s) := by
      unfold fitsB
      rw [Bool.eq_iff_iff, decide_eq_true_eq, decide_eq_true_eq]
      exact ⟨fun q => q.2, fun q => ⟨h, q⟩⟩
    rw [hf]
    have g1 : (k : Int) ≤ m := by omega
    have g2 : (k : Int) ≤ cs := by omega
    have g3 : (0 : Int) ≤ k := by omega
    have hml : (Gm.mulL (Gm.gen k m) (s.take k)).length = m := by rw [Gm.mulL_length, Gm.gen_length hkn]
    have HML := Lib.hid hml
    have HE := Lib.hid hE
    have HEN := Lib.hid hEN
    have HS := Lib.hid hs
    have HC := Lib.hid hC
    clear hE h hs hC hEN e1 e2 hf hml hmg
    generalize Gm.mulL (Gm.gen k m) (s.take k) = M at *
    go_enter Try.func23, Try.ntmps23
    go_wp2_with (fail)
    refine HM.out.mono ?_
    rintro e w' ⟨rfl, rfl⟩
    go_wp2_with (fail)
    refine HE.out.mono ?_
    rintro e w1 ⟨rfl, x1⟩
    have c1 := (HC.out.ext x1).c1
    go_wp2_with (fail)
    refine (HEN.out w1 x1).mono ?_
    intro e w2 hg
    obtain ⟨A2, c2', rfl, m2, x2⟩ := gives_mx hg
    clear hg
    rw [HML.out] at m2
    rw [HML.out]
    have HF := Lib.hid (equalFunc_any w2 A2 As m c2' m cs M s m2 (HS.out.ext (x1.trans x2)))
    clear m2
    go_wp2_with (fail)
    refine HF.out.mono ?_
    rintro e w3 ⟨rfl, x3⟩
    go_wp2_with (fail)
    go_ret
    exact ⟨rfl, (x1.trans x2).trans x3⟩
  · rw [decide_eq_false h] at hE
    have hf : fitsB k n s = false := by
      unfold fitsB
      exact decide_eq_false (fun q => h q.1)
    rw [hf]
    have HE := Lib.hid hE
    clear hE h hs hC hf hmg
    go_enter Try.func23, Try.ntmps23
    go_wp2_with (fail)
    refine HM.out.mono ?_
    rintro e w' ⟨rfl, rfl⟩
    go_wp2_with (fail)
    refine HE.out.mono ?_
    rintro e w1 ⟨rfl, x1⟩
    go_wp2_with (fail)
    go_ret
    exact ⟨rfl, x1⟩
end Go.Proofs.Ytfpcldkfmcnjkaa
