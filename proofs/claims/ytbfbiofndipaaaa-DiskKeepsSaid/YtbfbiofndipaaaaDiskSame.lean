/- The contract of the laws' same, of two disks that read alike. -/
import Derived.Test.YtbfbiofndipaaaaDiskAwake
namespace Disks
/-- What is read of both is the same. -/
structure Alike (d e : D) : Prop where
  len : d.med.length = e.med.length
  at_ : ∀ i : Nat, i < d.med.length → there d i = there e i ∧ (there d i = 0 → sec d i = sec e i)
theorem Alike.refl (d : D) : Alike d d := ⟨rfl, fun _ _ => ⟨rfl, fun _ => rfl⟩⟩
end Disks
namespace Go.Proofs.Ytbfbiofndipaaaa
open Go.RowKit Go.Maps Go.Sort Go.Shelf

set_option maxRecDepth 100000 in
set_option maxHeartbeats 2000000 in
theorem same_any5 (w : World) (g m b N : Nat) (d : Disks.D) (h : Ds w g m b N d) (g' m' b' N' : Nat) (d' : Disks.D) (h' : Ds w g' m' b' N' d') (hs : Disks.Alike d d') :
    Calls Try.prog 35 #[dptr g, dptr g'] w fun e w' => e = .returned (.bool true) ∧ Ext w w' := by
  have hM := h.ok.wf.max
  obtain ⟨n, hn⟩ : ∃ n, d.med.length = n := ⟨_, rfl⟩
  have hn' : d'.med.length = n := hs.len.symm.trans hn
  rw [hn] at hM
  have HS := Lib.hid hs
  have HN := Lib.hid hn
  have HN' := Lib.hid hn'
  have H := Lib.hid h
  have H' := Lib.hid h'
  clear h h' hs hn hn'
  go_enter Try.func35, Try.ntmps35
  go_wp2_with (fail)
  go_loopw [5] (fun i wr => ∃ k : Nat, k ≤ n ∧ i = .int .i64 k ∧ Hid (Ext w wr)) (fun i _ => n - (intOf i).toNat)
  case atStart => exact ⟨0, by omega, rfl, Lib.hid (Ext.refl w)⟩
  case round =>
    obtain ⟨k, hk, rfl, HX⟩ := hrel
    have hc := (H.out.ext HX.out).size HN.out
    go_wp2_with (fail)
    with_reducible refine hc.mono ?_
    rintro e w1 ⟨rfl, x1⟩
    have X1 := Lib.hid (HX.out.trans x1)
    clear x1 hc
    by_cases hlt : k < n
    · have i1 : (k : Int) < n := by omega
      have ha := HS.out.at_ k (by rw [HN.out]; exact hlt)
      by_cases h0 : Disks.there d k = 0
      · have hr := (H.out.ext X1.out).readOk k h0 rfl
        have h0' : Disks.there d' k = 0 := ha.1.symm.trans h0
        have es := ha.2 h0
        rw [show ((k : Int)).toNat = k by omega] at hr
        obtain ⟨s, hse⟩ : ∃ s, Disks.sec d k = s := ⟨_, rfl⟩
        rw [hse] at hr es
        have H0 := Lib.hid h0'
        have ES := Lib.hid es.symm
        clear ha h0 h0' es hse
        go_wp2_with (fail)
        with_reducible refine hr.mono ?_
        rintro e w2 ⟨p, rfl, s2⟩
        have S2 := Lib.hid s2
        have X2 := Lib.hid (X1.out.trans s2.ext)
        clear s2 hr
        have hr := (H'.out.ext X2.out).readOk k H0.out (show Disks.sec d' ((k : Int)).toNat = s by rw [show ((k : Int)).toNat = k by omega]; exact ES.out)
        go_wp2_with (fail)
        with_reducible refine hr.mono ?_
        rintro e w3 ⟨p', rfl, s3⟩
        have hsb := sameBytes5 w3 _ _ _ _ _ _ _ _ (S2.out.then s3.ext).bs s3.bs
        rw [beq_self_eq_true] at hsb
        have X3 := Lib.hid (X2.out.trans s3.ext)
        have HSB := Lib.hid hsb
        clear s3 hr hsb
        go_wp2_with (fail)
        with_reducible refine HSB.out.mono ?_
        rintro e w4 ⟨rfl, rfl⟩
        go_wp2_with (fail)
        exact ⟨⟨k + 1, by omega, by go_num, X3⟩, by simp [intOf]; omega⟩
      · have hr := (H.out.ext X1.out).readNo k rfl h0
        obtain ⟨t, ht⟩ : ∃ t, Disks.there d k = t := ⟨_, rfl⟩
        rw [ht] at hr h0
        have H0 := Lib.hid (ha.1.symm.trans ht)
        have H1 := Lib.hid h0
        clear ha ht h0
        go_wp2_with (fail)
        with_reducible refine hr.mono ?_
        rintro e w2 ⟨rfl, x2⟩
        have X2 := Lib.hid (X1.out.trans x2)
        clear x2 hr
        have hr := (H'.out.ext X2.out).readNo k H0.out H1.out
        go_wp2_with (fail)
        with_reducible refine hr.mono ?_
        rintro e w3 ⟨rfl, x3⟩
        have X3 := Lib.hid (X2.out.trans x3)
        clear x3 hr
        have hsb := sameBytes5 w3 none none 0 0 0 0 [] [] ⟨rfl, Nat.le_refl _, by omega, rfl, fun h => absurd h (Nat.lt_irrefl 0)⟩ ⟨rfl, Nat.le_refl _, by omega, rfl, fun h => absurd h (Nat.lt_irrefl 0)⟩
        rw [beq_self_eq_true] at hsb
        have HSB := Lib.hid hsb
        clear hsb
        go_wp2_with (fail)
        with_reducible refine HSB.out.mono ?_
        rintro e w4 ⟨rfl, rfl⟩
        go_wp2_with (fail)
        exact ⟨⟨k + 1, by omega, by go_num, X3⟩, by simp [intOf]; omega⟩
    · have ek : k = n := by omega
      subst ek
      have hc := (H.out.ext X1.out).size HN.out
      go_wp2_with (fail)
      with_reducible refine hc.mono ?_
      rintro e w2 ⟨rfl, x2⟩
      have X2 := Lib.hid (X1.out.trans x2)
      clear x2 hc
      have hc := (H'.out.ext X2.out).size HN'.out
      go_wp2_with (fail)
      with_reducible refine hc.mono ?_
      rintro e w3 ⟨rfl, x3⟩
      go_wp2_with (fail)
      go_ret
      exact ⟨rfl, X2.out.trans x3⟩
end Go.Proofs.Ytbfbiofndipaaaa
