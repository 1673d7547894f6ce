/- JournalRoom's walk. -/
import Derived.Test.YtaaegbccejjjcaaCt28
import Derived.Test.YtaaegbccejjjcaaJourAwake
namespace Go.Proofs.Ytaaegbccejjjcaa
open Go.ChangeShapes Go.WideShapes Go.ChangeAt Go.RowKit Go.Maps Go.Sort Go.Shelf
set_option linter.unusedSimpArgs false

namespace journalRoom
set_option maxRecDepth 100000 in
set_option maxHeartbeats 8000000 in
theorem walk {H : Type} {enc : TypeId × Value → H} {base : Nat} (W : World) (a0 : Int) (v1 : Value) (d1 : DataW H) (p1 : List MemPlace) (u0 : (Lit.int .u8 a0).wf = true) (o1 : Value.okWide Try.prog W .any base 22 v1) (h1 : DataW.Trod enc Try.prog W 0 (fun _ => true) true 22 v1 d1 p1) :
    Calls Try.prog 3 #[.int .u8 a0, v1] W fun e W' => e = .returned (.bool true) ∧ Ext W W' := by
  obtain ⟨A, n, c, q, rfl, hos⟩ := os24_open o1 h1
  obtain ⟨x, rfl⟩ := wf_u8 u0
  have hle := hos.le
  have hmx := hos.max
  have OS := Lib.hid hos
  have hx256 : x.toNat < 256 := x.toNat_lt
  clear o1 h1 u0 hos
  go_enter Try.func3, Try.ntmps3
  try dsimp only [List.append]
  go_wp2_with (fail)
  obtain ⟨nn, hnn⟩ : ∃ nn : Nat, 8 + (x.toNat : Int) % 53 = (nn : Int) := ⟨8 + x.toNat % 53, by omega⟩
  have hn8 : 8 ≤ nn ∧ nn ≤ 60 := by omega
  have hnew := new_dl W nn (by omega) (by omega)
  rw [hnn]
  clear hnn hx256
  with_reducible refine hnew.mono ?_
  rintro e w1 ⟨g, m, b, rfl, d1⟩
  have ho := open_new W w1 g m b nn d1 hn8.1 (by omega)
  clear hnew d1
  go_wp2_with (fail)
  with_reducible refine ho.mono ?_
  rintro e w2 ⟨p, oa, da, rfl, la, aa⟩
  have LA := Lib.hid la
  have AA := Lib.hid aa
  clear ho la aa
  obtain ⟨hf, hhf⟩ : ∃ hf, nn / 2 = hf := ⟨_, rfl⟩
  have hf4 : 4 ≤ hf ∧ hf ≤ 30 := by omega
  have EQ2 : (nn : Int).tdiv 2 = (hf : Int) := by rw [Int.tdiv_eq_ediv_of_nonneg (by omega)]; omega
  rw [hhf] at LA
  clear hhf
  go_wp2_with (fail)
  go_loopw [10] (fun s wr => ∃ (k N : Nat) (o : Option Nat) (j : Jo.J) (d : Disks.D), k ≤ n ∧ s = .int .i64 (k : Int) ∧ RowKit.Hid (Lv W wr p g m b N o j d) ∧ RowKit.Hid (d.arm = -1 ∧ N ≤ 1 + 8 * k ∧ j.life ≤ 1 + k ∧ k ≤ 40 ∧ j.half = hf)) (fun s _ => 40 - (intOf s).toNat)
  case atStart => exact ⟨0, 1, oa, _, da, Nat.zero_le _, rfl, LA, Lib.hid ⟨AA.out, Nat.le_refl _, Nat.le_refl _, Nat.zero_le _, rfl⟩⟩
  case round =>
    clear LA AA
    obtain ⟨k, N, o, j, d, hk, rfl, L, NF⟩ := hrel
    by_cases hlt : k < n
    · have i1 : (k : Int) < n := by omega
      by_cases h40 : k < 40
      · have i2 : (k : Int) < 40 := by omega
        obtain ⟨R, hR⟩ : ∃ R : Nat, j.from_ + j.half - j.next = R := ⟨_, rfl⟩
        have hsm := L.out.at_.small
        have hR2 : R + 1 ≤ hf := by have := NF.out; omega
        have hm := room_lv L.out (x := (R : Int)) (by rw [hR])
        go_wp2_with (fail)
        with_reducible refine hm.mono ?_
        rintro e w3 ⟨rfl, x3⟩
        have L3 := Lib.hid (L.out.then x3)
        have HRR := Lib.hid (show j.from_ + j.half - j.next = R ∧ j.next ≤ j.from_ + j.half by omega)
        clear hm x3 hR hsm
        obtain ⟨mk, hmk⟩ : ∃ mk : Nat, max (63 * ((R : Int) - 1)) 0 + 1 = (mk : Int) := ⟨(max (63 * ((R : Int) - 1)) 0 + 1).toNat, by omega⟩
        have hmk2 : mk ≤ 63 * 30 ∧ R < 1 + Jo.need mk := by unfold Jo.need; omega
        have r4 : (Instr.makeSlice 32 (.int .i64 (mk : Int)) (.int .i64 (mk : Int))).run Try.prog w3 = .ok (.slice (some ⟨w3.heap.size, 0, none⟩) mk mk) (w3.alloc (.cells (made5 mk (.int .u8 0)) 5)) := run_make5 w3 mk (by omega)
        have b4 := bs_made w3 mk (by omega)
        have x4 := Ext.alloc w3 (.cells (made5 mk (.int .u8 0)) 5)
        have s4 : w3.heap.size < (w3.alloc (.cells (made5 mk (.int .u8 0)) 5)).heap.size := by rw [World.size_alloc]; omega
        obtain ⟨w4, hw4⟩ : ∃ w4, w3.alloc (.cells (made5 mk (.int .u8 0)) 5) = w4 := ⟨_, rfl⟩
        rw [hw4] at r4 b4 x4 s4
        have L4 := Lib.hid (L3.out.then x4)
        have hap := app_full L4.out b4 (L3.out.fresh (Nat.le_refl _) s4) (by omega) (by rw [Jo.fits_app, List.length_replicate]; have := HRR.out; omega)
        clear hw4 b4 x4 s4 L3
        go_wp2_with (fail)
        with_reducible refine hap.mono ?_
        rintro e w5 ⟨rfl, x5⟩
        have L5 := Lib.hid (L4.out.then x5)
        clear hap x5 r4 L4 hmk hmk2
        have hm := room_lv L5.out (x := (R : Int)) (by rw [HRR.out.1])
        go_wp2_with (fail)
        with_reducible refine hm.mono ?_
        rintro e w6 ⟨rfl, x6⟩
        have L6 := Lib.hid (L5.out.then x6)
        clear hm x6 L5
        have t1 : ¬ (R : Int) < 0 := by omega
        have t2 : ¬ (hf : Int) - 1 < (R : Int) := by omega
        go_wp2_with (fail)
        clear t1 t2
        obtain ⟨bq, off, rfl, _⟩ := OS.out.load hlt
        have HC0 : RowKit.Hid (∀ Wx, Ext W Wx → Wx.cell? ⟨bq, off + k * 2, none⟩ = some (.int .i64 (q k).kind) ∧ Wx.cell? ⟨bq, off + k * 2 + 1, none⟩ = some (.slice (q k).A (q k).m (q k).c)) := Lib.hid fun Wx hx => by
          obtain ⟨b2, o2, e2, h0, h1, _⟩ := (OS.out.ext hx).at_ k hlt
          cases e2
          exact ⟨h0, h1⟩
        have L7 := Lib.hid (L6.out.then (Ext.drew w6))
        have X6 := Lib.hid (L6.out.ext.trans (Ext.drew w6))
        have HQ := Lib.hid (OS.out.bs hlt).1
        by_cases hfit : Jo.fits j (pick (q k).kind 3) ((q k).l.take 400)
        · have hdo := do_yes L7.out NF.out.1 (q k) HQ.out (N' := N + 8) (Nat.le_refl _) (by have := NF.out; unfold maxLen; omega) (by have := NF.out; omega) hfit
          have HDO := Lib.hid hdo
          clear hdo hfit
          have hS : (fun Wx : World => Hid (Ext W Wx)) w6.drew := X6
          refine wp_region_T (S := (fun Wx : World => Hid (Ext W Wx))) 5 rfl rfl ?_
          refine takeC [] (i := 0) (v := ?_) rfl (by kernel_rfl) (by kernel_rfl) (by kernel_rfl) (by kernel_rfl) (by decide) (fun _ _ _ h => h) (by kernel_rfl) (Or.inl ⟨by kernel_rfl, ?_⟩) (by assumption) ?_
          rotate_left
          · (intro W9 hSw; go_simp; (try with_reducible rfl))
          try simp only [Act.put, List.getElem_toArray, List.getElem_cons_succ, List.getElem_cons_zero, List.setIfInBounds_toArray, List.set_cons_zero, List.set_cons_succ]
          refine takeC [4,3] (i := 1) (v := ?_) rfl (by kernel_rfl) (by kernel_rfl) (by kernel_rfl) (by kernel_rfl) (by decide) (fun _ _ _ h => h) (by kernel_rfl) (Or.inl ⟨by kernel_rfl, ?_⟩) (by assumption) ?_
          rotate_left
          · (intro W9 hSw; go_simp; (try with_reducible rfl))
          try simp only [Act.put, List.getElem_toArray, List.getElem_cons_succ, List.getElem_cons_zero, List.setIfInBounds_toArray, List.set_cons_zero, List.set_cons_succ]
          refine takeC [4,3] (i := 2) (v := ?_) rfl (by kernel_rfl) (by kernel_rfl) (by kernel_rfl) (by kernel_rfl) (by decide) (fun _ _ _ h => h) (by kernel_rfl) (Or.inl ⟨by kernel_rfl, ?_⟩) (by assumption) ?_
          rotate_left
          · (intro W9 hSw; go_simp; (try with_reducible rfl))
          try simp only [Act.put, List.getElem_toArray, List.getElem_cons_succ, List.getElem_cons_zero, List.setIfInBounds_toArray, List.set_cons_zero, List.set_cons_succ]
          refine takeC [4] (i := 3) (v := ?_) rfl (by kernel_rfl) (by kernel_rfl) (by kernel_rfl) (by kernel_rfl) (by decide) (fun _ _ _ h => h) (by kernel_rfl) (Or.inl ⟨by kernel_rfl, ?_⟩) (by assumption) ?_
          rotate_left
          · (intro W9 hSw; go_simp; (try with_reducible rfl))
          try simp only [Act.put, List.getElem_toArray, List.getElem_cons_succ, List.getElem_cons_zero, List.setIfInBounds_toArray, List.set_cons_zero, List.set_cons_succ]
          refine takeC [] (i := 4) (v := ?_) rfl (by kernel_rfl) (by kernel_rfl) (by kernel_rfl) (by kernel_rfl) (by decide) (fun _ _ _ h => h) (by kernel_rfl) (Or.inl ⟨by kernel_rfl, ?_⟩) (by assumption) ?_
          rotate_left
          · (intro W9 hSw; (have a := (HC0.out _ hSw.out).1; have a2 := (HC0.out _ hSw.out).2; clear hSw; skip); go_simp; (try with_reducible rfl))
          try simp only [Act.put, List.getElem_toArray, List.getElem_cons_succ, List.getElem_cons_zero, List.setIfInBounds_toArray, List.set_cons_zero, List.set_cons_succ]
          refine oneT (i := 5) rfl (by kernel_rfl) (fun K hK => ?_)
          rw [if_pos (by kernel_rfl)]
          go_wp2_with (fail)
          with_reducible refine HDO.out.mono ?_
          rintro e w8 ⟨rfl, o8, d8, l8, a8, _, _⟩
          have L8 := Lib.hid l8
          have A8 := Lib.hid a8
          have hS8 : (fun Wx : World => Hid (Ext W Wx)) w8 := Lib.hid l8.ext
          clear l8 a8
          go_wp2_with (fail)
          refine hK.out _ _ (fun h => absurd (show true = false from h) (by decide)) ?_
          clear hK K
          try simp only [Act.put, List.getElem_toArray, List.getElem_cons_succ, List.getElem_cons_zero, List.setIfInBounds_toArray, List.set_cons_zero, List.set_cons_succ]
          refine oneT (i := 6) rfl (by kernel_rfl) (fun K hK => ?_)
          rw [if_pos (by kernel_rfl)]
          go_wp2_with (fail)
          refine hK.out _ _ (fun h => absurd (show true = false from h) (by decide)) ?_
          clear hK K
          try simp only [Act.put, List.getElem_toArray, List.getElem_cons_succ, List.getElem_cons_zero, List.setIfInBounds_toArray, List.set_cons_zero, List.set_cons_succ]
          refine oneT (i := 7) rfl (by kernel_rfl) (fun K hK => ?_)
          rw [if_pos (by kernel_rfl)]
          go_wp2_with (fail)
          refine hK.out _ _ (fun h => absurd (show true = false from h) (by decide)) ?_
          clear hK K
          try simp only [Act.put, List.getElem_toArray, List.getElem_cons_succ, List.getElem_cons_zero, List.setIfInBounds_toArray, List.set_cons_zero, List.set_cons_succ]
          refine pureT (i := 8) (v := undef) rfl (by kernel_rfl) (by kernel_rfl) (by kernel_rfl) (by decide) (fun _ _ _ h => h) (Or.inr ⟨by kernel_rfl, rfl⟩) (fun h => absurd (show true = false from h) (by decide)) ?_
          try simp only [Act.put, List.getElem_toArray, List.getElem_cons_succ, List.getElem_cons_zero, List.setIfInBounds_toArray, List.set_cons_zero, List.set_cons_succ]
          refine pureT (i := 9) (v := undef) rfl (by kernel_rfl) (by kernel_rfl) (by kernel_rfl) (by decide) (fun _ _ _ h => h) (Or.inr ⟨by kernel_rfl, rfl⟩) (fun h => absurd (show true = false from h) (by decide)) ?_
          try simp only [Act.put, List.getElem_toArray, List.getElem_cons_succ, List.getElem_cons_zero, List.setIfInBounds_toArray, List.set_cons_zero, List.set_cons_succ]
          refine pureT (i := 10) (v := undef) rfl (by kernel_rfl) (by kernel_rfl) (by kernel_rfl) (by decide) (fun _ _ _ h => h) (Or.inr ⟨by kernel_rfl, rfl⟩) (fun h => absurd (show true = false from h) (by decide)) ?_
          try simp only [Act.put, List.getElem_toArray, List.getElem_cons_succ, List.getElem_cons_zero, List.setIfInBounds_toArray, List.set_cons_zero, List.set_cons_succ]
          refine pureT (i := 11) (v := undef) rfl (by kernel_rfl) (by kernel_rfl) (by kernel_rfl) (by decide) (fun _ _ _ h => h) (Or.inr ⟨by kernel_rfl, rfl⟩) (fun h => absurd (show true = false from h) (by decide)) ?_
          try simp only [Act.put, List.getElem_toArray, List.getElem_cons_succ, List.getElem_cons_zero, List.setIfInBounds_toArray, List.set_cons_zero, List.set_cons_succ]
          refine pureT (i := 12) (v := undef) rfl (by kernel_rfl) (by kernel_rfl) (by kernel_rfl) (by decide) (fun _ _ _ h => h) (Or.inr ⟨by kernel_rfl, rfl⟩) (fun h => absurd (show true = false from h) (by decide)) ?_
          try simp only [Act.put, List.getElem_toArray, List.getElem_cons_succ, List.getElem_cons_zero, List.setIfInBounds_toArray, List.set_cons_zero, List.set_cons_succ]
          refine pureT (i := 13) (v := undef) rfl (by kernel_rfl) (by kernel_rfl) (by kernel_rfl) (by decide) (fun _ _ _ h => h) (Or.inr ⟨by kernel_rfl, rfl⟩) (fun h => absurd (show true = false from h) (by decide)) ?_
          try simp only [Act.put, List.getElem_toArray, List.getElem_cons_succ, List.getElem_cons_zero, List.setIfInBounds_toArray, List.set_cons_zero, List.set_cons_succ]
          refine pureT (i := 14) (v := undef) rfl (by kernel_rfl) (by kernel_rfl) (by kernel_rfl) (by decide) (fun _ _ _ h => h) (Or.inr ⟨by kernel_rfl, rfl⟩) (fun h => absurd (show true = false from h) (by decide)) ?_
          try simp only [Act.put, List.getElem_toArray, List.getElem_cons_succ, List.getElem_cons_zero, List.setIfInBounds_toArray, List.set_cons_zero, List.set_cons_succ]
          refine oneT (i := 15) rfl (by kernel_rfl) (fun K hK => ?_)
          rw [if_pos (by kernel_rfl)]
          go_wp2_with (fail)
          refine hK.out _ _ (fun h => absurd (show true = false from h) (by decide)) ?_
          clear hK K
          try simp only [Act.put, List.getElem_toArray, List.getElem_cons_succ, List.getElem_cons_zero, List.setIfInBounds_toArray, List.set_cons_zero, List.set_cons_succ]
          refine oneT (i := 16) rfl (by kernel_rfl) (fun K hK => ?_)
          rw [if_pos (by kernel_rfl)]
          go_wp2_with (fail)
          refine hK.out _ _ (fun h => absurd (show true = false from h) (by decide)) ?_
          clear hK K
          try simp only [Act.put, List.getElem_toArray, List.getElem_cons_succ, List.getElem_cons_zero, List.setIfInBounds_toArray, List.set_cons_zero, List.set_cons_succ]
          refine pureT (i := 17) (v := undef) rfl (by kernel_rfl) (by kernel_rfl) (by kernel_rfl) (by decide) (fun _ _ _ h => h) (Or.inr ⟨by kernel_rfl, rfl⟩) (fun h => absurd (show true = false from h) (by decide)) ?_
          try simp only [Act.put, List.getElem_toArray, List.getElem_cons_succ, List.getElem_cons_zero, List.setIfInBounds_toArray, List.set_cons_zero, List.set_cons_succ]
          refine pureT (i := 18) (v := undef) rfl (by kernel_rfl) (by kernel_rfl) (by kernel_rfl) (by decide) (fun _ _ _ h => h) (Or.inr ⟨by kernel_rfl, rfl⟩) (fun h => absurd (show true = false from h) (by decide)) ?_
          try simp only [Act.put, List.getElem_toArray, List.getElem_cons_succ, List.getElem_cons_zero, List.setIfInBounds_toArray, List.set_cons_zero, List.set_cons_succ]
          refine pureT (i := 19) (v := undef) rfl (by kernel_rfl) (by kernel_rfl) (by kernel_rfl) (by decide) (fun _ _ _ h => h) (Or.inr ⟨by kernel_rfl, rfl⟩) (fun h => absurd (show true = false from h) (by decide)) ?_
          try simp only [Act.put, List.getElem_toArray, List.getElem_cons_succ, List.getElem_cons_zero, List.setIfInBounds_toArray, List.set_cons_zero, List.set_cons_succ]
          refine pureT (i := 20) (v := undef) rfl (by kernel_rfl) (by kernel_rfl) (by kernel_rfl) (by decide) (fun _ _ _ h => h) (Or.inr ⟨by kernel_rfl, rfl⟩) (fun h => absurd (show true = false from h) (by decide)) ?_
          try simp only [Act.put, List.getElem_toArray, List.getElem_cons_succ, List.getElem_cons_zero, List.setIfInBounds_toArray, List.set_cons_zero, List.set_cons_succ]
          refine pureT (i := 21) (v := undef) rfl (by kernel_rfl) (by kernel_rfl) (by kernel_rfl) (by decide) (fun _ _ _ h => h) (Or.inr ⟨by kernel_rfl, rfl⟩) (fun h => absurd (show true = false from h) (by decide)) ?_
          try simp only [Act.put, List.getElem_toArray, List.getElem_cons_succ, List.getElem_cons_zero, List.setIfInBounds_toArray, List.set_cons_zero, List.set_cons_succ]
          refine pureT (i := 22) (v := undef) rfl (by kernel_rfl) (by kernel_rfl) (by kernel_rfl) (by decide) (fun _ _ _ h => h) (Or.inr ⟨by kernel_rfl, rfl⟩) (fun h => absurd (show true = false from h) (by decide)) ?_
          try simp only [Act.put, List.getElem_toArray, List.getElem_cons_succ, List.getElem_cons_zero, List.setIfInBounds_toArray, List.set_cons_zero, List.set_cons_succ]
          refine pureT (i := 23) (v := undef) rfl (by kernel_rfl) (by kernel_rfl) (by kernel_rfl) (by decide) (fun _ _ _ h => h) (Or.inr ⟨by kernel_rfl, rfl⟩) (fun h => absurd (show true = false from h) (by decide)) ?_
          try simp only [Act.put, List.getElem_toArray, List.getElem_cons_succ, List.getElem_cons_zero, List.setIfInBounds_toArray, List.set_cons_zero, List.set_cons_succ]
          refine pureT (i := 24) (v := undef) rfl (by kernel_rfl) (by kernel_rfl) (by kernel_rfl) (by decide) (fun _ _ _ h => h) (Or.inr ⟨by kernel_rfl, rfl⟩) (fun h => absurd (show true = false from h) (by decide)) ?_
          try simp only [Act.put, List.getElem_toArray, List.getElem_cons_succ, List.getElem_cons_zero, List.setIfInBounds_toArray, List.set_cons_zero, List.set_cons_succ]
          refine pureT (i := 25) (v := undef) rfl (by kernel_rfl) (by kernel_rfl) (by kernel_rfl) (by decide) (fun _ _ _ h => h) (Or.inr ⟨by kernel_rfl, rfl⟩) (fun h => absurd (show true = false from h) (by decide)) ?_
          try simp only [Act.put, List.getElem_toArray, List.getElem_cons_succ, List.getElem_cons_zero, List.setIfInBounds_toArray, List.set_cons_zero, List.set_cons_succ]
          refine pureT (i := 26) (v := undef) rfl (by kernel_rfl) (by kernel_rfl) (by kernel_rfl) (by decide) (fun _ _ _ h => h) (Or.inr ⟨by kernel_rfl, rfl⟩) (fun h => absurd (show true = false from h) (by decide)) ?_
          try simp only [Act.put, List.getElem_toArray, List.getElem_cons_succ, List.getElem_cons_zero, List.setIfInBounds_toArray, List.set_cons_zero, List.set_cons_succ]
          refine pureT (i := 27) (v := undef) rfl (by kernel_rfl) (by kernel_rfl) (by kernel_rfl) (by decide) (fun _ _ _ h => h) (Or.inr ⟨by kernel_rfl, rfl⟩) (fun h => absurd (show true = false from h) (by decide)) ?_
          try simp only [Act.put, List.getElem_toArray, List.getElem_cons_succ, List.getElem_cons_zero, List.setIfInBounds_toArray, List.set_cons_zero, List.set_cons_succ]
          refine pureT (i := 28) (v := undef) rfl (by kernel_rfl) (by kernel_rfl) (by kernel_rfl) (by decide) (fun _ _ _ h => h) (Or.inr ⟨by kernel_rfl, rfl⟩) (fun h => absurd (show true = false from h) (by decide)) ?_
          try simp only [Act.put, List.getElem_toArray, List.getElem_cons_succ, List.getElem_cons_zero, List.setIfInBounds_toArray, List.set_cons_zero, List.set_cons_succ]
          refine oneT (i := 29) rfl (by kernel_rfl) (fun K hK => ?_)
          rw [if_pos (by kernel_rfl)]
          go_wp2_with (fail)
          refine hK.out _ _ (fun h => absurd (show true = false from h) (by decide)) ?_
          clear hK K
          try simp only [Act.put, List.getElem_toArray, List.getElem_cons_succ, List.getElem_cons_zero, List.setIfInBounds_toArray, List.set_cons_zero, List.set_cons_succ]
          refine doneT (by kernel_rfl) ?_ _
          clear HC0 HDO L7 X6 hS hS8
          go_wp2_with (fail)
          exact ⟨⟨k + 1, N + 8, o8, _, d8, by omega, by go_num, L8, Lib.hid (by have h1 := NF.out; have h2 := doJ_life j (pick (q k).kind 3) ((q k).l.take 400); exact ⟨A8.out, by omega, by omega, by omega, by rw [doJ_half]; exact h1.2.2.2.2⟩)⟩, by simp [intOf]; omega⟩
        · have hdo := do_not L7.out NF.out.1 (q k) HQ.out (N' := N + 8) (Nat.le_refl _) (by have := NF.out; unfold maxLen; omega) (by have := NF.out; omega) hfit
          have HDO := Lib.hid hdo
          have HPK : RowKit.Hid (∀ Wx, Calls Try.prog 14 #[.int .i64 (q k).kind, .int .i64 3] Wx fun r w' => r = .returned (.int .i64 (pick (q k).kind 3)) ∧ Wx = w') := Lib.hid fun Wx => pick_any Wx (q k).kind 3 (by omega)
          have HFT := Lib.hid hfit
          clear hdo hfit
          by_cases hk2 : pick (q k).kind 3 = 2
          · rw [hk2] at HPK HFT
            have HK2 := Lib.hid hk2
            clear hk2
            have hS : (fun Wx : World => Hid (Ext W Wx)) w6.drew := X6
            refine wp_region_T (S := (fun Wx : World => Hid (Ext W Wx))) 13 rfl rfl ?_
            refine takeC [7,5] (i := 0) (v := ?_) rfl (by kernel_rfl) (by kernel_rfl) (by kernel_rfl) (by kernel_rfl) (by decide) (fun _ _ _ h => h) (by kernel_rfl) (Or.inl ⟨by kernel_rfl, ?_⟩) (by assumption) ?_
            rotate_left
            · (intro W9 hSw; go_simp; (try with_reducible rfl))
            try simp only [Act.put, List.getElem_toArray, List.getElem_cons_succ, List.getElem_cons_zero, List.setIfInBounds_toArray, List.set_cons_zero, List.set_cons_succ]
            refine takeC [7,5,4,3] (i := 1) (v := ?_) rfl (by kernel_rfl) (by kernel_rfl) (by kernel_rfl) (by kernel_rfl) (by decide) (fun _ _ _ h => h) (by kernel_rfl) (Or.inl ⟨by kernel_rfl, ?_⟩) (by assumption) ?_
            rotate_left
            · (intro W9 hSw; go_simp; (try with_reducible rfl))
            try simp only [Act.put, List.getElem_toArray, List.getElem_cons_succ, List.getElem_cons_zero, List.setIfInBounds_toArray, List.set_cons_zero, List.set_cons_succ]
            refine takeC [7,5,4,3] (i := 2) (v := ?_) rfl (by kernel_rfl) (by kernel_rfl) (by kernel_rfl) (by kernel_rfl) (by decide) (fun _ _ _ h => h) (by kernel_rfl) (Or.inl ⟨by kernel_rfl, ?_⟩) (by assumption) ?_
            rotate_left
            · (intro W9 hSw; go_simp; (try with_reducible rfl))
            try simp only [Act.put, List.getElem_toArray, List.getElem_cons_succ, List.getElem_cons_zero, List.setIfInBounds_toArray, List.set_cons_zero, List.set_cons_succ]
            refine takeC [7,5,4] (i := 3) (v := ?_) rfl (by kernel_rfl) (by kernel_rfl) (by kernel_rfl) (by kernel_rfl) (by decide) (fun _ _ _ h => h) (by kernel_rfl) (Or.inl ⟨by kernel_rfl, ?_⟩) (by assumption) ?_
            rotate_left
            · (intro W9 hSw; go_simp; (try with_reducible rfl))
            try simp only [Act.put, List.getElem_toArray, List.getElem_cons_succ, List.getElem_cons_zero, List.setIfInBounds_toArray, List.set_cons_zero, List.set_cons_succ]
            refine takeC [7,5] (i := 4) (v := ?_) rfl (by kernel_rfl) (by kernel_rfl) (by kernel_rfl) (by kernel_rfl) (by decide) (fun _ _ _ h => h) (by kernel_rfl) (Or.inl ⟨by kernel_rfl, ?_⟩) (by assumption) ?_
            rotate_left
            · (intro W9 hSw; (have a := (HC0.out _ hSw.out).1; have a2 := (HC0.out _ hSw.out).2; clear hSw; skip); go_simp; (try with_reducible rfl))
            try simp only [Act.put, List.getElem_toArray, List.getElem_cons_succ, List.getElem_cons_zero, List.setIfInBounds_toArray, List.set_cons_zero, List.set_cons_succ]
            refine oneT (i := 5) rfl (by kernel_rfl) (fun K hK => ?_)
            rw [if_pos (by kernel_rfl)]
            go_wp2_with (fail)
            with_reducible refine HDO.out.mono ?_
            rintro e w8 ⟨rfl, o8, d8, l8, a8, _, _⟩
            have L8 := Lib.hid l8
            have A8 := Lib.hid a8
            have hS8 : (fun Wx : World => Hid (Ext W Wx)) w8 := Lib.hid l8.ext
            clear l8 a8
            go_wp2_with (fail)
            refine hK.out _ _ (fun _ => hS8) ?_
            clear hK K
            try simp only [Act.put, List.getElem_toArray, List.getElem_cons_succ, List.getElem_cons_zero, List.setIfInBounds_toArray, List.set_cons_zero, List.set_cons_succ]
            refine takeC [7] (i := 6) (v := ?_) rfl (by kernel_rfl) (by kernel_rfl) (by kernel_rfl) (by kernel_rfl) (by decide) (fun _ _ _ h => h) (by kernel_rfl) (Or.inl ⟨by kernel_rfl, ?_⟩) (by assumption) ?_
            rotate_left
            · (intro W9 hSw; go_simp; (try with_reducible rfl))
            try simp only [Act.put, List.getElem_toArray, List.getElem_cons_succ, List.getElem_cons_zero, List.setIfInBounds_toArray, List.set_cons_zero, List.set_cons_succ]
            refine takeC [] (i := 7) (v := ?_) rfl (by kernel_rfl) (by kernel_rfl) (by kernel_rfl) (by kernel_rfl) (by decide) (fun _ _ _ h => h) (by kernel_rfl) (Or.inl ⟨by kernel_rfl, ?_⟩) (by assumption) ?_
            rotate_left
            · (intro W9 hSw; go_simp; (try with_reducible rfl))
            try simp only [Act.put, List.getElem_toArray, List.getElem_cons_succ, List.getElem_cons_zero, List.setIfInBounds_toArray, List.set_cons_zero, List.set_cons_succ]
            refine takeC [12,11,10] (i := 8) (v := ?_) rfl (by kernel_rfl) (by kernel_rfl) (by kernel_rfl) (by kernel_rfl) (by decide) (fun _ _ _ h => h) (by kernel_rfl) (Or.inl ⟨by kernel_rfl, ?_⟩) (by assumption) ?_
            rotate_left
            · (intro W9 hSw; go_simp; (try with_reducible rfl))
            try simp only [Act.put, List.getElem_toArray, List.getElem_cons_succ, List.getElem_cons_zero, List.setIfInBounds_toArray, List.set_cons_zero, List.set_cons_succ]
            refine takeC [12,11,10] (i := 9) (v := ?_) rfl (by kernel_rfl) (by kernel_rfl) (by kernel_rfl) (by kernel_rfl) (by decide) (fun _ _ _ h => h) (by kernel_rfl) (Or.inl ⟨by kernel_rfl, ?_⟩) (by assumption) ?_
            rotate_left
            · (intro W9 hSw; go_simp; (try with_reducible rfl))
            try simp only [Act.put, List.getElem_toArray, List.getElem_cons_succ, List.getElem_cons_zero, List.setIfInBounds_toArray, List.set_cons_zero, List.set_cons_succ]
            refine takeC [12,11] (i := 10) (v := ?_) rfl (by kernel_rfl) (by kernel_rfl) (by kernel_rfl) (by kernel_rfl) (by decide) (fun _ _ _ h => h) (by kernel_rfl) (Or.inl ⟨by kernel_rfl, ?_⟩) (by assumption) ?_
            rotate_left
            · (intro W9 hSw; go_simp; (try with_reducible rfl))
            try simp only [Act.put, List.getElem_toArray, List.getElem_cons_succ, List.getElem_cons_zero, List.setIfInBounds_toArray, List.set_cons_zero, List.set_cons_succ]
            refine takeC [12] (i := 11) (v := ?_) rfl (by kernel_rfl) (by kernel_rfl) (by kernel_rfl) (by kernel_rfl) (by decide) (fun _ _ _ h => h) (by kernel_rfl) (Or.inl ⟨by kernel_rfl, ?_⟩) (by assumption) ?_
            rotate_left
            · (intro W9 hSw; go_simp; (try with_reducible rfl))
            try simp only [Act.put, List.getElem_toArray, List.getElem_cons_succ, List.getElem_cons_zero, List.setIfInBounds_toArray, List.set_cons_zero, List.set_cons_succ]
            refine takeC [] (i := 12) (v := ?_) rfl (by kernel_rfl) (by kernel_rfl) (by kernel_rfl) (by kernel_rfl) (by decide) (fun _ _ _ h => h) (by kernel_rfl) (Or.inl ⟨by kernel_rfl, ?_⟩) (by assumption) ?_
            rotate_left
            · (intro W9 hSw; (have a := (HC0.out _ hSw.out).1; clear hSw; skip); go_simp; (try with_reducible rfl))
            try simp only [Act.put, List.getElem_toArray, List.getElem_cons_succ, List.getElem_cons_zero, List.setIfInBounds_toArray, List.set_cons_zero, List.set_cons_succ]
            refine oneT (i := 13) rfl (by kernel_rfl) (fun K hK => ?_)
            rw [if_pos (by kernel_rfl)]
            go_wp2_with (fail)
            with_reducible refine (HPK.out w8).mono ?_
            rintro e wp ⟨rfl, rfl⟩
            go_wp2_with (fail)
            refine hK.out _ _ (fun h => absurd (show true = false from h) (by decide)) ?_
            clear hK K
            try simp only [Act.put, List.getElem_toArray, List.getElem_cons_succ, List.getElem_cons_zero, List.setIfInBounds_toArray, List.set_cons_zero, List.set_cons_succ]
            refine oneT (i := 14) rfl (by kernel_rfl) (fun K hK => ?_)
            rw [if_pos (by kernel_rfl)]
            go_wp2_with (fail)
            refine hK.out _ _ (fun h => absurd (show true = false from h) (by decide)) ?_
            clear hK K
            try simp only [Act.put, List.getElem_toArray, List.getElem_cons_succ, List.getElem_cons_zero, List.setIfInBounds_toArray, List.set_cons_zero, List.set_cons_succ]
            refine oneT (i := 15) rfl (by kernel_rfl) (fun K hK => ?_)
            rw [if_pos (by kernel_rfl)]
            go_wp2_with (fail)
            refine hK.out _ _ (fun h => absurd (show true = false from h) (by decide)) ?_
            clear hK K
            try simp only [Act.put, List.getElem_toArray, List.getElem_cons_succ, List.getElem_cons_zero, List.setIfInBounds_toArray, List.set_cons_zero, List.set_cons_succ]
            refine oneT (i := 16) rfl (by kernel_rfl) (fun K hK => ?_)
            rw [if_pos (by kernel_rfl)]
            go_wp2_with (fail)
            refine hK.out _ _ (fun h => absurd (show true = false from h) (by decide)) ?_
            clear hK K
            try simp only [Act.put, List.getElem_toArray, List.getElem_cons_succ, List.getElem_cons_zero, List.setIfInBounds_toArray, List.set_cons_zero, List.set_cons_succ]
            refine pureT (i := 17) (v := undef) rfl (by kernel_rfl) (by kernel_rfl) (by kernel_rfl) (by decide) (fun _ _ _ h => h) (Or.inr ⟨by kernel_rfl, rfl⟩) (fun h => absurd (show true = false from h) (by decide)) ?_
            try simp only [Act.put, List.getElem_toArray, List.getElem_cons_succ, List.getElem_cons_zero, List.setIfInBounds_toArray, List.set_cons_zero, List.set_cons_succ]
            refine pureT (i := 18) (v := undef) rfl (by kernel_rfl) (by kernel_rfl) (by kernel_rfl) (by decide) (fun _ _ _ h => h) (Or.inr ⟨by kernel_rfl, rfl⟩) (fun h => absurd (show true = false from h) (by decide)) ?_
            try simp only [Act.put, List.getElem_toArray, List.getElem_cons_succ, List.getElem_cons_zero, List.setIfInBounds_toArray, List.set_cons_zero, List.set_cons_succ]
            refine pureT (i := 19) (v := undef) rfl (by kernel_rfl) (by kernel_rfl) (by kernel_rfl) (by decide) (fun _ _ _ h => h) (Or.inr ⟨by kernel_rfl, rfl⟩) (fun h => absurd (show true = false from h) (by decide)) ?_
            try simp only [Act.put, List.getElem_toArray, List.getElem_cons_succ, List.getElem_cons_zero, List.setIfInBounds_toArray, List.set_cons_zero, List.set_cons_succ]
            refine pureT (i := 20) (v := undef) rfl (by kernel_rfl) (by kernel_rfl) (by kernel_rfl) (by decide) (fun _ _ _ h => h) (Or.inr ⟨by kernel_rfl, rfl⟩) (fun h => absurd (show true = false from h) (by decide)) ?_
            try simp only [Act.put, List.getElem_toArray, List.getElem_cons_succ, List.getElem_cons_zero, List.setIfInBounds_toArray, List.set_cons_zero, List.set_cons_succ]
            refine pureT (i := 21) (v := undef) rfl (by kernel_rfl) (by kernel_rfl) (by kernel_rfl) (by decide) (fun _ _ _ h => h) (Or.inr ⟨by kernel_rfl, rfl⟩) (fun h => absurd (show true = false from h) (by decide)) ?_
            try simp only [Act.put, List.getElem_toArray, List.getElem_cons_succ, List.getElem_cons_zero, List.setIfInBounds_toArray, List.set_cons_zero, List.set_cons_succ]
            refine pureT (i := 22) (v := undef) rfl (by kernel_rfl) (by kernel_rfl) (by kernel_rfl) (by decide) (fun _ _ _ h => h) (Or.inr ⟨by kernel_rfl, rfl⟩) (fun h => absurd (show true = false from h) (by decide)) ?_
            try simp only [Act.put, List.getElem_toArray, List.getElem_cons_succ, List.getElem_cons_zero, List.setIfInBounds_toArray, List.set_cons_zero, List.set_cons_succ]
            refine pureT (i := 23) (v := undef) rfl (by kernel_rfl) (by kernel_rfl) (by kernel_rfl) (by decide) (fun _ _ _ h => h) (Or.inr ⟨by kernel_rfl, rfl⟩) (fun h => absurd (show true = false from h) (by decide)) ?_
            try simp only [Act.put, List.getElem_toArray, List.getElem_cons_succ, List.getElem_cons_zero, List.setIfInBounds_toArray, List.set_cons_zero, List.set_cons_succ]
            refine pureT (i := 24) (v := undef) rfl (by kernel_rfl) (by kernel_rfl) (by kernel_rfl) (by decide) (fun _ _ _ h => h) (Or.inr ⟨by kernel_rfl, rfl⟩) (fun h => absurd (show true = false from h) (by decide)) ?_
            try simp only [Act.put, List.getElem_toArray, List.getElem_cons_succ, List.getElem_cons_zero, List.setIfInBounds_toArray, List.set_cons_zero, List.set_cons_succ]
            refine pureT (i := 25) (v := undef) rfl (by kernel_rfl) (by kernel_rfl) (by kernel_rfl) (by decide) (fun _ _ _ h => h) (Or.inr ⟨by kernel_rfl, rfl⟩) (fun h => absurd (show true = false from h) (by decide)) ?_
            try simp only [Act.put, List.getElem_toArray, List.getElem_cons_succ, List.getElem_cons_zero, List.setIfInBounds_toArray, List.set_cons_zero, List.set_cons_succ]
            refine pureT (i := 26) (v := undef) rfl (by kernel_rfl) (by kernel_rfl) (by kernel_rfl) (by decide) (fun _ _ _ h => h) (Or.inr ⟨by kernel_rfl, rfl⟩) (fun h => absurd (show true = false from h) (by decide)) ?_
            try simp only [Act.put, List.getElem_toArray, List.getElem_cons_succ, List.getElem_cons_zero, List.setIfInBounds_toArray, List.set_cons_zero, List.set_cons_succ]
            refine pureT (i := 27) (v := undef) rfl (by kernel_rfl) (by kernel_rfl) (by kernel_rfl) (by decide) (fun _ _ _ h => h) (Or.inr ⟨by kernel_rfl, rfl⟩) (fun h => absurd (show true = false from h) (by decide)) ?_
            try simp only [Act.put, List.getElem_toArray, List.getElem_cons_succ, List.getElem_cons_zero, List.setIfInBounds_toArray, List.set_cons_zero, List.set_cons_succ]
            refine pureT (i := 28) (v := undef) rfl (by kernel_rfl) (by kernel_rfl) (by kernel_rfl) (by decide) (fun _ _ _ h => h) (Or.inr ⟨by kernel_rfl, rfl⟩) (fun h => absurd (show true = false from h) (by decide)) ?_
            try simp only [Act.put, List.getElem_toArray, List.getElem_cons_succ, List.getElem_cons_zero, List.setIfInBounds_toArray, List.set_cons_zero, List.set_cons_succ]
            refine oneT (i := 29) rfl (by kernel_rfl) (fun K hK => ?_)
            rw [if_pos (by kernel_rfl)]
            go_wp2_with (fail)
            refine hK.out _ _ (fun h => absurd (show true = false from h) (by decide)) ?_
            clear hK K
            try simp only [Act.put, List.getElem_toArray, List.getElem_cons_succ, List.getElem_cons_zero, List.setIfInBounds_toArray, List.set_cons_zero, List.set_cons_succ]
            refine doneT (by kernel_rfl) ?_ _
            clear HC0 HDO L7 X6 hS hS8 HPK HFT
            go_wp2_with (fail)
            exact ⟨⟨k + 1, N + 8, o8, _, d8, by omega, by go_num, L8, Lib.hid (by have h1 := NF.out; exact ⟨A8.out, by omega, by omega, by omega, h1.2.2.2.2⟩)⟩, by simp [intOf]; omega⟩
          · have e2 : (pick (q k).kind 3 != 2) = true := by rw [bne_iff_ne]; exact hk2
            obtain ⟨mm, hmm⟩ : ∃ mm, min (q k).m 400 = mm := ⟨_, rfl⟩
            have hsh := fun Wx (hx : Ext W Wx) => short_any Wx (q k).A (q k).m (q k).c (q k).l (HQ.out.ext hx)
            rw [hmm] at hsh
            obtain ⟨nd, hnd⟩ : ∃ nd, Jo.need mm = nd := ⟨_, rfl⟩
            have EN : ((mm : Int) + 62).tdiv 63 = (nd : Int) := by rw [← hnd, Int.tdiv_eq_ediv_of_nonneg (by omega)]; unfold Jo.need; omega
            have tR : ¬ (nd : Int) < (R : Int) := by
              have h1 := HFT.out
              have h2 := HRR.out
              have h3 : ((q k).l.take 400).length = mm := by rw [List.length_take, ← hmm, HQ.out.len]; omega
              unfold Jo.fits at h1
              rw [if_neg hk2, h3, hnd] at h1
              omega
            have hmm4 : mm ≤ 400 := by omega
            have hnd4 : nd ≤ 400 := by rw [← hnd]; unfold Jo.need; omega
            have HSH := Lib.hid hsh
            have HK2 := Lib.hid hk2
            clear hk2 hsh hmm hnd
            have hS : (fun Wx : World => Hid (Ext W Wx)) w6.drew := X6
            refine wp_region_T (S := (fun Wx : World => Hid (Ext W Wx))) 24 rfl rfl ?_
            refine takeC [16,15,7,5] (i := 0) (v := ?_) rfl (by kernel_rfl) (by kernel_rfl) (by kernel_rfl) (by kernel_rfl) (by decide) (fun _ _ _ h => h) (by kernel_rfl) (Or.inl ⟨by kernel_rfl, ?_⟩) (by assumption) ?_
            rotate_left
            · (intro W9 hSw; go_simp; (try with_reducible rfl))
            try simp only [Act.put, List.getElem_toArray, List.getElem_cons_succ, List.getElem_cons_zero, List.setIfInBounds_toArray, List.set_cons_zero, List.set_cons_succ]
            refine takeC [16,15,7,5,4,3] (i := 1) (v := ?_) rfl (by kernel_rfl) (by kernel_rfl) (by kernel_rfl) (by kernel_rfl) (by decide) (fun _ _ _ h => h) (by kernel_rfl) (Or.inl ⟨by kernel_rfl, ?_⟩) (by assumption) ?_
            rotate_left
            · (intro W9 hSw; go_simp; (try with_reducible rfl))
            try simp only [Act.put, List.getElem_toArray, List.getElem_cons_succ, List.getElem_cons_zero, List.setIfInBounds_toArray, List.set_cons_zero, List.set_cons_succ]
            refine takeC [16,15,7,5,4,3] (i := 2) (v := ?_) rfl (by kernel_rfl) (by kernel_rfl) (by kernel_rfl) (by kernel_rfl) (by decide) (fun _ _ _ h => h) (by kernel_rfl) (Or.inl ⟨by kernel_rfl, ?_⟩) (by assumption) ?_
            rotate_left
            · (intro W9 hSw; go_simp; (try with_reducible rfl))
            try simp only [Act.put, List.getElem_toArray, List.getElem_cons_succ, List.getElem_cons_zero, List.setIfInBounds_toArray, List.set_cons_zero, List.set_cons_succ]
            refine takeC [16,15,7,5,4] (i := 3) (v := ?_) rfl (by kernel_rfl) (by kernel_rfl) (by kernel_rfl) (by kernel_rfl) (by decide) (fun _ _ _ h => h) (by kernel_rfl) (Or.inl ⟨by kernel_rfl, ?_⟩) (by assumption) ?_
            rotate_left
            · (intro W9 hSw; go_simp; (try with_reducible rfl))
            try simp only [Act.put, List.getElem_toArray, List.getElem_cons_succ, List.getElem_cons_zero, List.setIfInBounds_toArray, List.set_cons_zero, List.set_cons_succ]
            refine takeC [16,15,7,5] (i := 4) (v := ?_) rfl (by kernel_rfl) (by kernel_rfl) (by kernel_rfl) (by kernel_rfl) (by decide) (fun _ _ _ h => h) (by kernel_rfl) (Or.inl ⟨by kernel_rfl, ?_⟩) (by assumption) ?_
            rotate_left
            · (intro W9 hSw; (have a := (HC0.out _ hSw.out).1; have a2 := (HC0.out _ hSw.out).2; clear hSw; skip); go_simp; (try with_reducible rfl))
            try simp only [Act.put, List.getElem_toArray, List.getElem_cons_succ, List.getElem_cons_zero, List.setIfInBounds_toArray, List.set_cons_zero, List.set_cons_succ]
            refine oneT (i := 5) rfl (by kernel_rfl) (fun K hK => ?_)
            rw [if_pos (by kernel_rfl)]
            go_wp2_with (fail)
            with_reducible refine HDO.out.mono ?_
            rintro e w8 ⟨rfl, o8, d8, l8, a8, _, _⟩
            have L8 := Lib.hid l8
            have A8 := Lib.hid a8
            have hS8 : (fun Wx : World => Hid (Ext W Wx)) w8 := Lib.hid l8.ext
            clear l8 a8
            go_wp2_with (fail)
            refine hK.out _ _ (fun _ => hS8) ?_
            clear hK K
            try simp only [Act.put, List.getElem_toArray, List.getElem_cons_succ, List.getElem_cons_zero, List.setIfInBounds_toArray, List.set_cons_zero, List.set_cons_succ]
            refine takeC [16,15,7] (i := 6) (v := ?_) rfl (by kernel_rfl) (by kernel_rfl) (by kernel_rfl) (by kernel_rfl) (by decide) (fun _ _ _ h => h) (by kernel_rfl) (Or.inl ⟨by kernel_rfl, ?_⟩) (by assumption) ?_
            rotate_left
            · (intro W9 hSw; go_simp; (try with_reducible rfl))
            try simp only [Act.put, List.getElem_toArray, List.getElem_cons_succ, List.getElem_cons_zero, List.setIfInBounds_toArray, List.set_cons_zero, List.set_cons_succ]
            refine takeC [16,15] (i := 7) (v := ?_) rfl (by kernel_rfl) (by kernel_rfl) (by kernel_rfl) (by kernel_rfl) (by decide) (fun _ _ _ h => h) (by kernel_rfl) (Or.inl ⟨by kernel_rfl, ?_⟩) (by assumption) ?_
            rotate_left
            · (intro W9 hSw; go_simp; (try with_reducible rfl))
            try simp only [Act.put, List.getElem_toArray, List.getElem_cons_succ, List.getElem_cons_zero, List.setIfInBounds_toArray, List.set_cons_zero, List.set_cons_succ]
            refine takeC [16,13,12,11,10] (i := 8) (v := ?_) rfl (by kernel_rfl) (by kernel_rfl) (by kernel_rfl) (by kernel_rfl) (by decide) (fun _ _ _ h => h) (by kernel_rfl) (Or.inl ⟨by kernel_rfl, ?_⟩) (by assumption) ?_
            rotate_left
            · (intro W9 hSw; go_simp; (try with_reducible rfl))
            try simp only [Act.put, List.getElem_toArray, List.getElem_cons_succ, List.getElem_cons_zero, List.setIfInBounds_toArray, List.set_cons_zero, List.set_cons_succ]
            refine takeC [16,13,12,11,10] (i := 9) (v := ?_) rfl (by kernel_rfl) (by kernel_rfl) (by kernel_rfl) (by kernel_rfl) (by decide) (fun _ _ _ h => h) (by kernel_rfl) (Or.inl ⟨by kernel_rfl, ?_⟩) (by assumption) ?_
            rotate_left
            · (intro W9 hSw; go_simp; (try with_reducible rfl))
            try simp only [Act.put, List.getElem_toArray, List.getElem_cons_succ, List.getElem_cons_zero, List.setIfInBounds_toArray, List.set_cons_zero, List.set_cons_succ]
            refine takeC [16,13,12,11] (i := 10) (v := ?_) rfl (by kernel_rfl) (by kernel_rfl) (by kernel_rfl) (by kernel_rfl) (by decide) (fun _ _ _ h => h) (by kernel_rfl) (Or.inl ⟨by kernel_rfl, ?_⟩) (by assumption) ?_
            rotate_left
            · (intro W9 hSw; go_simp; (try with_reducible rfl))
            try simp only [Act.put, List.getElem_toArray, List.getElem_cons_succ, List.getElem_cons_zero, List.setIfInBounds_toArray, List.set_cons_zero, List.set_cons_succ]
            refine takeC [16,13,12] (i := 11) (v := ?_) rfl (by kernel_rfl) (by kernel_rfl) (by kernel_rfl) (by kernel_rfl) (by decide) (fun _ _ _ h => h) (by kernel_rfl) (Or.inl ⟨by kernel_rfl, ?_⟩) (by assumption) ?_
            rotate_left
            · (intro W9 hSw; go_simp; (try with_reducible rfl))
            try simp only [Act.put, List.getElem_toArray, List.getElem_cons_succ, List.getElem_cons_zero, List.setIfInBounds_toArray, List.set_cons_zero, List.set_cons_succ]
            refine takeC [16,13] (i := 12) (v := ?_) rfl (by kernel_rfl) (by kernel_rfl) (by kernel_rfl) (by kernel_rfl) (by decide) (fun _ _ _ h => h) (by kernel_rfl) (Or.inl ⟨by kernel_rfl, ?_⟩) (by assumption) ?_
            rotate_left
            · (intro W9 hSw; (have a := (HC0.out _ hSw.out).1; clear hSw; skip); go_simp; (try with_reducible rfl))
            try simp only [Act.put, List.getElem_toArray, List.getElem_cons_succ, List.getElem_cons_zero, List.setIfInBounds_toArray, List.set_cons_zero, List.set_cons_succ]
            refine oneT (i := 13) rfl (by kernel_rfl) (fun K hK => ?_)
            rw [if_pos (by kernel_rfl)]
            go_wp2_with (fail)
            with_reducible refine (HPK.out w8).mono ?_
            rintro e wp ⟨rfl, rfl⟩
            go_wp2_with (fail)
            refine hK.out _ _ (fun _ => hS8) ?_
            clear hK K
            try simp only [Act.put, List.getElem_toArray, List.getElem_cons_succ, List.getElem_cons_zero, List.setIfInBounds_toArray, List.set_cons_zero, List.set_cons_succ]
            refine takeC [16,15] (i := 14) (v := ?_) rfl (by kernel_rfl) (by kernel_rfl) (by kernel_rfl) (by kernel_rfl) (by decide) (fun _ _ _ h => h) (by kernel_rfl) (Or.inl ⟨by kernel_rfl, ?_⟩) (by assumption) ?_
            rotate_left
            · (intro W9 hSw; go_simp; (try with_reducible rfl))
            try simp only [Act.put, List.getElem_toArray, List.getElem_cons_succ, List.getElem_cons_zero, List.setIfInBounds_toArray, List.set_cons_zero, List.set_cons_succ]
            refine takeC [16] (i := 15) (v := ?_) rfl (by kernel_rfl) (by kernel_rfl) (by kernel_rfl) (by kernel_rfl) (by decide) (fun _ _ _ h => h) (by kernel_rfl) (Or.inl ⟨by kernel_rfl, ?_⟩) (by assumption) ?_
            rotate_left
            · (intro W9 hSw; go_simp; (try with_reducible rfl))
            try simp only [Act.put, List.getElem_toArray, List.getElem_cons_succ, List.getElem_cons_zero, List.setIfInBounds_toArray, List.set_cons_zero, List.set_cons_succ]
            refine takeC [] (i := 16) (v := ?_) rfl (by kernel_rfl) (by kernel_rfl) (by kernel_rfl) (by kernel_rfl) (by decide) (fun _ _ _ h => h) (by kernel_rfl) (Or.inl ⟨by kernel_rfl, ?_⟩) (by assumption) ?_
            rotate_left
            · (intro W9 hSw; go_simp; (try with_reducible rfl))
            try simp only [Act.put, List.getElem_toArray, List.getElem_cons_succ, List.getElem_cons_zero, List.setIfInBounds_toArray, List.set_cons_zero, List.set_cons_succ]
            refine takeC [18] (i := 17) (v := ?_) rfl (by kernel_rfl) (by kernel_rfl) (by kernel_rfl) (by kernel_rfl) (by decide) (fun _ _ _ h => h) (by kernel_rfl) (Or.inl ⟨by kernel_rfl, ?_⟩) (by assumption) ?_
            rotate_left
            · (intro W9 hSw; go_simp; (try with_reducible rfl))
            try simp only [Act.put, List.getElem_toArray, List.getElem_cons_succ, List.getElem_cons_zero, List.setIfInBounds_toArray, List.set_cons_zero, List.set_cons_succ]
            refine takeC [23,22,21] (i := 19) (v := ?_) rfl (by kernel_rfl) (by kernel_rfl) (by kernel_rfl) (by kernel_rfl) (by decide) (fun _ _ _ h => h) (by kernel_rfl) (Or.inl ⟨by kernel_rfl, ?_⟩) (by assumption) ?_
            rotate_left
            · (intro W9 hSw; go_simp; (try with_reducible rfl))
            try simp only [Act.put, List.getElem_toArray, List.getElem_cons_succ, List.getElem_cons_zero, List.setIfInBounds_toArray, List.set_cons_zero, List.set_cons_succ]
            refine takeC [23,22,21] (i := 20) (v := ?_) rfl (by kernel_rfl) (by kernel_rfl) (by kernel_rfl) (by kernel_rfl) (by decide) (fun _ _ _ h => h) (by kernel_rfl) (Or.inl ⟨by kernel_rfl, ?_⟩) (by assumption) ?_
            rotate_left
            · (intro W9 hSw; go_simp; (try with_reducible rfl))
            try simp only [Act.put, List.getElem_toArray, List.getElem_cons_succ, List.getElem_cons_zero, List.setIfInBounds_toArray, List.set_cons_zero, List.set_cons_succ]
            refine takeC [23,22] (i := 21) (v := ?_) rfl (by kernel_rfl) (by kernel_rfl) (by kernel_rfl) (by kernel_rfl) (by decide) (fun _ _ _ h => h) (by kernel_rfl) (Or.inl ⟨by kernel_rfl, ?_⟩) (by assumption) ?_
            rotate_left
            · (intro W9 hSw; go_simp; (try with_reducible rfl))
            try simp only [Act.put, List.getElem_toArray, List.getElem_cons_succ, List.getElem_cons_zero, List.setIfInBounds_toArray, List.set_cons_zero, List.set_cons_succ]
            refine takeC [23] (i := 22) (v := ?_) rfl (by kernel_rfl) (by kernel_rfl) (by kernel_rfl) (by kernel_rfl) (by decide) (fun _ _ _ h => h) (by kernel_rfl) (Or.inl ⟨by kernel_rfl, ?_⟩) (by assumption) ?_
            rotate_left
            · (intro W9 hSw; go_simp; (try with_reducible rfl))
            try simp only [Act.put, List.getElem_toArray, List.getElem_cons_succ, List.getElem_cons_zero, List.setIfInBounds_toArray, List.set_cons_zero, List.set_cons_succ]
            refine takeC [] (i := 23) (v := ?_) rfl (by kernel_rfl) (by kernel_rfl) (by kernel_rfl) (by kernel_rfl) (by decide) (fun _ _ _ h => h) (by kernel_rfl) (Or.inl ⟨by kernel_rfl, ?_⟩) (by assumption) ?_
            rotate_left
            · (intro W9 hSw; (have a := (HC0.out _ hSw.out).2; clear hSw; skip); go_simp; (try with_reducible rfl))
            try simp only [Act.put, List.getElem_toArray, List.getElem_cons_succ, List.getElem_cons_zero, List.setIfInBounds_toArray, List.set_cons_zero, List.set_cons_succ]
            refine oneT (i := 18) rfl (by kernel_rfl) (fun K hK => ?_)
            rw [if_pos (by kernel_rfl)]
            have hm := room_lv L8.out (x := (R : Int)) (by rw [HRR.out.1])
            go_wp2_with (fail)
            with_reducible refine hm.mono ?_
            rintro e w9 ⟨rfl, x9⟩
            have L9 := Lib.hid (L8.out.then x9)
            have hS9 : (fun Wx : World => Hid (Ext W Wx)) w9 := Lib.hid L9.out.ext
            clear hm x9
            go_wp2_with (fail)
            refine hK.out _ _ (fun _ => hS9) ?_
            clear hK K
            try simp only [Act.put, List.getElem_toArray, List.getElem_cons_succ, List.getElem_cons_zero, List.setIfInBounds_toArray, List.set_cons_zero, List.set_cons_succ]
            refine oneT (i := 24) rfl (by kernel_rfl) (fun K hK => ?_)
            rw [if_pos (by kernel_rfl)]
            go_wp2_with (fail)
            with_reducible refine (HSH.out w9 hS9.out).mono ?_
            rintro e wp ⟨rfl, rfl⟩
            go_wp2_with (fail)
            refine hK.out _ _ (fun h => absurd (show true = false from h) (by decide)) ?_
            clear hK K
            try simp only [Act.put, List.getElem_toArray, List.getElem_cons_succ, List.getElem_cons_zero, List.setIfInBounds_toArray, List.set_cons_zero, List.set_cons_succ]
            refine oneT (i := 25) rfl (by kernel_rfl) (fun K hK => ?_)
            rw [if_pos (by kernel_rfl)]
            go_wp2_with (fail)
            refine hK.out _ _ (fun h => absurd (show true = false from h) (by decide)) ?_
            clear hK K
            try simp only [Act.put, List.getElem_toArray, List.getElem_cons_succ, List.getElem_cons_zero, List.setIfInBounds_toArray, List.set_cons_zero, List.set_cons_succ]
            refine oneT (i := 26) rfl (by kernel_rfl) (fun K hK => ?_)
            rw [if_pos (by kernel_rfl)]
            go_wp2_with (fail)
            refine hK.out _ _ (fun h => absurd (show true = false from h) (by decide)) ?_
            clear hK K
            try simp only [Act.put, List.getElem_toArray, List.getElem_cons_succ, List.getElem_cons_zero, List.setIfInBounds_toArray, List.set_cons_zero, List.set_cons_succ]
            refine oneT (i := 27) rfl (by kernel_rfl) (fun K hK => ?_)
            rw [if_pos (by kernel_rfl)]
            go_wp2_with (fail)
            refine hK.out _ _ (fun h => absurd (show true = false from h) (by decide)) ?_
            clear hK K
            try simp only [Act.put, List.getElem_toArray, List.getElem_cons_succ, List.getElem_cons_zero, List.setIfInBounds_toArray, List.set_cons_zero, List.set_cons_succ]
            refine oneT (i := 28) rfl (by kernel_rfl) (fun K hK => ?_)
            rw [if_pos (by kernel_rfl)]
            go_wp2_with (fail)
            refine hK.out _ _ (fun h => absurd (show true = false from h) (by decide)) ?_
            clear hK K
            try simp only [Act.put, List.getElem_toArray, List.getElem_cons_succ, List.getElem_cons_zero, List.setIfInBounds_toArray, List.set_cons_zero, List.set_cons_succ]
            refine oneT (i := 29) rfl (by kernel_rfl) (fun K hK => ?_)
            rw [if_pos (by kernel_rfl)]
            go_wp2_with (fail)
            refine hK.out _ _ (fun h => absurd (show true = false from h) (by decide)) ?_
            clear hK K
            try simp only [Act.put, List.getElem_toArray, List.getElem_cons_succ, List.getElem_cons_zero, List.setIfInBounds_toArray, List.set_cons_zero, List.set_cons_succ]
            refine doneT (by kernel_rfl) ?_ _
            clear HC0 HDO L7 X6 hS hS8 HPK HFT HSH
            have tR1 : decide (nd < R) = false := decide_eq_false (by omega)
            have tR2 : decide ((nd : Int) < (R : Int)) = false := decide_eq_false (by omega)
            try rw [tR1]
            try rw [tR2]
            clear tR1 tR2 tR
            go_wp2_with (fail)
            exact ⟨⟨k + 1, N + 8, o8, _, d8, by omega, by go_num, L9, Lib.hid (by have h1 := NF.out; exact ⟨A8.out, by omega, by omega, by omega, h1.2.2.2.2⟩)⟩, by simp [intOf]; omega⟩
      · have i2 : ¬ (k : Int) < 40 := by omega
        obtain ⟨R, hR⟩ : ∃ R : Nat, j.from_ + j.half - j.next = R := ⟨_, rfl⟩
        have hsm := L.out.at_.small
        have hR2 : R + 1 ≤ hf := by have := NF.out; omega
        have hR3 : j.next + R = j.from_ + j.half := by omega
        have hm := room_lv L.out (x := (R : Int)) (by rw [hR])
        go_wp2_with (fail)
        with_reducible refine hm.mono ?_
        rintro e w2 ⟨rfl, x2⟩
        have L2 := Lib.hid (L.out.then x2)
        clear hm x2 hsm
        by_cases h0 : R = 0
        · subst h0
          have L0 := L2
          have NF0 : RowKit.Hid (d.arm = -1 ∧ N ≤ 400 ∧ j.life ≤ 45 ∧ j.half = hf) := Lib.hid (by have := NF.out; exact ⟨this.1, by omega, by omega, this.2.2.2.2⟩)
          clear L2 hR3
          have hsm := L0.out.at_.small
          obtain ⟨m3, hm3⟩ : ∃ m3 : Nat, 63 * ((hf : Int) - 1) = (m3 : Int) := ⟨63 * (hf - 1), by omega⟩
          have hm32 : m3 = 63 * (hf - 1) := by omega
          have hnd3 : Jo.need m3 = hf - 1 := by unfold Jo.need; omega
          have hm33 : m3 ≤ 63 * 30 := by omega
          have r5 : (Instr.makeSlice 32 (.int .i64 (m3 : Int)) (.int .i64 (m3 : Int))).run Try.prog w2 = .ok (.slice (some ⟨w2.heap.size, 0, none⟩) m3 m3) (w2.alloc (.cells (made5 m3 (.int .u8 0)) 5)) := run_make5 w2 m3 (by omega)
          have b5 := bs_made w2 m3 (by omega)
          have x5 := Ext.alloc w2 (.cells (made5 m3 (.int .u8 0)) 5)
          have s5 : w2.heap.size < (w2.alloc (.cells (made5 m3 (.int .u8 0)) 5)).heap.size := by rw [World.size_alloc]; omega
          obtain ⟨w5, hw5⟩ : ∃ w5, w2.alloc (.cells (made5 m3 (.int .u8 0)) 5) = w5 := ⟨_, rfl⟩
          rw [hw5] at r5 b5 x5 s5
          have L5 := Lib.hid (L0.out.then x5)
          have hcp := cp_ok L5.out NF0.out.1 b5 (L0.out.fresh (Nat.le_refl _) s5) (by omega) (by rw [Jo.fits_cp, List.length_replicate, hnd3]; have := NF0.out; omega) (N' := 1000) (by have := NF0.out; omega) (by decide) (by have := NF0.out; omega)
          rw [Jo.doJ_cp] at hcp
          have HND3 := Lib.hid hnd3
          clear hw5 b5 x5 s5 L0 hsm hm32 hnd3
          go_wp2_with (fail)
          with_reducible refine hcp.mono ?_
          rintro e w6 ⟨o6, d6, rfl, l6, a6, _, _⟩
          have L6 := Lib.hid l6
          have A6 := Lib.hid a6
          have E6 := Lib.hid (show (j.point (List.replicate m3 0)).half = hf ∧ (j.point (List.replicate m3 0)).from_ + hf = (j.point (List.replicate m3 0)).next ∧ (j.point (List.replicate m3 0)).life ≤ 50 by
            have h1 := NF0.out
            refine ⟨h1.2.2.2, ?_, by show j.life + 1 ≤ 50; omega⟩
            show j.half - j.from_ + hf = j.half - j.from_ + 1 + Jo.need (List.replicate m3 (0 : UInt8)).length
            rw [List.length_replicate, HND3.out]
            omega)
          obtain ⟨j6, hj6⟩ : ∃ j6, j.point (List.replicate m3 0) = j6 := ⟨_, rfl⟩
          rw [hj6] at L6 E6
          clear hcp l6 a6 r5 hm3 hj6 L5 NF0
          have hm := room_lv L6.out (x := 0) (by have h1 := E6.out; rw [h1.1, h1.2.1, Nat.sub_self]; rfl)
          go_wp2_with (fail)
          with_reducible refine hm.mono ?_
          rintro e w7 ⟨rfl, x7⟩
          have L7 := Lib.hid (L6.out.then x7)
          clear hm x7 L6
          have hap := app_full L7.out (bs_none24 w7) (Cold.none _ _ _) (by omega) (by rw [Jo.fits_app]; have h1 := E6.out; show ¬ j6.next + 1 + Jo.need 0 ≤ j6.from_ + j6.half; omega)
          go_wp2_with (fail)
          with_reducible refine hap.mono ?_
          rintro e w8 ⟨rfl, x8⟩
          have L8 := Lib.hid (L7.out.then x8)
          clear hap x8 L7
          have hcp := cp_ok L8.out A6.out (bs_none24 w8) (Cold.none _ _ _) (by omega) (by rw [Jo.fits_cp]; have h1 := E6.out; show 1 + 0 ≤ j6.half; omega) (N' := 2000) (by decide) (by decide) (by have := E6.out; omega)
          rw [Jo.doJ_cp] at hcp
          go_wp2_with (fail)
          with_reducible refine hcp.mono ?_
          rintro e w9 ⟨o9, d9, rfl, l9, _, _, _⟩
          have L9 := Lib.hid l9
          clear hcp l9 L8
          have hm := room_lv L9.out (x := (hf : Int) - 1) (by
            have h1 := E6.out
            show ((j6.half - j6.from_ + j6.half - (j6.half - j6.from_ + 1 + 0) : Nat) : Int) = _
            omega)
          go_wp2_with (fail)
          with_reducible refine hm.mono ?_
          rintro e w10 ⟨rfl, x10⟩
          have L10 := Lib.hid (L9.out.then x10)
          clear hm x10 L9
          have haw := awake24 w10
          go_wp2_with (fail)
          with_reducible refine haw.mono ?_
          rintro e w11 ⟨rfl, x11⟩
          have X11 := Lib.hid (L10.out.ext.trans x11)
          clear haw x11
          go_wp2_with (fail)
          go_ret
          exact ⟨rfl, X11.out⟩
        · have t1 : (0 : Int) < (R : Int) := by omega
          obtain ⟨m2, hm2⟩ : ∃ m2 : Nat, 63 * ((R : Int) - 1) = (m2 : Int) := ⟨63 * (R - 1), by omega⟩
          have hm22 : m2 = 63 * (R - 1) := by omega
          have hnd2 : Jo.need m2 = R - 1 := by unfold Jo.need; omega
          have hm23 : m2 ≤ 63 * 30 := by omega
          have r3 : (Instr.makeSlice 32 (.int .i64 (m2 : Int)) (.int .i64 (m2 : Int))).run Try.prog w2 = .ok (.slice (some ⟨w2.heap.size, 0, none⟩) m2 m2) (w2.alloc (.cells (made5 m2 (.int .u8 0)) 5)) := run_make5 w2 m2 (by omega)
          have b3 := bs_made w2 m2 (by omega)
          have x3 := Ext.alloc w2 (.cells (made5 m2 (.int .u8 0)) 5)
          have s3 : w2.heap.size < (w2.alloc (.cells (made5 m2 (.int .u8 0)) 5)).heap.size := by rw [World.size_alloc]; omega
          obtain ⟨w3, hw3⟩ : ∃ w3, w2.alloc (.cells (made5 m2 (.int .u8 0)) 5) = w3 := ⟨_, rfl⟩
          rw [hw3] at r3 b3 x3 s3
          have L3 := Lib.hid (L2.out.then x3)
          have hap := app_ok L3.out NF.out.1 b3 (L2.out.fresh (Nat.le_refl _) s3) (by omega) (by rw [Jo.fits_app, List.length_replicate, hnd2]; omega) (N' := N + 40) (by omega) (by have := NF.out; unfold maxLen; omega)
          rw [Jo.doJ_app] at hap
          have HND2 := Lib.hid hnd2
          clear hw3 b3 x3 s3 L2 hm22 hnd2
          go_wp2_with (fail)
          with_reducible refine hap.mono ?_
          rintro e w4 ⟨o4, d4, rfl, l4, a4, _, _⟩
          have L4 := Lib.hid l4
          have E4 := Lib.hid (show (j.append (List.replicate m2 0)).from_ + (j.append (List.replicate m2 0)).half - (j.append (List.replicate m2 0)).next = 0 ∧ (j.append (List.replicate m2 0)).half = hf ∧ (j.append (List.replicate m2 0)).life ≤ 45 by
            have h1 := NF.out
            refine ⟨?_, h1.2.2.2.2, by show j.life ≤ 45; omega⟩
            show j.from_ + j.half - (j.next + 1 + Jo.need (List.replicate m2 (0 : UInt8)).length) = 0
            rw [List.length_replicate, HND2.out]
            omega)
          obtain ⟨j4, hj4⟩ : ∃ j4, j.append (List.replicate m2 0) = j4 := ⟨_, rfl⟩
          rw [hj4] at L4 E4
          have NF0 : RowKit.Hid (d4.arm = -1 ∧ N + 40 ≤ 400 ∧ j4.life ≤ 45 ∧ j4.half = hf) := Lib.hid (by have := NF.out; exact ⟨a4, by omega, E4.out.2.2, E4.out.2.1⟩)
          clear hap l4 a4 r3 hm2 hj4 L3 hR3
          have hm := room_lv L4.out (x := 0) (by rw [E4.out.1]; rfl)
          go_wp2_with (fail)
          with_reducible refine hm.mono ?_
          rintro e w5 ⟨rfl, x5⟩
          have L0 := Lib.hid (L4.out.then x5)
          clear hm x5 L4 E4
          have hsm := L0.out.at_.small
          obtain ⟨m3, hm3⟩ : ∃ m3 : Nat, 63 * ((hf : Int) - 1) = (m3 : Int) := ⟨63 * (hf - 1), by omega⟩
          have hm32 : m3 = 63 * (hf - 1) := by omega
          have hnd3 : Jo.need m3 = hf - 1 := by unfold Jo.need; omega
          have hm33 : m3 ≤ 63 * 30 := by omega
          have r5 : (Instr.makeSlice 32 (.int .i64 (m3 : Int)) (.int .i64 (m3 : Int))).run Try.prog w5 = .ok (.slice (some ⟨w5.heap.size, 0, none⟩) m3 m3) (w5.alloc (.cells (made5 m3 (.int .u8 0)) 5)) := run_make5 w5 m3 (by omega)
          have b5 := bs_made w5 m3 (by omega)
          have x5 := Ext.alloc w5 (.cells (made5 m3 (.int .u8 0)) 5)
          have s5 : w5.heap.size < (w5.alloc (.cells (made5 m3 (.int .u8 0)) 5)).heap.size := by rw [World.size_alloc]; omega
          obtain ⟨v5, hv5⟩ : ∃ v5, w5.alloc (.cells (made5 m3 (.int .u8 0)) 5) = v5 := ⟨_, rfl⟩
          rw [hv5] at r5 b5 x5 s5
          have L5 := Lib.hid (L0.out.then x5)
          have hcp := cp_ok L5.out NF0.out.1 b5 (L0.out.fresh (Nat.le_refl _) s5) (by omega) (by rw [Jo.fits_cp, List.length_replicate, hnd3]; have := NF0.out; omega) (N' := 1000) (by have := NF0.out; omega) (by decide) (by have := NF0.out; omega)
          rw [Jo.doJ_cp] at hcp
          have HND3 := Lib.hid hnd3
          clear hv5 b5 x5 s5 L0 hsm hm32 hnd3
          go_wp2_with (fail)
          with_reducible refine hcp.mono ?_
          rintro e v6 ⟨o6, d6, rfl, l6, a6, _, _⟩
          have L6 := Lib.hid l6
          have A6 := Lib.hid a6
          have E6 := Lib.hid (show (j4.point (List.replicate m3 0)).half = hf ∧ (j4.point (List.replicate m3 0)).from_ + hf = (j4.point (List.replicate m3 0)).next ∧ (j4.point (List.replicate m3 0)).life ≤ 50 by
            have h1 := NF0.out
            refine ⟨h1.2.2.2, ?_, by show j4.life + 1 ≤ 50; omega⟩
            show j4.half - j4.from_ + hf = j4.half - j4.from_ + 1 + Jo.need (List.replicate m3 (0 : UInt8)).length
            rw [List.length_replicate, HND3.out]
            omega)
          obtain ⟨j6, hj6⟩ : ∃ j6, j4.point (List.replicate m3 0) = j6 := ⟨_, rfl⟩
          rw [hj6] at L6 E6
          clear hcp l6 a6 r5 hm3 hj6 L5 NF0
          have hm := room_lv L6.out (x := 0) (by have h1 := E6.out; rw [h1.1, h1.2.1, Nat.sub_self]; rfl)
          go_wp2_with (fail)
          with_reducible refine hm.mono ?_
          rintro e v7 ⟨rfl, x7⟩
          have L7 := Lib.hid (L6.out.then x7)
          clear hm x7 L6
          have hap := app_full L7.out (bs_none24 v7) (Cold.none _ _ _) (by omega) (by rw [Jo.fits_app]; have h1 := E6.out; show ¬ j6.next + 1 + Jo.need 0 ≤ j6.from_ + j6.half; omega)
          go_wp2_with (fail)
          with_reducible refine hap.mono ?_
          rintro e v8 ⟨rfl, x8⟩
          have L8 := Lib.hid (L7.out.then x8)
          clear hap x8 L7
          have hcp := cp_ok L8.out A6.out (bs_none24 v8) (Cold.none _ _ _) (by omega) (by rw [Jo.fits_cp]; have h1 := E6.out; show 1 + 0 ≤ j6.half; omega) (N' := 2000) (by decide) (by decide) (by have := E6.out; omega)
          rw [Jo.doJ_cp] at hcp
          go_wp2_with (fail)
          with_reducible refine hcp.mono ?_
          rintro e v9 ⟨o9, d9, rfl, l9, _, _, _⟩
          have L9 := Lib.hid l9
          clear hcp l9 L8
          have hm := room_lv L9.out (x := (hf : Int) - 1) (by
            have h1 := E6.out
            show ((j6.half - j6.from_ + j6.half - (j6.half - j6.from_ + 1 + 0) : Nat) : Int) = _
            omega)
          go_wp2_with (fail)
          with_reducible refine hm.mono ?_
          rintro e v10 ⟨rfl, x10⟩
          have L10 := Lib.hid (L9.out.then x10)
          clear hm x10 L9
          have haw := awake24 v10
          go_wp2_with (fail)
          with_reducible refine haw.mono ?_
          rintro e v11 ⟨rfl, x11⟩
          have X11 := Lib.hid (L10.out.ext.trans x11)
          clear haw x11
          go_wp2_with (fail)
          go_ret
          exact ⟨rfl, X11.out⟩
    · have i1 : ¬ (k : Int) < n := by omega
      obtain ⟨R, hR⟩ : ∃ R : Nat, j.from_ + j.half - j.next = R := ⟨_, rfl⟩
      have hsm := L.out.at_.small
      have hR2 : R + 1 ≤ hf := by have := NF.out; omega
      have hR3 : j.next + R = j.from_ + j.half := by omega
      have hm := room_lv L.out (x := (R : Int)) (by rw [hR])
      go_wp2_with (fail)
      with_reducible refine hm.mono ?_
      rintro e w2 ⟨rfl, x2⟩
      have L2 := Lib.hid (L.out.then x2)
      clear hm x2 hsm
      by_cases h0 : R = 0
      · subst h0
        have L0 := L2
        have NF0 : RowKit.Hid (d.arm = -1 ∧ N ≤ 400 ∧ j.life ≤ 45 ∧ j.half = hf) := Lib.hid (by have := NF.out; exact ⟨this.1, by omega, by omega, this.2.2.2.2⟩)
        clear L2 hR3
        have hsm := L0.out.at_.small
        obtain ⟨m3, hm3⟩ : ∃ m3 : Nat, 63 * ((hf : Int) - 1) = (m3 : Int) := ⟨63 * (hf - 1), by omega⟩
        have hm32 : m3 = 63 * (hf - 1) := by omega
        have hnd3 : Jo.need m3 = hf - 1 := by unfold Jo.need; omega
        have hm33 : m3 ≤ 63 * 30 := by omega
        have r5 : (Instr.makeSlice 32 (.int .i64 (m3 : Int)) (.int .i64 (m3 : Int))).run Try.prog w2 = .ok (.slice (some ⟨w2.heap.size, 0, none⟩) m3 m3) (w2.alloc (.cells (made5 m3 (.int .u8 0)) 5)) := run_make5 w2 m3 (by omega)
        have b5 := bs_made w2 m3 (by omega)
        have x5 := Ext.alloc w2 (.cells (made5 m3 (.int .u8 0)) 5)
        have s5 : w2.heap.size < (w2.alloc (.cells (made5 m3 (.int .u8 0)) 5)).heap.size := by rw [World.size_alloc]; omega
        obtain ⟨w5, hw5⟩ : ∃ w5, w2.alloc (.cells (made5 m3 (.int .u8 0)) 5) = w5 := ⟨_, rfl⟩
        rw [hw5] at r5 b5 x5 s5
        have L5 := Lib.hid (L0.out.then x5)
        have hcp := cp_ok L5.out NF0.out.1 b5 (L0.out.fresh (Nat.le_refl _) s5) (by omega) (by rw [Jo.fits_cp, List.length_replicate, hnd3]; have := NF0.out; omega) (N' := 1000) (by have := NF0.out; omega) (by decide) (by have := NF0.out; omega)
        rw [Jo.doJ_cp] at hcp
        have HND3 := Lib.hid hnd3
        clear hw5 b5 x5 s5 L0 hsm hm32 hnd3
        go_wp2_with (fail)
        with_reducible refine hcp.mono ?_
        rintro e w6 ⟨o6, d6, rfl, l6, a6, _, _⟩
        have L6 := Lib.hid l6
        have A6 := Lib.hid a6
        have E6 := Lib.hid (show (j.point (List.replicate m3 0)).half = hf ∧ (j.point (List.replicate m3 0)).from_ + hf = (j.point (List.replicate m3 0)).next ∧ (j.point (List.replicate m3 0)).life ≤ 50 by
          have h1 := NF0.out
          refine ⟨h1.2.2.2, ?_, by show j.life + 1 ≤ 50; omega⟩
          show j.half - j.from_ + hf = j.half - j.from_ + 1 + Jo.need (List.replicate m3 (0 : UInt8)).length
          rw [List.length_replicate, HND3.out]
          omega)
        obtain ⟨j6, hj6⟩ : ∃ j6, j.point (List.replicate m3 0) = j6 := ⟨_, rfl⟩
        rw [hj6] at L6 E6
        clear hcp l6 a6 r5 hm3 hj6 L5 NF0
        have hm := room_lv L6.out (x := 0) (by have h1 := E6.out; rw [h1.1, h1.2.1, Nat.sub_self]; rfl)
        go_wp2_with (fail)
        with_reducible refine hm.mono ?_
        rintro e w7 ⟨rfl, x7⟩
        have L7 := Lib.hid (L6.out.then x7)
        clear hm x7 L6
        have hap := app_full L7.out (bs_none24 w7) (Cold.none _ _ _) (by omega) (by rw [Jo.fits_app]; have h1 := E6.out; show ¬ j6.next + 1 + Jo.need 0 ≤ j6.from_ + j6.half; omega)
        go_wp2_with (fail)
        with_reducible refine hap.mono ?_
        rintro e w8 ⟨rfl, x8⟩
        have L8 := Lib.hid (L7.out.then x8)
        clear hap x8 L7
        have hcp := cp_ok L8.out A6.out (bs_none24 w8) (Cold.none _ _ _) (by omega) (by rw [Jo.fits_cp]; have h1 := E6.out; show 1 + 0 ≤ j6.half; omega) (N' := 2000) (by decide) (by decide) (by have := E6.out; omega)
        rw [Jo.doJ_cp] at hcp
        go_wp2_with (fail)
        with_reducible refine hcp.mono ?_
        rintro e w9 ⟨o9, d9, rfl, l9, _, _, _⟩
        have L9 := Lib.hid l9
        clear hcp l9 L8
        have hm := room_lv L9.out (x := (hf : Int) - 1) (by
          have h1 := E6.out
          show ((j6.half - j6.from_ + j6.half - (j6.half - j6.from_ + 1 + 0) : Nat) : Int) = _
          omega)
        go_wp2_with (fail)
        with_reducible refine hm.mono ?_
        rintro e w10 ⟨rfl, x10⟩
        have L10 := Lib.hid (L9.out.then x10)
        clear hm x10 L9
        have haw := awake24 w10
        go_wp2_with (fail)
        with_reducible refine haw.mono ?_
        rintro e w11 ⟨rfl, x11⟩
        have X11 := Lib.hid (L10.out.ext.trans x11)
        clear haw x11
        go_wp2_with (fail)
        go_ret
        exact ⟨rfl, X11.out⟩
      · have t1 : (0 : Int) < (R : Int) := by omega
        obtain ⟨m2, hm2⟩ : ∃ m2 : Nat, 63 * ((R : Int) - 1) = (m2 : Int) := ⟨63 * (R - 1), by omega⟩
        have hm22 : m2 = 63 * (R - 1) := by omega
        have hnd2 : Jo.need m2 = R - 1 := by unfold Jo.need; omega
        have hm23 : m2 ≤ 63 * 30 := by omega
        have r3 : (Instr.makeSlice 32 (.int .i64 (m2 : Int)) (.int .i64 (m2 : Int))).run Try.prog w2 = .ok (.slice (some ⟨w2.heap.size, 0, none⟩) m2 m2) (w2.alloc (.cells (made5 m2 (.int .u8 0)) 5)) := run_make5 w2 m2 (by omega)
        have b3 := bs_made w2 m2 (by omega)
        have x3 := Ext.alloc w2 (.cells (made5 m2 (.int .u8 0)) 5)
        have s3 : w2.heap.size < (w2.alloc (.cells (made5 m2 (.int .u8 0)) 5)).heap.size := by rw [World.size_alloc]; omega
        obtain ⟨w3, hw3⟩ : ∃ w3, w2.alloc (.cells (made5 m2 (.int .u8 0)) 5) = w3 := ⟨_, rfl⟩
        rw [hw3] at r3 b3 x3 s3
        have L3 := Lib.hid (L2.out.then x3)
        have hap := app_ok L3.out NF.out.1 b3 (L2.out.fresh (Nat.le_refl _) s3) (by omega) (by rw [Jo.fits_app, List.length_replicate, hnd2]; omega) (N' := N + 40) (by omega) (by have := NF.out; unfold maxLen; omega)
        rw [Jo.doJ_app] at hap
        have HND2 := Lib.hid hnd2
        clear hw3 b3 x3 s3 L2 hm22 hnd2
        go_wp2_with (fail)
        with_reducible refine hap.mono ?_
        rintro e w4 ⟨o4, d4, rfl, l4, a4, _, _⟩
        have L4 := Lib.hid l4
        have E4 := Lib.hid (show (j.append (List.replicate m2 0)).from_ + (j.append (List.replicate m2 0)).half - (j.append (List.replicate m2 0)).next = 0 ∧ (j.append (List.replicate m2 0)).half = hf ∧ (j.append (List.replicate m2 0)).life ≤ 45 by
          have h1 := NF.out
          refine ⟨?_, h1.2.2.2.2, by show j.life ≤ 45; omega⟩
          show j.from_ + j.half - (j.next + 1 + Jo.need (List.replicate m2 (0 : UInt8)).length) = 0
          rw [List.length_replicate, HND2.out]
          omega)
        obtain ⟨j4, hj4⟩ : ∃ j4, j.append (List.replicate m2 0) = j4 := ⟨_, rfl⟩
        rw [hj4] at L4 E4
        have NF0 : RowKit.Hid (d4.arm = -1 ∧ N + 40 ≤ 400 ∧ j4.life ≤ 45 ∧ j4.half = hf) := Lib.hid (by have := NF.out; exact ⟨a4, by omega, E4.out.2.2, E4.out.2.1⟩)
        clear hap l4 a4 r3 hm2 hj4 L3 hR3
        have hm := room_lv L4.out (x := 0) (by rw [E4.out.1]; rfl)
        go_wp2_with (fail)
        with_reducible refine hm.mono ?_
        rintro e w5 ⟨rfl, x5⟩
        have L0 := Lib.hid (L4.out.then x5)
        clear hm x5 L4 E4
        have hsm := L0.out.at_.small
        obtain ⟨m3, hm3⟩ : ∃ m3 : Nat, 63 * ((hf : Int) - 1) = (m3 : Int) := ⟨63 * (hf - 1), by omega⟩
        have hm32 : m3 = 63 * (hf - 1) := by omega
        have hnd3 : Jo.need m3 = hf - 1 := by unfold Jo.need; omega
        have hm33 : m3 ≤ 63 * 30 := by omega
        have r5 : (Instr.makeSlice 32 (.int .i64 (m3 : Int)) (.int .i64 (m3 : Int))).run Try.prog w5 = .ok (.slice (some ⟨w5.heap.size, 0, none⟩) m3 m3) (w5.alloc (.cells (made5 m3 (.int .u8 0)) 5)) := run_make5 w5 m3 (by omega)
        have b5 := bs_made w5 m3 (by omega)
        have x5 := Ext.alloc w5 (.cells (made5 m3 (.int .u8 0)) 5)
        have s5 : w5.heap.size < (w5.alloc (.cells (made5 m3 (.int .u8 0)) 5)).heap.size := by rw [World.size_alloc]; omega
        obtain ⟨v5, hv5⟩ : ∃ v5, w5.alloc (.cells (made5 m3 (.int .u8 0)) 5) = v5 := ⟨_, rfl⟩
        rw [hv5] at r5 b5 x5 s5
        have L5 := Lib.hid (L0.out.then x5)
        have hcp := cp_ok L5.out NF0.out.1 b5 (L0.out.fresh (Nat.le_refl _) s5) (by omega) (by rw [Jo.fits_cp, List.length_replicate, hnd3]; have := NF0.out; omega) (N' := 1000) (by have := NF0.out; omega) (by decide) (by have := NF0.out; omega)
        rw [Jo.doJ_cp] at hcp
        have HND3 := Lib.hid hnd3
        clear hv5 b5 x5 s5 L0 hsm hm32 hnd3
        go_wp2_with (fail)
        with_reducible refine hcp.mono ?_
        rintro e v6 ⟨o6, d6, rfl, l6, a6, _, _⟩
        have L6 := Lib.hid l6
        have A6 := Lib.hid a6
        have E6 := Lib.hid (show (j4.point (List.replicate m3 0)).half = hf ∧ (j4.point (List.replicate m3 0)).from_ + hf = (j4.point (List.replicate m3 0)).next ∧ (j4.point (List.replicate m3 0)).life ≤ 50 by
          have h1 := NF0.out
          refine ⟨h1.2.2.2, ?_, by show j4.life + 1 ≤ 50; omega⟩
          show j4.half - j4.from_ + hf = j4.half - j4.from_ + 1 + Jo.need (List.replicate m3 (0 : UInt8)).length
          rw [List.length_replicate, HND3.out]
          omega)
        obtain ⟨j6, hj6⟩ : ∃ j6, j4.point (List.replicate m3 0) = j6 := ⟨_, rfl⟩
        rw [hj6] at L6 E6
        clear hcp l6 a6 r5 hm3 hj6 L5 NF0
        have hm := room_lv L6.out (x := 0) (by have h1 := E6.out; rw [h1.1, h1.2.1, Nat.sub_self]; rfl)
        go_wp2_with (fail)
        with_reducible refine hm.mono ?_
        rintro e v7 ⟨rfl, x7⟩
        have L7 := Lib.hid (L6.out.then x7)
        clear hm x7 L6
        have hap := app_full L7.out (bs_none24 v7) (Cold.none _ _ _) (by omega) (by rw [Jo.fits_app]; have h1 := E6.out; show ¬ j6.next + 1 + Jo.need 0 ≤ j6.from_ + j6.half; omega)
        go_wp2_with (fail)
        with_reducible refine hap.mono ?_
        rintro e v8 ⟨rfl, x8⟩
        have L8 := Lib.hid (L7.out.then x8)
        clear hap x8 L7
        have hcp := cp_ok L8.out A6.out (bs_none24 v8) (Cold.none _ _ _) (by omega) (by rw [Jo.fits_cp]; have h1 := E6.out; show 1 + 0 ≤ j6.half; omega) (N' := 2000) (by decide) (by decide) (by have := E6.out; omega)
        rw [Jo.doJ_cp] at hcp
        go_wp2_with (fail)
        with_reducible refine hcp.mono ?_
        rintro e v9 ⟨o9, d9, rfl, l9, _, _, _⟩
        have L9 := Lib.hid l9
        clear hcp l9 L8
        have hm := room_lv L9.out (x := (hf : Int) - 1) (by
          have h1 := E6.out
          show ((j6.half - j6.from_ + j6.half - (j6.half - j6.from_ + 1 + 0) : Nat) : Int) = _
          omega)
        go_wp2_with (fail)
        with_reducible refine hm.mono ?_
        rintro e v10 ⟨rfl, x10⟩
        have L10 := Lib.hid (L9.out.then x10)
        clear hm x10 L9
        have haw := awake24 v10
        go_wp2_with (fail)
        with_reducible refine haw.mono ?_
        rintro e v11 ⟨rfl, x11⟩
        have X11 := Lib.hid (L10.out.ext.trans x11)
        clear haw x11
        go_wp2_with (fail)
        go_ret
        exact ⟨rfl, X11.out⟩
end journalRoom
end Go.Proofs.Ytaaegbccejjjcaa
