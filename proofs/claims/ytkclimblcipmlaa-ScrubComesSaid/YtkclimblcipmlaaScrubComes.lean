/- ScrubComes' walk. -/
import Derived.Test.YtkclimblcipmlaaComes
import Derived.Test.YtkclimblcipmlaaMapInt
import Derived.Test.YtkclimblcipmlaaScOps
import Derived.Test.YtkclimblcipmlaaScrubQueue
namespace Go.Proofs.Ytkclimblcipmlaa
open Go.ChangeShapes Go.WideShapes Go.ChangeAt Go.RowKit

/-- A store into a map's block leaves the lists. -/
theorem Is.grownM {b0 : Nat} {w w' : World} {A : Option Addr} {n c : Nat} {l : List Int} (h : Is w A n c l) (hl : Lo b0 w n A) {q : Nat} (hq : b0 ≤ q) (hty : ∀ cs fr, w.heap[q]? ≠ some (.cells cs 3 fr)) (hg : w.grownBy w' (some q)) : Is w' A n c l ∧ Lo b0 w' n A := by
  have key : 0 < n → ∃ b o, A = some ⟨b, o, .none⟩ ∧ b ≠ q ∧ (b < b0 ∨ ∃ cs fr, w.heap[b]? = some (.cells cs 3 fr)) := fun hn => by
    obtain ⟨b, o, e, hb⟩ := hl hn
    refine ⟨b, o, e, ?_, hb⟩
    rintro rfl
    rcases hb with hb | ⟨cs, fr, hb⟩
    · omega
    · exact hty cs fr hb
  refine ⟨⟨h.len, h.le, h.max, h.rd.1, fun hn => ?_⟩, fun hn => ?_⟩
  · obtain ⟨b, o, e, hc⟩ := h.rd.2 hn
    obtain ⟨b', o', e', hne, _⟩ := key hn
    rw [e] at e'
    injection e' with e'
    injection e' with e1 e2 _
    subst e1 e2
    exact ⟨b, o, e, fun j u hu => hg.cell (hc j u hu) (fun e => hne (by injection e))⟩
  · obtain ⟨b, o, e, hne, hb⟩ := key hn
    exact ⟨b, o, e, hb.imp id (fun ⟨cs, fr, hb⟩ => ⟨cs, fr, (hg.block b (Array.getElem?_eq_some_iff.1 hb).1 (fun e => hne (by injection e))).trans hb⟩)⟩
theorem Ls.grownM {b0 : Nat} {w w' : World} {s : Scrubs.S} {A : Option Addr} {n c : Nat} {B : Option Addr} {m d : Nat} (h : Ls b0 w s A n c B m d) {q : Nat} (hq : b0 ≤ q) (hty : ∀ cs fr, w.heap[q]? ≠ some (.cells cs 3 fr)) (hg : w.grownBy w' (some q)) : Ls b0 w' s A n c B m d :=
  ⟨(Is.grownM h.u h.lu hq hty hg).1, (Is.grownM h.b h.lb hq hty hg).1, (Is.grownM h.u h.lu hq hty hg).2, (Is.grownM h.b h.lb hq hty hg).2⟩
theorem Mp.noInt {w : World} {M n : Nat} {C : Int → Prop} (h : Mp w M n C) : ∀ cs fr, w.heap[M]? ≠ some (.cells cs 3 fr) := fun cs fr e => by
  obtain ⟨es, k, hb⟩ := h.blk
  rw [hb] at e
  cases e
theorem Mp.noBox {w : World} {M n g : Nat} {C : Int → Prop} (h : Mp w M n C) {cu : Int} {qu : Bool} {U V : Value} (hs : Sb w g cu qu U V) : M ≠ g := fun e => by
  obtain ⟨es, k, hb⟩ := h.blk
  have hg := hs.blk
  rw [← e, hb] at hg
  cases hg
theorem Mp.four {w : World} {M n g : Nat} {C : Int → Prop} (h : Mp w M n C) {cu : Int} {qu : Bool} {U V : Value} (hs : Sb w g cu qu U V) (cu' : Int) (qu' : Bool) (U' V' : Value) : Mp (four w g cu' qu' U' V') M n C :=
  h.same (four_other w g cu' qu' U' V' M (h.noBox hs))
/-- How many are mended, by the box. -/
def busyLen (w : World) (g : Nat) : Nat := match w.cell? ⟨g, 3, none⟩ with | some (.slice _ m _) => m | _ => 0
theorem Sb.busyLen {w : World} {g : Nat} {cu : Int} {qu : Bool} {U : Value} {B : Option Addr} {m d : Nat} (h : Sb w g cu qu U (.slice B m d)) : busyLen w g = m := by
  unfold Go.Proofs.Ytkclimblcipmlaa.busyLen
  rw [h.c3]
theorem Hs.busyLen {b0 : Nat} {w : World} {g : Nat} {s : Scrubs.S} (h : Hs b0 w g s) : Go.Proofs.Ytkclimblcipmlaa.busyLen w g = s.busy.length := by
  obtain ⟨A, n, c, B, m, d, sb, ls⟩ := h
  rw [sb.busyLen, ls.b.len]
set_option maxRecDepth 100000 in
set_option maxHeartbeats 8000000 in
theorem scrubComes_any (w : World) (A0 A1 A2 : Option Addr) (n0 c0 q c1 nu cu : Nat) (fl : Nat → Bool) (op : Nat → Op16) (us : List UInt8) (hf : Bl w A0 n0 c0 fl) (hos : Oss w A1 q c1 op) (hus : Bs w A2 nu cu us) :
    Calls Try.prog 5 #[.slice A0 n0 c0, .slice A1 q c1, .slice A2 nu cu] w fun e w' => e = .returned (.bool true) ∧ Ext w w' := by
  have hmm := @run_makeMap Try.prog
  have q1 := hf.max
  have q2 := hf.le
  have q3 := hos.max
  have q4 := hos.le
  have qa := hus.max
  have qb := hus.le
  have HF := Lib.hid hf
  have HOS := Lib.hid hos
  have HUS := Lib.hid hus
  clear hf hos hus
  go_enter Try.func5, Try.ntmps5
  try dsimp only [List.append]
  go_wp2_with (fail)
  refine (list_law w A0 n0 c0 fl HF.out).mono ?_
  rintro e w1 ⟨v, l, rfl, hv, hl1, hl2, hl3⟩
  obtain ⟨Al, cl, rfl, hil⟩ := own_is hv.own
  have XW := Lib.hid hv.ext
  have q5 := hil.max
  have q6 := hil.le
  have HSL := Lib.hid (show Scrubs.Strs l from ⟨hl1, hl2⟩)
  obtain ⟨N, hN⟩ : ∃ N, l.length = N := ⟨_, rfl⟩
  rw [hN] at hl3 q6 hil
  rw [hN]
  have HL := Lib.hid hil
  have HN := Lib.hid hN
  obtain ⟨b0, hb0⟩ : ∃ b0, w1.heap.size = b0 := ⟨_, rfl⟩
  have HB0 := Lib.hid hb0
  clear hv hl1 hl2 hil hb0 hN
  go_upto_region 2 with (fail)
  go_cut [8] (fun s6 wx => ∃ wv : World, wv = wx ∧ ∃ g, s6 = .pointer (some ⟨g, 0, none⟩) ∧ RowKit.Hid (Hs b0 wx g ⟨-1, true, [], []⟩) ∧ RowKit.Hid (b0 ≤ g) ∧ RowKit.Hid (Ext w1 wx))
  case first =>
    go_wp2_with (fail)
    refine (scNew_any _).mono ?_
    rintro e w2 ⟨rfl, x2⟩
    go_wp2_with (fail)
    go_meet
    exact ⟨_, rfl, _, rfl, Lib.hid ⟨none, 0, 0, none, 0, 0, Sb.new _ _ _ _ _ rfl, (Ls.none b0 w2 (-1) true).ext (Ext.alloc _ _)⟩, Lib.hid (by have := x2.size; have := HB0.out; omega), Lib.hid (x2.thenAlloc _)⟩
  case rest =>
    obtain ⟨w2, rfl, g, rfl, HS, HG, HX⟩ := hcut
    go_upto_block 0 with (fail)
    go_cut [] (fun wx => ∃ wv : World, wv = wx ∧ ∃ s0 : Scrubs.S, RowKit.Hid (Hs b0 wx g s0) ∧ RowKit.Hid (Scrubs.right s0) ∧ RowKit.Hid (Ext w1 wx))
    case first =>
      go_wp2_with (fail)
      go_loopw [9, 32] (fun s _ wr => ∃ (i : Nat) (s0 : Scrubs.S), i ≤ q ∧ i ≤ 40 ∧ s = .int .i64 (i : Int) ∧ RowKit.Hid (Hs b0 wr g s0) ∧ RowKit.Hid (Scrubs.right s0) ∧ RowKit.Hid (Ext w1 wr)) (fun s _ _ => q - (intOf s).toNat)
      case atStart => exact ⟨0, _, by omega, by omega, rfl, HS, Lib.hid (Scrubs.right_iff.2 (by decide)), HX⟩
      case round =>
        obtain ⟨i, s0, hi, hi2, rfl, HH, HR, HXr⟩ := hrel
        by_cases hlt : i < q
        · have r1 : (i : Int) < q := by omega
          by_cases h20 : i < 40
          · have r2 : (i : Int) < 40 := by omega
            obtain ⟨wo, rfl⟩ : ∃ wo : World, wo = wr := ⟨_, rfl⟩
            obtain ⟨A, n, c, B, m, d, sb, ls⟩ := HH.out
            have k0 := sb.c0
            have k1 := sb.c1
            have k2 := sb.c2
            have k3 := sb.c3
            have kf := sb.fz
            have q7 := ls.u.max
            have q8 := ls.u.le
            have q9 := ls.b.max
            have q10 := ls.b.le
            have SB := Lib.hid sb
            have LS := Lib.hid ls
            clear sb ls
            obtain ⟨bo, oo, rfl, ho0, ho1, ho2, ho3⟩ := ((HOS.out.ext XW.out).ext HXr.out).at_ i hlt
            obtain ⟨ki, hki⟩ : ∃ x, (op i).kind = x := ⟨_, rfl⟩
            obtain ⟨ni, hni⟩ : ∃ x, (op i).n = x := ⟨_, rfl⟩
            rw [hki] at ho0
            rw [hni] at ho1
            generalize (op i).A = Lo_ at *
            generalize (op i).m = Lm at *
            generalize (op i).c = Lc at *
            have hml : m ≤ 1000 := by have := HR.out.2.2.1; have := LS.out.b.len; omega
            have HD := Lib.hid (fun (W : World) (hW : Ext wo W) => does_law b0 W (by have := (HXr.out.trans hW).size; have := HB0.out; omega) s0 A n c B m d (LS.out.ext hW) ki ni Lo_ Lm Lc Al N cl l (HL.out.ext (HXr.out.trans hW)) (by omega))
            have HRS := Lib.hid (Scrubs.right_does HR.out ki ni l)
            obtain ⟨S', hS'⟩ : ∃ S', Scrubs.doesS s0 ki ni l = S' := ⟨_, rfl⟩
            obtain ⟨X, hX⟩ : ∃ X, Scrubs.doesN s0 ki l = X := ⟨_, rfl⟩
            rw [hS'] at HD HRS
            rw [hX] at HD
            clear ho3 hki hni hS' hX
            go_upto_region 6 with (fail)
            have HSS := Lib.hid (fun (W : World) (hW : Ext wo W) => (⟨hW.cell k0, hW.cell k1, hW.cell k2, hW.cell k3, hW.cell ho0, hW.cell ho1, hW.cell ho2⟩ : (fun W => W.cell? ⟨g, 0, none⟩ = some (.int .i64 s0.cur) ∧ W.cell? ⟨g, 1, none⟩ = some (.bool s0.queue) ∧ W.cell? ⟨g, 2, none⟩ = some (.slice A n c) ∧ W.cell? ⟨g, 3, none⟩ = some (.slice B m d) ∧ W.cell? ⟨bo, oo + i * 3, none⟩ = some (.int .i64 ki) ∧ W.cell? ⟨bo, oo + i * 3 + 1, none⟩ = some (.int .i64 ni) ∧ W.cell? ⟨bo, oo + i * 3 + 2, none⟩ = some (.slice Lo_ Lm Lc)) W))
            refine wp_region_T (S := (fun W => W.cell? ⟨g, 0, none⟩ = some (.int .i64 s0.cur) ∧ W.cell? ⟨g, 1, none⟩ = some (.bool s0.queue) ∧ W.cell? ⟨g, 2, none⟩ = some (.slice A n c) ∧ W.cell? ⟨g, 3, none⟩ = some (.slice B m d) ∧ W.cell? ⟨bo, oo + i * 3, none⟩ = some (.int .i64 ki) ∧ W.cell? ⟨bo, oo + i * 3 + 1, none⟩ = some (.int .i64 ni) ∧ W.cell? ⟨bo, oo + i * 3 + 2, none⟩ = some (.slice Lo_ Lm Lc))) 10 (n := 11) rfl rfl ?_
            have hHeld : ((fun W => W.cell? ⟨g, 0, none⟩ = some (.int .i64 s0.cur) ∧ W.cell? ⟨g, 1, none⟩ = some (.bool s0.queue) ∧ W.cell? ⟨g, 2, none⟩ = some (.slice A n c) ∧ W.cell? ⟨g, 3, none⟩ = some (.slice B m d) ∧ W.cell? ⟨bo, oo + i * 3, none⟩ = some (.int .i64 ki) ∧ W.cell? ⟨bo, oo + i * 3 + 1, none⟩ = some (.int .i64 ni) ∧ W.cell? ⟨bo, oo + i * 3 + 2, none⟩ = some (.slice Lo_ Lm Lc))) wo.drew := HSS.out _ (Ext.drew _)
            refine takeT (i := 0) (v := ?_) rfl (by kernel_rfl) (by kernel_rfl) (by kernel_rfl) (by kernel_rfl) (by decide) (fun _ _ _ h => h) (by kernel_rfl) (Or.inl ⟨by rfl, ?_⟩) (by assumption) ?_
            rotate_left
            · (intro W9 hSw; (try dsimp only at hSw); go_simp; (try with_reducible rfl))
            try simp only [Act.put, List.setIfInBounds_toArray, List.set_cons_zero, List.set_cons_succ]
            refine takeT (i := 1) (v := ?_) rfl (by kernel_rfl) (by kernel_rfl) (by kernel_rfl) (by kernel_rfl) (by decide) (fun _ _ _ h => h) (by kernel_rfl) (Or.inl ⟨by rfl, ?_⟩) (by assumption) ?_
            rotate_left
            · (intro W9 hSw; (try dsimp only at hSw); go_simp; (try with_reducible rfl))
            try simp only [Act.put, List.setIfInBounds_toArray, List.set_cons_zero, List.set_cons_succ]
            refine takeT (i := 2) (v := ?_) rfl (by kernel_rfl) (by kernel_rfl) (by kernel_rfl) (by kernel_rfl) (by decide) (fun _ _ _ h => h) (by kernel_rfl) (Or.inl ⟨by rfl, ?_⟩) (by assumption) ?_
            rotate_left
            · (intro W9 hSw; (try dsimp only at hSw); go_simp; (try with_reducible rfl))
            try simp only [Act.put, List.setIfInBounds_toArray, List.set_cons_zero, List.set_cons_succ]
            refine takeT (i := 3) (v := ?_) rfl (by kernel_rfl) (by kernel_rfl) (by kernel_rfl) (by kernel_rfl) (by decide) (fun _ _ _ h => h) (by kernel_rfl) (Or.inl ⟨by rfl, ?_⟩) (by assumption) ?_
            rotate_left
            · (intro W9 hSw; (try dsimp only at hSw); go_simp; (try with_reducible rfl))
            try simp only [Act.put, List.setIfInBounds_toArray, List.set_cons_zero, List.set_cons_succ]
            refine takeT (i := 4) (v := ?_) rfl (by kernel_rfl) (by kernel_rfl) (by kernel_rfl) (by kernel_rfl) (by decide) (fun _ _ _ h => h) (by kernel_rfl) (Or.inl ⟨by rfl, ?_⟩) (by assumption) ?_
            rotate_left
            · (intro W9 hSw; (try dsimp only at hSw); go_simp; (try with_reducible rfl))
            try simp only [Act.put, List.setIfInBounds_toArray, List.set_cons_zero, List.set_cons_succ]
            refine takeT (i := 5) (v := ?_) rfl (by kernel_rfl) (by kernel_rfl) (by kernel_rfl) (by kernel_rfl) (by decide) (fun _ _ _ h => h) (by kernel_rfl) (Or.inl ⟨by rfl, ?_⟩) (by assumption) ?_
            rotate_left
            · (intro W9 hSw; (try dsimp only at hSw); go_simp; (try with_reducible rfl))
            try simp only [Act.put, List.setIfInBounds_toArray, List.set_cons_zero, List.set_cons_succ]
            refine oneT (i := 6) rfl (by kernel_rfl) (fun K hK => ?_)
            rw [if_pos (by kernel_rfl)]
            go_wp2_with (((with_reducible refine (HD.out _ (Ext.drew _)).mono ?_); (rintro e w3 ⟨A2, n2, c2, B2, m2, d2, rfl, ls2, x2⟩; have z2 : Ext wo w3 := (Ext.drew _).trans x2; have sb2 := SB.out.ext z2; have f4 := sb2.fz; have SB2 := Lib.hid sb2; have LS2 := Lib.hid ls2; clear sb2 ls2 x2)))
            refine hK.out _ _ (fun _ => HSS.out _ z2) ?_
            clear hK K hHeld
            have hHeld : ((fun W => W.cell? ⟨g, 0, none⟩ = some (.int .i64 s0.cur) ∧ W.cell? ⟨g, 1, none⟩ = some (.bool s0.queue) ∧ W.cell? ⟨g, 2, none⟩ = some (.slice A n c) ∧ W.cell? ⟨g, 3, none⟩ = some (.slice B m d) ∧ W.cell? ⟨bo, oo + i * 3, none⟩ = some (.int .i64 ki) ∧ W.cell? ⟨bo, oo + i * 3 + 1, none⟩ = some (.int .i64 ni) ∧ W.cell? ⟨bo, oo + i * 3 + 2, none⟩ = some (.slice Lo_ Lm Lc))) w3 := HSS.out _ z2
            try simp only [Act.put, List.setIfInBounds_toArray, List.set_cons_zero, List.set_cons_succ]
            refine takeT (i := 7) (v := ?_) rfl (by kernel_rfl) (by kernel_rfl) (by kernel_rfl) (by kernel_rfl) (by decide) (fun _ _ _ h => h) (by kernel_rfl) (Or.inl ⟨by rfl, ?_⟩) (by assumption) ?_
            rotate_left
            · (intro W9 hSw; (try dsimp only at hSw); go_simp; (try with_reducible rfl))
            try simp only [Act.put, List.setIfInBounds_toArray, List.set_cons_zero, List.set_cons_succ]
            refine takeT (i := 8) (v := ?_) rfl (by kernel_rfl) (by kernel_rfl) (by kernel_rfl) (by kernel_rfl) (by decide) (fun _ _ _ h => h) (by kernel_rfl) (Or.inl ⟨by rfl, ?_⟩) (by assumption) ?_
            rotate_left
            · (intro W9 hSw; (try dsimp only at hSw); go_simp; (try with_reducible rfl))
            try simp only [Act.put, List.setIfInBounds_toArray, List.set_cons_zero, List.set_cons_succ]
            refine pureT (i := 9) (v := ?_) rfl (by kernel_rfl) (by kernel_rfl) (by kernel_rfl) (by decide) (fun _ _ _ h => h) (Or.inl ⟨by rfl, ?_⟩) (fun _ => by assumption) ?_
            rotate_left
            · (intro W9 _; go_simp; (try with_reducible rfl))
            try simp only [Act.put, List.setIfInBounds_toArray, List.set_cons_zero, List.set_cons_succ]
            refine oneT (i := 10) rfl (by kernel_rfl) (fun K hK => ?_)
            rw [if_pos (by kernel_rfl)]
            go_wp2_with (fail)
            refine hK.out _ _ (fun h => absurd (show true = false from h) (by decide)) ?_
            clear hK K hHeld
            try simp only [Act.put, List.setIfInBounds_toArray, List.set_cons_zero, List.set_cons_succ]
            refine doneT (by kernel_rfl) ?_ _
            go_wp2_with (fail)
            exact ⟨⟨i + 1, S', by omega, by omega, by go_num, Lib.hid ⟨A2, n2, c2, B2, m2, d2, SB2.out.whole _ _ _ _, LS2.out.put SB2.out HG.out _ _ _ _⟩, HRS, Lib.hid ((HXr.out.trans z2).four (by have := HG.out; have := HB0.out; omega) _ _ _ _)⟩, by simp [intOf]; omega⟩
          · have r2 : ¬ (i : Int) < 40 := by omega
            go_wp2_with (fail)
            go_meet
            exact ⟨_, rfl, _, HH, HR, HXr⟩
        · have r1 : ¬ (i : Int) < q := by omega
          go_wp2_with (fail)
          go_meet
          exact ⟨_, rfl, _, HH, HR, HXr⟩
    case rest =>
      obtain ⟨w3, rfl, s1, HS1, HR1, HX1⟩ := hcut
      clear HS HX
      go_upto_block 2 with (fail)
      go_cut [] (fun wx => ∃ wv : World, wv = wx ∧ ∃ s0 : Scrubs.S, RowKit.Hid (Hs b0 wx g s0) ∧ RowKit.Hid (Scrubs.right s0) ∧ RowKit.Hid (s0.busy = []) ∧ RowKit.Hid (Ext w1 wx))
      case first =>
        go_wp2_with (fail)
        go_loopw [10, 11, 46] (fun _ _ _ wr => ∃ s0 : Scrubs.S, RowKit.Hid (Hs b0 wr g s0) ∧ RowKit.Hid (Scrubs.right s0) ∧ RowKit.Hid (Ext w1 wr)) (fun _ _ _ wr => busyLen wr g)
        case atStart => exact ⟨_, HS1, HR1, HX1⟩
        case round =>
          obtain ⟨s0, HH, HR, HXr⟩ := hrel
          obtain ⟨wo, rfl⟩ : ∃ wo : World, wo = wr := ⟨_, rfl⟩
          have HLEN := Lib.hid HH.out.busyLen
          obtain ⟨A, n, c, B, m, d, sb, ls⟩ := HH.out
          have k0 := sb.c0
          have k1 := sb.c1
          have k2 := sb.c2
          have k3 := sb.c3
          have kf := sb.fz
          have q7 := ls.u.max
          have q8 := ls.u.le
          have q9 := ls.b.max
          have q10 := ls.b.le
          have SB := Lib.hid sb
          have LS := Lib.hid ls
          clear sb ls
          by_cases h0 : 0 < m
          · have r1 : (0 : Int) < m := by omega
            have hl := LS.out.b.len
            obtain ⟨e1, e2, e3⟩ := Scrubs.over_first HR.out (by omega)
            obtain ⟨bb, ob, rfl, hc2⟩ := LS.out.b.rd.intAt h0
            obtain ⟨y, hy⟩ : ∃ y, Il.get s0.busy 0 = y := ⟨_, rfl⟩
            rw [hy] at e1 e2 hc2
            have hc3 : wo.cell? ⟨bb, ob, none⟩ = some (.int .i64 y) := hc2
            have HO := Lib.hid (fun (W : World) (hW : Ext wo W) => by
              have h := scOver_any W s0 A n c (some ⟨bb, ob, none⟩) m d y (LS.out.u.ext hW) (LS.out.b.ext hW)
              rw [e1, e2] at h
              exact h)
            have HR3 := Lib.hid e3
            have HSH := Lib.hid (show (s0.busy.eraseIdx 0).length + 1 = m by rw [List.length_eraseIdx]; rw [if_pos (by omega)]; omega)
            clear e1 e2 e3 hy hc2 hl
            obtain ⟨bl, hbl⟩ : ∃ bl, s0.busy.eraseIdx 0 = bl := ⟨_, rfl⟩
            rw [hbl] at HO HR3 HSH
            clear hbl
            go_upto_region 8 with (fail)
            go_cut [10, 11, 46] (fun s10 s11 _ wx => ∃ wv : World, wv = wx ∧ ∃ g9, s10 = .pointer (some ⟨g9, 0, none⟩) ∧ s11 = .int .i64 0 ∧ RowKit.Hid (Hs b0 wx g9 ⟨s0.cur, s0.queue, s0.urged, bl⟩) ∧ RowKit.Hid (Ext wo wx))
            case first =>
              have y0 := (Ext.alloc wo.drew (.cells #[.int .i64 0, .bool false, .slice none 0 0, .slice none 0 0] 24)).cell ((Ext.drew wo).cell k0)
              have v0 := (Ext.drew (wo.alloc (.cells #[.int .i64 0, .bool false, .slice none 0 0, .slice none 0 0] 24))).cell ((Ext.alloc wo (.cells #[.int .i64 0, .bool false, .slice none 0 0, .slice none 0 0] 24)).cell k0)
              have y1 := (Ext.alloc wo.drew (.cells #[.int .i64 0, .bool false, .slice none 0 0, .slice none 0 0] 24)).cell ((Ext.drew wo).cell k1)
              have v1 := (Ext.drew (wo.alloc (.cells #[.int .i64 0, .bool false, .slice none 0 0, .slice none 0 0] 24))).cell ((Ext.alloc wo (.cells #[.int .i64 0, .bool false, .slice none 0 0, .slice none 0 0] 24)).cell k1)
              have y2 := (Ext.alloc wo.drew (.cells #[.int .i64 0, .bool false, .slice none 0 0, .slice none 0 0] 24)).cell ((Ext.drew wo).cell k2)
              have v2 := (Ext.drew (wo.alloc (.cells #[.int .i64 0, .bool false, .slice none 0 0, .slice none 0 0] 24))).cell ((Ext.alloc wo (.cells #[.int .i64 0, .bool false, .slice none 0 0, .slice none 0 0] 24)).cell k2)
              have y3 := (Ext.alloc wo.drew (.cells #[.int .i64 0, .bool false, .slice none 0 0, .slice none 0 0] 24)).cell ((Ext.drew wo).cell k3)
              have v3 := (Ext.drew (wo.alloc (.cells #[.int .i64 0, .bool false, .slice none 0 0, .slice none 0 0] 24))).cell ((Ext.alloc wo (.cells #[.int .i64 0, .bool false, .slice none 0 0, .slice none 0 0] 24)).cell k3)
              have y4 := (Ext.alloc wo.drew (.cells #[.int .i64 0, .bool false, .slice none 0 0, .slice none 0 0] 24)).cell ((Ext.drew wo).cell hc3)
              have v4 := (Ext.drew (wo.alloc (.cells #[.int .i64 0, .bool false, .slice none 0 0, .slice none 0 0] 24))).cell ((Ext.alloc wo (.cells #[.int .i64 0, .bool false, .slice none 0 0, .slice none 0 0] 24)).cell hc3)
              go_region_with (first
                | (((with_reducible refine (HO.out _ (Ext.drew _)).mono ?_); (intro e w3 hn; obtain ⟨A2, n2, c2, B2, m2, d2, rfl, ls2, x2⟩ := hn.ls (b0 := b0) (LS.out.lu.ext (Ext.drew _)) (LS.out.lb.ext (Ext.drew _)); have z2 : Ext wo w3 := (Ext.drew _).trans x2; have LS2 := Lib.hid ls2; clear hn ls2 x2)))
                | (((with_reducible refine (HO.out _ ((Ext.drew _).thenAlloc _)).mono ?_); (intro e w3 hn; obtain ⟨A2, n2, c2, B2, m2, d2, rfl, ls2, x2⟩ := hn.ls (b0 := b0) (LS.out.lu.ext ((Ext.drew _).thenAlloc _)) (LS.out.lb.ext ((Ext.drew _).thenAlloc _)); have z2 : Ext wo w3 := ((Ext.drew _).thenAlloc _).trans x2; have nb := (Sb.new wo.drew 0 false (.slice none 0 0) (.slice none 0 0) rfl).ext x2; have NB := Lib.hid nb; have nf := nb.fz; have n0 := nb.c0; have n1 := nb.c1; have n2' := nb.c2; have n3 := nb.c3; clear nb; have LS2 := Lib.hid ls2; clear hn ls2 x2)))
                | (((with_reducible refine (HO.out _ ((Ext.alloc _ _).thenDrew)).mono ?_); (intro e w3 hn; obtain ⟨A2, n2, c2, B2, m2, d2, rfl, ls2, x2⟩ := hn.ls (b0 := b0) (LS.out.lu.ext ((Ext.alloc _ _).thenDrew)) (LS.out.lb.ext ((Ext.alloc _ _).thenDrew)); have z2 : Ext wo w3 := ((Ext.alloc _ _).thenDrew).trans x2; have nb := ((Sb.new wo 0 false (.slice none 0 0) (.slice none 0 0) rfl).ext (Ext.drew _)).ext x2; have NB := Lib.hid nb; have nf := nb.fz; have n0 := nb.c0; have n1 := nb.c1; have n2' := nb.c2; have n3 := nb.c3; clear nb; have LS2 := Lib.hid ls2; clear hn ls2 x2)))
                | fail)
              all_goals
                go_wp2_with (fail)
                go_meet
                first
                  | exact ⟨_, rfl, _, rfl, rfl, Lib.hid ⟨A2, n2, c2, B2, m2, d2, Sb.new _ _ _ _ _ rfl, LS2.out.ext (Ext.alloc _ _)⟩, Lib.hid (z2.thenAlloc _)⟩
                  | exact ⟨_, rfl, _, rfl, rfl, Lib.hid ⟨A2, n2, c2, B2, m2, d2, NB.out.whole _ _ _ _, LS2.out.put NB.out (by have := HXr.out.size; have := HB0.out; simp; omega) _ _ _ _⟩, Lib.hid (z2.four (by simp) _ _ _ _)⟩
            case rest =>
              obtain ⟨w4, rfl, g9, rfl, rfl, HN9, HX4⟩ := hcut
              obtain ⟨A', n', c', B', m', d', sb9, ls9⟩ := HN9.out
              have hm' : bl.length = m' := ls9.b.len
              have hsh := HSH.out
              obtain rfl : m = m' + 1 := by omega
              have j0 := sb9.c0
              have j1 := sb9.c1
              have j2 := sb9.c2
              have j3 := sb9.c3
              have q11 := ls9.u.max
              have q12 := ls9.u.le
              have q13 := ls9.b.max
              have q14 := ls9.b.le
              have s4 := SB.out.ext HX4.out
              have i0 := s4.c0
              have i1 := s4.c1
              have i2 := s4.c2
              have i3 := s4.c3
              have i4 := s4.fz
              have S4 := Lib.hid s4
              have LS9 := Lib.hid ls9
              clear s4 ls9 sb9 hm' hsh k0 k1 k2 k3 kf hc3
              have e9 : ((m' : Int) != ((m' + 1 : Nat) : Int) - 1) = false := by rw [bne_eq_false_iff_eq]; omega
              go_wp2_with (fail)
              have HFIN : Hs b0 (four w4 g s0.cur s0.queue (.slice A' n' c') (.slice B' m' d')) g ⟨s0.cur, s0.queue, s0.urged, bl⟩ := ⟨A', n', c', B', m', d', S4.out.whole _ _ _ _, LS9.out.put S4.out HG.out _ _ _ _⟩
              exact ⟨⟨_, Lib.hid HFIN, HR3, Lib.hid ((HXr.out.trans HX4.out).four (by have := HG.out; have := HB0.out; omega) _ _ _ _)⟩, by have h1 := HLEN.out; have h2 := HFIN.busyLen; have h3 := HSH.out; have h4 := LS.out.b.len; simp only at h2; show busyLen (four _ g s0.cur s0.queue (.slice A' n' c') (.slice B' m' d')) g < busyLen wo g; omega⟩
          · have r1 : ¬ (0 : Int) < m := by omega
            go_wp2_with (fail)
            go_meet
            exact ⟨_, rfl, _, HH, HR, Lib.hid (List.length_eq_zero_iff.1 (by have := LS.out.b.len; omega)), HXr⟩
      case rest =>
        obtain ⟨w4, rfl, s2, HS2, HR2, HE2, HX2⟩ := hcut
        clear HS1 HR1 HX1
        go_upto_region 12 with (fail)
        go_cut [12] (fun s12 wx => ∃ wv : World, wv = wx ∧ ∃ M, s12 = .map (some M) ∧ RowKit.Hid (b0 ≤ M) ∧ RowKit.Hid (Mp wx M 0 (fun _ => False)) ∧ RowKit.Hid (Hs b0 wx g s2) ∧ RowKit.Hid (Ext w1 wx))
        case first =>
          go_wp2_with (fail)
          go_meet
          exact ⟨_, rfl, _, rfl, Lib.hid (by have := HX2.out.size; have := HB0.out; omega), Lib.hid (Mp.made w4), Lib.hid (HS2.out.ext (Ext.alloc _ _)), Lib.hid (HX2.out.thenAlloc _)⟩
        case rest =>
         obtain ⟨w4b, rfl, M, rfl, HBM, HMM, HS3, HX3⟩ := hcut
         clear HS2 HX2 hmm
         go_upto_block 4 with (fail)
         go_cut [] (fun wx => ∃ wv : World, wv = wx ∧ RowKit.Hid (∃ C k, Mp wx M k C ∧ ∀ x ∈ l, C x) ∧ RowKit.Hid (Ext w1 wx))
         case first =>
          go_wp2_with (fail)
          go_loopw [13, 14, 15, 16, 80, 90, 101] (fun s _ _ _ _ _ _ wr => ∃ (i : Nat) (s0 : Scrubs.S) (C : Int → Prop), i ≤ 2 * N ∧ s = .int .i64 (i : Int) ∧ RowKit.Hid (Hs b0 wr g s0) ∧ RowKit.Hid (Mp wr M i C) ∧ RowKit.Hid (Scrubs.right s0) ∧ RowKit.Hid (s0.busy = []) ∧ RowKit.Hid (Scrubs.Seen l (Scrubs.next s2.cur l) i s0 C) ∧ RowKit.Hid (Ext w1 wr)) (fun s _ _ _ _ _ _ _ => 2 * N - (intOf s).toNat)
          case atStart => exact ⟨0, s2, fun _ => False, by omega, rfl, HS3, HMM, HR2, HE2, Lib.hid (Scrubs.Seen.start _ _ _), HX3⟩
          case round =>
            obtain ⟨i, s0, C, hi, rfl, HH, HMr, HR, HE, HSN, HXr⟩ := hrel
            have hl3' : 2 * N ≤ 60 := by omega
            by_cases hlt : i < 2 * N
            · have r1 : (i : Int) < 2 * (N : Int) := by omega
              have HNE := Lib.hid (show l ≠ [] by rintro rfl; have := HN.out; simp at this; omega)
              obtain ⟨wo, rfl⟩ : ∃ wo : World, wo = wr := ⟨_, rfl⟩
              go_upto_if 79 with (fail)
              go_cut [80] (fun _ wx => ∃ wv : World, wv = wx ∧ ∃ s3 : Scrubs.S, RowKit.Hid (Hs b0 wx g s3) ∧ RowKit.Hid (Mp wx M i C) ∧ RowKit.Hid (Scrubs.right s3) ∧ RowKit.Hid (s3.busy = []) ∧ RowKit.Hid (Scrubs.Seen l (Scrubs.next s2.cur l) i s3 C) ∧ RowKit.Hid (Ext w1 wx))
              case first =>
                by_cases hu : i < nu
                · have r2 : (i : Int) < nu := by omega
                  obtain ⟨A, n, c, B, m, d, sb, ls⟩ := HH.out
                  have k0 := sb.c0
                  have k1 := sb.c1
                  have k2 := sb.c2
                  have k3 := sb.c3
                  have kf := sb.fz
                  have q7 := ls.u.max
                  have q8 := ls.u.le
                  have q9 := ls.b.max
                  have q10 := ls.b.le
                  have SB := Lib.hid sb
                  have LS := Lib.hid ls
                  clear sb ls
                  obtain ⟨bu, ou, rfl, hcu⟩ := ((HUS.out.ext XW.out).ext HXr.out).rd.byte hu
                  obtain ⟨x, hx⟩ : ∃ x, Gf.get us i = x := ⟨_, rfl⟩
                  rw [hx] at hcu
                  clear hx
                  have hx0 := x.toNat_lt
                  have HU := Lib.hid (fun (W : World) (hW : Ext wo W) => scUrge_any W s0 A n c B m d (x.toNat : Int) (LS.out.u.ext hW) (LS.out.b.ext hW))
                  have hk := Scrubs.urge_keeps s0 (x.toNat : Int)
                  have HRS := Lib.hid (Scrubs.right_urge HR.out (x.toNat : Int))
                  have HES := Lib.hid (hk.2.2.trans HE.out)
                  have HSS2 := Lib.hid (HSN.out.urge (x.toNat : Int))
                  obtain ⟨S', hS'⟩ : ∃ S', Scrubs.urgeS s0 (x.toNat : Int) = S' := ⟨_, rfl⟩
                  rw [hS'] at HU HRS HES HSS2
                  clear hS' hk
                  go_upto_region 17 with (fail)
                  have HSS := Lib.hid (fun (W : World) (hW : Ext wo W) => (⟨hW.cell k0, hW.cell k1, hW.cell k2, hW.cell k3, hW.cell hcu⟩ : (fun W => W.cell? ⟨g, 0, none⟩ = some (.int .i64 s0.cur) ∧ W.cell? ⟨g, 1, none⟩ = some (.bool s0.queue) ∧ W.cell? ⟨g, 2, none⟩ = some (.slice A n c) ∧ W.cell? ⟨g, 3, none⟩ = some (.slice B m d) ∧ W.cell? ⟨bu, ou + i, none⟩ = some (.int .u8 (x.toNat : Int))) W))
                  refine wp_region_T (S := (fun W => W.cell? ⟨g, 0, none⟩ = some (.int .i64 s0.cur) ∧ W.cell? ⟨g, 1, none⟩ = some (.bool s0.queue) ∧ W.cell? ⟨g, 2, none⟩ = some (.slice A n c) ∧ W.cell? ⟨g, 3, none⟩ = some (.slice B m d) ∧ W.cell? ⟨bu, ou + i, none⟩ = some (.int .u8 (x.toNat : Int)))) 10 (n := 11) rfl rfl ?_
                  have hHeld : ((fun W => W.cell? ⟨g, 0, none⟩ = some (.int .i64 s0.cur) ∧ W.cell? ⟨g, 1, none⟩ = some (.bool s0.queue) ∧ W.cell? ⟨g, 2, none⟩ = some (.slice A n c) ∧ W.cell? ⟨g, 3, none⟩ = some (.slice B m d) ∧ W.cell? ⟨bu, ou + i, none⟩ = some (.int .u8 (x.toNat : Int)))) wo.drew := HSS.out _ (Ext.drew _)
                  refine takeT (i := 0) (v := ?_) rfl (by kernel_rfl) (by kernel_rfl) (by kernel_rfl) (by kernel_rfl) (by decide) (fun _ _ _ h => h) (by kernel_rfl) (Or.inl ⟨by rfl, ?_⟩) (by assumption) ?_
                  rotate_left
                  · (intro W9 hSw; (try dsimp only at hSw); go_simp; (try with_reducible rfl))
                  try simp only [Act.put, List.setIfInBounds_toArray, List.set_cons_zero, List.set_cons_succ]
                  refine takeT (i := 1) (v := ?_) rfl (by kernel_rfl) (by kernel_rfl) (by kernel_rfl) (by kernel_rfl) (by decide) (fun _ _ _ h => h) (by kernel_rfl) (Or.inl ⟨by rfl, ?_⟩) (by assumption) ?_
                  rotate_left
                  · (intro W9 hSw; (try dsimp only at hSw); go_simp; (try with_reducible rfl))
                  try simp only [Act.put, List.setIfInBounds_toArray, List.set_cons_zero, List.set_cons_succ]
                  refine takeT (i := 2) (v := ?_) rfl (by kernel_rfl) (by kernel_rfl) (by kernel_rfl) (by kernel_rfl) (by decide) (fun _ _ _ h => h) (by kernel_rfl) (Or.inl ⟨by rfl, ?_⟩) (by assumption) ?_
                  rotate_left
                  · (intro W9 hSw; (try dsimp only at hSw); go_simp; (try with_reducible rfl))
                  try simp only [Act.put, List.setIfInBounds_toArray, List.set_cons_zero, List.set_cons_succ]
                  refine takeT (i := 3) (v := ?_) rfl (by kernel_rfl) (by kernel_rfl) (by kernel_rfl) (by kernel_rfl) (by decide) (fun _ _ _ h => h) (by kernel_rfl) (Or.inl ⟨by rfl, ?_⟩) (by assumption) ?_
                  rotate_left
                  · (intro W9 hSw; (try dsimp only at hSw); go_simp; (try with_reducible rfl))
                  try simp only [Act.put, List.setIfInBounds_toArray, List.set_cons_zero, List.set_cons_succ]
                  refine takeT (i := 4) (v := ?_) rfl (by kernel_rfl) (by kernel_rfl) (by kernel_rfl) (by kernel_rfl) (by decide) (fun _ _ _ h => h) (by kernel_rfl) (Or.inl ⟨by rfl, ?_⟩) (by assumption) ?_
                  rotate_left
                  · (intro W9 hSw; (try dsimp only at hSw); go_simp; (try with_reducible rfl))
                  try simp only [Act.put, List.setIfInBounds_toArray, List.set_cons_zero, List.set_cons_succ]
                  refine takeT (i := 5) (v := ?_) rfl (by kernel_rfl) (by kernel_rfl) (by kernel_rfl) (by kernel_rfl) (by decide) (fun _ _ _ h => h) (by kernel_rfl) (Or.inl ⟨by rfl, ?_⟩) (by assumption) ?_
                  rotate_left
                  · (intro W9 hSw; (try dsimp only at hSw); go_simp; (try with_reducible rfl))
                  try simp only [Act.put, List.setIfInBounds_toArray, List.set_cons_zero, List.set_cons_succ]
                  refine oneT (i := 6) rfl (by kernel_rfl) (fun K hK => ?_)
                  rw [if_pos (by kernel_rfl)]
                  go_wp2_with (((with_reducible refine (HU.out _ (Ext.drew _)).mono ?_); (intro e w3 hn; obtain ⟨A2, n2, c2, B2, m2, d2, rfl, ls2, x2⟩ := hn.ls (b0 := b0) (LS.out.lu.ext (Ext.drew _)) (LS.out.lb.ext (Ext.drew _)); have z2 : Ext wo w3 := (Ext.drew _).trans x2; have sb2 := SB.out.ext z2; have f4 := sb2.fz; have SB2 := Lib.hid sb2; have LS2 := Lib.hid ls2; clear sb2 hn ls2 x2)))
                  refine hK.out _ _ (fun _ => HSS.out _ z2) ?_
                  clear hK K hHeld
                  have hHeld : ((fun W => W.cell? ⟨g, 0, none⟩ = some (.int .i64 s0.cur) ∧ W.cell? ⟨g, 1, none⟩ = some (.bool s0.queue) ∧ W.cell? ⟨g, 2, none⟩ = some (.slice A n c) ∧ W.cell? ⟨g, 3, none⟩ = some (.slice B m d) ∧ W.cell? ⟨bu, ou + i, none⟩ = some (.int .u8 (x.toNat : Int)))) w3 := HSS.out _ z2
                  try simp only [Act.put, List.setIfInBounds_toArray, List.set_cons_zero, List.set_cons_succ]
                  refine takeT (i := 7) (v := ?_) rfl (by kernel_rfl) (by kernel_rfl) (by kernel_rfl) (by kernel_rfl) (by decide) (fun _ _ _ h => h) (by kernel_rfl) (Or.inl ⟨by rfl, ?_⟩) (by assumption) ?_
                  rotate_left
                  · (intro W9 hSw; (try dsimp only at hSw); go_simp; (try with_reducible rfl))
                  try simp only [Act.put, List.setIfInBounds_toArray, List.set_cons_zero, List.set_cons_succ]
                  refine takeT (i := 8) (v := ?_) rfl (by kernel_rfl) (by kernel_rfl) (by kernel_rfl) (by kernel_rfl) (by decide) (fun _ _ _ h => h) (by kernel_rfl) (Or.inl ⟨by rfl, ?_⟩) (by assumption) ?_
                  rotate_left
                  · (intro W9 hSw; (try dsimp only at hSw); go_simp; (try with_reducible rfl))
                  try simp only [Act.put, List.setIfInBounds_toArray, List.set_cons_zero, List.set_cons_succ]
                  refine pureT (i := 9) (v := ?_) rfl (by kernel_rfl) (by kernel_rfl) (by kernel_rfl) (by decide) (fun _ _ _ h => h) (Or.inl ⟨by rfl, ?_⟩) (fun _ => by assumption) ?_
                  rotate_left
                  · (intro W9 _; go_simp; (try with_reducible rfl))
                  try simp only [Act.put, List.setIfInBounds_toArray, List.set_cons_zero, List.set_cons_succ]
                  refine oneT (i := 10) rfl (by kernel_rfl) (fun K hK => ?_)
                  rw [if_pos (by kernel_rfl)]
                  go_wp2_with (fail)
                  refine hK.out _ _ (fun h => absurd (show true = false from h) (by decide)) ?_
                  clear hK K hHeld
                  try simp only [Act.put, List.setIfInBounds_toArray, List.set_cons_zero, List.set_cons_succ]
                  refine doneT (by kernel_rfl) ?_ _
                  go_wp2_with (fail)
                  go_meet
                  exact ⟨_, rfl, S', Lib.hid ⟨A2, n2, c2, B2, m2, d2, SB2.out.whole _ _ _ _, LS2.out.put SB2.out HG.out _ _ _ _⟩, Lib.hid ((HMr.out.ext z2).four SB2.out _ _ _ _), HRS, HES, HSS2, Lib.hid ((HXr.out.trans z2).four (by have := HG.out; have := HB0.out; omega) _ _ _ _)⟩
                · have r2 : ¬ (i : Int) < nu := by omega
                  go_wp2_with (fail)
                  go_meet
                  exact ⟨_, rfl, s0, HH, HMr, HR, HE, HSN, HXr⟩
              case rest =>
                obtain ⟨w5, rfl, s3, HH3, HM3, HR3, HE3, HSN3, HX3⟩ := hcut
                obtain ⟨e1, e2, e3, e4, _⟩ := Scrubs.round HR3.out HE3.out HSL.out HNE.out
                have htf := (Scrubs.take_facts e1).2.2.2.2
                have HST := Lib.hid htf.2
                have HSN5 := Lib.hid (HSN3.out.round HR3.out HE3.out HSL.out HNE.out (D := fun x => C x ∨ x = Scrubs.takeN s3 l) (fun x h => .inl h) (.inr rfl))
                obtain ⟨A, n, c, B, m, d, sb, ls⟩ := HH3.out
                have k0 := sb.c0
                have k1 := sb.c1
                have k2 := sb.c2
                have k3 := sb.c3
                have kf := sb.fz
                have q7 := ls.u.max
                have q8 := ls.u.le
                have q9 := ls.b.max
                have q10 := ls.b.le
                have SB := Lib.hid sb
                have LS := Lib.hid ls
                clear sb ls
                have ht := scTake_any w5 s3 A n c B m d Al N cl l LS.out.u LS.out.b (HL.out.ext HX3.out)
                rw [e1] at ht
                have HT := Lib.hid ht
                have HE1 := Lib.hid e2
                have HR5 := Lib.hid e3
                have HE5 := Lib.hid e4
                clear e1 e2 e3 e4 ht htf
                have HAF := Lib.hid (show Scrubs.overS (Scrubs.takeS s3 l) (Scrubs.takeN s3 l) = Scrubs.after s3 l from rfl)
                obtain ⟨S5, hS5⟩ : ∃ S5, Scrubs.after s3 l = S5 := ⟨_, rfl⟩
                obtain ⟨S4, hS4⟩ : ∃ S4, Scrubs.takeS s3 l = S4 := ⟨_, rfl⟩
                obtain ⟨X, hX⟩ : ∃ X, Scrubs.takeN s3 l = X := ⟨_, rfl⟩
                rw [hX] at HST HSN5 HT HE1 HAF
                rw [hS4] at HT HE1 HAF
                rw [hS5] at HR5 HE5 HAF HSN5
                clear hX hS4 hS5
                go_upto_region 18 with (fail)
                go_cut [90, 14, 15, 16] (fun _ s14 s15 s16 wx => ∃ wv : World, wv = wx ∧ ∃ g9, s14 = .pointer (some ⟨g9, 0, none⟩) ∧ s15 = .int .i64 X ∧ s16 = .int .i64 0 ∧ RowKit.Hid (Hs b0 wx g9 S4) ∧ RowKit.Hid (Ext w5 wx))
                case first =>
                  go_wp2_with (fail)
                  refine HT.out.mono ?_
                  intro e w6 hn
                  obtain ⟨A2, n2, c2, B2, m2, d2, rfl, ls2, x2⟩ := hn.ls (b0 := b0) LS.out.lu LS.out.lb
                  have LS2 := Lib.hid ls2
                  have X2 := Lib.hid x2
                  clear hn ls2 x2
                  go_wp2_with (fail)
                  go_meet
                  exact ⟨_, rfl, _, rfl, rfl, rfl, Lib.hid ⟨A2, n2, c2, B2, m2, d2, Sb.new _ _ _ _ _ rfl, LS2.out.ext (Ext.alloc _ _)⟩, Lib.hid (X2.out.thenAlloc _)⟩
                case rest =>
                  obtain ⟨w6, rfl, g9, rfl, rfl, rfl, HS6, HX6⟩ := hcut
                  have SB6 := Lib.hid (SB.out.ext HX6.out)
                  have HM6 := Lib.hid (HM3.out.ext HX6.out)
                  clear k0 k1 k2 k3 kf
                  go_upto_region 21 with (fail)
                  go_cut [] (fun wx => ∃ wv : World, wv = wx ∧ RowKit.Hid (Hs b0 wx g9 S4) ∧ RowKit.Hid (Mp wx M (i + 1) (fun x => C x ∨ x = X)) ∧ RowKit.Hid (Sb wx g s3.cur s3.queue (.slice A n c) (.slice B m d)) ∧ RowKit.Hid (Ext w1 wx))
                  case first =>
                    obtain ⟨D, hown, hD⟩ := HM6.out
                    have HD := Lib.hid hD
                    have hwf : (Lit.int .i64 X).wf = true := by
                      have h1 := HST.out.1
                      have h2 : X ≤ 1099511627776 := HST.out.2
                      exact WalkArith.wf_i64 (by omega)
                    have hkey : keyOf Try.prog 3 (.int .i64 X) = some (.int .i64 X) := Maps.keyOf_int_mk Try.underlying3 hwf
                    have HOW := Lib.hid hown
                    clear hD
                    go_wp2_with (first
                      | (at_mapUpdate; refine wpList_mapUpdate_own _ rfl _ _ _ 45 rfl 3 3 int_law Try.underlying45 _ M i _ rfl hown (by unfold maxLen; omega) _ _ _ rfl rfl hkey _ [] (plainElem_int Try.underlying3 (by decide)) ?_; intro w7 hown1 hgrow1)
                      | fail)
                    have hne9 : M ≠ g9 := by
                      obtain ⟨_, _, _, _, _, _, h1, _⟩ := HS6.out
                      exact HM6.out.noBox h1
                    have hne := HM6.out.noBox SB6.out
                    have hbm := HBM.out
                    go_meet
                    refine ⟨_, rfl, Lib.hid ?_, Lib.hid (Mp.put HOW.out HD.out hown1), Lib.hid (SB6.out.kept hgrow1 (fun e => hne (by injection e))), Lib.hid ((HX3.out.trans HX6.out).ofGrown hgrow1 (fun k hk => by injection hk with hk; have := HB0.out; omega))⟩
                    obtain ⟨A2, n2, c2, B2, m2, d2, h1, h2⟩ := HS6.out
                    exact ⟨A2, n2, c2, B2, m2, d2, h1.kept hgrow1 (fun e => hne9 (by injection e)), h2.grownM hbm HM6.out.noInt hgrow1⟩
                  case rest =>
                    obtain ⟨w7, rfl, HS7, HM7, HB7, HX7⟩ := hcut
                    obtain ⟨A2, n2, c2, B2, m2, d2, sb9, ls9⟩ := HS7.out
                    have j0 := sb9.c0
                    have j1 := sb9.c1
                    have j2 := sb9.c2
                    have j3 := sb9.c3
                    have q11 := ls9.u.max
                    have q12 := ls9.u.le
                    have q13 := ls9.b.max
                    have q14 := ls9.b.le
                    have hov := scOver_any w7 S4 A2 n2 c2 B2 m2 d2 X ls9.u ls9.b
                    rw [HE1.out, HAF.out] at hov
                    have HOV := Lib.hid hov
                    have LS9 := Lib.hid ls9
                    clear sb9 ls9 hov
                    go_wp2_with (fail)
                    refine HOV.out.mono ?_
                    intro e w8 hn
                    obtain ⟨A3, n3, c3, B3, m3, d3, rfl, ls3, x3⟩ := hn.ls (b0 := b0) LS9.out.lu LS9.out.lb
                    have s8 := HB7.out.ext x3
                    have i0 := s8.c0
                    have i1 := s8.c1
                    have i2 := s8.c2
                    have i3 := s8.c3
                    have i4 := s8.fz
                    have S8 := Lib.hid s8
                    have LS3 := Lib.hid ls3
                    have X3 := Lib.hid x3
                    clear hn ls3 x3 s8 j0 j1 j2 j3
                    go_wp2_with (fail)
                    exact ⟨⟨i + 1, S5, _, by omega, by go_num, Lib.hid ⟨A3, n3, c3, B3, m3, d3, S8.out.whole _ _ _ _, LS3.out.put S8.out HG.out _ _ _ _⟩, Lib.hid ((HM7.out.ext X3.out).four S8.out _ _ _ _), HR5, HE5, HSN5, Lib.hid ((HX7.out.trans X3.out).four (by have := HG.out; have := HB0.out; omega) _ _ _ _)⟩, by simp [intOf]; omega⟩
            · have r1 : ¬ (i : Int) < 2 * (N : Int) := by omega
              obtain rfl : i = 2 * N := by omega
              go_wp2_with (fail)
              go_meet
              exact ⟨_, rfl, Lib.hid ⟨C, _, HMr.out, fun x hx => Scrubs.Seen.all (by rw [HN.out]; exact HSN.out) hx⟩, HXr⟩
         case rest =>
          obtain ⟨w5, rfl, HMP, HX5⟩ := hcut
          obtain ⟨C, k9, hmp, hall⟩ := HMP.out
          obtain ⟨D, hown, hD⟩ := hmp
          have HD := Lib.hid hD
          have HALL := Lib.hid hall
          have HL5 := Lib.hid (HL.out.ext HX5.out)
          clear hall hD HS3 HR2 HE2 HX3
          go_upto_block 6 with (fail)
          go_cut [] (fun wx => w5 = wx)
          case first =>
            go_wp2_with (fail)
            go_loopw [18, 111] (fun _ si wr => ∃ k : Nat, k ≤ N ∧ si = .int .i64 (k : Int) ∧ w5 = wr) (fun _ s _ => N - (intOf s).toNat)
            case atStart => exact ⟨0, Nat.zero_le _, rfl, rfl⟩
            case round =>
              obtain ⟨k, hk, rfl, rfl⟩ := hrel
              by_cases hkw : k < N
              · have r3 : (k : Int) < (N : Nat) := by omega
                obtain ⟨b2, o2, rfl, hc2⟩ := HL5.out.rd.intAt hkw
                have hst := HALL.out (Il.get l k) (Il.get_mem (by rw [HN.out]; exact hkw))
                have hrg := HSL.out.rng (Il.get l k) (Il.get_mem (by rw [HN.out]; exact hkw))
                obtain ⟨y, hy⟩ : ∃ y, Il.get l k = y := ⟨_, rfl⟩
                rw [hy] at hst hc2 hrg
                have hat1 := HD.out y hst
                have HAT := Lib.hid hat1
                have hkey : keyOf Try.prog 3 (.int .i64 y) = some (.int .i64 y) := Maps.keyOf_int_mk Try.underlying3 (WalkArith.wf_i64 (by omega))
                clear hst hy hat1 hrg
                go_wp2_with (first
                  | (at_lookup; refine wpList_lookup_own_int _ rfl _ _ 45 rfl 3 3 .i64 int_law Try.underlying45 Try.underlying3 (int_zero _) M k9 _ rfl hown _ _ rfl hkey ?_; intro cc hat hwc; (have hcc : cc = 1 := by (rw [HAT.out] at hat; injection hat with hat; injection hat with _ hat; exact hat.symm)); subst hcc; clear hat hwc)
                  | fail)
                exact ⟨⟨k + 1, by omega, by go_num, by trivial⟩, by simp [intOf]; omega⟩
              · have r3 : ¬ (k : Int) < (N : Nat) := by omega
                go_wp2_with (fail)
                go_meet
                rfl
          case rest =>
            obtain rfl := hcut
            go_wp2_with (fail)
            refine (awake_any16 _).mono ?_
            rintro e w9 ⟨rfl, x9⟩
            go_wp2_with (fail)
            go_ret
            exact ⟨rfl, (XW.out.trans HX5.out).trans x9⟩
namespace scrubComes
set_option maxRecDepth 100000 in
theorem walk {H : Type} {enc : TypeId × Value → H} {base : Nat} (w : World) (v0 : Value) (d0 : DataW H) (p0 : List MemPlace) (v1 : Value) (d1 : DataW H) (p1 : List MemPlace) (a2 : Option Addr) (len2 cap2 : Nat) (z2 : List Int) (o0 : Value.okWide Try.prog w .any base 40 v0) (h0 : DataW.Trod enc Try.prog w 0 (fun _ => true) true 40 v0 d0 p0) (o1 : Value.okWide Try.prog w .any base 34 v1) (h1 : DataW.Trod enc Try.prog w 0 (fun _ => true) true 34 v1 d1 p1) (w2 : IsRow .u8 w a2 len2 cap2 z2) :
    Calls Try.prog 5 #[v0, v1, .slice a2 len2 cap2] w fun e w' => e = .returned (.bool true) ∧ Ext w w' := by
  obtain ⟨A, n, c, fl, rfl, hf⟩ := bl_open o0 h0
  obtain ⟨A', n', c', op, rfl, ho⟩ := os_open o1 h1
  obtain ⟨us, hus⟩ := w2.bytes
  exact scrubComes_any w A A' a2 n c n' c' len2 cap2 fl op us hf ho hus
end scrubComes
end Go.Proofs.Ytkclimblcipmlaa
