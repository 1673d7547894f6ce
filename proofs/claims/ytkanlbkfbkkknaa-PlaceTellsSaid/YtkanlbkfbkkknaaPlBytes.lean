/- The contract of place.Bytes. -/
import Derived.Test.YtkanlbkfbkkknaaUint
import Derived.Test.YtkanlbkfbkkknaaSteps
import Derived.Test.YtkanlbkfbkkknaaPlaceFunc
import Derived.Test.YtkanlbkfbkkknaaRegChain
namespace Pl
theorem enc10 (n : Nat) (h : n < 2 ^ 63) : (enc n).length ≤ 10 := enc_le 9 n (by omega)
theorem encPs_succ {l : List P} {k : Nat} (h : k < l.length) : encPs (l.take (k + 1)) = encPs (l.take k) ++ encP (pget l k) := by
  rw [pget_of_lt h]
  unfold encPs
  rw [List.take_add_one, List.getElem?_eq_getElem h, List.flatMap_append]
  simp only [Option.toList, List.flatMap_cons, List.flatMap_nil, List.append_nil]
theorem encN_succ {l : List Int} {k : Nat} (h : k < l.length) : encN (l.take (k + 1)) = encN (l.take k) ++ enc (Il.get l k).toNat := by
  have : Il.get l k = l[k] := by simp [Il.get, h]
  rw [this]
  unfold encN
  rw [List.take_add_one, List.getElem?_eq_getElem h, List.flatMap_append]
  simp only [Option.toList, List.flatMap_cons, List.flatMap_nil, List.append_nil]
theorem encN_len (l : List Int) (h : ∀ x ∈ l, 0 ≤ x ∧ x < 256) : (encN l).length ≤ 10 * l.length := by
  induction l with
  | nil => simp [encN]
  | cons x l ih =>
    have h1 := h x (List.mem_cons_self ..)
    have h2 := enc10 x.toNat (by omega)
    have h3 := ih fun y hy => h y (List.mem_cons_of_mem _ hy)
    have e : encN (x :: l) = enc x.toNat ++ encN l := by simp [encN]
    rw [e, List.length_append, List.length_cons]
    omega
theorem encP_len {p : P} (h : Right p 256) : (encP p).length ≤ 2570 := by
  have h1 := h.1
  have h2 := encN_len p.2 (right_in h)
  have h3 := enc10 p.1.toNat (by omega)
  have h4 := enc10 p.2.length (by omega)
  unfold encP
  rw [List.length_append, List.length_append]
  omega
theorem encPs_len (l : List P) (h : ∀ p ∈ l, Right p 256) : (encPs l).length ≤ 2570 * l.length := by
  induction l with
  | nil => simp [encPs]
  | cons x l ih =>
    have h1 := encP_len (h x (List.mem_cons_self ..))
    have h3 := ih fun y hy => h y (List.mem_cons_of_mem _ hy)
    have e : encPs (x :: l) = encP x ++ encPs l := by simp [encPs]
    rw [e, List.length_append, List.length_cons]
    omega
/-- What is written ahead of the placement k. -/
def encTo (l : List P) (k : Nat) : List UInt8 := enc l.length ++ encPs (l.take k)
theorem encTo_len {l : List P} (h : All l) (k : Nat) : (encTo l k).length ≤ 2570010 := by
  have h1 := encPs_len (l.take k) (fun p hp => h.2.2 p (List.mem_of_mem_take hp))
  have h2 := enc10 l.length (by have := h.2.1; omega)
  have h3 := h.2.1
  rw [List.length_take] at h1
  unfold encTo
  rw [List.length_append]
  omega
end Pl
namespace Go.Proofs.Ytkanlbkfbkkknaa
open Go.RowKit
set_option linter.unusedSimpArgs false

set_option maxRecDepth 100000 in
set_option maxHeartbeats 1000000 in
theorem plBytes_no (w : World) (A : Option Addr) (n c : Nat) (l : List Pl.P) (hl : Ps w A n c l) (h : ¬ Pl.All l) : Calls Try.prog 20 #[.slice A n c] w fun r w' => r = .returned (.tuple #[.slice none 0 0, .int .i64 100]) ∧ Ext w w' := by
  have ha := all_any w A n c l hl
  rw [decide_eq_false h] at ha
  go_enter Try.func20, Try.ntmps20
  go_wp2_with (fail)
  with_reducible refine ha.mono ?_
  rintro e w1 ⟨rfl, x1⟩
  go_wp2_with (fail)
  refine bodyPost_ret (results_tmp2 rfl _ _ _) rfl ?_
  exact ⟨rfl, x1⟩

set_option maxRecDepth 100000 in
set_option maxHeartbeats 2000000 in
theorem plBytes_ok (w : World) (A : Option Addr) (n c : Nat) (l : List Pl.P) (hl : Ps w A n c l) (h : Pl.All l) : Calls Try.prog 20 #[.slice A n c] w fun r w' => ∃ v, r = .returned (.tuple #[v, .int .i64 0]) ∧ NewB w w' v (Pl.encL l) := by
  have ha := all_any w A n c l hl
  rw [decide_eq_true h] at ha
  have hm := hl.max
  have hle := hl.le
  have L := Lib.hid hl.len
  have AL := Lib.hid h
  have HL := Lib.hid hl
  have hn : n ≤ 1000 := by have := h.2.1; have := hl.len; omega
  clear hl h
  go_enter Try.func20, Try.ntmps20
  go_wp2_with (fail)
  with_reducible refine ha.mono ?_
  rintro e w1 ⟨rfl, x1⟩
  have hu := uint_any w w1 x1 (.slice none 0 0) [] (World.ownsRow_nil _ _ _ _) n (by omega) (by simp)
  clear ha
  go_wp2_with (fail)
  with_reducible refine hu.mono ?_
  rintro e w2 ⟨v2, rfl, o2, x2, _⟩
  clear hu x1
  have e0 : [] ++ Pl.enc n = Pl.encTo l 0 := by unfold Pl.encTo; rw [L.out]; simp [Pl.encPs]
  rw [e0] at o2
  clear e0
  go_wp2_with (fail)
  go_loopw [4, 18] (fun s4 s18 wr => ∃ k : Nat, k ≤ n ∧ s18 = .int .i64 k ∧ RowKit.Hid (wr.ownsRow w.heap.size 5 1 s4 (Pl.encTo l k).length (bcells (Pl.encTo l k))) ∧ RowKit.Hid (Ext w wr)) (fun _ s18 _ => n - (intOf s18).toNat)
  case atStart => exact ⟨0, Nat.zero_le _, rfl, Lib.hid o2, Lib.hid x2⟩
  case round =>
    obtain ⟨k, hk, rfl, HO, HX⟩ := hrel
    clear o2 x2
    obtain ⟨w4, hw⟩ : ∃ w4, w4 = wr := ⟨_, rfl⟩
    subst hw
    by_cases hlt : k < n
    · have i1 : (k : Int) < n := by omega
      obtain ⟨b, off, A1, m, c1, rfl, q1, q2, hi⟩ := HL.out.rd k hlt
      replace q1 := HX.out.cell q1
      replace q2 := HX.out.cell q2
      have hrt : Pl.Right (Pl.pget l k) 256 := AL.out.2.2 _ (Pl.pget_mem (by rw [L.out]; exact hlt))
      have hr1 := hrt.1
      have hil := hi.len
      have him := hi.max
      have hic := hi.le
      obtain ⟨en, hen⟩ : ∃ en : Nat, (Pl.pget l k).1 = (en : Int) := ⟨(Pl.pget l k).1.toNat, by omega⟩
      rw [hen] at q1
      have ENB := Lib.hid (show en < 2 ^ 63 by omega)
      have hm255 : m ≤ 255 := by omega
      have hel := Pl.encTo_len AL.out k
      obtain ⟨w5, hs, f0, f1, x5⟩ := place_copy w4 (en : Int) A1 m c1
      obtain ⟨p, hp⟩ : ∃ p, w4.heap.size = p := ⟨_, rfl⟩
      rw [hp] at hs f0 f1
      have HP := Lib.hid hp
      have HS := Lib.hid hs
      have HPL := Lib.hid (show p < w5.heap.size ∧ w.heap.size ≤ p from by
        have h1 := World.block_lt_of_cell? _ _ f0
        have h2 := HX.out.size
        exact ⟨h1, by omega⟩)
      -- what is in the variable stays
      have SZ0 := Lib.hid (show (Pl.encTo l k).length + 10 ≤ 140737488355328 by omega)
      have HI := Lib.hid hi
      have SZ1 := Lib.hid (show (Pl.encTo l k ++ Pl.enc en).length + 10 ≤ 140737488355328 by have := Pl.enc10 en (by omega); rw [List.length_append]; omega)
      have MB := Lib.hid (show m < 2 ^ 63 by omega)
      have XD := Lib.hid ((HX.out.trans x5).thenDrew)
      have OD := Lib.hid (ownsRow_ext (ownsRow_ext HO.out x5) (Ext.drew w5))
      have NP := Lib.hid (show u4.ownBlock ≠ some p from fun e => by have := (HO.out.lt p e).2; have := HP.out; omega)
      have HPD := Lib.hid (show p < w5.drew.heap.size from HPL.out.1)
      have HBL := Lib.hid (show (Pl.encTo l k ++ Pl.enc en ++ Pl.enc m).length ≤ 2570030 by have := Pl.enc10 en (by omega); have := Pl.enc10 m (by omega); rw [List.length_append, List.length_append]; omega)
      have EN := Lib.hid hen
      have HRT := Lib.hid hrt
      have HEL := Lib.hid hel
      have HIL := Lib.hid hil
      clear hrt hel hr1 hil hi hen
      go_upto_region 7 with (first
        | ((with_reducible refine opIs ⟨some 6, .alloc 33, _, _, _, _⟩ ?_); refine wpList_allocR rfl 33 rfl _ (run_alloc_place _) ?_; rw [HP.out])
        | ((with_reducible refine opIs ⟨none, .store 33 (.tmp 6) (.tmp 21), _, _, _, _⟩ ?_); refine wpList_storeR rfl 33 (.tmp 6) (.tmp 21) rfl rfl rfl HS.out ?_))
      have hwe : IntKind.u64.wrap (en : Int) = (en : Int) := IntWalk.u64_in _ (by have := ENB.out; omega)
      have hwm : IntKind.u64.wrap (m : Int) = (m : Int) := IntWalk.u64_in _ (by omega)
      clear hs hp q1 q2 x5 HO
      have hS0 : (fun W : World => Hid (W.cell? ⟨p, 0, none⟩ = some (.int .i64 (en : Int)) ∧ W.cell? ⟨p, 1, none⟩ = some (.slice A1 m c1))) w5.drew := Lib.hid ⟨(Ext.drew w5).cell f0, (Ext.drew w5).cell f1⟩
      refine wp_region_T (S := (fun W : World => Hid (W.cell? ⟨p, 0, none⟩ = some (.int .i64 (en : Int)) ∧ W.cell? ⟨p, 1, none⟩ = some (.slice A1 m c1)))) 9 rfl rfl ?_
      refine takeC [4] (i := 0) (v := ?_) rfl (by kernel_rfl) (by kernel_rfl) (by kernel_rfl) (by kernel_rfl) (by decide) (fun _ _ _ h => h) (by kernel_rfl) (Or.inl ⟨by kernel_rfl, ?_⟩) (by assumption) ?_
      rotate_left
      · (intro W9 hSw; go_simp; (try with_reducible rfl))
      try simp only [Act.put, List.setIfInBounds_toArray, List.set_cons_zero, List.set_cons_succ]
      refine takeC [4,3,2] (i := 1) (v := ?_) rfl (by kernel_rfl) (by kernel_rfl) (by kernel_rfl) (by kernel_rfl) (by decide) (fun _ _ _ h => h) (by kernel_rfl) (Or.inl ⟨by kernel_rfl, ?_⟩) (by assumption) ?_
      rotate_left
      · (intro W9 hSw; go_simp; (try with_reducible rfl))
      try simp only [Act.put, List.setIfInBounds_toArray, List.set_cons_zero, List.set_cons_succ]
      refine takeC [4,3] (i := 2) (v := ?_) rfl (by kernel_rfl) (by kernel_rfl) (by kernel_rfl) (by kernel_rfl) (by decide) (fun _ _ _ h => h) (by kernel_rfl) (Or.inl ⟨by kernel_rfl, ?_⟩) (by assumption) ?_
      rotate_left
      · (intro W9 hSw; (have k0 := hSw.out.1; clear hSw; skip); go_simp; (try with_reducible rfl))
      try simp only [Act.put, List.setIfInBounds_toArray, List.set_cons_zero, List.set_cons_succ]
      refine takeC [4] (i := 3) (v := ?_) rfl (by kernel_rfl) (by kernel_rfl) (by kernel_rfl) (by kernel_rfl) (by decide) (fun _ _ _ h => h) (by kernel_rfl) (Or.inl ⟨by kernel_rfl, ?_⟩) (by assumption) ?_
      rotate_left
      · (intro W9 hSw; go_simp; (try with_reducible rfl))
      try simp only [Act.put, List.setIfInBounds_toArray, List.set_cons_zero, List.set_cons_succ]
      refine takeC [8,7,6] (i := 5) (v := ?_) rfl (by kernel_rfl) (by kernel_rfl) (by kernel_rfl) (by kernel_rfl) (by decide) (fun _ _ _ h => h) (by kernel_rfl) (Or.inl ⟨by kernel_rfl, ?_⟩) (by assumption) ?_
      rotate_left
      · (intro W9 hSw; go_simp; (try with_reducible rfl))
      try simp only [Act.put, List.setIfInBounds_toArray, List.set_cons_zero, List.set_cons_succ]
      refine takeC [8,7] (i := 6) (v := ?_) rfl (by kernel_rfl) (by kernel_rfl) (by kernel_rfl) (by kernel_rfl) (by decide) (fun _ _ _ h => h) (by kernel_rfl) (Or.inl ⟨by kernel_rfl, ?_⟩) (by assumption) ?_
      rotate_left
      · (intro W9 hSw; (have k1 := hSw.out.2; clear hSw; skip); go_simp; (try with_reducible rfl))
      try simp only [Act.put, List.setIfInBounds_toArray, List.set_cons_zero, List.set_cons_succ]
      refine takeC [8] (i := 7) (v := ?_) rfl (by kernel_rfl) (by kernel_rfl) (by kernel_rfl) (by kernel_rfl) (by decide) (fun _ _ _ h => h) (by kernel_rfl) (Or.inl ⟨by kernel_rfl, ?_⟩) (by assumption) ?_
      rotate_left
      · (intro W9 hSw; go_simp; (try with_reducible rfl))
      try simp only [Act.put, List.setIfInBounds_toArray, List.set_cons_zero, List.set_cons_succ]
      refine takeC [] (i := 8) (v := ?_) rfl (by kernel_rfl) (by kernel_rfl) (by kernel_rfl) (by kernel_rfl) (by decide) (fun _ _ _ h => h) (by kernel_rfl) (Or.inl ⟨by kernel_rfl, ?_⟩) (by assumption) ?_
      rotate_left
      · (intro W9 hSw; go_simp; (try with_reducible rfl))
      try simp only [Act.put, List.setIfInBounds_toArray, List.set_cons_zero, List.set_cons_succ]
      refine oneT (i := 4) rfl (by kernel_rfl) (fun K hK => ?_)
      rw [if_pos (by kernel_rfl)]
      go_wp2_with (fail)
      with_reducible refine (uint_any w w5.drew XD.out u4 _ OD.out en ENB.out SZ0.out).mono ?_
      rintro e w6 ⟨v6, rfl, o6, x6, g6⟩
      have O6 := Lib.hid o6
      have X6 := Lib.hid x6
      have NP6 := Lib.hid (g6.row (q := p) HPD.out NP.out)
      have hS6 : (fun W : World => Hid (W.cell? ⟨p, 0, none⟩ = some (.int .i64 (en : Int)) ∧ W.cell? ⟨p, 1, none⟩ = some (.slice A1 m c1))) w6 := Lib.hid ⟨g6.cell hS0.out.1 NP.out, g6.cell hS0.out.2 NP.out⟩
      have HP6 := Lib.hid (Nat.lt_of_lt_of_le HPD.out g6.size)
      clear o6 x6 g6
      go_wp2_with (fail)
      refine hK.out _ _ (fun _ => hS6) ?_
      clear hK K
      try simp only [Act.put, List.setIfInBounds_toArray, List.set_cons_zero, List.set_cons_succ]
      refine oneT (i := 9) rfl (by kernel_rfl) (fun K hK => ?_)
      rw [if_pos (by kernel_rfl)]
      go_wp2_with (fail)
      with_reducible refine (uint_any w w6 X6.out v6 _ O6.out m MB.out SZ1.out).mono ?_
      rintro e w7 ⟨v7, rfl, o7, x7, g7⟩
      have O7 := Lib.hid o7
      have X7 := Lib.hid x7
      have hS7 : (fun W : World => Hid (W.cell? ⟨p, 0, none⟩ = some (.int .i64 (en : Int)) ∧ W.cell? ⟨p, 1, none⟩ = some (.slice A1 m c1))) w7 := Lib.hid ⟨g7.cell hS6.out.1 NP6.out, g7.cell hS6.out.2 NP6.out⟩
      clear o7 x7 g7
      go_wp2_with (fail)
      refine hK.out _ _ (fun h => absurd (show true = false from h) (by decide)) ?_
      clear hK K
      try simp only [Act.put, List.setIfInBounds_toArray, List.set_cons_zero, List.set_cons_succ]
      refine oneT (i := 10) rfl (by kernel_rfl) (fun K hK => ?_)
      rw [if_pos (by kernel_rfl)]
      go_wp2_with (fail)
      refine hK.out _ _ (fun h => absurd (show true = false from h) (by decide)) ?_
      clear hK K
      try simp only [Act.put, List.setIfInBounds_toArray, List.set_cons_zero, List.set_cons_succ]
      refine doneT (by kernel_rfl) ?_ _
      clear f0 f1 hS0 hS6
      have k1 := hS7.out.2
      go_wp2_with (fail)
      clear k1
      obtain ⟨B, hB⟩ : ∃ B, Pl.encTo l k ++ Pl.enc en ++ Pl.enc m = B := ⟨_, rfl⟩
      rw [hB] at O7 HBL
      have EB := Lib.hid hB
      clear hB
      go_loopw [4, 35] (fun s4 s35 wr => ∃ j : Nat, j ≤ m ∧ s35 = .int .i64 j ∧ RowKit.Hid (wr.ownsRow w.heap.size 5 1 s4 (B ++ Pl.encN ((Pl.pget l k).2.take j)).length (bcells (B ++ Pl.encN ((Pl.pget l k).2.take j)))) ∧ RowKit.Hid (Ext w wr)) (fun _ s35 _ => m - (intOf s35).toNat)
      case atStart =>
        refine ⟨0, Nat.zero_le _, rfl, Lib.hid ?_, X7⟩
        have e : B ++ Pl.encN ((Pl.pget l k).2.take 0) = B := by simp [Pl.encN]
        rw [e]
        exact O7.out
      case round =>
        obtain ⟨j, hj, rfl, HO8, HX8⟩ := hrel
        obtain ⟨w8, hw⟩ : ∃ w8, w8 = wr := ⟨_, rfl⟩
        subst hw
        by_cases hlt2 : j < m
        · have i2 : (j : Int) < m := by omega
          have hi8 := HI.out.ext HX8.out
          obtain ⟨b2, o2, rfl, hc⟩ := hi8.rd.intAt hlt2
          have hx := Pl.right_in HRT.out (Il.get (Pl.pget l k).2 j) (Il.get_mem (by rw [HIL.out]; exact hlt2))
          obtain ⟨x, hx'⟩ : ∃ x : Nat, Il.get (Pl.pget l k).2 j = (x : Int) := ⟨(Il.get (Pl.pget l k).2 j).toNat, by omega⟩
          have e1 : Pl.encN ((Pl.pget l k).2.take (j + 1)) = Pl.encN ((Pl.pget l k).2.take j) ++ Pl.enc x := by
            rw [Pl.encN_succ (by rw [HIL.out]; exact hlt2), hx', Int.toNat_natCast]
          have hx2 : x < 256 := by omega
          have hsz : (B ++ Pl.encN ((Pl.pget l k).2.take j)).length + 10 ≤ 140737488355328 := by
            have h1 := Pl.encN_len ((Pl.pget l k).2.take j) (fun y hy => Pl.right_in HRT.out y (List.mem_of_mem_take hy))
            have h2 := HBL.out
            rw [List.length_take] at h1
            rw [List.length_append]
            have := HIL.out
            omega
          have hu := uint_any w w8 HX8.out u4 _ HO8.out x (by omega) hsz
          rw [List.append_assoc, ← e1] at hu
          rw [hx'] at hc
          have hx0 : (0 : Int) ≤ (x : Int) := by omega
          have HU := Lib.hid hu
          clear hx hx' e1 hsz hu hi8
          go_wp2_with (fail)
          with_reducible refine HU.out.mono ?_
          rintro e w9 ⟨v9, rfl, o9, x9, _⟩
          go_wp2_with (fail)
          exact ⟨⟨j + 1, by omega, by go_num, Lib.hid o9, Lib.hid x9⟩, by simp [intOf]; omega⟩
        · have i2 : ¬ (j : Int) < m := by omega
          have e9 : B ++ Pl.encN ((Pl.pget l k).2.take j) = Pl.encTo l (k + 1) := by
            have hlen := HIL.out
            rw [List.take_of_length_le (by omega), ← EB.out]
            unfold Pl.encTo
            rw [Pl.encPs_succ (by rw [L.out]; exact hlt)]
            unfold Pl.encP
            rw [EN.out, Int.toNat_natCast, hlen]
            simp only [List.append_assoc]
          rw [e9] at HO8
          go_wp2_with (fail)
          exact ⟨⟨k + 1, by omega, by go_num, HO8, HX8⟩, by simp [intOf]; omega⟩
    · have i1 : ¬ (k : Int) < n := by omega
      obtain rfl : k = n := by omega
      have e9 : Pl.encTo l k = Pl.encL l := by
        unfold Pl.encTo Pl.encL
        rw [List.take_of_length_le (by rw [L.out]; exact Nat.le_refl _)]
      rw [e9] at HO
      go_wp2_with (fail)
      refine bodyPost_ret (results_tmp2 rfl _ _ _) rfl ?_
      exact ⟨_, rfl, HO.out, HX.out⟩
end Go.Proofs.Ytkanlbkfbkkknaa
