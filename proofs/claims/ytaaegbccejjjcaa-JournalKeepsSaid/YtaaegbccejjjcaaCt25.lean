/- Several texts in one: The contract of a journal's Checkpoint. The contract of a journal's Records. -/
import Derived.Test.YtaaegbccejjjcaaCt24
import Derived.StillTactics
import Derived.BigQuiet
import Derived.Test.YtaaegbccejjjcaaCt23
namespace Go.Proofs.Ytaaegbccejjjcaa
open Go.RowKit Go.Maps Go.Sort Go.Shelf
set_option linter.unusedSimpArgs false

theorem point_no (w : World) (v : Value) (h : NoJ w v) (A : Option Addr) (n c : Nat) :
    Calls Try.prog 16 #[v, .slice A n c] w fun e w' => e = .returned (.int .i64 1) ∧ w = w' := by
  have hr := may_no h
  clear h
  go_enter Try.func16, Try.ntmps16
  try dsimp only [List.append]
  go_wp2_with (fail)
  with_reducible refine hr.mono ?_
  rintro e w1 ⟨rfl, rfl⟩
  clear hr
  go_wp2_with (fail)
  go_ret
  exact ⟨rfl, rfl⟩
theorem point_over (w : World) (p g m b N : Nat) (o : Option Nat) (j : Jo.J) (d : Disks.D) (h : Jn w p g m b N o j true d) (A : Option Addr) (n c : Nat) :
    Calls Try.prog 16 #[.pointer (some ⟨p, 0, none⟩), .slice A n c] w fun e w' => e = .returned (.int .i64 17) ∧ w = w' := by
  have hr := may_over h
  clear h
  go_enter Try.func16, Try.ntmps16
  try dsimp only [List.append]
  go_wp2_with (fail)
  with_reducible refine hr.mono ?_
  rintro e w1 ⟨rfl, rfl⟩
  clear hr
  go_wp2_with (fail)
  go_ret
  exact ⟨rfl, rfl⟩
set_option maxRecDepth 100000 in
set_option maxHeartbeats 1000000 in
theorem point_full (w : World) (p g m b N : Nat) (o : Option Nat) (j : Jo.J) (d : Disks.D) (h : Jn w p g m b N o j false d) (A : Option Addr) (n c : Nat) (hn : n < 2 ^ 62) (hr : j.half < 1 + Jo.need n) (hl : j.life < 2 ^ 40) (hh : j.half ≤ 65536) :
    Calls Try.prog 16 #[.pointer (some ⟨p, 0, none⟩), .slice A n c] w fun e w' => e = .returned (.int .i64 5) ∧ Ext w w' := by
  have hm := may_any h
  obtain ⟨Ab, cb, v, hv, _⟩ := h.jv
  have k1 := hv.c1
  have k4 := hv.c4
  obtain ⟨K, hK⟩ : ∃ K, Jo.need n = K := ⟨_, rfl⟩
  have HND := Lib.hid (fun W : World => need_any W n hn)
  rw [hK] at HND hr
  have t1 : (j.half : Int) < 1 + (K : Int) := by omega
  have t2 : ¬ (1099511627776 : Int) ≤ (j.life : Int) := by omega
  have hK2 : K < 2 ^ 60 := by rw [← hK]; unfold Jo.need; omega
  have WK : IntKind.i64.wrap (1 + (K : Int)) = 1 + (K : Int) := IntWalk.i64_in _ (by omega)
  clear h hv hr hK
  go_enter Try.func16, Try.ntmps16
  try dsimp only [List.append]
  go_wp2_with (fail)
  with_reducible refine hm.mono ?_
  rintro e w1 ⟨rfl, rfl⟩
  clear hm
  go_wp2_with (fail)
  refine wp_region_still_lit (by kernel_rfl) (by kernel_rfl) ?_
  still_step
  still_step
  still_call ((HND.out _).mono (fun e w' h => ⟨h.1, h.2.symm⟩))
  repeat still_step
  refine wpStill_nil ?_
  change Exit.then _ _ _ _ w.drew
  skip
  go_wp2_with (fail)
  go_ret
  exact ⟨rfl, Ext.drew _⟩

def GivesCp (w : World) (p g m b N : Nat) (o : Option Nat) (j : Jo.J) (l : List UInt8) (st : Disks.D × Int) (e : Ending) (w' : World) : Prop :=
  e = .returned (.int .i64 st.2) ∧ ∃ o', (o' = o ∨ ∀ q, o' = some q → w.heap.size ≤ q) ∧ Jn w' p g m b (N + Jo.need l.length + 1) o' (if st.2 = 0 then j.point l else j) (decide (st.2 ≠ 0)) st.1 ∧ Ch (Hot p g m b o) w w'
set_option maxRecDepth 100000 in
set_option maxHeartbeats 4000000 in
theorem point_any (w : World) (p g m b N : Nat) (o : Option Nat) (j : Jo.J) (d : Disks.D) (h : Jn w p g m b N o j false d) (hs : j.half ≤ 32768 ∧ (j.from_ = 0 ∨ j.from_ = j.half)) (A : Option Addr) (n c : Nat) (l : List UInt8) (hl : Bs w A n c l) (hc : Cold (Hot p g m b o) w A n)
    (hr : 1 + Jo.need n ≤ j.half) (hlf : j.life < 2 ^ 40) (hN : N + Jo.need n + 1 < maxLen) (st : Disks.D × Int) (hst : Jo.wrote d (j.half - j.from_) l (Jo.sect 1 [j.life + 1, l.length]) = st) :
    Calls Try.prog 16 #[.pointer (some ⟨p, 0, none⟩), .slice A n c] w (GivesCp w p g m b N o j l st) := by
  have hlen := hl.len
  have hm := may_any h
  obtain ⟨Ab, cb, v, hv, _⟩ := h.jv
  have k1 := hv.c1
  have k2 := hv.c2
  have k4 := hv.c4
  obtain ⟨K, hK⟩ : ∃ K, Jo.need n = K := ⟨_, rfl⟩
  have hn2 : n ≤ 63 * K := by rw [← hK]; unfold Jo.need; omega
  rw [hK] at hr hN
  obtain ⟨ot, hot⟩ : ∃ ot, j.half - j.from_ = ot := ⟨_, rfl⟩
  rw [hot] at hst
  have HST := Lib.hid hst
  clear hst
  have EO := Lib.hid (show (j.half : Int) - (j.from_ : Int) = (ot : Int) by omega)
  have t1 : ¬ (j.half : Int) < 1 + (K : Int) := by omega
  have t2 : ¬ (1099511627776 : Int) ≤ (j.life : Int) := by omega
  have NB := Lib.hid (show j.half ≤ 32768 ∧ j.from_ ≤ 32768 ∧ j.life < 2 ^ 40 ∧ K ≤ 32768 ∧ n ≤ 63 * K ∧ ot ≤ 32768 ∧ ot + 1 + K ≤ 65536 by omega)
  have HND := Lib.hid (fun W : World => need_any W n (by have := NB.out; omega))
  rw [hK] at HND
  have hK2 : K ≤ 32768 := by have := NB.out; omega
  have ho2 : ot ≤ 32768 := by have := NB.out; omega
  have hh2 : j.half ≤ 32768 ∧ j.from_ ≤ 32768 := by have := NB.out; omega
  have hl2 : j.life < 2 ^ 40 := hlf
  have WK : IntKind.i64.wrap (1 + (K : Int)) = 1 + (K : Int) := IntWalk.i64_in _ (by omega)
  have H := Lib.hid h
  have HL := Lib.hid hl
  have HC := Lib.hid hc
  have HK := Lib.hid hK
  have HO := Lib.hid hot
  have HNN := Lib.hid hN
  have LL := Lib.hid hlen
  clear h hl hc hK hN hlen hn2 hr hs hv hot hlf
  go_enter Try.func16, Try.ntmps16
  try dsimp only [List.append]
  go_wp2_with (fail)
  with_reducible refine hm.mono ?_
  rintro e w1 ⟨rfl, rfl⟩
  clear hm
  go_wp2_with (fail)
  refine wp_region_still_lit (by kernel_rfl) (by kernel_rfl) ?_
  still_step
  still_step
  still_call ((HND.out _).mono (fun e w' h => ⟨h.1, h.2.symm⟩))
  repeat still_step
  refine wpStill_nil ?_
  change Exit.then _ _ _ _ w.drew
  have z2 : decide ((1099511627776 : Int) ≤ (j.life : Int)) = false := decide_eq_false (by omega)
  have z1 : decide ((j.half : Int) < 1 + (K : Int)) = false := decide_eq_false (by omega)
  rw [z1, z2]
  clear z1 z2
  clear t1 t2
  go_wp2_with (fail)
  go_quiet (fail)
  go_wp2_with (fail)
  have X2 := Lib.hid (show Ext w (w.drewN (1 + nq)) from Ext.drewN _ _)
  obtain ⟨w2, hw2⟩ : ∃ w2, w.drewN (1 + nq) = w2 := ⟨_, rfl⟩
  have hsz2 : w2.heap.size = w.heap.size := by rw [← hw2]; rfl
  rw [hw2] at X2 ⊢
  try rw [EO.out]
  clear hw2 k1 k2 k4
  obtain ⟨w3, hw3⟩ : ∃ w3, w2.alloc (.cells #[.int .i64 ((j.life : Int) + 1), .int .i64 (n : Int)] 3) = w3 := ⟨_, rfl⟩
  have X3 := Lib.hid (show Ext w w3 by rw [← hw3]; exact X2.out.thenAlloc _)
  have ISL := Lib.hid (show Is w3 (some ⟨w.heap.size, 0, none⟩) 2 2 (nints [j.life + 1, l.length]) by rw [← hw3]; exact Is.lit w2 w.heap.size hsz2 (nints [j.life + 1, l.length]) #[.int .i64 ((j.life : Int) + 1), .int .i64 (n : Int)] 3 2 rfl (by rw [LL.out]; rfl) (by omega))
  rw [hw3]
  clear hw3
  have hsec := sector_at w3 1 1 rfl _ 2 2 [j.life + 1, l.length] ISL.out (by omega) (fun x hx => by
    have h1 := NB.out
    have h2 := LL.out
    rcases List.mem_cons.1 hx with rfl | hx
    · omega
    · rcases List.mem_cons.1 hx with rfl | hx
      · omega
      · cases hx)
  with_reducible refine hsec.mono ?_
  rintro e w4 ⟨q4, rfl, oa4⟩
  have J3 := Lib.hid (H.out.ext X3.out)
  have X4 := Lib.hid (X3.out.trans oa4.ext)
  have J4 := Lib.hid (H.out.ext X4.out)
  have hw := jwrite_any w4 p g m b N o j d J4.out ot A n c l (HL.out.ext X4.out) (HC.out.ch X4.out.size) (some ⟨q4, 0, none⟩) 64 (Jo.sect 1 [j.life + 1, l.length]) (oa4.bs (by rw [Jo.sect_length _ _ (by simp)]; omega) (Jo.sect_length _ _ (by simp))) (Cold.fresh (w0 := w3) oa4.le oa4.lt (fun q z => J3.out.lt q z)) (by have := NB.out; omega) (by have := NB.out; omega) (by rw [HK.out]; exact HNN.out)
  unfold GivesJW at hw
  rw [HST.out] at hw
  have HW := Lib.hid hw
  clear hsec oa4 hw
  go_wp2_with (fail)
  with_reducible refine HW.out.mono ?_
  rintro e w5 ⟨rfl, j5, c5⟩
  have J5 := Lib.hid j5
  have C5 := Lib.hid ((Ch.of X4.out _).trans c5)
  clear j5 c5 HW
  by_cases hz : st.2 = 0
  · have HZ := Lib.hid hz
    rw [hz]
    clear hz
    go_wp2_with (fail)
    have hj5 : Jn w5 p g m b (N + Jo.need n + 1) o j false st.1 := by have := J5.out; rw [HZ.out] at this; exact this
    obtain ⟨Ab, cb, v5, jv, hbb, hcb, hvo, hrw⟩ := hj5.jv
    have o5 : v5.oneCell' = true := by
      obtain ⟨cs, o1, _⟩ := hrw
      obtain ⟨D, dd, rfl, _, _⟩ := ownsRow_slice o1
      rfl
    have JV := Lib.hid jv
    have HJ5 := Lib.hid hj5
    have hcl := clone_any w5.drew A n c l ((HL.out.ch C5.out HC.out).ext (Ext.drew w5)) (by have := NB.out; omega)
    have HCL := Lib.hid hcl
    have WR := Lib.hid (show IntKind.i64.wrap ((j.life : Int) + 1) = (j.life : Int) + 1 from IntWalk.i64_in _ (by have := NB.out; omega))
    clear jv hj5 hcl hbb hcb hvo hrw J5
    have hS0 : (fun W : World => Hid (Jv W p g j.half j.from_ j.next j.life (.slice Ab j.base.length cb) v5 false)) w5.drew := Lib.hid (JV.out.ext (Ext.drew w5))
    refine wp_region_T (S := (fun W : World => Hid (Jv W p g j.half j.from_ j.next j.life (.slice Ab j.base.length cb) v5 false))) 14 rfl rfl ?_
    refine takeC [] (i := 0) (v := ?_) rfl (by kernel_rfl) (by kernel_rfl) (by kernel_rfl) (by kernel_rfl) (by decide) (fun _ _ _ h => h) (by kernel_rfl) (Or.inl ⟨by kernel_rfl, ?_⟩) (by assumption) ?_
    rotate_left
    · (intro W9 hSw; go_simp; (try with_reducible rfl))
    try simp only [Act.put, List.getElem_toArray, List.getElem_cons_succ, List.getElem_cons_zero, List.setIfInBounds_toArray, List.set_cons_zero, List.set_cons_succ]
    refine takeC [] (i := 4) (v := ?_) rfl (by kernel_rfl) (by kernel_rfl) (by kernel_rfl) (by kernel_rfl) (by decide) (fun _ _ _ h => h) (by kernel_rfl) (Or.inl ⟨by kernel_rfl, ?_⟩) (by assumption) ?_
    rotate_left
    · (intro W9 hSw; go_simp; (try with_reducible rfl))
    try simp only [Act.put, List.getElem_toArray, List.getElem_cons_succ, List.getElem_cons_zero, List.setIfInBounds_toArray, List.set_cons_zero, List.set_cons_succ]
    refine takeC [8,7,6] (i := 5) (v := ?_) rfl (by kernel_rfl) (by kernel_rfl) (by kernel_rfl) (by kernel_rfl) (by decide) (fun _ _ _ h => h) (by kernel_rfl) (Or.inl ⟨by kernel_rfl, ?_⟩) (by assumption) ?_
    rotate_left
    · (intro W9 hSw; go_simp; (try with_reducible rfl))
    try simp only [Act.put, List.getElem_toArray, List.getElem_cons_succ, List.getElem_cons_zero, List.setIfInBounds_toArray, List.set_cons_zero, List.set_cons_succ]
    refine takeC [8,7] (i := 6) (v := ?_) rfl (by kernel_rfl) (by kernel_rfl) (by kernel_rfl) (by kernel_rfl) (by decide) (fun _ _ _ h => h) (by kernel_rfl) (Or.inl ⟨by kernel_rfl, ?_⟩) (by assumption) ?_
    rotate_left
    · (intro W9 hSw; go_simp; (try with_reducible rfl))
    try simp only [Act.put, List.getElem_toArray, List.getElem_cons_succ, List.getElem_cons_zero, List.setIfInBounds_toArray, List.set_cons_zero, List.set_cons_succ]
    refine takeC [8] (i := 7) (v := ?_) rfl (by kernel_rfl) (by kernel_rfl) (by kernel_rfl) (by kernel_rfl) (by decide) (fun _ _ _ h => h) (by kernel_rfl) (Or.inl ⟨by kernel_rfl, ?_⟩) (by assumption) ?_
    rotate_left
    · (intro W9 hSw; go_simp; (try with_reducible rfl))
    try simp only [Act.put, List.getElem_toArray, List.getElem_cons_succ, List.getElem_cons_zero, List.setIfInBounds_toArray, List.set_cons_zero, List.set_cons_succ]
    refine takeC [] (i := 8) (v := ?_) rfl (by kernel_rfl) (by kernel_rfl) (by kernel_rfl) (by kernel_rfl) (by decide) (fun _ _ _ h => h) (by kernel_rfl) (Or.inl ⟨by kernel_rfl, ?_⟩) (by assumption) ?_
    rotate_left
    · (intro W9 hSw; (have k4 := hSw.out.c4; clear hSw; skip); go_simp; (try with_reducible rfl))
    try simp only [Act.put, List.getElem_toArray, List.getElem_cons_succ, List.getElem_cons_zero, List.setIfInBounds_toArray, List.set_cons_zero, List.set_cons_succ]
    refine takeC [11] (i := 10) (v := ?_) rfl (by kernel_rfl) (by kernel_rfl) (by kernel_rfl) (by kernel_rfl) (by decide) (fun _ _ _ h => h) (by kernel_rfl) (Or.inl ⟨by kernel_rfl, ?_⟩) (by assumption) ?_
    rotate_left
    · (intro W9 hSw; go_simp; (try with_reducible rfl))
    try simp only [Act.put, List.getElem_toArray, List.getElem_cons_succ, List.getElem_cons_zero, List.setIfInBounds_toArray, List.set_cons_zero, List.set_cons_succ]
    refine pureT (i := 1) (v := ?_) rfl (by kernel_rfl) (by kernel_rfl) (by kernel_rfl) (by decide) (fun _ _ _ h => h) (Or.inl ⟨by kernel_rfl, ?_⟩) (fun _ => by assumption) ?_
    rotate_left
    · (intro W9 hSw; go_simp; (try with_reducible rfl))
    try simp only [Act.put, List.getElem_toArray, List.getElem_cons_succ, List.getElem_cons_zero, List.setIfInBounds_toArray, List.set_cons_zero, List.set_cons_succ]
    refine pureT (i := 2) (v := ?_) rfl (by kernel_rfl) (by kernel_rfl) (by kernel_rfl) (by decide) (fun _ _ _ h => h) (Or.inl ⟨by kernel_rfl, ?_⟩) (fun _ => by assumption) ?_
    rotate_left
    · (intro W9 hSw; go_simp; (try with_reducible rfl))
    try simp only [Act.put, List.getElem_toArray, List.getElem_cons_succ, List.getElem_cons_zero, List.setIfInBounds_toArray, List.set_cons_zero, List.set_cons_succ]
    refine pureT (i := 3) (v := ?_) rfl (by kernel_rfl) (by kernel_rfl) (by kernel_rfl) (by decide) (fun _ _ _ h => h) (Or.inl ⟨by kernel_rfl, ?_⟩) (fun _ => by assumption) ?_
    rotate_left
    · (intro W9 hSw; go_simp; (try with_reducible rfl))
    try simp only [Act.put, List.getElem_toArray, List.getElem_cons_succ, List.getElem_cons_zero, List.setIfInBounds_toArray, List.set_cons_zero, List.set_cons_succ]
    refine pureT (i := 9) (v := ?_) rfl (by kernel_rfl) (by kernel_rfl) (by kernel_rfl) (by decide) (fun _ _ _ h => h) (Or.inl ⟨by kernel_rfl, ?_⟩) (fun _ => by assumption) ?_
    rotate_left
    · (intro W9 hSw; go_simp; (try with_reducible rfl))
    try simp only [Act.put, List.getElem_toArray, List.getElem_cons_succ, List.getElem_cons_zero, List.setIfInBounds_toArray, List.set_cons_zero, List.set_cons_succ]
    refine oneT (i := 11) rfl (by kernel_rfl) (fun K hK => ?_)
    rw [if_pos (by kernel_rfl)]
    go_wp2_with (fail)
    with_reducible refine HCL.out.mono ?_
    rintro e w6 ⟨vn, rfl, hn⟩
    obtain ⟨An, cn, e2, _, _⟩ := ownsRow_slice hn.own
    subst e2
    have hSc : (fun W : World => Hid (Jv W p g j.half j.from_ j.next j.life (.slice Ab j.base.length cb) v5 false)) w6 := Lib.hid (hS0.out.ext hn.ext)
    have HN := Lib.hid hn
    clear hn HCL
    go_wp2_with (fail)
    refine hK.out _ _ (fun _ => hSc) ?_
    clear hK K
    try simp only [Act.put, List.getElem_toArray, List.getElem_cons_succ, List.getElem_cons_zero, List.setIfInBounds_toArray, List.set_cons_zero, List.set_cons_succ]
    refine takeC [13] (i := 12) (v := ?_) rfl (by kernel_rfl) (by kernel_rfl) (by kernel_rfl) (by kernel_rfl) (by decide) (fun _ _ _ h => h) (by kernel_rfl) (Or.inl ⟨by kernel_rfl, ?_⟩) (by assumption) ?_
    rotate_left
    · (intro W9 hSw; go_simp; (try with_reducible rfl))
    try simp only [Act.put, List.getElem_toArray, List.getElem_cons_succ, List.getElem_cons_zero, List.setIfInBounds_toArray, List.set_cons_zero, List.set_cons_succ]
    refine takeC [] (i := 13) (v := ?_) rfl (by kernel_rfl) (by kernel_rfl) (by kernel_rfl) (by kernel_rfl) (by decide) (fun _ _ _ h => h) (by kernel_rfl) (Or.inl ⟨by kernel_rfl, ?_⟩) (by assumption) ?_
    rotate_left
    · (intro W9 hSw; go_simp; (try with_reducible rfl))
    try simp only [Act.put, List.getElem_toArray, List.getElem_cons_succ, List.getElem_cons_zero, List.setIfInBounds_toArray, List.set_cons_zero, List.set_cons_succ]
    refine oneT (i := 14) rfl (by kernel_rfl) (fun K hK => ?_)
    rw [if_pos (by kernel_rfl)]
    have z2 := hSc.out.c2
    have zf := hSc.out.fz 2
    go_wp2_with (fail)
    clear z2 zf
    have JA := Lib.hid (hSc.out.s2 (ot : Int))
    have KA : RowKit.Hid (Ch (fun q => q = p) w6 (w6.setCell ⟨p, 2, none⟩ (.int .i64 (ot : Int)))) := Lib.hid (Ch.set (Z := fun q => q = p) (Ch.refl _ _) (p := ⟨p, 2, none⟩) (.inl rfl) _)
    obtain ⟨wa, hwa⟩ : ∃ wa, w6.setCell ⟨p, 2, none⟩ (.int .i64 (ot : Int)) = wa := ⟨_, rfl⟩
    rw [hwa] at JA KA ⊢
    clear hwa
    refine hK.out _ _ (fun h => absurd (show true = false from h) (by decide)) ?_
    clear hK K
    try simp only [Act.put, List.getElem_toArray, List.getElem_cons_succ, List.getElem_cons_zero, List.setIfInBounds_toArray, List.set_cons_zero, List.set_cons_succ]
    refine oneT (i := 15) rfl (by kernel_rfl) (fun K hK => ?_)
    rw [if_pos (by kernel_rfl)]
    go_wp2_with (fail)
    refine hK.out _ _ (fun h => absurd (show true = false from h) (by decide)) ?_
    clear hK K
    try simp only [Act.put, List.getElem_toArray, List.getElem_cons_succ, List.getElem_cons_zero, List.setIfInBounds_toArray, List.set_cons_zero, List.set_cons_succ]
    refine oneT (i := 16) rfl (by kernel_rfl) (fun K hK => ?_)
    rw [if_pos (by kernel_rfl)]
    go_wp2_with (fail)
    refine hK.out _ _ (fun h => absurd (show true = false from h) (by decide)) ?_
    clear hK K
    try simp only [Act.put, List.getElem_toArray, List.getElem_cons_succ, List.getElem_cons_zero, List.setIfInBounds_toArray, List.set_cons_zero, List.set_cons_succ]
    refine oneT (i := 17) rfl (by kernel_rfl) (fun K hK => ?_)
    rw [if_pos (by kernel_rfl)]
    have z4 := JA.out.c4
    have zf := JA.out.fz 4
    go_wp2_with (fail)
    clear z4 zf
    have JB := Lib.hid (JA.out.s4 ((j.life : Int) + 1))
    have KB : RowKit.Hid (Ch (fun q => q = p) w6 (wa.setCell ⟨p, 4, none⟩ (.int .i64 ((j.life : Int) + 1)))) := Lib.hid (KA.out.set (p := ⟨p, 4, none⟩) (.inl rfl) _)
    obtain ⟨wb, hwb⟩ : ∃ wb, wa.setCell ⟨p, 4, none⟩ (.int .i64 ((j.life : Int) + 1)) = wb := ⟨_, rfl⟩
    rw [hwb] at JB KB ⊢
    clear hwb
    refine hK.out _ _ (fun h => absurd (show true = false from h) (by decide)) ?_
    clear hK K
    try simp only [Act.put, List.getElem_toArray, List.getElem_cons_succ, List.getElem_cons_zero, List.setIfInBounds_toArray, List.set_cons_zero, List.set_cons_succ]
    refine oneT (i := 18) rfl (by kernel_rfl) (fun K hK => ?_)
    rw [if_pos (by kernel_rfl)]
    go_wp2_with (fail)
    refine hK.out _ _ (fun h => absurd (show true = false from h) (by decide)) ?_
    clear hK K
    try simp only [Act.put, List.getElem_toArray, List.getElem_cons_succ, List.getElem_cons_zero, List.setIfInBounds_toArray, List.set_cons_zero, List.set_cons_succ]
    refine oneT (i := 19) rfl (by kernel_rfl) (fun K hK => ?_)
    rw [if_pos (by kernel_rfl)]
    go_wp2_with (fail)
    refine hK.out _ _ (fun h => absurd (show true = false from h) (by decide)) ?_
    clear hK K
    try simp only [Act.put, List.getElem_toArray, List.getElem_cons_succ, List.getElem_cons_zero, List.setIfInBounds_toArray, List.set_cons_zero, List.set_cons_succ]
    refine oneT (i := 20) rfl (by kernel_rfl) (fun K hK => ?_)
    rw [if_pos (by kernel_rfl)]
    have z5 := JB.out.c5
    have zf := JB.out.fz 5
    go_wp2_with (fail)
    clear z5 zf
    have JC := Lib.hid (JB.out.s5 (.slice An l.length cn))
    have KC : RowKit.Hid (Ch (fun q => q = p) w6 (wb.setCell ⟨p, 5, none⟩ (.slice An l.length cn))) := Lib.hid (KB.out.set (p := ⟨p, 5, none⟩) (.inl rfl) _)
    obtain ⟨wc, hwc⟩ : ∃ wc, wb.setCell ⟨p, 5, none⟩ (.slice An l.length cn) = wc := ⟨_, rfl⟩
    rw [hwc] at JC KC ⊢
    clear hwc
    refine hK.out _ _ (fun h => absurd (show true = false from h) (by decide)) ?_
    clear hK K
    try simp only [Act.put, List.getElem_toArray, List.getElem_cons_succ, List.getElem_cons_zero, List.setIfInBounds_toArray, List.set_cons_zero, List.set_cons_succ]
    refine oneT (i := 21) rfl (by kernel_rfl) (fun K hK => ?_)
    rw [if_pos (by kernel_rfl)]
    go_wp2_with (fail)
    refine hK.out _ _ (fun h => absurd (show true = false from h) (by decide)) ?_
    clear hK K
    try simp only [Act.put, List.getElem_toArray, List.getElem_cons_succ, List.getElem_cons_zero, List.setIfInBounds_toArray, List.set_cons_zero, List.set_cons_succ]
    refine oneT (i := 22) rfl (by kernel_rfl) (fun K hK => ?_)
    rw [if_pos (by kernel_rfl)]
    go_wp2_with (fail)
    refine hK.out _ _ (fun h => absurd (show true = false from h) (by decide)) ?_
    clear hK K
    try simp only [Act.put, List.getElem_toArray, List.getElem_cons_succ, List.getElem_cons_zero, List.setIfInBounds_toArray, List.set_cons_zero, List.set_cons_succ]
    refine oneT (i := 23) rfl (by kernel_rfl) (fun K hK => ?_)
    rw [if_pos (by kernel_rfl)]
    have z6 := JC.out.c6
    have zf := JC.out.fz 6
    go_wp2_with (fail)
    clear z6 zf
    have JD := Lib.hid (JC.out.s6 (.slice none 0 0))
    have KD : RowKit.Hid (Ch (fun q => q = p) w6 (wc.setCell ⟨p, 6, none⟩ (.slice none 0 0))) := Lib.hid (KC.out.set (p := ⟨p, 6, none⟩) (.inl rfl) _)
    obtain ⟨wd, hwd⟩ : ∃ wd, wc.setCell ⟨p, 6, none⟩ (.slice none 0 0) = wd := ⟨_, rfl⟩
    rw [hwd] at JD KD ⊢
    clear hwd
    refine hK.out _ _ (fun h => absurd (show true = false from h) (by decide)) ?_
    clear hK K
    try simp only [Act.put, List.getElem_toArray, List.getElem_cons_succ, List.getElem_cons_zero, List.setIfInBounds_toArray, List.set_cons_zero, List.set_cons_succ]
    refine doneT (by kernel_rfl) ?_ _
    clear JA KA JB KB JC KC hS0 hSc
    go_wp2_with (fail)
    with_reducible refine (HND.out wd).mono ?_
    rintro e wx ⟨rfl, rfl⟩
    have z3 := JD.out.c3
    have zf := JD.out.fz 3
    go_wp2_with (fail)
    clear z3 zf
    have JF := Lib.hid (JD.out.s3 ((ot : Int) + 1 + (K : Int)))
    have KF : RowKit.Hid (Ch (fun q => q = p) w6 (wd.setCell ⟨p, 3, none⟩ (.int .i64 ((ot : Int) + 1 + (K : Int))))) := Lib.hid (KD.out.set (p := ⟨p, 3, none⟩) (.inl rfl) _)
    obtain ⟨wz, hwz⟩ : ∃ wz, wd.setCell ⟨p, 3, none⟩ (.int .i64 ((ot : Int) + 1 + (K : Int))) = wz := ⟨_, rfl⟩
    rw [hwz] at JF KF ⊢
    clear hwz JD KD
    go_ret
    unfold GivesCp
    rw [if_pos HZ.out, HZ.out]
    have hll := LL.out
    have hkk := HK.out
    have hoo := HO.out
    have x56 : Ext w5 w6 := (Ext.drew w5).trans HN.out.ext
    have hfin := jn_point (j' := j.point l) (A := An) (c := cn) (ov' := false) (HJ5.out.ext x56) rfl ((Own.mk (base := w5.drew.heap.size) (e := 5) HN.out.own).bs) (by
        intro hn0 q hq
        have h1 := own_row HN.out.own q (own_of_map hq)
        have h2 := (Own.mk (base := w5.drew.heap.size) (e := 5) HN.out.own).bs.block hn0 hq
        have h3 : w5.drew.heap.size = w5.heap.size := rfl
        exact ⟨h2, fun z => by have := HJ5.out.lt q z; omega⟩) KF.out (by
        show Jv wz p g (j.half : Int) ((j.half - j.from_ : Nat) : Int) ((j.half - j.from_ + 1 + Jo.need l.length : Nat) : Int) ((j.life + 1 : Nat) : Int) _ _ _
        have e1 : ((j.half - j.from_ : Nat) : Int) = (ot : Int) := by rw [hoo]
        have e2 : ((j.half - j.from_ + 1 + Jo.need l.length : Nat) : Int) = (ot : Int) + 1 + (K : Int) := by rw [hoo, hll, hkk]; omega
        have e3 : ((j.life + 1 : Nat) : Int) = (j.life : Int) + 1 := by omega
        rw [e1, e2, e3]
        exact JF.out)
    refine ⟨rfl, none, .inr (fun q hq => by cases hq), ?_, ?_⟩
    · rw [hll]
      exact hfin
    · exact (C5.out.thenExt x56).trans (KF.out.mono fun q _ z => .inl z)
  · have hz' : (st.2 != 0) = true := by simpa using hz
    have HZ := Lib.hid hz
    clear hz
    go_wp2_with (fail)
    go_ret
    unfold GivesCp
    rw [if_neg HZ.out]
    refine ⟨rfl, o, .inl rfl, (by rw [LL.out]; exact J5.out), C5.out⟩
end Go.Proofs.Ytaaegbccejjjcaa
namespace Go.Proofs.Ytaaegbccejjjcaa
open Go.RowKit Go.Maps Go.Sort Go.Shelf

theorem records_no {w : World} {v : Value} (h : NoJ w v) : Calls Try.prog 19 #[v] w fun e w' => e = .returned (.slice none 0 0) ∧ w = w' := by
  have hr := right_no h
  clear h
  go_enter Try.func19, Try.ntmps19
  go_wp2_with (fail)
  with_reducible refine hr.mono ?_
  rintro e w1 ⟨rfl, rfl⟩
  clear hr
  go_wp2_with (fail)
  go_ret
  exact ⟨rfl, rfl⟩
set_option maxRecDepth 100000 in
set_option maxHeartbeats 2000000 in
theorem records_any (w : World) (p g m b N : Nat) (o : Option Nat) (j : Jo.J) (over : Bool) (d : Disks.D) (h : Jn w p g m b N o j over d) (hn : j.recs.length ≤ 65536) (hw : ∀ i, i < j.recs.length → (Gm.row j.recs i).length ≤ 140737488355328) :
    Calls Try.prog 19 #[.pointer (some ⟨p, 0, none⟩)] w fun e w' => ∃ v, e = .returned v ∧ RwN w w' v j.recs ∧ Ext w w' := by
  obtain ⟨i0, hi0, hz0, hz1, hz2⟩ := info_parts bytes_info24
  obtain ⟨A, c, v, hv, hb, hc, ho, hrw⟩ := h.jv
  obtain ⟨Ar, cr, rfl, hm⟩ := hrw.mx
  have hr := right_any h
  have k6 := hv.c6
  obtain ⟨L, hL⟩ : ∃ L, j.recs = L := ⟨_, rfl⟩
  obtain ⟨n, hnn⟩ : ∃ n, L.length = n := ⟨_, rfl⟩
  rw [hL] at hm hn hw k6 ⊢
  rw [hnn] at hm hn hw k6
  have hml := hm.le
  have hmx := hm.max
  have LN := Lib.hid hnn
  have HW := Lib.hid hw
  have HM := Lib.hid hm
  clear h hv hb hc ho hrw hL hnn hw hm
  go_enter Try.func19, Try.ntmps19
  go_wp2_with (fail)
  with_reducible refine hr.mono ?_
  rintro e w1 ⟨rfl, rfl⟩
  clear hr
  go_wp2_with (fail)
  clear k6
  go_loopw [3, 14] (fun v s wr => ∃ (t : Nat), t ≤ n ∧ s = .int .i64 t ∧ RowKit.Hid (RwN w wr v (L.take t)) ∧ RowKit.Hid (Ext w wr)) (fun _ s _ => n - (intOf s).toNat)
  case atStart => exact ⟨0, by omega, rfl, Lib.hid (RwN.nil _ _), Lib.hid (Ext.refl w)⟩
  case round =>
    obtain ⟨t, ht, rfl, hQ, hX⟩ := hrel
    by_cases hlt : t < n
    · have i1 : (t : Int) < n := by omega
      obtain ⟨bm, om, Ai, ni, ci, rfl, hce, hbi⟩ := (HM.out.ext hX.out).at_ hlt
      have hni := hbi.len
      have HSN := Lib.hid (show L.take (t + 1) = L.take t ++ [Gm.row L t] by
        rw [List.take_add_one, List.getElem?_eq_getElem (by rw [LN.out]; exact hlt), Gm.row_of_lt (by rw [LN.out]; exact hlt)]; rfl)
      subst hni
      have hcp := clone_any wr Ai _ ci _ hbi (HW.out t hlt)
      have HRL := Lib.hid (HW.out t hlt)
      generalize Gm.row L t = r at *
      have HCP := Lib.hid hcp
      clear hcp hbi
      go_wp2_with (fail)
      with_reducible refine HCP.out.mono ?_
      rintro e w4 ⟨v4, rfl, hv⟩
      obtain ⟨A4, c4, rfl, _, _⟩ := ownsRow_slice hv.own
      have HV := Lib.hid hv
      clear hv HCP hce
      have hlen : (L.take t).length = t := by rw [List.length_take, LN.out]; omega
      obtain ⟨cs, ow, rows⟩ := hQ.out
      rw [hlen] at ow rows
      have OW := Lib.hid (ownsRow_ext (ownsRow_ext ow HV.out.ext) (Ext.alloc w4 (.cells #[.slice A4 r.length c4] 32)))
      have CSL := Lib.hid (show cs.length = t by have := ow.1; omega)
      have ROWS := Lib.hid rows
      have HLT := Lib.hid hlen
      have OW0 := Lib.hid ow
      have hsz4 : w.heap.size ≤ w4.heap.size := Nat.le_trans hX.out.size HV.out.ext.size
      clear ow rows hlen
      go_wp2_with (at_builtin; refine wpList_append_rd _ rfl (.tmp 18) (.tmp 21) 41 rfl w.heap.size 32 i0 _ 1 24 Try.underlying41 hi0 hz0 hz1 hz2 rfl (by omega) u3 t cs rfl OW.out (some ⟨w4.heap.size, 0, none⟩) 1 1 [.slice A4 r.length c4] rfl (Rd.lit _ #[.slice A4 r.length c4] _) (by simp [Value.oneCell']) (by omega) (by unfold maxLen; omega) (by simp; omega) ?_; intro v5 w5 hown hgr hat)
      have X4 := Lib.hid (show Ext wr (w4.alloc (.cells #[.slice A4 r.length c4] 32)) from HV.out.ext.thenAlloc _)
      refine ⟨⟨t + 1, by omega, by go_num, Lib.hid ?_, Lib.hid ?_⟩, by simp [intOf]; omega⟩
      · rw [HSN.out]
        refine RwN.push (cs := cs) (A := A4) (n := r.length) (c := c4) (fun i hi => ?_) (by rw [CSL.out, HLT.out]) ((Own.mk (base := wr.heap.size) (e := 5) HV.out.own).bs.ext (Ext.alloc _ _)) (fun q hq => Nat.le_trans hX.out.size (own_row HV.out.own q (own_of_map hq))) (fun hn0 q hq => ?_) (by rw [HLT.out]; exact hown) hgr hat
        · rw [HLT.out] at hi
          obtain ⟨A1, n1, c1, e, b1, n1', k1⟩ := ROWS.out i hi
          exact ⟨A1, n1, c1, e, b1.ext X4.out, n1', k1.ch X4.out.size⟩
        · have h1 := own_row HV.out.own q (own_of_map hq)
          have h2 := (Own.mk (base := wr.heap.size) (e := 5) HV.out.own).bs.block hn0 hq
          refine ⟨Nat.lt_of_lt_of_le h2 (Ext.alloc w4 _).size, fun z => ?_⟩
          have h3 := (OW0.out.lt q z).2
          omega
      · exact (hX.out.trans X4.out).ofGrown hgr (fun q hq => own_row OW0.out q hq)
    · have i1 : ¬ (t : Int) < n := by omega
      obtain rfl : t = n := by omega
      have hQ2 := hQ.out
      rw [List.take_of_length_le (by rw [LN.out]; exact Nat.le_refl _)] at hQ2
      have HQ2 := Lib.hid hQ2
      clear hQ2
      go_wp2_with (fail)
      go_ret
      exact ⟨_, rfl, HQ2.out, hX.out⟩
theorem rwn_mx {w0 w : World} {v : Value} {l : List (List UInt8)} (h : RwN w0 w v l) : ∃ A c, v = .slice A l.length c ∧ Mx w A l.length c l := by
  obtain ⟨cs, h1, h2⟩ := h
  obtain ⟨A, c, rfl, q1, q2⟩ := ownsRow_slice h1
  have hlen : cs.length = l.length := by have := h1.1; omega
  refine ⟨A, c, rfl, rfl, q1, q2, cs, Rd.of_own h1, hlen, fun i hi => ?_⟩
  obtain ⟨B, n, d, e, hb, _⟩ := h2 i hi
  exact ⟨B, n, d, e, hb⟩
end Go.Proofs.Ytaaegbccejjjcaa
