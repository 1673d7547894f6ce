/- Several texts in one: The contract of the laws' has, where it holds. The contract of the document's Checkpoint. -/
import Derived.Test.YtaaegbccejjjcaaCt29
namespace Go.Proofs.Ytaaegbccejjjcaa
open Go.RowKit Go.Maps Go.Sort Go.Shelf
set_option linter.unusedSimpArgs false

set_option maxRecDepth 100000 in
set_option maxHeartbeats 4000000 in
theorem has_yes {w0 w : World} {p g m b N : Nat} {o : Option Nat} {j : Jo.J} {d : Disks.D} (h : Lv w0 w p g m b N o j d) {v : Value} (hv : Sm w v j.st) :
    Calls Try.prog 20 #[.pointer (some ⟨p, 0, none⟩), v] w fun e w' => e = .returned (.bool true) ∧ Ext w w' := by
  obtain ⟨A, c, B, e, rfl, hb, hm⟩ := hv
  have hb : Bs w A j.base.length c j.base := hb
  have hm : Mx w B j.recs.length e j.recs := hm
  have hsm := h.at_.smallS
  have hrm := h.at_.roomS
  obtain ⟨R, hR⟩ : ∃ R : Int, ((j.from_ + j.half - j.next : Nat) : Int) = R := ⟨_, rfl⟩
  obtain ⟨q, hq⟩ : ∃ q, w.heap.size = q := ⟨_, rfl⟩
  have sx := Sx.box w (j.half : Int) (.slice A j.base.length c) (.slice B j.recs.length e)
  have x1 := Ext.alloc w (.cells #[.int .i64 (j.half : Int), .slice A j.base.length c, .slice B j.recs.length e] 45)
  obtain ⟨w1, hw1⟩ : ∃ w1, w.alloc (.cells #[.int .i64 (j.half : Int), .slice A j.base.length c, .slice B j.recs.length e] 45) = w1 := ⟨_, rfl⟩
  rw [hw1, hq] at sx
  rw [hw1] at x1
  have SX := Lib.hid (fun (Wx : World) (hx : Ext w1 Wx) => sx.ext hx)
  have X1 := Lib.hid x1
  have HB := Lib.hid (fun (Wx : World) (hx : Ext w1 Wx) => hb.ext (x1.trans hx))
  have HM := Lib.hid (fun (Wx : World) (hx : Ext w1 Wx) => hm.ext (x1.trans hx))
  have HL := Lib.hid (fun (Wx : World) (hx : Ext w1 Wx) => h.then (x1.trans hx))
  have HR := Lib.hid hR
  have SM := Lib.hid hsm
  have RM := Lib.hid (show j.st.room = R by rw [hrm, hR])
  clear hb hm sx x1 h hR hsm hrm
  go_enter Try.func20, Try.ntmps20
  have ehalf : j.st.half = j.half := rfl
  have ebase : j.st.base = j.base := rfl
  have erecs : j.st.recs = j.recs := rfl
  rw [ehalf, ebase, erecs]
  clear ehalf ebase erecs
  go_wp2_with (fail)
  try rw [hq]
  try rw [hw1]
  clear hw1 hq
  have hS0 : (fun Wx : World => Hid (Ext w1 Wx)) w1.drew := Lib.hid (Ext.drew w1)
  refine wp_region_T (S := (fun Wx : World => Hid (Ext w1 Wx))) 16 rfl rfl ?_
  refine takeC [12,11,5,4,1] (i := 0) (v := ?_) rfl (by kernel_rfl) (by kernel_rfl) (by kernel_rfl) (by kernel_rfl) (by decide) (fun _ _ _ h => h) (by kernel_rfl) (Or.inl ⟨by kernel_rfl, ?_⟩) (by assumption) ?_
  rotate_left
  · (intro W9 hSw; go_simp; (try with_reducible rfl))
  try simp only [Act.put, List.getElem_toArray, List.getElem_cons_succ, List.getElem_cons_zero, List.setIfInBounds_toArray, List.set_cons_zero, List.set_cons_succ]
  refine takeC [12,11,5,4,3] (i := 2) (v := ?_) rfl (by kernel_rfl) (by kernel_rfl) (by kernel_rfl) (by kernel_rfl) (by decide) (fun _ _ _ h => h) (by kernel_rfl) (Or.inl ⟨by kernel_rfl, ?_⟩) (by assumption) ?_
  rotate_left
  · (intro W9 hSw; go_simp; (try with_reducible rfl))
  try simp only [Act.put, List.getElem_toArray, List.getElem_cons_succ, List.getElem_cons_zero, List.setIfInBounds_toArray, List.set_cons_zero, List.set_cons_succ]
  refine takeC [12,11,5,4] (i := 3) (v := ?_) rfl (by kernel_rfl) (by kernel_rfl) (by kernel_rfl) (by kernel_rfl) (by decide) (fun _ _ _ h => h) (by kernel_rfl) (Or.inl ⟨by kernel_rfl, ?_⟩) (by assumption) ?_
  rotate_left
  · (intro W9 hSw; (have a := (SX.out _ hSw.out).c1; clear hSw; skip); go_simp; (try with_reducible rfl))
  try simp only [Act.put, List.getElem_toArray, List.getElem_cons_succ, List.getElem_cons_zero, List.setIfInBounds_toArray, List.set_cons_zero, List.set_cons_succ]
  refine oneT (i := 1) rfl (by kernel_rfl) (fun K hK => ?_)
  rw [if_pos (by kernel_rfl)]
  go_wp2_with (fail)
  with_reducible refine (base_lv (HL.out _ hS0.out)).mono ?_
  rintro e w2 ⟨A2, c2, rfl, b2, _, x2⟩
  have hS1 : (fun Wx : World => Hid (Ext w1 Wx)) w2 := Lib.hid (hS0.out.trans x2)
  have hsb := sameBytes5 w2 A2 A _ c2 _ c j.base j.base b2 (HB.out w2 hS1.out)
  rw [show (j.base == j.base) = true from beq_self_eq_true _] at hsb
  have HSB := Lib.hid hsb
  clear b2 x2 hsb
  go_wp2_with (fail)
  refine hK.out _ _ (fun _ => hS1) ?_
  clear hK K
  try simp only [Act.put, List.getElem_toArray, List.getElem_cons_succ, List.getElem_cons_zero, List.setIfInBounds_toArray, List.set_cons_zero, List.set_cons_succ]
  refine oneT (i := 4) rfl (by kernel_rfl) (fun K hK => ?_)
  rw [if_pos (by kernel_rfl)]
  go_wp2_with (fail)
  with_reducible refine HSB.out.mono ?_
  rintro e wp ⟨rfl, rfl⟩
  clear HSB
  go_wp2_with (fail)
  refine hK.out _ _ (fun _ => hS1) ?_
  clear hK K
  try simp only [Act.put, List.getElem_toArray, List.getElem_cons_succ, List.getElem_cons_zero, List.setIfInBounds_toArray, List.set_cons_zero, List.set_cons_succ]
  refine takeC [12,11] (i := 5) (v := ?_) rfl (by kernel_rfl) (by kernel_rfl) (by kernel_rfl) (by kernel_rfl) (by decide) (fun _ _ _ h => h) (by kernel_rfl) (Or.inl ⟨by kernel_rfl, ?_⟩) (by assumption) ?_
  rotate_left
  · (intro W9 hSw; go_simp; (try with_reducible rfl))
  try simp only [Act.put, List.getElem_toArray, List.getElem_cons_succ, List.getElem_cons_zero, List.setIfInBounds_toArray, List.set_cons_zero, List.set_cons_succ]
  refine takeC [12,10,7] (i := 6) (v := ?_) rfl (by kernel_rfl) (by kernel_rfl) (by kernel_rfl) (by kernel_rfl) (by decide) (fun _ _ _ h => h) (by kernel_rfl) (Or.inl ⟨by kernel_rfl, ?_⟩) (by assumption) ?_
  rotate_left
  · (intro W9 hSw; go_simp; (try with_reducible rfl))
  try simp only [Act.put, List.getElem_toArray, List.getElem_cons_succ, List.getElem_cons_zero, List.setIfInBounds_toArray, List.set_cons_zero, List.set_cons_succ]
  refine takeC [12,10,9] (i := 8) (v := ?_) rfl (by kernel_rfl) (by kernel_rfl) (by kernel_rfl) (by kernel_rfl) (by decide) (fun _ _ _ h => h) (by kernel_rfl) (Or.inl ⟨by kernel_rfl, ?_⟩) (by assumption) ?_
  rotate_left
  · (intro W9 hSw; go_simp; (try with_reducible rfl))
  try simp only [Act.put, List.getElem_toArray, List.getElem_cons_succ, List.getElem_cons_zero, List.setIfInBounds_toArray, List.set_cons_zero, List.set_cons_succ]
  refine takeC [12,10] (i := 9) (v := ?_) rfl (by kernel_rfl) (by kernel_rfl) (by kernel_rfl) (by kernel_rfl) (by decide) (fun _ _ _ h => h) (by kernel_rfl) (Or.inl ⟨by kernel_rfl, ?_⟩) (by assumption) ?_
  rotate_left
  · (intro W9 hSw; (have a := (SX.out _ hSw.out).c2; clear hSw; skip); go_simp; (try with_reducible rfl))
  try simp only [Act.put, List.getElem_toArray, List.getElem_cons_succ, List.getElem_cons_zero, List.setIfInBounds_toArray, List.set_cons_zero, List.set_cons_succ]
  refine oneT (i := 7) rfl (by kernel_rfl) (fun K hK => ?_)
  rw [if_pos (by kernel_rfl)]
  go_wp2_with (fail)
  with_reducible refine (recs_lv (HL.out _ hS1.out)).mono ?_
  rintro e w3 ⟨A3, c3, rfl, m3, _, x3⟩
  have hS3 : (fun Wx : World => Hid (Ext w1 Wx)) w3 := Lib.hid (hS1.out.trans x3)
  have hsl := sameLists24 w3 A3 B _ c3 _ e j.recs j.recs m3 (HM.out w3 hS3.out)
  rw [show decide (j.recs = j.recs) = true from decide_eq_true rfl] at hsl
  have HSL := Lib.hid hsl
  clear m3 x3 hsl
  go_wp2_with (fail)
  refine hK.out _ _ (fun _ => hS3) ?_
  clear hK K
  try simp only [Act.put, List.getElem_toArray, List.getElem_cons_succ, List.getElem_cons_zero, List.setIfInBounds_toArray, List.set_cons_zero, List.set_cons_succ]
  refine oneT (i := 10) rfl (by kernel_rfl) (fun K hK => ?_)
  rw [if_pos (by kernel_rfl)]
  go_wp2_with (fail)
  with_reducible refine HSL.out.mono ?_
  rintro e w4 ⟨rfl, x4⟩
  have hS4 : (fun Wx : World => Hid (Ext w1 Wx)) w4 := Lib.hid (hS3.out.trans x4)
  clear HSL x4
  go_wp2_with (fail)
  refine hK.out _ _ (fun _ => hS4) ?_
  clear hK K
  try simp only [Act.put, List.getElem_toArray, List.getElem_cons_succ, List.getElem_cons_zero, List.setIfInBounds_toArray, List.set_cons_zero, List.set_cons_succ]
  refine takeC [12] (i := 11) (v := ?_) rfl (by kernel_rfl) (by kernel_rfl) (by kernel_rfl) (by kernel_rfl) (by decide) (fun _ _ _ h => h) (by kernel_rfl) (Or.inl ⟨by kernel_rfl, ?_⟩) (by assumption) ?_
  rotate_left
  · (intro W9 hSw; go_simp; (try with_reducible rfl))
  try simp only [Act.put, List.getElem_toArray, List.getElem_cons_succ, List.getElem_cons_zero, List.setIfInBounds_toArray, List.set_cons_zero, List.set_cons_succ]
  refine takeC [] (i := 12) (v := ?_) rfl (by kernel_rfl) (by kernel_rfl) (by kernel_rfl) (by kernel_rfl) (by decide) (fun _ _ _ h => h) (by kernel_rfl) (Or.inl ⟨by kernel_rfl, ?_⟩) (by assumption) ?_
  rotate_left
  · (intro W9 hSw; go_simp; (try with_reducible rfl))
  try simp only [Act.put, List.getElem_toArray, List.getElem_cons_succ, List.getElem_cons_zero, List.setIfInBounds_toArray, List.set_cons_zero, List.set_cons_succ]
  refine takeC [14] (i := 13) (v := ?_) rfl (by kernel_rfl) (by kernel_rfl) (by kernel_rfl) (by kernel_rfl) (by decide) (fun _ _ _ h => h) (by kernel_rfl) (Or.inl ⟨by kernel_rfl, ?_⟩) (by assumption) ?_
  rotate_left
  · (intro W9 hSw; go_simp; (try with_reducible rfl))
  try simp only [Act.put, List.getElem_toArray, List.getElem_cons_succ, List.getElem_cons_zero, List.setIfInBounds_toArray, List.set_cons_zero, List.set_cons_succ]
  refine takeC [] (i := 15) (v := ?_) rfl (by kernel_rfl) (by kernel_rfl) (by kernel_rfl) (by kernel_rfl) (by decide) (fun _ _ _ h => h) (by kernel_rfl) (Or.inl ⟨by kernel_rfl, ?_⟩) (by assumption) ?_
  rotate_left
  · (intro W9 hSw; (have a0 := (SX.out _ hSw.out).c0; have a1 := (SX.out _ hSw.out).c1; have a2 := (SX.out _ hSw.out).c2; clear hSw; skip); go_simp; (try with_reducible rfl))
  try simp only [Act.put, List.getElem_toArray, List.getElem_cons_succ, List.getElem_cons_zero, List.setIfInBounds_toArray, List.set_cons_zero, List.set_cons_succ]
  refine oneT (i := 14) rfl (by kernel_rfl) (fun K hK => ?_)
  rw [if_pos (by kernel_rfl)]
  go_wp2_with (fail)
  with_reducible refine (room_lv (HL.out _ hS4.out) HR.out).mono ?_
  rintro e w5 ⟨rfl, x5⟩
  have hS5 : (fun Wx : World => Hid (Ext w1 Wx)) w5 := Lib.hid (hS4.out.trans x5)
  clear x5
  go_wp2_with (fail)
  refine hK.out _ _ (fun _ => hS5) ?_
  clear hK K
  try simp only [Act.put, List.getElem_toArray, List.getElem_cons_succ, List.getElem_cons_zero, List.setIfInBounds_toArray, List.set_cons_zero, List.set_cons_succ]
  refine oneT (i := 16) rfl (by kernel_rfl) (fun K hK => ?_)
  rw [if_pos (by kernel_rfl)]
  have hrr : Calls Try.prog 37 #[.agg #[.int .i64 (j.half : Int), .slice A j.base.length c, .slice B j.recs.length e]] w5 fun r w' => r = .returned (.int .i64 j.st.room) ∧ Ext w5 w' := refRoom_any w5 j.st SM.out A c B e (HB.out w5 hS5.out) (HM.out w5 hS5.out)
  rw [RM.out] at hrr
  have HRR := Lib.hid hrr
  clear hrr
  go_wp2_with (fail)
  with_reducible refine HRR.out.mono ?_
  rintro e w6 ⟨rfl, x6⟩
  have hS6 : (fun Wx : World => Hid (Ext w1 Wx)) w6 := Lib.hid (hS5.out.trans x6)
  clear x6 HRR
  go_wp2_with (fail)
  refine hK.out _ _ (fun h => absurd (show true = false from h) (by decide)) ?_
  clear hK K
  try simp only [Act.put, List.getElem_toArray, List.getElem_cons_succ, List.getElem_cons_zero, List.setIfInBounds_toArray, List.set_cons_zero, List.set_cons_succ]
  refine oneT (i := 17) rfl (by kernel_rfl) (fun K hK => ?_)
  rw [if_pos (by kernel_rfl)]
  go_wp2_with (fail)
  refine hK.out _ _ (fun h => absurd (show true = false from h) (by decide)) ?_
  clear hK K
  try simp only [Act.put, List.getElem_toArray, List.getElem_cons_succ, List.getElem_cons_zero, List.setIfInBounds_toArray, List.set_cons_zero, List.set_cons_succ]
  refine oneT (i := 18) rfl (by kernel_rfl) (fun K hK => ?_)
  rw [if_pos (by kernel_rfl)]
  go_wp2_with (fail)
  refine hK.out _ _ (fun h => absurd (show true = false from h) (by decide)) ?_
  clear hK K
  try simp only [Act.put, List.getElem_toArray, List.getElem_cons_succ, List.getElem_cons_zero, List.setIfInBounds_toArray, List.set_cons_zero, List.set_cons_succ]
  refine oneT (i := 19) rfl (by kernel_rfl) (fun K hK => ?_)
  rw [if_pos (by kernel_rfl)]
  go_wp2_with (fail)
  refine hK.out _ _ (fun h => absurd (show true = false from h) (by decide)) ?_
  clear hK K
  try simp only [Act.put, List.getElem_toArray, List.getElem_cons_succ, List.getElem_cons_zero, List.setIfInBounds_toArray, List.set_cons_zero, List.set_cons_succ]
  refine doneT (by kernel_rfl) ?_ _
  clear hS0
  go_wp2_with (fail)
  go_ret
  exact ⟨rfl, X1.out.trans hS6.out⟩
end Go.Proofs.Ytaaegbccejjjcaa
namespace Go.Proofs.Ytaaegbccejjjcaa
open Go.RowKit Go.Maps Go.Sort Go.Shelf
set_option linter.unusedSimpArgs false

/-- A state and an answer, handed back; it stays what it is whatever turns of a kind. -/
def GivesSt (Z : Nat → Prop) (w : World) (s : Jo.St) (f : Int) (r : Ending) (w' : World) : Prop := ∃ v, r = .returned (.tuple #[v, .int .i64 f]) ∧ Ext w w' ∧ Sz Z w' v s
set_option maxRecDepth 100000 in
set_option maxHeartbeats 2000000 in
theorem refCp_full (w : World) (Z : Nat → Prop) (hz : ∀ q, Z q → q < w.heap.size) (s : Jo.St) (hs : s.Small) (A : Option Addr) (c : Nat) (B : Option Addr) (e : Nat) (hb0 : Bz Z w A s.base.length c s.base) (hm0 : Mz Z w B s.recs.length e s.recs) (D : Option Addr) (n dd : Nat) (l : List UInt8) (hl : Bs w D n dd l) (hn : n ≤ 400) (hr : s.half < 1 + Jo.need n) :
    Calls Try.prog 38 #[.agg (sc (s.half : Int) (.slice A s.base.length c) (.slice B s.recs.length e)).toArray, .slice D n dd] w (GivesSt Z w s 5) := by
  have hb := hb0.bs
  have hm := hm0.mx
  have HZ := Lib.hid hz
  have hln := hl.len
  have hle := hl.le
  have hmx := hl.max
  obtain ⟨K, hK⟩ : ∃ K, Jo.need n = K := ⟨_, rfl⟩
  have HND := Lib.hid (fun Wx : World => data_any Wx n (by omega))
  rw [hK] at HND hr
  have hK2 : K ≤ 10 := by rw [← hK]; unfold Jo.need; omega
  have WK : IntKind.i64.wrap (1 + (K : Int)) = 1 + (K : Int) := IntWalk.i64_in _ (by omega)
  obtain ⟨hf, hhf⟩ : ∃ hf, s.half = hf := ⟨_, rfl⟩
  have f1 : hf ≤ 65536 := by rw [← hhf]; exact hs.half
  obtain ⟨p, hp⟩ : ∃ p, w.heap.size = p := ⟨_, rfl⟩
  have sx := Sx.box w (hf : Int) (.slice A s.base.length c) (.slice B s.recs.length e)
  have x1 := Ext.alloc w (.cells #[.int .i64 (hf : Int), .slice A s.base.length c, .slice B s.recs.length e] 45)
  obtain ⟨w1, hw1⟩ : ∃ w1, w.alloc (.cells #[.int .i64 (hf : Int), .slice A s.base.length c, .slice B s.recs.length e] 45) = w1 := ⟨_, rfl⟩
  rw [hw1, hp] at sx
  rw [hw1] at x1
  obtain ⟨r, hrr⟩ : ∃ r, w1.heap.size = r := ⟨_, rfl⟩
  have hra := run_alloc_st w1
  have sz := Sx.zero w1
  have x2 := Ext.alloc w1 zst
  obtain ⟨w2, hw2⟩ : ∃ w2, w1.alloc zst = w2 := ⟨_, rfl⟩
  rw [hw2, hrr] at hra sz
  rw [hw2] at x2
  have RA := Lib.hid hra
  have SX := Lib.hid (sx.ext x2)
  have SZ := Lib.hid sz
  have X2 := Lib.hid (x1.trans x2)
  have PR := Lib.hid (show w.heap.size ≤ p ∧ w.heap.size ≤ r ∧ p < r by have h1 := sx.lt; have h2 := x1.size; omega)
  have HB := Lib.hid hb0
  have HM := Lib.hid hm0
  have HL := Lib.hid hl
  have HF := Lib.hid hhf
  have k0 := (sx.ext x2).c0
  rw [hhf] at hr
  have t1 : (hf : Int) < 1 + (K : Int) := by omega
  obtain ⟨w3, hs3, sx3, ch3⟩ := st_store (w := w2.drew) (SZ.out.ext (Ext.drew w2)) (hf : Int) (.slice A s.base.length c) (.slice B s.recs.length e) rfl rfl
  have HS3 := Lib.hid hs3
  have HLD := Lib.hid ((SX.out.ext (Ext.drew w2)).load)
  have SX3 := Lib.hid sx3
  have X3 := Lib.hid (show Ext w w3 from ch3.ext (X2.out.trans (Ext.drew w2)) (fun q hq => by rw [show q = r from hq]; exact PR.out.2.1))
  clear hs hb hm hb0 hm0 hz hl sx sz x1 x2 hra hK hr hs3 sx3 ch3
  rw [hhf]
  go_enter Try.func38, Try.ntmps38
  try dsimp only [List.append]
  go_wp2_with (first
    | ((with_reducible refine opIs ⟨some 4, .alloc 45, _, _, _, _⟩ ?_); refine wpList_allocR rfl 45 rfl _ RA.out ?_))
  clear hw1 hp hw2 hrr
  refine wp_region_still_lit (by kernel_rfl) (by kernel_rfl) ?_
  still_step
  still_step
  still_call ((HND.out _).mono (fun e w' h => ⟨h.1, h.2.symm⟩))
  repeat still_step
  refine wpStill_nil ?_
  change Exit.then _ _ _ _ w2.drew
  clear k0
  go_wp2_with (first
    | ((with_reducible refine opIs ⟨some 13, .load 45 (.tmp 2), _, _, _, _⟩ ?_); refine wpList_loadR rfl 45 (.tmp 2) rfl rfl HLD.out ?_)
    | ((with_reducible refine opIs ⟨none, .store 45 (.tmp 4) (.tmp 13), _, _, _, _⟩ ?_); refine wpList_storeR rfl 45 (.tmp 4) (.tmp 13) rfl rfl rfl HS3.out ?_))
  refine bodyPost_ret (v := .tuple #[.agg (sc (hf : Int) (.slice A s.base.length c) (.slice B s.recs.length e)).toArray, .int .i64 5]) ?_ rfl ⟨_, rfl, X3.out, A, c, B, e, (by rw [HF.out]), HB.out.next (Ch.of X3.out _), HM.out.next (Ch.of X3.out _)⟩
  rw [results_cell_tmp rfl]
  simp [asAddr, Result.andThen, SX3.out.loadV]
set_option maxRecDepth 100000 in
set_option maxHeartbeats 2000000 in
theorem refCp_ok (w : World) (Z : Nat → Prop) (hz : ∀ q, Z q → q < w.heap.size) (s : Jo.St) (hs : s.Small) (A : Option Addr) (c : Nat) (B : Option Addr) (e : Nat) (hb0 : Bz Z w A s.base.length c s.base) (hm0 : Mz Z w B s.recs.length e s.recs) (D : Option Addr) (n dd : Nat) (l : List UInt8) (hl : Bs w D n dd l) (hn : n ≤ 400) (hr : 1 + Jo.need n ≤ s.half) :
    Calls Try.prog 38 #[.agg (sc (s.half : Int) (.slice A s.base.length c) (.slice B s.recs.length e)).toArray, .slice D n dd] w (GivesSt Z w ⟨s.half, l, []⟩ 0) := by
  have hb := hb0.bs
  have hm := hm0.mx
  have HZ := Lib.hid hz
  obtain ⟨i0, hi0, hz0, hz1, hz2⟩ := info_parts u8_info
  have hln := hl.len
  have hle := hl.le
  have hmx := hl.max
  obtain ⟨K, hK⟩ : ∃ K, Jo.need n = K := ⟨_, rfl⟩
  have HND := Lib.hid (fun Wx : World => data_any Wx n (by omega))
  rw [hK] at HND hr
  have hK2 : K ≤ 10 := by rw [← hK]; unfold Jo.need; omega
  have WK : IntKind.i64.wrap (1 + (K : Int)) = 1 + (K : Int) := IntWalk.i64_in _ (by omega)
  obtain ⟨hf, hhf⟩ : ∃ hf, s.half = hf := ⟨_, rfl⟩
  have f1 : hf ≤ 65536 := by rw [← hhf]; exact hs.half
  obtain ⟨p, hp⟩ : ∃ p, w.heap.size = p := ⟨_, rfl⟩
  have sx := Sx.box w (hf : Int) (.slice A s.base.length c) (.slice B s.recs.length e)
  have x1 := Ext.alloc w (.cells #[.int .i64 (hf : Int), .slice A s.base.length c, .slice B s.recs.length e] 45)
  obtain ⟨w1, hw1⟩ : ∃ w1, w.alloc (.cells #[.int .i64 (hf : Int), .slice A s.base.length c, .slice B s.recs.length e] 45) = w1 := ⟨_, rfl⟩
  rw [hw1, hp] at sx
  rw [hw1] at x1
  obtain ⟨r, hrr⟩ : ∃ r, w1.heap.size = r := ⟨_, rfl⟩
  have hra := run_alloc_st w1
  have sz := Sx.zero w1
  have x2 := Ext.alloc w1 zst
  obtain ⟨w2, hw2⟩ : ∃ w2, w1.alloc zst = w2 := ⟨_, rfl⟩
  rw [hw2, hrr] at hra sz
  rw [hw2] at x2
  have RA := Lib.hid hra
  have SX := Lib.hid (sx.ext x2)
  have SZ := Lib.hid sz
  have X2 := Lib.hid (x1.trans x2)
  have PR := Lib.hid (show w.heap.size ≤ p ∧ w.heap.size ≤ r ∧ p < r by have h1 := sx.lt; have h2 := x1.size; omega)
  have HB := Lib.hid hb0
  have HM := Lib.hid hm0
  have HL := Lib.hid hl
  have HF := Lib.hid hhf
  have k0 := (sx.ext x2).c0
  rw [hhf] at hr
  have t1 : ¬ (hf : Int) < 1 + (K : Int) := by omega
  have LL := Lib.hid hln
  clear hs hb hm hb0 hm0 hz hl sx sz x1 x2 hra hK hr
  rw [hhf]
  go_enter Try.func38, Try.ntmps38
  try dsimp only [List.append]
  go_wp2_with (first
    | ((with_reducible refine opIs ⟨some 4, .alloc 45, _, _, _, _⟩ ?_); refine wpList_allocR rfl 45 rfl _ RA.out ?_))
  clear hw1 hp hw2 hrr
  refine wp_region_still_lit (by kernel_rfl) (by kernel_rfl) ?_
  still_step
  still_step
  still_call ((HND.out _).mono (fun e w' h => ⟨h.1, h.2.symm⟩))
  repeat still_step
  refine wpStill_nil ?_
  change Exit.then _ _ _ _ w2.drew
  clear k0
  have z1 : decide ((hf : Int) < 1 + (K : Int)) = false := decide_eq_false (by omega)
  try rw [z1]
  clear z1
  go_wp2_with (fail)
  have hS0 : (fun Wx : World => Hid (Ext w2 Wx)) w2.drew.drew := Lib.hid ((Ext.drew w2).trans (Ext.drew w2.drew))
  refine wp_region_T (S := (fun Wx : World => Hid (Ext w2 Wx))) 6 rfl rfl ?_
  refine takeC [] (i := 0) (v := ?_) rfl (by kernel_rfl) (by kernel_rfl) (by kernel_rfl) (by kernel_rfl) (by decide) (fun _ _ _ h => h) (by kernel_rfl) (Or.inl ⟨by kernel_rfl, ?_⟩) (by assumption) ?_
  rotate_left
  · (intro W9 hSw; go_simp; (try with_reducible rfl))
  try simp only [Act.put, List.getElem_toArray, List.getElem_cons_succ, List.getElem_cons_zero, List.setIfInBounds_toArray, List.set_cons_zero, List.set_cons_succ]
  refine takeC [] (i := 1) (v := ?_) rfl (by kernel_rfl) (by kernel_rfl) (by kernel_rfl) (by kernel_rfl) (by decide) (fun _ _ _ h => h) (by kernel_rfl) (Or.inl ⟨by kernel_rfl, ?_⟩) (by assumption) ?_
  rotate_left
  · (intro W9 hSw; (have a := (SX.out.ext hSw.out).c0; clear hSw; skip); go_simp; (try with_reducible rfl))
  try simp only [Act.put, List.getElem_toArray, List.getElem_cons_succ, List.getElem_cons_zero, List.setIfInBounds_toArray, List.set_cons_zero, List.set_cons_succ]
  refine takeC [] (i := 3) (v := ?_) rfl (by kernel_rfl) (by kernel_rfl) (by kernel_rfl) (by kernel_rfl) (by decide) (fun _ _ _ h => h) (by kernel_rfl) (Or.inl ⟨by kernel_rfl, ?_⟩) (by assumption) ?_
  rotate_left
  · (intro W9 hSw; go_simp; (try with_reducible rfl))
  try simp only [Act.put, List.getElem_toArray, List.getElem_cons_succ, List.getElem_cons_zero, List.setIfInBounds_toArray, List.set_cons_zero, List.set_cons_succ]
  refine oneT (i := 2) rfl (by kernel_rfl) (fun K hK => ?_)
  rw [if_pos (by kernel_rfl)]
  go_wp2_with (fail)
  have hSa : (fun Wx : World => Hid (Ext w2 Wx)) (w2.drew.drew.alloc (.cells #[] 5)) := Lib.hid (hS0.out.thenAlloc _)
  refine hK.out _ _ (fun _ => hSa) ?_
  clear hK K
  try simp only [Act.put, List.getElem_toArray, List.getElem_cons_succ, List.getElem_cons_zero, List.setIfInBounds_toArray, List.set_cons_zero, List.set_cons_succ]
  refine oneT (i := 4) rfl (by kernel_rfl) (fun K hK => ?_)
  refine step_append_rd _ rfl (.tmp 16) (.tmp 17) 32 rfl w2.heap.size 5 i0 _ 1 1 Try.underlying32 hi0 hz0 hz1 hz2 rfl (by omega) (.slice (some ⟨w2.heap.size, 0, none⟩) 0 0) 0 [] (by simp [Act.eval])
    (World.ownsRow_lit w2.drew.drew #[] 0 (Nat.le_refl _) (by unfold maxLen; omega) rfl) D n dd (bcells l) (by simp [Act.eval]) (HL.out.rd.ext (X2.out.trans hSa.out)) (bcells_one l) (by omega) (by unfold maxLen; omega) (by simp [World.size_alloc]) ?_
  intro v4 w4 hown hg hat
  obtain ⟨A1, c1, e4, _, _⟩ := ownsRow_slice hown
  have x4 : Ext w2 w4 := by
    refine hSa.out.ofGrown hg (fun q hq => ?_)
    have hq : some w2.heap.size = some q := hq
    injection hq with hq
    omega
  have hSb : (fun Wx : World => Hid (Ext w2 Wx)) w4 := Lib.hid x4
  rw [Nat.zero_add] at e4
  subst e4
  have hown2 : w4.ownsRow w2.heap.size 5 1 (.slice A1 n c1) l.length (bcells l) := by rw [LL.out]; simpa using hown
  have b4 : Bs w4 A1 n c1 l := by
    have h1 := hown2
    rw [← LL.out] at h1 ⊢
    exact (Own.mk (base := w2.heap.size) (e := 5) h1).bs
  have B4 := Lib.hid b4
  have X4 := Lib.hid (X2.out.trans x4)
  have C4 : RowKit.Hid (Cold (fun q => q = r) w4 A1 n) := Lib.hid (fun hn0 q hq => by
    have h1 := own_row hown2 q (own_of_map hq)
    have h2 := b4.block hn0 hq
    exact ⟨h2, fun z => by have z : q = r := z; have := SZ.out.lt; omega⟩)
  have C5 : RowKit.Hid (Cold Z w4 A1 n) := Lib.hid (fun hn0 q hq => by
    have h1 := own_row hown2 q (own_of_map hq)
    have h2 := b4.block hn0 hq
    exact ⟨h2, fun z => by have := X2.out.size; have := HZ.out q z; omega⟩)
  obtain ⟨w5, hs5, sx5, ch5⟩ := st_store (w := w4) (SZ.out.ext x4) (hf : Int) (.slice A1 n c1) (.slice none 0 0) rfl rfl
  have SX3 := Lib.hid sx5
  have K5 := Lib.hid ch5
  have hs5 : (Instr.storeAt 45 (.pointer (some ⟨r, 0, none⟩)) (.agg #[.int .i64 (hf : Int), .slice A1 n c1, .slice none 0 0])).run Try.prog w4 = .ok () w5 := hs5
  clear hown hg hat hown2 b4 sx5 ch5 x4
  refine hK.out _ _ (fun _ => hSb) ?_
  clear hK K
  try simp only [Act.put, List.getElem_toArray, List.getElem_cons_succ, List.getElem_cons_zero, List.setIfInBounds_toArray, List.set_cons_zero, List.set_cons_succ]
  refine takeC [] (i := 5) (v := ?_) rfl (by kernel_rfl) (by kernel_rfl) (by kernel_rfl) (by kernel_rfl) (by decide) (fun _ _ _ h => h) (by kernel_rfl) (Or.inl ⟨by kernel_rfl, ?_⟩) (by assumption) ?_
  rotate_left
  · (intro W9 hSw; go_simp; (try with_reducible rfl))
  try simp only [Act.put, List.getElem_toArray, List.getElem_cons_succ, List.getElem_cons_zero, List.setIfInBounds_toArray, List.set_cons_zero, List.set_cons_succ]
  refine oneT (i := 6) rfl (by kernel_rfl) (fun K hK => ?_)
  rw [if_pos (by kernel_rfl)]
  refine wp_storeR 45 (.tmp 4) (.tmp 19) rfl rfl rfl hs5 rfl ?_
  clear hs5
  refine hK.out _ _ (fun h => absurd (show true = false from h) (by decide)) ?_
  clear hK K
  try simp only [Act.put, List.getElem_toArray, List.getElem_cons_succ, List.getElem_cons_zero, List.setIfInBounds_toArray, List.set_cons_zero, List.set_cons_succ]
  refine oneT (i := 7) rfl (by kernel_rfl) (fun K hK => ?_)
  rw [if_pos (by kernel_rfl)]
  go_wp2_with (fail)
  refine hK.out _ _ (fun h => absurd (show true = false from h) (by decide)) ?_
  clear hK K
  try simp only [Act.put, List.getElem_toArray, List.getElem_cons_succ, List.getElem_cons_zero, List.setIfInBounds_toArray, List.set_cons_zero, List.set_cons_succ]
  refine doneT (by kernel_rfl) ?_ _
  clear hS0 hSa hSb
  go_wp2_with (fail)
  refine bodyPost_ret (v := .tuple #[.agg (sc (hf : Int) (.slice A1 n c1) (.slice none 0 0)).toArray, .int .i64 0]) ?_ rfl ⟨_, rfl, K5.out.ext X4.out (fun q hq => by rw [show q = r from hq]; exact PR.out.2.1), A1, c1, none, 0, (by show Value.agg (sc (hf : Int) (.slice A1 n c1) (.slice none 0 0)).toArray = Value.agg (sc (hf : Int) (.slice A1 l.length c1) (.slice none 0 0)).toArray; rw [LL.out]), ?_, Mz.none _ _⟩
  · rw [results_cell_tmp rfl]
    simp [asAddr, Result.andThen, SX3.out.loadV]
  · show Bz Z w5 A1 l.length c1 l
    rw [LL.out]
    intro W2 hch
    exact (B4.out.ch K5.out C4.out).ch hch (C5.out.ch K5.out.size)
end Go.Proofs.Ytaaegbccejjjcaa
