/- Several texts in one: The contract of the document's Append. The contract of the laws' ref: the document's answer to an op. -/
import Derived.Test.YtaaegbccejjjcaaCt30
namespace Go.Proofs.Ytaaegbccejjjcaa
open Go.RowKit Go.Maps Go.Sort Go.Shelf
set_option linter.unusedSimpArgs false

set_option maxRecDepth 100000 in
set_option maxHeartbeats 2000000 in
theorem refApp_full (w : World) (Z : Nat → Prop) (hz : ∀ q, Z q → q < w.heap.size) (s : Jo.St) (hs : s.Small) (A : Option Addr) (c : Nat) (B : Option Addr) (e : Nat) (hb0 : Bz Z w A s.base.length c s.base) (hm0 : Mz Z w B s.recs.length e s.recs) (D : Option Addr) (n dd : Nat) (l : List UInt8) (hl : Bs w D n dd l) (hn : n ≤ 400) (hr : s.room < 1 + (Jo.need n : Int)) :
    Calls Try.prog 39 #[.agg (sc (s.half : Int) (.slice A s.base.length c) (.slice B s.recs.length e)).toArray, .slice D n dd] w (GivesSt Z w s 5) := by
  have hb := hb0.bs
  have hm := hm0.mx
  have HZ := Lib.hid hz
  have hln := hl.len
  have hle := hl.le
  have hmx := hl.max
  obtain ⟨K, hK⟩ : ∃ K, Jo.need n = K := ⟨_, rfl⟩
  have HND := Lib.hid (fun Wx : World => data_any Wx n (by omega))
  rw [hK] at HND hr
  obtain ⟨rm, hrm⟩ : ∃ rm, s.room = rm := ⟨_, rfl⟩
  rw [hrm] at hr
  have RMB := Lib.hid (show rm ≤ 65536 ∧ -200000 ≤ rm by
    have h1 := hs.half
    have h2 := hs.base
    have h3 := hs.room
    rw [← hrm]
    unfold Jo.St.room Jo.need
    omega)
  have hrmb := RMB.out
  have HRM := Lib.hid (fun (Wx : World) (hx : Ext w Wx) => (show Calls Try.prog 37 #[.agg #[.int .i64 (s.half : Int), .slice A s.base.length c, .slice B s.recs.length e]] Wx fun r w' => r = .returned (.int .i64 s.room) ∧ Ext Wx w' from refRoom_any Wx s hs A c B e (hb.ext hx) (hm.ext hx)))
  rw [hrm] at HRM
  have hK2 : K ≤ 10 := by rw [← hK]; unfold Jo.need; omega
  have WK : IntKind.i64.wrap (1 + (K : Int)) = 1 + (K : Int) := IntWalk.i64_in _ (by omega)
  obtain ⟨hf, hhf⟩ : ∃ hf, s.half = hf := ⟨_, rfl⟩
  rw [hhf] at HRM
  have f1 : hf ≤ 65536 := by rw [← hhf]; exact hs.half
  obtain ⟨p, hp⟩ : ∃ p, w.heap.size = p := ⟨_, rfl⟩
  have sx := Sx.box w (hf : Int) (.slice A s.base.length c) (.slice B s.recs.length e)
  have x1 := Ext.alloc w (.cells #[.int .i64 (hf : Int), .slice A s.base.length c, .slice B s.recs.length e] 45)
  obtain ⟨w1, hw1⟩ : ∃ w1, w.alloc (.cells #[.int .i64 (hf : Int), .slice A s.base.length c, .slice B s.recs.length e] 45) = w1 := ⟨_, rfl⟩
  rw [hw1, hp] at sx
  rw [hw1] at x1
  obtain ⟨r, hrr⟩ : ∃ r, w1.heap.size = r := ⟨_, rfl⟩
  have hra := run_alloc_st w1
  have sz := Sx.zero w1
  have x2 := Ext.alloc w1 zst
  obtain ⟨w2, hw2⟩ : ∃ w2, w1.alloc zst = w2 := ⟨_, rfl⟩
  rw [hw2, hrr] at hra sz
  rw [hw2] at x2
  have RA := Lib.hid hra
  have SX := Lib.hid (sx.ext x2)
  have SZ := Lib.hid sz
  have X2 := Lib.hid (x1.trans x2)
  have PR := Lib.hid (show w.heap.size ≤ p ∧ w.heap.size ≤ r ∧ p < r by have h1 := sx.lt; have h2 := x1.size; omega)
  have HB := Lib.hid hb0
  have HM := Lib.hid hm0
  have HL := Lib.hid hl
  have HF := Lib.hid hhf
  have k0 := (sx.ext x2).c0
  have t1 : rm < 1 + (K : Int) := by omega
  clear hs hb hm hb0 hm0 hz hl sx sz x1 x2 hra hK hr hrm k0
  rw [hhf]
  go_enter Try.func39, Try.ntmps39
  try dsimp only [List.append]
  go_wp2_with (first
    | ((with_reducible refine opIs ⟨some 4, .alloc 45, _, _, _, _⟩ ?_); refine wpList_allocR rfl 45 rfl _ RA.out ?_))
  clear hw1 hp hw2 hrr
  have hS0 : (fun Wx : World => Hid (Ext w2 Wx)) w2.drew := Lib.hid (Ext.drew w2)
  refine wp_region_T (S := (fun Wx : World => Hid (Ext w2 Wx))) 5 rfl rfl ?_
  refine takeC [2,1] (i := 0) (v := ?_) rfl (by kernel_rfl) (by kernel_rfl) (by kernel_rfl) (by kernel_rfl) (by decide) (fun _ _ _ h => h) (by kernel_rfl) (Or.inl ⟨by kernel_rfl, ?_⟩) (by assumption) ?_
  rotate_left
  · (intro W9 hSw; go_simp; (try with_reducible rfl))
  try simp only [Act.put, List.getElem_toArray, List.getElem_cons_succ, List.getElem_cons_zero, List.setIfInBounds_toArray, List.set_cons_zero, List.set_cons_succ]
  refine takeC [2] (i := 1) (v := ?_) rfl (by kernel_rfl) (by kernel_rfl) (by kernel_rfl) (by kernel_rfl) (by decide) (fun _ _ _ h => h) (by kernel_rfl) (Or.inl ⟨by kernel_rfl, ?_⟩) (by assumption) ?_
  rotate_left
  · (intro W9 hSw; go_simp; (try with_reducible rfl))
  try simp only [Act.put, List.getElem_toArray, List.getElem_cons_succ, List.getElem_cons_zero, List.setIfInBounds_toArray, List.set_cons_zero, List.set_cons_succ]
  refine takeC [] (i := 4) (v := ?_) rfl (by kernel_rfl) (by kernel_rfl) (by kernel_rfl) (by kernel_rfl) (by decide) (fun _ _ _ h => h) (by kernel_rfl) (Or.inl ⟨by kernel_rfl, ?_⟩) (by assumption) ?_
  rotate_left
  · (intro W9 hSw; (have a0 := (SX.out.ext hSw.out).c0; have a1 := (SX.out.ext hSw.out).c1; have a2 := (SX.out.ext hSw.out).c2; clear hSw; skip); go_simp; (try with_reducible rfl))
  try simp only [Act.put, List.getElem_toArray, List.getElem_cons_succ, List.getElem_cons_zero, List.setIfInBounds_toArray, List.set_cons_zero, List.set_cons_succ]
  refine oneT (i := 2) rfl (by kernel_rfl) (fun K hK => ?_)
  rw [if_pos (by kernel_rfl)]
  go_wp2_with (fail)
  with_reducible refine (HND.out _).mono ?_
  rintro e wp ⟨rfl, rfl⟩
  go_wp2_with (fail)
  refine hK.out _ _ (fun _ => hS0) ?_
  clear hK K
  try simp only [Act.put, List.getElem_toArray, List.getElem_cons_succ, List.getElem_cons_zero, List.setIfInBounds_toArray, List.set_cons_zero, List.set_cons_succ]
  refine pureT (i := 3) (v := ?_) rfl (by kernel_rfl) (by kernel_rfl) (by kernel_rfl) (by decide) (fun _ _ _ h => h) (Or.inl ⟨by kernel_rfl, ?_⟩) (fun _ => by assumption) ?_
  rotate_left
  · (intro W9 hSw; go_simp; (try with_reducible rfl))
  try simp only [Act.put, List.getElem_toArray, List.getElem_cons_succ, List.getElem_cons_zero, List.setIfInBounds_toArray, List.set_cons_zero, List.set_cons_succ]
  refine oneT (i := 5) rfl (by kernel_rfl) (fun K hK => ?_)
  rw [if_pos (by kernel_rfl)]
  go_wp2_with (fail)
  with_reducible refine (HRM.out _ (X2.out.trans hS0.out)).mono ?_
  rintro e w3 ⟨rfl, x3⟩
  have hS1 : (fun Wx : World => Hid (Ext w2 Wx)) w3 := Lib.hid (hS0.out.trans x3)
  clear x3
  go_wp2_with (fail)
  refine hK.out _ _ (fun h => absurd (show true = false from h) (by decide)) ?_
  clear hK K
  try simp only [Act.put, List.getElem_toArray, List.getElem_cons_succ, List.getElem_cons_zero, List.setIfInBounds_toArray, List.set_cons_zero, List.set_cons_succ]
  refine oneT (i := 6) rfl (by kernel_rfl) (fun K hK => ?_)
  rw [if_pos (by kernel_rfl)]
  go_wp2_with (fail)
  refine hK.out _ _ (fun h => absurd (show true = false from h) (by decide)) ?_
  clear hK K
  try simp only [Act.put, List.getElem_toArray, List.getElem_cons_succ, List.getElem_cons_zero, List.setIfInBounds_toArray, List.set_cons_zero, List.set_cons_succ]
  refine doneT (by kernel_rfl) ?_ _
  obtain ⟨w4, hs3, sx3, ch3⟩ := st_store (w := w3) (SZ.out.ext hS1.out) (hf : Int) (.slice A s.base.length c) (.slice B s.recs.length e) rfl rfl
  have HS3 := Lib.hid hs3
  have HLD := Lib.hid ((SX.out.ext hS1.out).load)
  have SX3 := Lib.hid sx3
  have X3 := Lib.hid (show Ext w w4 from ch3.ext (X2.out.trans hS1.out) (fun q hq => by rw [show q = r from hq]; exact PR.out.2.1))
  clear hs3 sx3 ch3 hS0 hS1
  go_wp2_with (first
    | ((with_reducible refine opIs ⟨some 15, .load 45 (.tmp 2), _, _, _, _⟩ ?_); refine wpList_loadR rfl 45 (.tmp 2) rfl rfl HLD.out ?_)
    | ((with_reducible refine opIs ⟨none, .store 45 (.tmp 4) (.tmp 15), _, _, _, _⟩ ?_); refine wpList_storeR rfl 45 (.tmp 4) (.tmp 15) rfl rfl rfl HS3.out ?_))
  refine bodyPost_ret (v := .tuple #[.agg (sc (hf : Int) (.slice A s.base.length c) (.slice B s.recs.length e)).toArray, .int .i64 5]) ?_ rfl ⟨_, rfl, X3.out, A, c, B, e, (by rw [HF.out]), HB.out.next (Ch.of X3.out _), HM.out.next (Ch.of X3.out _)⟩
  rw [results_cell_tmp rfl]
  simp [asAddr, Result.andThen, SX3.out.loadV]
set_option maxRecDepth 100000 in
set_option maxHeartbeats 2000000 in
theorem refApp_ok (w : World) (Z : Nat → Prop) (hz : ∀ q, Z q → q < w.heap.size) (s : Jo.St) (hs : s.Small) (A : Option Addr) (c : Nat) (B : Option Addr) (e : Nat) (hb0 : Bz Z w A s.base.length c s.base) (hm0 : Mz Z w B s.recs.length e s.recs) (D : Option Addr) (n dd : Nat) (l : List UInt8) (hl : Bs w D n dd l) (hn : n ≤ 400) (hr : 1 + (Jo.need n : Int) ≤ s.room) :
    Calls Try.prog 39 #[.agg (sc (s.half : Int) (.slice A s.base.length c) (.slice B s.recs.length e)).toArray, .slice D n dd] w (GivesSt Z w ⟨s.half, s.base, s.recs ++ [l]⟩ 0) := by
  have hb := hb0.bs
  have hm := hm0.mx
  have HZ := Lib.hid hz
  obtain ⟨i0, hi0, hz0, hz1, hz2⟩ := info_parts u8_info
  obtain ⟨i1, hi1, hy0, hy1, hy2⟩ := info_parts bytes_info24
  have hln := hl.len
  have hle := hl.le
  have hmx := hl.max
  obtain ⟨K, hK⟩ : ∃ K, Jo.need n = K := ⟨_, rfl⟩
  have HND := Lib.hid (fun Wx : World => data_any Wx n (by omega))
  rw [hK] at HND hr
  obtain ⟨rm, hrm⟩ : ∃ rm, s.room = rm := ⟨_, rfl⟩
  rw [hrm] at hr
  have RMB := Lib.hid (show rm ≤ 65536 ∧ -200000 ≤ rm by
    have h1 := hs.half
    have h2 := hs.base
    have h3 := hs.room
    rw [← hrm]
    unfold Jo.St.room Jo.need
    omega)
  have hrmb := RMB.out
  have HRM := Lib.hid (fun (Wx : World) (hx : Ext w Wx) => (show Calls Try.prog 37 #[.agg #[.int .i64 (s.half : Int), .slice A s.base.length c, .slice B s.recs.length e]] Wx fun r w' => r = .returned (.int .i64 s.room) ∧ Ext Wx w' from refRoom_any Wx s hs A c B e (hb.ext hx) (hm.ext hx)))
  rw [hrm] at HRM
  have hK2 : K ≤ 10 := by rw [← hK]; unfold Jo.need; omega
  have WK : IntKind.i64.wrap (1 + (K : Int)) = 1 + (K : Int) := IntWalk.i64_in _ (by omega)
  obtain ⟨hf, hhf⟩ : ∃ hf, s.half = hf := ⟨_, rfl⟩
  rw [hhf] at HRM
  have f1 : hf ≤ 65536 := by rw [← hhf]; exact hs.half
  obtain ⟨p, hp⟩ : ∃ p, w.heap.size = p := ⟨_, rfl⟩
  have sx := Sx.box w (hf : Int) (.slice A s.base.length c) (.slice B s.recs.length e)
  have x1 := Ext.alloc w (.cells #[.int .i64 (hf : Int), .slice A s.base.length c, .slice B s.recs.length e] 45)
  obtain ⟨w1, hw1⟩ : ∃ w1, w.alloc (.cells #[.int .i64 (hf : Int), .slice A s.base.length c, .slice B s.recs.length e] 45) = w1 := ⟨_, rfl⟩
  rw [hw1, hp] at sx
  rw [hw1] at x1
  obtain ⟨r, hrr⟩ : ∃ r, w1.heap.size = r := ⟨_, rfl⟩
  have hra := run_alloc_st w1
  have sz := Sx.zero w1
  have x2 := Ext.alloc w1 zst
  obtain ⟨w2, hw2⟩ : ∃ w2, w1.alloc zst = w2 := ⟨_, rfl⟩
  rw [hw2, hrr] at hra sz
  rw [hw2] at x2
  have RA := Lib.hid hra
  have SX := Lib.hid (sx.ext x2)
  have SZ := Lib.hid sz
  have X2 := Lib.hid (x1.trans x2)
  have PR := Lib.hid (show w.heap.size ≤ p ∧ w.heap.size ≤ r ∧ p < r by have h1 := sx.lt; have h2 := x1.size; omega)
  have HB := Lib.hid hb0
  have HM := Lib.hid hm0
  have HL := Lib.hid hl
  have HF := Lib.hid hhf
  have k0 := (sx.ext x2).c0
  have t1 : ¬ rm < 1 + (K : Int) := by omega
  obtain ⟨L, hL⟩ : ∃ L, s.recs = L := ⟨_, rfl⟩
  obtain ⟨m, hmm⟩ : ∃ m, L.length = m := ⟨_, rfl⟩
  have f3 : m ≤ 65536 := by rw [← hmm, ← hL]; exact hs.recs
  rw [hL, hmm] at HM SX HRM
  rw [hL, hmm] at hw1
  have hml := HM.out.le
  have hmx2 := HM.out.max
  have LL := Lib.hid hln
  have LM := Lib.hid hmm
  clear hs hb hm hb0 hm0 hz hl sx sz x1 x2 hra hK hr hrm k0
  rw [hhf, hL, hmm]
  clear hmm hL
  go_enter Try.func39, Try.ntmps39
  try dsimp only [List.append]
  go_wp2_with (first
    | ((with_reducible refine opIs ⟨some 4, .alloc 45, _, _, _, _⟩ ?_); refine wpList_allocR rfl 45 rfl _ RA.out ?_))
  clear hw1 hp hw2 hrr
  have hS0 : (fun Wx : World => Hid (Ext w2 Wx)) w2.drew := Lib.hid (Ext.drew w2)
  refine wp_region_T (S := (fun Wx : World => Hid (Ext w2 Wx))) 5 rfl rfl ?_
  refine takeC [2,1] (i := 0) (v := ?_) rfl (by kernel_rfl) (by kernel_rfl) (by kernel_rfl) (by kernel_rfl) (by decide) (fun _ _ _ h => h) (by kernel_rfl) (Or.inl ⟨by kernel_rfl, ?_⟩) (by assumption) ?_
  rotate_left
  · (intro W9 hSw; go_simp; (try with_reducible rfl))
  try simp only [Act.put, List.getElem_toArray, List.getElem_cons_succ, List.getElem_cons_zero, List.setIfInBounds_toArray, List.set_cons_zero, List.set_cons_succ]
  refine takeC [2] (i := 1) (v := ?_) rfl (by kernel_rfl) (by kernel_rfl) (by kernel_rfl) (by kernel_rfl) (by decide) (fun _ _ _ h => h) (by kernel_rfl) (Or.inl ⟨by kernel_rfl, ?_⟩) (by assumption) ?_
  rotate_left
  · (intro W9 hSw; go_simp; (try with_reducible rfl))
  try simp only [Act.put, List.getElem_toArray, List.getElem_cons_succ, List.getElem_cons_zero, List.setIfInBounds_toArray, List.set_cons_zero, List.set_cons_succ]
  refine takeC [] (i := 4) (v := ?_) rfl (by kernel_rfl) (by kernel_rfl) (by kernel_rfl) (by kernel_rfl) (by decide) (fun _ _ _ h => h) (by kernel_rfl) (Or.inl ⟨by kernel_rfl, ?_⟩) (by assumption) ?_
  rotate_left
  · (intro W9 hSw; (have a0 := (SX.out.ext hSw.out).c0; have a1 := (SX.out.ext hSw.out).c1; have a2 := (SX.out.ext hSw.out).c2; clear hSw; skip); go_simp; (try with_reducible rfl))
  try simp only [Act.put, List.getElem_toArray, List.getElem_cons_succ, List.getElem_cons_zero, List.setIfInBounds_toArray, List.set_cons_zero, List.set_cons_succ]
  refine oneT (i := 2) rfl (by kernel_rfl) (fun K hK => ?_)
  rw [if_pos (by kernel_rfl)]
  go_wp2_with (fail)
  with_reducible refine (HND.out _).mono ?_
  rintro e wp ⟨rfl, rfl⟩
  go_wp2_with (fail)
  refine hK.out _ _ (fun _ => hS0) ?_
  clear hK K
  try simp only [Act.put, List.getElem_toArray, List.getElem_cons_succ, List.getElem_cons_zero, List.setIfInBounds_toArray, List.set_cons_zero, List.set_cons_succ]
  refine pureT (i := 3) (v := ?_) rfl (by kernel_rfl) (by kernel_rfl) (by kernel_rfl) (by decide) (fun _ _ _ h => h) (Or.inl ⟨by kernel_rfl, ?_⟩) (fun _ => by assumption) ?_
  rotate_left
  · (intro W9 hSw; go_simp; (try with_reducible rfl))
  try simp only [Act.put, List.getElem_toArray, List.getElem_cons_succ, List.getElem_cons_zero, List.setIfInBounds_toArray, List.set_cons_zero, List.set_cons_succ]
  refine oneT (i := 5) rfl (by kernel_rfl) (fun K hK => ?_)
  rw [if_pos (by kernel_rfl)]
  go_wp2_with (fail)
  with_reducible refine (HRM.out _ (X2.out.trans hS0.out)).mono ?_
  rintro e w3 ⟨rfl, x3⟩
  have hS1 : (fun Wx : World => Hid (Ext w2 Wx)) w3 := Lib.hid (hS0.out.trans x3)
  clear x3
  go_wp2_with (fail)
  refine hK.out _ _ (fun h => absurd (show true = false from h) (by decide)) ?_
  clear hK K
  try simp only [Act.put, List.getElem_toArray, List.getElem_cons_succ, List.getElem_cons_zero, List.setIfInBounds_toArray, List.set_cons_zero, List.set_cons_succ]
  refine oneT (i := 6) rfl (by kernel_rfl) (fun K hK => ?_)
  rw [if_pos (by kernel_rfl)]
  go_wp2_with (fail)
  refine hK.out _ _ (fun h => absurd (show true = false from h) (by decide)) ?_
  clear hK K
  try simp only [Act.put, List.getElem_toArray, List.getElem_cons_succ, List.getElem_cons_zero, List.setIfInBounds_toArray, List.set_cons_zero, List.set_cons_succ]
  refine doneT (by kernel_rfl) ?_ _
  have SX3 := Lib.hid (SX.out.ext hS1.out)
  have SZ3 := Lib.hid (SZ.out.ext hS1.out)
  have X3 := Lib.hid (X2.out.trans hS1.out)
  clear hS0 hS1 SX SZ X2 HRM
  go_wp2_with (fail)
  go_loopw [6, 7] (fun v i wr => ∃ (k : Nat) (cs : List Value), k ≤ m ∧ i = .int .i64 (k : Int) ∧ RowKit.Hid (wr.ownsRow w3.heap.size 32 1 v k cs) ∧ RowKit.Hid (∀ i, i < k → ∃ A n c, cs[i]? = some (.slice A n c) ∧ Bz Z w A n c (Gm.row L i)) ∧ RowKit.Hid (Ext w3 wr)) (fun _ i _ => m - (intOf i).toNat)
  case atStart => exact ⟨0, [], Nat.zero_le _, rfl, Lib.hid (World.ownsRow_nil _ _ _ _), Lib.hid (fun i hi => absurd hi (Nat.not_lt_zero _)), Lib.hid (Ext.refl _)⟩
  case round =>
    obtain ⟨k, cs, hk, rfl, OW, ROWS, X⟩ := hrel
    have k2 := (SX3.out.ext X.out).c2
    have hsz := X.out.size
    by_cases hlt : k < m
    · have j1 : (k : Int) < m := by omega
      obtain ⟨bm, om, Ai, ni, ci, rfl, hce0, hbi⟩ := HM.out.at_ hlt
      have hce := hce0 wr (Ch.of (X3.out.trans X.out) _)
      have HBI := Lib.hid hbi
      have CSL := Lib.hid (show cs.length = k by have := OW.out.1; omega)
      have OW2 := Lib.hid (ownsRow_ext OW.out (Ext.alloc wr (.cells #[.slice Ai ni ci] 32)))
      clear hbi hce0
      go_wp2_with (at_builtin; refine wpList_append_rd _ rfl (.tmp 23) (.tmp 29) 41 rfl w3.heap.size 32 i1 _ 1 24 Try.underlying41 hi1 hy0 hy1 hy2 rfl (by omega) u6 k cs rfl OW2.out (some ⟨wr.heap.size, 0, none⟩) 1 1 [.slice Ai ni ci] rfl (Rd.lit wr #[.slice Ai ni ci] _) (by simp [Value.oneCell']) (by omega) (by unfold maxLen; omega) (by simp; omega) ?_; intro v5 w5 hown hgr hat)
      refine ⟨⟨k + 1, cs ++ [.slice Ai ni ci], by omega, by go_num, Lib.hid hown, Lib.hid (fun i hi => ?_), Lib.hid ((X.out.thenAlloc _).ofGrown hgr (fun q hq => own_row OW.out q hq))⟩, by simp [intOf]; omega⟩
      by_cases hik : i < k
      · obtain ⟨A1, n1, c1, e1, b1⟩ := ROWS.out i hik
        exact ⟨A1, n1, c1, by rw [List.getElem?_append_left (by rw [CSL.out]; exact hik)]; exact e1, b1⟩
      · obtain rfl : i = k := by omega
        exact ⟨Ai, ni, ci, by rw [List.getElem?_append_right (by rw [CSL.out]; exact Nat.le_refl _), CSL.out, Nat.sub_self]; rfl, HBI.out⟩
    · have j1 : ¬ (k : Int) < m := by omega
      obtain rfl : k = m := by omega
      obtain ⟨E, ee, rfl, _, _⟩ := ownsRow_slice OW.out
      have CSL := Lib.hid (show cs.length = k by have := OW.out.1; omega)
      have HLO := Lib.hid (World.ownsRow_lit wr #[] (base := wr.heap.size) (e := 5) (size := 1) 0 (Nat.le_refl _) (by unfold maxLen; omega) rfl)
      have XA := Lib.hid (show Ext w (wr.alloc (.cells #[] 5)) from (X3.out.trans X.out).thenAlloc _)
      have HOW4 := Lib.hid (fun (Wx : World) (hx : Ext wr Wx) => ownsRow_ext OW.out hx)
      have k2b := k2
      clear k2
      go_wp2_with (first
        | (at_builtin; first
          | (refine wpList_append_rd _ rfl (.tmp 32) (.tmp 33) 32 rfl wr.heap.size 5 i0 _ 1 1 Try.underlying32 hi0 hz0 hz1 hz2 rfl (by omega) (.slice (some ⟨wr.heap.size, 0, none⟩) 0 0) 0 [] rfl HLO.out D n dd (bcells l) rfl (HL.out.rd.ext XA.out) (bcells_one l) (by omega) (by unfold maxLen; omega) (by simp) ?_
             intro v4 w4 hown4 hg4 hat4
             rw [Nat.zero_add] at hown4
             obtain ⟨A1, c1, rfl, _, _⟩ := ownsRow_slice hown4
             have x4 : Ext wr w4 := (Ext.alloc wr _).ofGrown hg4 (fun q hq => by have hq : some wr.heap.size = some q := hq; injection hq with hq; omega))
          | (refine wpList_append_rd _ rfl (.tmp 31) (.tmp 35) 41 rfl w3.heap.size 32 i1 _ 1 24 Try.underlying41 hi1 hy0 hy1 hy2 rfl (by omega) (.slice E k ee) k cs rfl (HOW4.out _ (x4.thenAlloc _)) (some ⟨w4.heap.size, 0, none⟩) 1 1 [.slice A1 n c1] rfl (Rd.lit w4 #[.slice A1 n c1] _) (by simp [Value.oneCell']) (by omega) (by unfold maxLen; omega) (by have h1 := x4.size; simp; omega) ?_
             intro v5 w5 hown5 hg5 hat5
             obtain ⟨E5, e5, rfl, _, _⟩ := ownsRow_slice hown5
             have x5 : Ext w3 w5 := ((X.out.trans x4).thenAlloc _).ofGrown hg5 (fun q hq => own_row OW.out q hq)
             have q2 := (SX3.out.ext x5).c2
             have qz := (SX3.out.ext x5).fz 2
             obtain ⟨w6, hw6⟩ : ∃ w6, w5.setCell ⟨p, 2, none⟩ (.slice E5 (k + 1) e5) = w6 := ⟨_, rfl⟩
             have s6 : Sx w6 p (hf : Int) (.slice A s.base.length c) (.slice E5 (k + 1) e5) := by rw [← hw6]; exact (SX3.out.ext x5).s2 _
             have c6 : Ch (fun q => q = p) w5 w6 := by rw [← hw6]; exact Ch.set (Z := fun q => q = p) (Ch.refl _ _) (p := ⟨p, 2, none⟩) (.inl rfl) _
             obtain ⟨w7, hs7, sx7, ch7⟩ := st_store ((SZ3.out.ext x5).ch c6 (show ¬ r = p by have := PR.out; omega)) (hf : Int) (.slice A s.base.length c) (.slice E5 (k + 1) e5) rfl rfl))
        | ((with_reducible refine opIs ⟨some 38, .load 45 (.tmp 2), _, _, _, _⟩ ?_); refine wpList_loadR rfl 45 (.tmp 2) rfl rfl s6.load ?_)
        | ((with_reducible refine opIs ⟨none, .store 45 (.tmp 4) (.tmp 38), _, _, _, _⟩ ?_); refine wpList_storeR rfl 45 (.tmp 4) (.tmp 38) rfl rfl rfl hs7 ?_))
      have x7 : Ext w w7 := ch7.ext (c6.ext (X3.out.trans x5) (fun q hq => by rw [show q = p from hq]; exact PR.out.1)) (fun q hq => by rw [show q = r from hq]; exact PR.out.2.1)
      have hr3 : r < w3.heap.size := SZ3.out.lt
      have hp3 : p < w3.heap.size := SX3.out.lt
      have hw3r := X.out.size
      have own7 : w7.ownsRow w3.heap.size 32 1 (.slice E5 (k + 1) e5) (k + 1) (cs ++ [.slice A1 n c1]) := by
        refine own_ch (own_ch hown5 c6 (fun q hq z => ?_)) ch7 (fun q hq z => ?_)
        · have h1 := own_row hown5 q hq
          have z : q = p := z
          omega
        · have h1 := own_row hown5 q hq
          have z : q = r := z
          omega
      have hown42 : w4.ownsRow wr.heap.size 5 1 (.slice A1 n c1) l.length (bcells l) := by rw [LL.out]; simpa using hown4
      have b4 : Bs w4 A1 n c1 l := by
        have h1 := hown42
        rw [← LL.out] at h1 ⊢
        exact (Own.mk (base := wr.heap.size) (e := 5) h1).bs
      have b7 : Bs w7 A1 n c1 l := by
        have cold : ∀ (Z : Nat → Prop) (Wx : World), w4.heap.size ≤ Wx.heap.size → (∀ q, Z q → q < wr.heap.size) → Cold Z Wx A1 n := fun Z Wx hs hz hn0 q hq => by
          have h1 := own_row hown42 q (own_of_map hq)
          have h2 := b4.block hn0 hq
          exact ⟨Nat.lt_of_lt_of_le h2 hs, fun z => by have := hz q z; omega⟩
        have h5 : w4.heap.size ≤ w5.heap.size := Nat.le_trans (Ext.alloc w4 _).size hg5.size
        have h6 := c6.size
        have K5 : Ch (fun q => (Value.slice E k ee).ownBlock = some q) (w4.alloc (.cells #[.slice A1 n c1] 32)) w5 := (Ch.refl _ _).grown hg5 (fun q hq => .inl hq)
        have b5 := (b4.ext (Ext.alloc w4 (.cells #[.slice A1 n c1] 32))).ch K5 (cold _ _ (Ext.alloc w4 _).size (fun q hq => (OW.out.lt q hq).2))
        have b6 := b5.ch c6 (cold _ _ h5 (fun q hq => by have hq : q = p := hq; omega))
        exact b6.ch ch7 (cold _ _ (by omega) (fun q hq => by have hq : q = r := hq; omega))
      have hlen : (L ++ [l]).length = k + 1 := by rw [List.length_append, LM.out]; rfl
      have hws := X3.out.size
      have bC : Bz Z w7 A1 n c1 l := Bz.of b7 (fun hn0 q hq => by
        have h1 := own_row hown42 q (own_of_map hq)
        have h2 := b7.block hn0 hq
        exact ⟨h2, fun z => by have := HZ.out q z; omega⟩)
      have hmx7 : Mz Z w7 E5 (L ++ [l]).length e5 (L ++ [l]) := by
        obtain ⟨E6, e6, ee6, h1, h2⟩ := ownsRow_slice own7
        injection ee6 with _ _ ee6
        subst ee6
        rw [hlen]
        refine ⟨hlen, h1, h2, cs ++ [.slice A1 n c1], (by rw [List.length_append, CSL.out]; rfl), fun W2 hch => Rd.of_own (own_ch own7 hch (fun q hq z => by have h1 := own_row own7 q hq; have := HZ.out q z; omega)), fun i hi => ?_⟩
        by_cases hik : i < k
        · obtain ⟨A2, n2, c2, e2, b2⟩ := ROWS.out i hik
          have er : Gm.row (L ++ [l]) i = Gm.row L i := by simp [Gm.row, List.getElem?_append, LM.out, hik]
          rw [er]
          exact ⟨A2, n2, c2, by rw [List.getElem?_append_left (by rw [CSL.out]; exact hik)]; exact e2, b2.next (Ch.of x7 _)⟩
        · obtain rfl : i = k := by omega
          have er : Gm.row (L ++ [l]) i = l := by simp [Gm.row, ← LM.out]
          rw [er]
          exact ⟨A1, n, c1, by rw [List.getElem?_append_right (by rw [CSL.out]; exact Nat.le_refl _), CSL.out, Nat.sub_self]; rfl, bC⟩
      refine bodyPost_ret (v := .tuple #[.agg (sc (hf : Int) (.slice A s.base.length c) (.slice E5 (k + 1) e5)).toArray, .int .i64 0]) ?_ rfl ⟨_, rfl, x7, A, c, E5, e5, (by show Value.agg (sc (hf : Int) (.slice A s.base.length c) (.slice E5 (k + 1) e5)).toArray = Value.agg (sc (hf : Int) (.slice A s.base.length c) (.slice E5 (L ++ [l]).length e5)).toArray; rw [hlen]), HB.out.next (Ch.of x7 _), hmx7⟩
      rw [results_cell_tmp rfl]
      simp [asAddr, Result.andThen, sx7.loadV]
end Go.Proofs.Ytaaegbccejjjcaa
namespace Jo
/-- What the document answers. -/
def refS (j : J) (k : Int) (l : List UInt8) : St := if fits j k l then (doJ j k l).st else j.st
def refF (j : J) (k : Int) (l : List UInt8) : Int := if fits j k l then 0 else 5
end Jo
namespace Go.Proofs.Ytaaegbccejjjcaa
open Go.RowKit Go.Maps Go.Sort Go.Shelf
set_option linter.unusedSimpArgs false

set_option maxRecDepth 100000 in
set_option maxHeartbeats 8000000 in
theorem ref_any (w : World) (Z : Nat → Prop) (hz : ∀ q, Z q → q < w.heap.size) (j : Jo.J) (d : Disks.D) (hat : Jo.At d j) (v : Value) (hv : Sz Z w v j.st) (q : Op24) (hq : Bs w q.A q.m q.c q.l) :
    Calls Try.prog 21 #[v, oval24 q] w (GivesSt Z w (Jo.refS j (pick q.kind 3) (q.l.take 400)) (Jo.refF j (pick q.kind 3) (q.l.take 400))) := by
  obtain ⟨A, c, B, e, rfl, hb, hm⟩ := hv
  have hb : Bz Z w A j.base.length c j.base := hb
  have hm : Mz Z w B j.recs.length e j.recs := hm
  have ev : (sc (j.st.half : Int) (.slice A j.st.base.length c) (.slice B j.st.recs.length e)).toArray = #[.int .i64 (j.half : Int), .slice A j.base.length c, .slice B j.recs.length e] := rfl
  rw [ev]
  clear ev
  obtain ⟨mm, hmm⟩ : ∃ mm, min q.m 400 = mm := ⟨_, rfl⟩
  have hsh : ∀ Wx, Calls Try.prog 15 #[.slice q.A q.m q.c] Wx fun e w' => e = .returned (.slice q.A mm q.c) ∧ Wx = w' := fun Wx => hmm ▸ short_size Wx q.A q.m q.c hq.le hq.max
  have hqs : Bs w q.A mm q.c (q.l.take 400) := hmm ▸ hq.short
  have hlen : (q.l.take 400).length = mm := hqs.len
  -- the three boxes
  have sx := Sx.box w (j.half : Int) (.slice A j.base.length c) (.slice B j.recs.length e)
  have x1 := Ext.alloc w (.cells #[.int .i64 (j.half : Int), .slice A j.base.length c, .slice B j.recs.length e] 45)
  obtain ⟨w1, hw1⟩ : ∃ w1, w.alloc (.cells #[.int .i64 (j.half : Int), .slice A j.base.length c, .slice B j.recs.length e] 45) = w1 := ⟨_, rfl⟩
  obtain ⟨p, hp⟩ : ∃ p, w.heap.size = p := ⟨_, rfl⟩
  rw [hw1, hp] at sx
  rw [hw1] at x1
  have bt := heap_alloc_new w1 (.cells #[.int .i64 q.kind, .slice q.A q.m q.c] 35 (0, 0))
  have x2 := Ext.alloc w1 (.cells #[.int .i64 q.kind, .slice q.A q.m q.c] 35)
  obtain ⟨w2, hw2⟩ : ∃ w2, w1.alloc (.cells #[.int .i64 q.kind, .slice q.A q.m q.c] 35) = w2 := ⟨_, rfl⟩
  obtain ⟨t, ht⟩ : ∃ t, w1.heap.size = t := ⟨_, rfl⟩
  have bt : w2.heap[t]? = some (.cells #[.int .i64 q.kind, .slice q.A q.m q.c] 35 (0, 0)) := by rw [← hw2, ← ht]; exact bt
  rw [hw2] at x2
  have hra := run_alloc_st w2
  have sz := Sx.zero w2
  have x3 := Ext.alloc w2 zst
  obtain ⟨w4, hw4⟩ : ∃ w4, w2.alloc zst = w4 := ⟨_, rfl⟩
  obtain ⟨r, hr⟩ : ∃ r, w2.heap.size = r := ⟨_, rfl⟩
  rw [hw4, hr] at hra sz
  rw [hw4] at x3
  have k0 : w4.cell? ⟨t, 0, none⟩ = some (.int .i64 q.kind) := x3.cell (by rw [cell_of_row _ _ _ _ _ _ bt]; rfl)
  have k1 : w4.cell? ⟨t, 1, none⟩ = some (.slice q.A q.m q.c) := x3.cell (by rw [cell_of_row _ _ _ _ _ _ bt]; rfl)
  have KO := Lib.hid k1
  have RA := Lib.hid hra
  have SX := Lib.hid (sx.ext (x2.trans x3))
  have SZ := Lib.hid sz
  have X4 := Lib.hid ((x1.trans x2).trans x3)
  have PR := Lib.hid (show w.heap.size ≤ r ∧ r < w4.heap.size by have h1 := x1.size; have h2 := x2.size; have h3 := sz.lt; omega)
  have HZR := Lib.hid (fun (Wx : World) (hx : Ext w4 Wx) (q : Nat) (h : Z q ∨ q = r) => (show q < Wx.heap.size by
    have h1 := hx.size
    have h2 := X4.out.size
    have h3 := PR.out
    rcases h with h | h
    · have := hz q h; omega
    · omega))
  have DWN := Lib.hid (fun (q : Nat) (hq : q < w.heap.size) (h : Z q ∨ q = r) => (show Z q by
    rcases h with h | h
    · exact h
    · have := PR.out; omega))
  have HB := Lib.hid hb
  have HM := Lib.hid hm
  have HQ := Lib.hid hqs
  have SM := Lib.hid hat.smallS
  have RM := Lib.hid hat.roomS
  have SML := Lib.hid hat.small
  have HSH := Lib.hid hsh
  have MM := Lib.hid (show mm ≤ 400 by omega)
  have HLEN := Lib.hid hlen
  have hpk : Calls Try.prog 14 #[.int .i64 q.kind, .int .i64 3] w4 fun r w' => r = .returned (.int .i64 (pick q.kind 3)) ∧ w4 = w' := pick_any w4 q.kind 3 (by omega)
  clear hz hb hm hq hqs hsh hlen hmm sx x1 x2 x3 sz hra bt k1 hat
  obtain ⟨kk, hkk⟩ : ∃ kk, pick q.kind 3 = kk := ⟨_, rfl⟩
  rw [hkk] at hpk ⊢
  clear hkk
  by_cases h2 : kk = 2
  · have e2 : (kk == 2) = true := by rw [beq_iff_eq]; exact h2
    by_cases hf : Jo.fits j kk (q.l.take 400)
    · obtain ⟨RS, hRS⟩ : ∃ RS, (⟨j.st.half, q.l.take 400, []⟩ : Jo.St) = RS := ⟨_, rfl⟩
      have RSE := Lib.hid hRS
      have hgoal : Jo.refS j kk (q.l.take 400) = RS ∧ Jo.refF j kk (q.l.take 400) = 0 := by
        rw [← hRS]
        unfold Jo.refS Jo.refF
        rw [if_pos hf, if_pos hf]
        unfold Jo.doJ
        rw [if_pos h2]
        exact ⟨rfl, rfl⟩
      rw [hgoal.1, hgoal.2]
      have hyp : 1 + Jo.need mm ≤ j.st.half := by
        have h1 := hf
        have h3 := HLEN.out
        have h4 := RM.out
        have h5 := SML.out
        unfold Jo.fits at h1
        rw [if_pos h2, h3] at h1
        show _; have e1 : j.st.half = j.half := rfl; omega
      have HCL := Lib.hid (fun (Wx : World) (hx : Ext w4 Wx) => (show Calls Try.prog 38 #[.agg #[.int .i64 (j.half : Int), .slice A j.base.length c, .slice B j.recs.length e], .slice q.A mm q.c] Wx (GivesSt (fun q => Z q ∨ q = r) Wx RS 0) from RSE.out ▸ refCp_ok Wx _ (HZR.out Wx hx) j.st SM.out A c B e (HB.out.down (X4.out.trans hx) DWN.out) (HM.out.down (X4.out.trans hx) DWN.out) q.A mm q.c (q.l.take 400) (HQ.out.ext (X4.out.trans hx)) MM.out hyp))
      clear hgoal hRS hyp hf h2
      go_enter Try.func21, Try.ntmps21
      try dsimp only [List.append]
      go_wp2_with (first
        | ((with_reducible refine opIs ⟨some 4, .alloc 45, _, _, _, _⟩ ?_); refine wpList_allocR rfl 45 rfl _ RA.out ?_))
      clear hw1 hp hw2 ht hw4 hr
      with_reducible refine hpk.mono ?_
      rintro e wp ⟨rfl, rfl⟩
      clear hpk
      go_wp2_with (fail)
      clear k0
      have hS0 : (fun Wx : World => Hid (Ext w4 Wx)) w4.drew := Lib.hid (Ext.drew w4)
      refine wp_region_T (S := (fun Wx : World => Hid (Ext w4 Wx))) 4 rfl rfl ?_
      refine takeC [] (i := 0) (v := ?_) rfl (by kernel_rfl) (by kernel_rfl) (by kernel_rfl) (by kernel_rfl) (by decide) (fun _ _ _ h => h) (by kernel_rfl) (Or.inl ⟨by kernel_rfl, ?_⟩) (by assumption) ?_
      rotate_left
      · (intro W9 hSw; (have a0 := (SX.out.ext hSw.out).c0; have a1 := (SX.out.ext hSw.out).c1; have a2 := (SX.out.ext hSw.out).c2; clear hSw; skip); go_simp; (try with_reducible rfl))
      try simp only [Act.put, List.getElem_toArray, List.getElem_cons_succ, List.getElem_cons_zero, List.setIfInBounds_toArray, List.set_cons_zero, List.set_cons_succ]
      refine takeC [3,2] (i := 1) (v := ?_) rfl (by kernel_rfl) (by kernel_rfl) (by kernel_rfl) (by kernel_rfl) (by decide) (fun _ _ _ h => h) (by kernel_rfl) (Or.inl ⟨by kernel_rfl, ?_⟩) (by assumption) ?_
      rotate_left
      · (intro W9 hSw; go_simp; (try with_reducible rfl))
      try simp only [Act.put, List.getElem_toArray, List.getElem_cons_succ, List.getElem_cons_zero, List.setIfInBounds_toArray, List.set_cons_zero, List.set_cons_succ]
      refine takeC [3] (i := 2) (v := ?_) rfl (by kernel_rfl) (by kernel_rfl) (by kernel_rfl) (by kernel_rfl) (by decide) (fun _ _ _ h => h) (by kernel_rfl) (Or.inl ⟨by kernel_rfl, ?_⟩) (by assumption) ?_
      rotate_left
      · (intro W9 hSw; (have a := hSw.out.cell KO.out; clear hSw; skip); go_simp; (try with_reducible rfl))
      try simp only [Act.put, List.getElem_toArray, List.getElem_cons_succ, List.getElem_cons_zero, List.setIfInBounds_toArray, List.set_cons_zero, List.set_cons_succ]
      refine oneT (i := 3) rfl (by kernel_rfl) (fun K hK => ?_)
      rw [if_pos (by kernel_rfl)]
      go_wp2_with (fail)
      with_reducible refine (HSH.out _).mono ?_
      rintro e wp ⟨rfl, rfl⟩
      go_wp2_with (fail)
      refine hK.out _ _ (fun _ => hS0) ?_
      clear hK K
      try simp only [Act.put, List.getElem_toArray, List.getElem_cons_succ, List.getElem_cons_zero, List.setIfInBounds_toArray, List.set_cons_zero, List.set_cons_succ]
      refine oneT (i := 4) rfl (by kernel_rfl) (fun K hK => ?_)
      rw [if_pos (by kernel_rfl)]
      go_wp2_with (fail)
      with_reducible refine (HCL.out _ hS0.out).mono ?_
      rintro e w5 ⟨v5, rfl, x5, hsm5⟩
      have hS5 : (fun Wx : World => Hid (Ext w4 Wx)) w5 := Lib.hid (hS0.out.trans x5)
      obtain ⟨A5, c5, B5, e5, ev5, _, _⟩ := id hsm5
      obtain ⟨w6, hs6, sx6, ch6⟩ := st_store (w := w5) (SZ.out.ext hS5.out) (RS.half : Int) (.slice A5 RS.base.length c5) (.slice B5 RS.recs.length e5) rfl rfl
      rw [← ev5] at hs6
      have HS6 := Lib.hid hs6
      have SX6 := Lib.hid sx6
      have EV5 := Lib.hid ev5
      have X6 := Lib.hid (show Ext w w6 from ch6.ext (X4.out.trans hS5.out) (fun q hq => by rw [show q = r from hq]; exact PR.out.1))
      have SM6 := Lib.hid (hsm5.next (ch6.mono (fun q _ hq => .inr hq)))
      clear x5 hsm5 hs6 sx6 ch6 ev5
      go_wp2_with (fail)
      refine hK.out _ _ (fun h => absurd (show true = false from h) (by decide)) ?_
      clear hK K
      try simp only [Act.put, List.getElem_toArray, List.getElem_cons_succ, List.getElem_cons_zero, List.setIfInBounds_toArray, List.set_cons_zero, List.set_cons_succ]
      refine pureT (i := 5) (v := ?_) rfl (by kernel_rfl) (by kernel_rfl) (by kernel_rfl) (by decide) (fun _ _ _ h => h) (Or.inl ⟨by kernel_rfl, ?_⟩) (fun h => absurd (show true = false from h) (by decide)) ?_
      rotate_left
      · (intro W9 hSw; go_simp; (try with_reducible rfl))
      try simp only [Act.put, List.getElem_toArray, List.getElem_cons_succ, List.getElem_cons_zero, List.setIfInBounds_toArray, List.set_cons_zero, List.set_cons_succ]
      refine oneT (i := 6) rfl (by kernel_rfl) (fun K hK => ?_)
      rw [if_pos (by kernel_rfl)]
      go_wp2_with (fail)
      refine hK.out _ _ (fun h => absurd (show true = false from h) (by decide)) ?_
      clear hK K
      try simp only [Act.put, List.getElem_toArray, List.getElem_cons_succ, List.getElem_cons_zero, List.setIfInBounds_toArray, List.set_cons_zero, List.set_cons_succ]
      refine oneT (i := 7) rfl (by kernel_rfl) (fun K hK => ?_)
      rw [if_pos (by kernel_rfl)]
      refine wp_storeR 45 (.tmp 4) (.tmp 15) rfl rfl rfl HS6.out rfl ?_
      refine hK.out _ _ (fun h => absurd (show true = false from h) (by decide)) ?_
      clear hK K
      try simp only [Act.put, List.getElem_toArray, List.getElem_cons_succ, List.getElem_cons_zero, List.setIfInBounds_toArray, List.set_cons_zero, List.set_cons_succ]
      refine oneT (i := 8) rfl (by kernel_rfl) (fun K hK => ?_)
      rw [if_pos (by kernel_rfl)]
      go_wp2_with (fail)
      refine hK.out _ _ (fun h => absurd (show true = false from h) (by decide)) ?_
      clear hK K
      try simp only [Act.put, List.getElem_toArray, List.getElem_cons_succ, List.getElem_cons_zero, List.setIfInBounds_toArray, List.set_cons_zero, List.set_cons_succ]
      refine doneT (by kernel_rfl) ?_ _
      clear hS0 hS5
      go_wp2_with (fail)
      refine bodyPost_ret (v := .tuple #[v5, .int .i64 0]) ?_ rfl ⟨_, rfl, X6.out, SM6.out.down (Ext.refl _) (fun q _ z => .inl z)⟩
      rw [results_cell_tmp rfl]
      simp [asAddr, Result.andThen, SX6.out.loadV, EV5.out]
    · obtain ⟨RS, hRS⟩ : ∃ RS, j.st = RS := ⟨_, rfl⟩
      have RSE := Lib.hid hRS
      have hgoal : Jo.refS j kk (q.l.take 400) = RS ∧ Jo.refF j kk (q.l.take 400) = 5 := by
        rw [← hRS]
        unfold Jo.refS Jo.refF
        rw [if_neg hf, if_neg hf]
        exact ⟨rfl, rfl⟩
      rw [hgoal.1, hgoal.2]
      have hyp : j.st.half < 1 + Jo.need mm := by
        have h1 := hf
        have h3 := HLEN.out
        have h4 := RM.out
        have h5 := SML.out
        unfold Jo.fits at h1
        rw [if_pos h2, h3] at h1
        show _; have e1 : j.st.half = j.half := rfl; omega
      have HCL := Lib.hid (fun (Wx : World) (hx : Ext w4 Wx) => (show Calls Try.prog 38 #[.agg #[.int .i64 (j.half : Int), .slice A j.base.length c, .slice B j.recs.length e], .slice q.A mm q.c] Wx (GivesSt (fun q => Z q ∨ q = r) Wx RS 5) from RSE.out ▸ refCp_full Wx _ (HZR.out Wx hx) j.st SM.out A c B e (HB.out.down (X4.out.trans hx) DWN.out) (HM.out.down (X4.out.trans hx) DWN.out) q.A mm q.c (q.l.take 400) (HQ.out.ext (X4.out.trans hx)) MM.out hyp))
      clear hgoal hRS hyp hf h2
      go_enter Try.func21, Try.ntmps21
      try dsimp only [List.append]
      go_wp2_with (first
        | ((with_reducible refine opIs ⟨some 4, .alloc 45, _, _, _, _⟩ ?_); refine wpList_allocR rfl 45 rfl _ RA.out ?_))
      clear hw1 hp hw2 ht hw4 hr
      with_reducible refine hpk.mono ?_
      rintro e wp ⟨rfl, rfl⟩
      clear hpk
      go_wp2_with (fail)
      clear k0
      have hS0 : (fun Wx : World => Hid (Ext w4 Wx)) w4.drew := Lib.hid (Ext.drew w4)
      refine wp_region_T (S := (fun Wx : World => Hid (Ext w4 Wx))) 4 rfl rfl ?_
      refine takeC [] (i := 0) (v := ?_) rfl (by kernel_rfl) (by kernel_rfl) (by kernel_rfl) (by kernel_rfl) (by decide) (fun _ _ _ h => h) (by kernel_rfl) (Or.inl ⟨by kernel_rfl, ?_⟩) (by assumption) ?_
      rotate_left
      · (intro W9 hSw; (have a0 := (SX.out.ext hSw.out).c0; have a1 := (SX.out.ext hSw.out).c1; have a2 := (SX.out.ext hSw.out).c2; clear hSw; skip); go_simp; (try with_reducible rfl))
      try simp only [Act.put, List.getElem_toArray, List.getElem_cons_succ, List.getElem_cons_zero, List.setIfInBounds_toArray, List.set_cons_zero, List.set_cons_succ]
      refine takeC [3,2] (i := 1) (v := ?_) rfl (by kernel_rfl) (by kernel_rfl) (by kernel_rfl) (by kernel_rfl) (by decide) (fun _ _ _ h => h) (by kernel_rfl) (Or.inl ⟨by kernel_rfl, ?_⟩) (by assumption) ?_
      rotate_left
      · (intro W9 hSw; go_simp; (try with_reducible rfl))
      try simp only [Act.put, List.getElem_toArray, List.getElem_cons_succ, List.getElem_cons_zero, List.setIfInBounds_toArray, List.set_cons_zero, List.set_cons_succ]
      refine takeC [3] (i := 2) (v := ?_) rfl (by kernel_rfl) (by kernel_rfl) (by kernel_rfl) (by kernel_rfl) (by decide) (fun _ _ _ h => h) (by kernel_rfl) (Or.inl ⟨by kernel_rfl, ?_⟩) (by assumption) ?_
      rotate_left
      · (intro W9 hSw; (have a := hSw.out.cell KO.out; clear hSw; skip); go_simp; (try with_reducible rfl))
      try simp only [Act.put, List.getElem_toArray, List.getElem_cons_succ, List.getElem_cons_zero, List.setIfInBounds_toArray, List.set_cons_zero, List.set_cons_succ]
      refine oneT (i := 3) rfl (by kernel_rfl) (fun K hK => ?_)
      rw [if_pos (by kernel_rfl)]
      go_wp2_with (fail)
      with_reducible refine (HSH.out _).mono ?_
      rintro e wp ⟨rfl, rfl⟩
      go_wp2_with (fail)
      refine hK.out _ _ (fun _ => hS0) ?_
      clear hK K
      try simp only [Act.put, List.getElem_toArray, List.getElem_cons_succ, List.getElem_cons_zero, List.setIfInBounds_toArray, List.set_cons_zero, List.set_cons_succ]
      refine oneT (i := 4) rfl (by kernel_rfl) (fun K hK => ?_)
      rw [if_pos (by kernel_rfl)]
      go_wp2_with (fail)
      with_reducible refine (HCL.out _ hS0.out).mono ?_
      rintro e w5 ⟨v5, rfl, x5, hsm5⟩
      have hS5 : (fun Wx : World => Hid (Ext w4 Wx)) w5 := Lib.hid (hS0.out.trans x5)
      obtain ⟨A5, c5, B5, e5, ev5, _, _⟩ := id hsm5
      obtain ⟨w6, hs6, sx6, ch6⟩ := st_store (w := w5) (SZ.out.ext hS5.out) (RS.half : Int) (.slice A5 RS.base.length c5) (.slice B5 RS.recs.length e5) rfl rfl
      rw [← ev5] at hs6
      have HS6 := Lib.hid hs6
      have SX6 := Lib.hid sx6
      have EV5 := Lib.hid ev5
      have X6 := Lib.hid (show Ext w w6 from ch6.ext (X4.out.trans hS5.out) (fun q hq => by rw [show q = r from hq]; exact PR.out.1))
      have SM6 := Lib.hid (hsm5.next (ch6.mono (fun q _ hq => .inr hq)))
      clear x5 hsm5 hs6 sx6 ch6 ev5
      go_wp2_with (fail)
      refine hK.out _ _ (fun h => absurd (show true = false from h) (by decide)) ?_
      clear hK K
      try simp only [Act.put, List.getElem_toArray, List.getElem_cons_succ, List.getElem_cons_zero, List.setIfInBounds_toArray, List.set_cons_zero, List.set_cons_succ]
      refine pureT (i := 5) (v := ?_) rfl (by kernel_rfl) (by kernel_rfl) (by kernel_rfl) (by decide) (fun _ _ _ h => h) (Or.inl ⟨by kernel_rfl, ?_⟩) (fun h => absurd (show true = false from h) (by decide)) ?_
      rotate_left
      · (intro W9 hSw; go_simp; (try with_reducible rfl))
      try simp only [Act.put, List.getElem_toArray, List.getElem_cons_succ, List.getElem_cons_zero, List.setIfInBounds_toArray, List.set_cons_zero, List.set_cons_succ]
      refine oneT (i := 6) rfl (by kernel_rfl) (fun K hK => ?_)
      rw [if_pos (by kernel_rfl)]
      go_wp2_with (fail)
      refine hK.out _ _ (fun h => absurd (show true = false from h) (by decide)) ?_
      clear hK K
      try simp only [Act.put, List.getElem_toArray, List.getElem_cons_succ, List.getElem_cons_zero, List.setIfInBounds_toArray, List.set_cons_zero, List.set_cons_succ]
      refine oneT (i := 7) rfl (by kernel_rfl) (fun K hK => ?_)
      rw [if_pos (by kernel_rfl)]
      refine wp_storeR 45 (.tmp 4) (.tmp 15) rfl rfl rfl HS6.out rfl ?_
      refine hK.out _ _ (fun h => absurd (show true = false from h) (by decide)) ?_
      clear hK K
      try simp only [Act.put, List.getElem_toArray, List.getElem_cons_succ, List.getElem_cons_zero, List.setIfInBounds_toArray, List.set_cons_zero, List.set_cons_succ]
      refine oneT (i := 8) rfl (by kernel_rfl) (fun K hK => ?_)
      rw [if_pos (by kernel_rfl)]
      go_wp2_with (fail)
      refine hK.out _ _ (fun h => absurd (show true = false from h) (by decide)) ?_
      clear hK K
      try simp only [Act.put, List.getElem_toArray, List.getElem_cons_succ, List.getElem_cons_zero, List.setIfInBounds_toArray, List.set_cons_zero, List.set_cons_succ]
      refine doneT (by kernel_rfl) ?_ _
      clear hS0 hS5
      go_wp2_with (fail)
      refine bodyPost_ret (v := .tuple #[v5, .int .i64 5]) ?_ rfl ⟨_, rfl, X6.out, SM6.out.down (Ext.refl _) (fun q _ z => .inl z)⟩
      rw [results_cell_tmp rfl]
      simp [asAddr, Result.andThen, SX6.out.loadV, EV5.out]
  · have e2 : (kk == 2) = false := by rw [beq_eq_false_iff_ne]; exact h2
    by_cases hf : Jo.fits j kk (q.l.take 400)
    · obtain ⟨RS, hRS⟩ : ∃ RS, (⟨j.st.half, j.st.base, j.st.recs ++ [q.l.take 400]⟩ : Jo.St) = RS := ⟨_, rfl⟩
      have RSE := Lib.hid hRS
      have hgoal : Jo.refS j kk (q.l.take 400) = RS ∧ Jo.refF j kk (q.l.take 400) = 0 := by
        rw [← hRS]
        unfold Jo.refS Jo.refF
        rw [if_pos hf, if_pos hf]
        unfold Jo.doJ
        rw [if_neg h2]
        exact ⟨rfl, rfl⟩
      rw [hgoal.1, hgoal.2]
      have hyp : 1 + (Jo.need mm : Int) ≤ j.st.room := by
        have h1 := hf
        have h3 := HLEN.out
        have h4 := RM.out
        have h5 := SML.out
        unfold Jo.fits at h1
        rw [if_neg h2, h3] at h1
        rw [h4]; omega
      have HCL := Lib.hid (fun (Wx : World) (hx : Ext w4 Wx) => (show Calls Try.prog 39 #[.agg #[.int .i64 (j.half : Int), .slice A j.base.length c, .slice B j.recs.length e], .slice q.A mm q.c] Wx (GivesSt (fun q => Z q ∨ q = r) Wx RS 0) from RSE.out ▸ refApp_ok Wx _ (HZR.out Wx hx) j.st SM.out A c B e (HB.out.down (X4.out.trans hx) DWN.out) (HM.out.down (X4.out.trans hx) DWN.out) q.A mm q.c (q.l.take 400) (HQ.out.ext (X4.out.trans hx)) MM.out hyp))
      clear hgoal hRS hyp hf h2
      go_enter Try.func21, Try.ntmps21
      try dsimp only [List.append]
      go_wp2_with (first
        | ((with_reducible refine opIs ⟨some 4, .alloc 45, _, _, _, _⟩ ?_); refine wpList_allocR rfl 45 rfl _ RA.out ?_))
      clear hw1 hp hw2 ht hw4 hr
      with_reducible refine hpk.mono ?_
      rintro e wp ⟨rfl, rfl⟩
      clear hpk
      go_wp2_with (fail)
      clear k0
      have hS0 : (fun Wx : World => Hid (Ext w4 Wx)) w4.drew := Lib.hid (Ext.drew w4)
      refine wp_region_T (S := (fun Wx : World => Hid (Ext w4 Wx))) 4 rfl rfl ?_
      refine takeC [] (i := 0) (v := ?_) rfl (by kernel_rfl) (by kernel_rfl) (by kernel_rfl) (by kernel_rfl) (by decide) (fun _ _ _ h => h) (by kernel_rfl) (Or.inl ⟨by kernel_rfl, ?_⟩) (by assumption) ?_
      rotate_left
      · (intro W9 hSw; (have a0 := (SX.out.ext hSw.out).c0; have a1 := (SX.out.ext hSw.out).c1; have a2 := (SX.out.ext hSw.out).c2; clear hSw; skip); go_simp; (try with_reducible rfl))
      try simp only [Act.put, List.getElem_toArray, List.getElem_cons_succ, List.getElem_cons_zero, List.setIfInBounds_toArray, List.set_cons_zero, List.set_cons_succ]
      refine takeC [3,2] (i := 1) (v := ?_) rfl (by kernel_rfl) (by kernel_rfl) (by kernel_rfl) (by kernel_rfl) (by decide) (fun _ _ _ h => h) (by kernel_rfl) (Or.inl ⟨by kernel_rfl, ?_⟩) (by assumption) ?_
      rotate_left
      · (intro W9 hSw; go_simp; (try with_reducible rfl))
      try simp only [Act.put, List.getElem_toArray, List.getElem_cons_succ, List.getElem_cons_zero, List.setIfInBounds_toArray, List.set_cons_zero, List.set_cons_succ]
      refine takeC [3] (i := 2) (v := ?_) rfl (by kernel_rfl) (by kernel_rfl) (by kernel_rfl) (by kernel_rfl) (by decide) (fun _ _ _ h => h) (by kernel_rfl) (Or.inl ⟨by kernel_rfl, ?_⟩) (by assumption) ?_
      rotate_left
      · (intro W9 hSw; (have a := hSw.out.cell KO.out; clear hSw; skip); go_simp; (try with_reducible rfl))
      try simp only [Act.put, List.getElem_toArray, List.getElem_cons_succ, List.getElem_cons_zero, List.setIfInBounds_toArray, List.set_cons_zero, List.set_cons_succ]
      refine oneT (i := 3) rfl (by kernel_rfl) (fun K hK => ?_)
      rw [if_pos (by kernel_rfl)]
      go_wp2_with (fail)
      with_reducible refine (HSH.out _).mono ?_
      rintro e wp ⟨rfl, rfl⟩
      go_wp2_with (fail)
      refine hK.out _ _ (fun _ => hS0) ?_
      clear hK K
      try simp only [Act.put, List.getElem_toArray, List.getElem_cons_succ, List.getElem_cons_zero, List.setIfInBounds_toArray, List.set_cons_zero, List.set_cons_succ]
      refine oneT (i := 4) rfl (by kernel_rfl) (fun K hK => ?_)
      rw [if_pos (by kernel_rfl)]
      go_wp2_with (fail)
      with_reducible refine (HCL.out _ hS0.out).mono ?_
      rintro e w5 ⟨v5, rfl, x5, hsm5⟩
      have hS5 : (fun Wx : World => Hid (Ext w4 Wx)) w5 := Lib.hid (hS0.out.trans x5)
      obtain ⟨A5, c5, B5, e5, ev5, _, _⟩ := id hsm5
      obtain ⟨w6, hs6, sx6, ch6⟩ := st_store (w := w5) (SZ.out.ext hS5.out) (RS.half : Int) (.slice A5 RS.base.length c5) (.slice B5 RS.recs.length e5) rfl rfl
      rw [← ev5] at hs6
      have HS6 := Lib.hid hs6
      have SX6 := Lib.hid sx6
      have EV5 := Lib.hid ev5
      have X6 := Lib.hid (show Ext w w6 from ch6.ext (X4.out.trans hS5.out) (fun q hq => by rw [show q = r from hq]; exact PR.out.1))
      have SM6 := Lib.hid (hsm5.next (ch6.mono (fun q _ hq => .inr hq)))
      clear x5 hsm5 hs6 sx6 ch6 ev5
      go_wp2_with (fail)
      refine hK.out _ _ (fun h => absurd (show true = false from h) (by decide)) ?_
      clear hK K
      try simp only [Act.put, List.getElem_toArray, List.getElem_cons_succ, List.getElem_cons_zero, List.setIfInBounds_toArray, List.set_cons_zero, List.set_cons_succ]
      refine pureT (i := 5) (v := ?_) rfl (by kernel_rfl) (by kernel_rfl) (by kernel_rfl) (by decide) (fun _ _ _ h => h) (Or.inl ⟨by kernel_rfl, ?_⟩) (fun h => absurd (show true = false from h) (by decide)) ?_
      rotate_left
      · (intro W9 hSw; go_simp; (try with_reducible rfl))
      try simp only [Act.put, List.getElem_toArray, List.getElem_cons_succ, List.getElem_cons_zero, List.setIfInBounds_toArray, List.set_cons_zero, List.set_cons_succ]
      refine oneT (i := 6) rfl (by kernel_rfl) (fun K hK => ?_)
      rw [if_pos (by kernel_rfl)]
      go_wp2_with (fail)
      refine hK.out _ _ (fun h => absurd (show true = false from h) (by decide)) ?_
      clear hK K
      try simp only [Act.put, List.getElem_toArray, List.getElem_cons_succ, List.getElem_cons_zero, List.setIfInBounds_toArray, List.set_cons_zero, List.set_cons_succ]
      refine oneT (i := 7) rfl (by kernel_rfl) (fun K hK => ?_)
      rw [if_pos (by kernel_rfl)]
      refine wp_storeR 45 (.tmp 4) (.tmp 22) rfl rfl rfl HS6.out rfl ?_
      refine hK.out _ _ (fun h => absurd (show true = false from h) (by decide)) ?_
      clear hK K
      try simp only [Act.put, List.getElem_toArray, List.getElem_cons_succ, List.getElem_cons_zero, List.setIfInBounds_toArray, List.set_cons_zero, List.set_cons_succ]
      refine oneT (i := 8) rfl (by kernel_rfl) (fun K hK => ?_)
      rw [if_pos (by kernel_rfl)]
      go_wp2_with (fail)
      refine hK.out _ _ (fun h => absurd (show true = false from h) (by decide)) ?_
      clear hK K
      try simp only [Act.put, List.getElem_toArray, List.getElem_cons_succ, List.getElem_cons_zero, List.setIfInBounds_toArray, List.set_cons_zero, List.set_cons_succ]
      refine doneT (by kernel_rfl) ?_ _
      clear hS0 hS5
      go_wp2_with (fail)
      refine bodyPost_ret (v := .tuple #[v5, .int .i64 0]) ?_ rfl ⟨_, rfl, X6.out, SM6.out.down (Ext.refl _) (fun q _ z => .inl z)⟩
      rw [results_cell_tmp rfl]
      simp [asAddr, Result.andThen, SX6.out.loadV, EV5.out]
    · obtain ⟨RS, hRS⟩ : ∃ RS, j.st = RS := ⟨_, rfl⟩
      have RSE := Lib.hid hRS
      have hgoal : Jo.refS j kk (q.l.take 400) = RS ∧ Jo.refF j kk (q.l.take 400) = 5 := by
        rw [← hRS]
        unfold Jo.refS Jo.refF
        rw [if_neg hf, if_neg hf]
        exact ⟨rfl, rfl⟩
      rw [hgoal.1, hgoal.2]
      have hyp : j.st.room < 1 + (Jo.need mm : Int) := by
        have h1 := hf
        have h3 := HLEN.out
        have h4 := RM.out
        have h5 := SML.out
        unfold Jo.fits at h1
        rw [if_neg h2, h3] at h1
        rw [h4]; omega
      have HCL := Lib.hid (fun (Wx : World) (hx : Ext w4 Wx) => (show Calls Try.prog 39 #[.agg #[.int .i64 (j.half : Int), .slice A j.base.length c, .slice B j.recs.length e], .slice q.A mm q.c] Wx (GivesSt (fun q => Z q ∨ q = r) Wx RS 5) from RSE.out ▸ refApp_full Wx _ (HZR.out Wx hx) j.st SM.out A c B e (HB.out.down (X4.out.trans hx) DWN.out) (HM.out.down (X4.out.trans hx) DWN.out) q.A mm q.c (q.l.take 400) (HQ.out.ext (X4.out.trans hx)) MM.out hyp))
      clear hgoal hRS hyp hf h2
      go_enter Try.func21, Try.ntmps21
      try dsimp only [List.append]
      go_wp2_with (first
        | ((with_reducible refine opIs ⟨some 4, .alloc 45, _, _, _, _⟩ ?_); refine wpList_allocR rfl 45 rfl _ RA.out ?_))
      clear hw1 hp hw2 ht hw4 hr
      with_reducible refine hpk.mono ?_
      rintro e wp ⟨rfl, rfl⟩
      clear hpk
      go_wp2_with (fail)
      clear k0
      have hS0 : (fun Wx : World => Hid (Ext w4 Wx)) w4.drew := Lib.hid (Ext.drew w4)
      refine wp_region_T (S := (fun Wx : World => Hid (Ext w4 Wx))) 4 rfl rfl ?_
      refine takeC [] (i := 0) (v := ?_) rfl (by kernel_rfl) (by kernel_rfl) (by kernel_rfl) (by kernel_rfl) (by decide) (fun _ _ _ h => h) (by kernel_rfl) (Or.inl ⟨by kernel_rfl, ?_⟩) (by assumption) ?_
      rotate_left
      · (intro W9 hSw; (have a0 := (SX.out.ext hSw.out).c0; have a1 := (SX.out.ext hSw.out).c1; have a2 := (SX.out.ext hSw.out).c2; clear hSw; skip); go_simp; (try with_reducible rfl))
      try simp only [Act.put, List.getElem_toArray, List.getElem_cons_succ, List.getElem_cons_zero, List.setIfInBounds_toArray, List.set_cons_zero, List.set_cons_succ]
      refine takeC [3,2] (i := 1) (v := ?_) rfl (by kernel_rfl) (by kernel_rfl) (by kernel_rfl) (by kernel_rfl) (by decide) (fun _ _ _ h => h) (by kernel_rfl) (Or.inl ⟨by kernel_rfl, ?_⟩) (by assumption) ?_
      rotate_left
      · (intro W9 hSw; go_simp; (try with_reducible rfl))
      try simp only [Act.put, List.getElem_toArray, List.getElem_cons_succ, List.getElem_cons_zero, List.setIfInBounds_toArray, List.set_cons_zero, List.set_cons_succ]
      refine takeC [3] (i := 2) (v := ?_) rfl (by kernel_rfl) (by kernel_rfl) (by kernel_rfl) (by kernel_rfl) (by decide) (fun _ _ _ h => h) (by kernel_rfl) (Or.inl ⟨by kernel_rfl, ?_⟩) (by assumption) ?_
      rotate_left
      · (intro W9 hSw; (have a := hSw.out.cell KO.out; clear hSw; skip); go_simp; (try with_reducible rfl))
      try simp only [Act.put, List.getElem_toArray, List.getElem_cons_succ, List.getElem_cons_zero, List.setIfInBounds_toArray, List.set_cons_zero, List.set_cons_succ]
      refine oneT (i := 3) rfl (by kernel_rfl) (fun K hK => ?_)
      rw [if_pos (by kernel_rfl)]
      go_wp2_with (fail)
      with_reducible refine (HSH.out _).mono ?_
      rintro e wp ⟨rfl, rfl⟩
      go_wp2_with (fail)
      refine hK.out _ _ (fun _ => hS0) ?_
      clear hK K
      try simp only [Act.put, List.getElem_toArray, List.getElem_cons_succ, List.getElem_cons_zero, List.setIfInBounds_toArray, List.set_cons_zero, List.set_cons_succ]
      refine oneT (i := 4) rfl (by kernel_rfl) (fun K hK => ?_)
      rw [if_pos (by kernel_rfl)]
      go_wp2_with (fail)
      with_reducible refine (HCL.out _ hS0.out).mono ?_
      rintro e w5 ⟨v5, rfl, x5, hsm5⟩
      have hS5 : (fun Wx : World => Hid (Ext w4 Wx)) w5 := Lib.hid (hS0.out.trans x5)
      obtain ⟨A5, c5, B5, e5, ev5, _, _⟩ := id hsm5
      obtain ⟨w6, hs6, sx6, ch6⟩ := st_store (w := w5) (SZ.out.ext hS5.out) (RS.half : Int) (.slice A5 RS.base.length c5) (.slice B5 RS.recs.length e5) rfl rfl
      rw [← ev5] at hs6
      have HS6 := Lib.hid hs6
      have SX6 := Lib.hid sx6
      have EV5 := Lib.hid ev5
      have X6 := Lib.hid (show Ext w w6 from ch6.ext (X4.out.trans hS5.out) (fun q hq => by rw [show q = r from hq]; exact PR.out.1))
      have SM6 := Lib.hid (hsm5.next (ch6.mono (fun q _ hq => .inr hq)))
      clear x5 hsm5 hs6 sx6 ch6 ev5
      go_wp2_with (fail)
      refine hK.out _ _ (fun h => absurd (show true = false from h) (by decide)) ?_
      clear hK K
      try simp only [Act.put, List.getElem_toArray, List.getElem_cons_succ, List.getElem_cons_zero, List.setIfInBounds_toArray, List.set_cons_zero, List.set_cons_succ]
      refine pureT (i := 5) (v := ?_) rfl (by kernel_rfl) (by kernel_rfl) (by kernel_rfl) (by decide) (fun _ _ _ h => h) (Or.inl ⟨by kernel_rfl, ?_⟩) (fun h => absurd (show true = false from h) (by decide)) ?_
      rotate_left
      · (intro W9 hSw; go_simp; (try with_reducible rfl))
      try simp only [Act.put, List.getElem_toArray, List.getElem_cons_succ, List.getElem_cons_zero, List.setIfInBounds_toArray, List.set_cons_zero, List.set_cons_succ]
      refine oneT (i := 6) rfl (by kernel_rfl) (fun K hK => ?_)
      rw [if_pos (by kernel_rfl)]
      go_wp2_with (fail)
      refine hK.out _ _ (fun h => absurd (show true = false from h) (by decide)) ?_
      clear hK K
      try simp only [Act.put, List.getElem_toArray, List.getElem_cons_succ, List.getElem_cons_zero, List.setIfInBounds_toArray, List.set_cons_zero, List.set_cons_succ]
      refine oneT (i := 7) rfl (by kernel_rfl) (fun K hK => ?_)
      rw [if_pos (by kernel_rfl)]
      refine wp_storeR 45 (.tmp 4) (.tmp 22) rfl rfl rfl HS6.out rfl ?_
      refine hK.out _ _ (fun h => absurd (show true = false from h) (by decide)) ?_
      clear hK K
      try simp only [Act.put, List.getElem_toArray, List.getElem_cons_succ, List.getElem_cons_zero, List.setIfInBounds_toArray, List.set_cons_zero, List.set_cons_succ]
      refine oneT (i := 8) rfl (by kernel_rfl) (fun K hK => ?_)
      rw [if_pos (by kernel_rfl)]
      go_wp2_with (fail)
      refine hK.out _ _ (fun h => absurd (show true = false from h) (by decide)) ?_
      clear hK K
      try simp only [Act.put, List.getElem_toArray, List.getElem_cons_succ, List.getElem_cons_zero, List.setIfInBounds_toArray, List.set_cons_zero, List.set_cons_succ]
      refine doneT (by kernel_rfl) ?_ _
      clear hS0 hS5
      go_wp2_with (fail)
      refine bodyPost_ret (v := .tuple #[v5, .int .i64 5]) ?_ rfl ⟨_, rfl, X6.out, SM6.out.down (Ext.refl _) (fun q _ z => .inl z)⟩
      rw [results_cell_tmp rfl]
      simp [asAddr, Result.andThen, SX6.out.loadV, EV5.out]
end Go.Proofs.Ytaaegbccejjjcaa
