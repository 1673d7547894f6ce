/- Several texts in one: A journal in a law: since a world, on a disk that shows it. The contract of the laws' awake. -/
import Derived.Test.YtaaegbccejjjcaaCt27
namespace Jo
open Disks
theorem doJ_app (j : J) (l : List UInt8) : doJ j 0 l = j.append l := if_neg (by omega)
theorem doJ_cp (j : J) (l : List UInt8) : doJ j 2 l = j.point l := if_pos rfl
theorem fits_app {j : J} {l : List UInt8} : fits j 0 l ↔ j.next + 1 + need l.length ≤ j.from_ + j.half := by unfold fits; rw [if_neg (by omega)]
theorem fits_cp {j : J} {l : List UInt8} : fits j 2 l ↔ 1 + need l.length ≤ j.half := by unfold fits; rw [if_pos rfl]
theorem Ends.ok {d d' : D} {j : J} {k : Int} {l : List UInt8} {f : Int} (h : Ends d j k l d' f) (hf : fits j k l) (ha : d.arm = -1) : f = 0 ∧ At d' (doJ j k l) := by
  rcases h with h | h | h
  · exact absurd hf h.2.1
  · exact ⟨h.1, h.2.2⟩
  · exact absurd ha h.2.2.1
theorem Ends.full {d d' : D} {j : J} {k : Int} {l : List UInt8} {f : Int} (h : Ends d j k l d' f) (hf : ¬ fits j k l) : f = 5 ∧ d' = d := by
  rcases h with h | h | h
  · exact ⟨h.1, h.2.2⟩
  · exact absurd h.2.1 hf
  · exact absurd h.2.1 hf
end Jo
namespace Go.Proofs.Ytaaegbccejjjcaa
open Go.RowKit Go.Maps Go.Sort Go.Shelf
set_option linter.unusedSimpArgs false

/-- A journal that is alive, in blocks newer than a world. -/
structure Lv (w0 w : World) (p g m b N : Nat) (o : Option Nat) (j : Jo.J) (d : Disks.D) : Prop where
  jn : Jn w p g m b N o j false d
  at_ : Jo.At d j
  ext : Ext w0 w
  lo : ∀ q, Hot p g m b o q → w0.heap.size ≤ q
section
variable {w0 w w' : World} {p g m b N : Nat} {o : Option Nat} {j : Jo.J} {d d' : Disks.D}
theorem Lv.then (h : Lv w0 w p g m b N o j d) (hx : Ext w w') : Lv w0 w' p g m b N o j d := ⟨h.jn.ext hx, h.at_, h.ext.trans hx, h.lo⟩
theorem Lv.more (h : Lv w0 w p g m b N o j d) {N' : Nat} (hN : N ≤ N') : Lv w0 w p g m b N' o j d := ⟨h.jn.more hN, h.at_, h.ext, h.lo⟩
/-- What stands behind an op that was done, or did not fit. -/
theorem Lv.did {o' : Option Nat} {j' : Jo.J} {N' : Nat} (h : Lv w0 w p g m b N o j d) (ho : o' = o ∨ ∀ q, o' = some q → w.heap.size ≤ q) (hj : Jn w' p g m b N' o' j' false d') (hat : Jo.At d' j') (hc : Ch (Hot p g m b o) w w') : Lv w0 w' p g m b N' o' j' d' := by
  refine ⟨hj, hat, hc.ext h.ext h.lo, fun q z => ?_⟩
  have h1 := h.ext.size
  rcases z with z | z | z | z | z
  · exact h.lo q (.inl z)
  · exact h.lo q (.inr (.inl z))
  · exact h.lo q (.inr (.inr (.inl z)))
  · exact h.lo q (.inr (.inr (.inr (.inl z))))
  · rcases ho with e | e
    · rw [e] at z; exact h.lo q (.inr (.inr (.inr (.inr z))))
    · have := e q z; omega
/-- What came in may be written. -/
theorem Lv.cold (h : Lv w0 w p g m b N o j d) {A : Option Addr} {n c : Nat} {l : List UInt8} (hb : Bs w0 A n c l) : Cold (Hot p g m b o) w A n := Cold.old hb h.ext h.lo
/-- What is newer than the journal may be written. -/
theorem Lv.fresh (h : Lv w0 w p g m b N o j d) {q off n : Nat} (h1 : w.heap.size ≤ q) (h2 : q < w'.heap.size) : Cold (Hot p g m b o) w' (some ⟨q, off, .none⟩) n :=
  Cold.fresh (w0 := w) h1 h2 (fun q z => h.jn.lt q z)
theorem Lv.first {w1 : World} {d0 : Disks.D} (hx : Ext w0 w1) (l1 : w0.heap.size ≤ g) (l2 : w0.heap.size ≤ m) (l3 : w0.heap.size ≤ b) (hp : w1.heap.size ≤ p) (ho : ∀ q, o = some q → w1.heap.size ≤ q) (hj : Jn w p g m b N o j false d) (hk : Kp g m b w1 w) (hat : Jo.At d j) : Lv w0 w p g m b N o j d := by
  have h1 := hx.size
  refine ⟨hj, hat, hx.kp hk l1 l2 l3, fun q z => ?_⟩
  rcases z with z | z | z | z | z
  · omega
  · omega
  · omega
  · omega
  · have := ho q z; omega
/-- A disk in a law, newer than a world. -/
structure Dl (w0 w : World) (g m b N : Nat) (d : Disks.D) : Prop where
  ds : Ds w g m b N d
  ext : Ext w0 w
  lo : w0.heap.size ≤ g ∧ w0.heap.size ≤ m ∧ w0.heap.size ≤ b
theorem Lv.dl (h : Lv w0 w p g m b N o j d) : Dl w0 w g m b N d := ⟨h.jn.ds, h.ext, h.lo g (.inr (.inl rfl)), h.lo m (.inr (.inr (.inl rfl))), h.lo b (.inr (.inr (.inr (.inl rfl))))⟩
theorem Dl.then (h : Dl w0 w g m b N d) (hx : Ext w w') : Dl w0 w' g m b N d := ⟨h.ds.ext hx, h.ext.trans hx, h.lo⟩
theorem Dl.turn (h : Dl w0 w g m b N d) {N' : Nat} (hd : Ds w' g m b N' d') (hk : Kp g m b w w') : Dl w0 w' g m b N' d' := ⟨hd, h.ext.kp hk h.lo.1 h.lo.2.1 h.lo.2.2, h.lo⟩
end
/-- A disk is opened that shows a journal. -/
theorem open_lv (w0 w : World) (g m b N : Nat) (d : Disks.D) (j : Jo.J) (h : Dl w0 w g m b N d) (hat : Jo.At d j) :
    Calls Try.prog 10 #[dptr g] w fun e w' => ∃ p o, e = .returned (.tuple #[.pointer (some ⟨p, 0, none⟩), .int .i64 0]) ∧ Lv w0 w' p g m b N o j d ∧ Ext w w' ∧ w.heap.size ≤ p ∧ ∀ q, o = some q → w.heap.size ≤ q := by
  refine (open_any w g m b N d j h.ds hat).mono ?_
  rintro e w' ⟨p, o, rfl, hp, ho, hj, hx⟩
  exact ⟨p, o, rfl, Lv.first (d0 := d) h.ext h.lo.1 h.lo.2.1 h.lo.2.2 hp ho hj (Kp.of hx ..) hat, hx, hp, ho⟩
/-- A new disk is opened. -/
theorem open_new (w0 w : World) (g m b n : Nat) (h : Dl w0 w g m b 0 (Disks.new n)) (h8 : 8 ≤ n) (hn : n ≤ 65536) :
    Calls Try.prog 10 #[dptr g] w fun e w' => ∃ p o d, e = .returned (.tuple #[.pointer (some ⟨p, 0, none⟩), .int .i64 0]) ∧ Lv w0 w' p g m b 1 o (Jo.J.first (n / 2)) d ∧ d.arm = -1 := by
  obtain ⟨f1, f2, f3⟩ := Jo.first_done h8 hn
  refine (open_first w g m b 0 n (Disks.new n) _ rfl rfl h.ds h8 hn (by unfold maxLen; omega)).mono ?_
  rintro e w' ⟨p, o, rfl, hp, ho, hj, hk⟩
  exact ⟨p, o, _, rfl, Lv.first (d0 := Disks.new n) h.ext h.lo.1 h.lo.2.1 h.lo.2.2 hp ho hj hk f3, f2⟩
theorem new_dl (w : World) (n : Nat) (h1 : 1 ≤ n) (h2 : n ≤ 65536) :
    Calls Try.prog 9 #[.int .i64 (n : Int)] w fun e w' => ∃ g m b, e = .returned (.tuple #[dptr g, .int .i64 0]) ∧ Dl w w' g m b 0 (Disks.new n) := by
  refine (dsNew w n h1 h2).mono ?_
  rintro e w' ⟨g, rfl, m, b, hd, hx, a1, a2, a3⟩
  exact ⟨g, m, b, rfl, hd, hx, a1, a2, a3⟩
section
variable {w0 w : World} {p g m b N : Nat} {o : Option Nat} {j : Jo.J} {d : Disks.D}
theorem room_lv (h : Lv w0 w p g m b N o j d) {x : Int} (hx : ((j.from_ + j.half - j.next : Nat) : Int) = x) : Calls Try.prog 11 #[.pointer (some ⟨p, 0, none⟩)] w fun e w' => e = .returned (.int .i64 x) ∧ Ext w w' := by
  subst hx
  obtain ⟨s1, s2, s3, s4, s5, s6, s7, s8⟩ := h.at_.small
  exact room_any h.jn (by omega) (by omega) s8
theorem base_lv (h : Lv w0 w p g m b N o j d) : Calls Try.prog 23 #[.pointer (some ⟨p, 0, none⟩)] w fun e w' => ∃ A c, e = .returned (.slice A j.base.length c) ∧ Bs w' A j.base.length c j.base ∧ Newer w A ∧ Ext w w' := by
  obtain ⟨s1, _⟩ := h.at_.small
  exact base_any h.jn (by omega)
theorem recs_lv (h : Lv w0 w p g m b N o j d) : Calls Try.prog 19 #[.pointer (some ⟨p, 0, none⟩)] w fun e w' => ∃ A c, e = .returned (.slice A j.recs.length c) ∧ Mx w' A j.recs.length c j.recs ∧ RwN w w' (.slice A j.recs.length c) j.recs ∧ Ext w w' := by
  obtain ⟨s1, s2, s3, _⟩ := h.at_.small
  refine (records_any w p g m b N o j false d h.jn s2 (fun i hi => by have := s3 i hi; omega)).mono ?_
  rintro e w' ⟨v, rfl, hr, hx⟩
  obtain ⟨A, c, rfl, hm⟩ := rwn_mx hr
  exact ⟨A, c, rfl, hm, hr, hx⟩
/-- A record that fits is kept; one that does not is not. -/
theorem app_ok (h : Lv w0 w p g m b N o j d) (ha : d.arm = -1) {A : Option Addr} {n c : Nat} {l : List UInt8} (hl : Bs w A n c l) (hc : Cold (Hot p g m b o) w A n) (hn : n < 2 ^ 30) (hf : Jo.fits j 0 l) {N' : Nat} (hN : N + Jo.need n + 1 ≤ N') (hN' : N' < maxLen) :
    Calls Try.prog 12 #[.pointer (some ⟨p, 0, none⟩), .slice A n c] w fun e w' => ∃ o' d', e = .returned (.int .i64 0) ∧ Lv w0 w' p g m b N' o' (Jo.doJ j 0 l) d' ∧ d'.arm = -1 ∧ Ch (Hot p g m b o) w w' := by
  refine (app_any w p g m b N o j d h.jn h.at_ 0 (by omega) A n c l hl hc hn N' hN hN').mono ?_
  rintro e w' ⟨f, d', o', rfl, he, harm, ho, hj, hch⟩
  obtain ⟨rfl, hat⟩ := he.ok hf ha
  exact ⟨o', d', rfl, h.did ho hj hat hch, harm ha, hch⟩
theorem app_full (h : Lv w0 w p g m b N o j d) {A : Option Addr} {n c : Nat} {l : List UInt8} (hl : Bs w A n c l) (hc : Cold (Hot p g m b o) w A n) (hn : n < 2 ^ 30) (hf : ¬ Jo.fits j 0 l) :
    Calls Try.prog 12 #[.pointer (some ⟨p, 0, none⟩), .slice A n c] w fun e w' => e = .returned (.int .i64 5) ∧ Ext w w' := by
  refine append_full w p g m b N o j d h.jn h.at_ A n c (by omega) ?_
  unfold Jo.fits at hf
  rw [if_neg (by omega), hl.len] at hf
  omega
theorem cp_ok (h : Lv w0 w p g m b N o j d) (ha : d.arm = -1) {A : Option Addr} {n c : Nat} {l : List UInt8} (hl : Bs w A n c l) (hc : Cold (Hot p g m b o) w A n) (hn : n < 2 ^ 30) (hf : Jo.fits j 2 l) {N' : Nat} (hN : N + Jo.need n + 1 ≤ N') (hN' : N' < maxLen) (hlf : j.life < 2 ^ 40) :
    Calls Try.prog 16 #[.pointer (some ⟨p, 0, none⟩), .slice A n c] w fun e w' => ∃ o' d', e = .returned (.int .i64 0) ∧ Lv w0 w' p g m b N' o' (Jo.doJ j 2 l) d' ∧ d'.arm = -1 ∧ Ch (Hot p g m b o) w w' := by
  refine (cp_any w p g m b N o j d h.jn h.at_ 2 rfl A n c l hl hc hn N' hN hN' hlf).mono ?_
  rintro e w' ⟨f, d', o', rfl, he, harm, ho, hj, hch⟩
  obtain ⟨rfl, hat⟩ := he.ok hf ha
  exact ⟨o', d', rfl, h.did ho hj hat hch, harm ha, hch⟩
end
theorem made5_zero (c : Nat) : made5 c (.int .u8 0) = (bcells (List.replicate c 0)).toArray := by
  apply Array.toList_inj.1
  rw [made5_toList]
  simp [bcells]
/-- So many bytes of nought, made. -/
theorem bs_made (w : World) (c : Nat) (hc : c ≤ 100000) : Bs (w.alloc (.cells (made5 c (.int .u8 0)) 5)) (some ⟨w.heap.size, 0, none⟩) c c (List.replicate c 0) := by
  have ho : Ob w (w.alloc (.cells (made5 c (.int .u8 0)) 5)) w.heap.size (List.replicate c 0) := ⟨Ext.alloc _ _, Nat.le_refl _, by rw [← made5_zero]; exact heap_alloc_new w _⟩
  exact ho.bs (by rw [List.length_replicate]; omega) (List.length_replicate)
end Go.Proofs.Ytaaegbccejjjcaa
namespace Go.Proofs.Ytaaegbccejjjcaa
open Go.RowKit Go.Maps Go.Sort Go.Shelf

theorem bls_none24 (W : World) : Bls W none 0 0 [] := ⟨rfl, Nat.le_refl _, by omega, fun k hk => by omega⟩
set_option maxRecDepth 100000 in
set_option maxHeartbeats 2000000 in
theorem awake24 (w : World) : Calls Try.prog 17 #[] w fun e w' => e = .returned (.bool true) ∧ Ext w w' := by
  have hnew : Calls Try.prog 9 #[.int .i64 16] w fun e w' => ∃ g m b, e = .returned (.tuple #[dptr g, .int .i64 0]) ∧ Dl w w' g m b 0 (Disks.new 16) := new_dl w 16 (by omega) (by omega)
  go_enter Try.func17, Try.ntmps17
  try dsimp only [List.append]
  go_wp2_with (fail)
  with_reducible refine hnew.mono ?_
  rintro e w1 ⟨g, m, b, rfl, d1⟩
  have ho := open_new w w1 g m b 16 d1 (by omega) (by omega)
  clear hnew d1
  go_wp2_with (fail)
  with_reducible refine ho.mono ?_
  rintro e w2 ⟨p, o2, d2, rfl, l2, a2⟩
  have L2 := Lib.hid l2
  have A2 := Lib.hid a2
  clear ho l2 a2
  have hm := room_lv L2.out (x := 7) rfl
  go_wp2_with (fail)
  with_reducible refine hm.mono ?_
  rintro e w3 ⟨rfl, x3⟩
  have L3 := Lib.hid (L2.out.then x3)
  clear hm x3
  have r4 : (Instr.makeSlice 32 (.int .i64 100) (.int .i64 100)).run Try.prog w3 = .ok (.slice (some ⟨w3.heap.size, 0, none⟩) 100 100) (w3.alloc (.cells (made5 100 (.int .u8 0)) 5)) := run_make5 w3 100 (by omega)
  have b4 := bs_made w3 100 (by omega)
  have x4 := Ext.alloc w3 (.cells (made5 100 (.int .u8 0)) 5)
  have s4 : w3.heap.size < (w3.alloc (.cells (made5 100 (.int .u8 0)) 5)).heap.size := by rw [World.size_alloc]; omega
  obtain ⟨w4, hw4⟩ : ∃ w4, w3.alloc (.cells (made5 100 (.int .u8 0)) 5) = w4 := ⟨_, rfl⟩
  rw [hw4] at r4 b4 x4 s4
  have L4 := Lib.hid (L3.out.then x4)
  have hap := app_ok L4.out A2.out b4 (L3.out.fresh (Nat.le_refl _) s4) (by omega) (Jo.fits_app.2 (by rw [List.length_replicate]; decide)) (N' := 10) (by decide) (by decide)
  clear hw4 b4 x4 s4
  go_wp2_with (fail)
  with_reducible refine hap.mono ?_
  rintro e w5 ⟨o5, d5, rfl, l5, a5, _⟩
  have L5 := Lib.hid l5
  have A5 := Lib.hid a5
  clear hap l5 a5 r4
  have hm := room_lv L5.out (x := 4) (by rw [Jo.doJ_app]; show ((0 + 16 / 2 - (1 + 1 + Jo.need (List.replicate 100 (0 : UInt8)).length) : Nat) : Int) = 4; rw [List.length_replicate]; rfl)
  go_wp2_with (fail)
  with_reducible refine hm.mono ?_
  rintro e w6 ⟨rfl, x6⟩
  have L6 := Lib.hid (L5.out.then x6)
  clear hm x6
  have r7 : (Instr.makeSlice 32 (.int .i64 200) (.int .i64 200)).run Try.prog w6 = .ok (.slice (some ⟨w6.heap.size, 0, none⟩) 200 200) (w6.alloc (.cells (made5 200 (.int .u8 0)) 5)) := run_make5 w6 200 (by omega)
  have b7 := bs_made w6 200 (by omega)
  have x7 := Ext.alloc w6 (.cells (made5 200 (.int .u8 0)) 5)
  have s7 : w6.heap.size < (w6.alloc (.cells (made5 200 (.int .u8 0)) 5)).heap.size := by rw [World.size_alloc]; omega
  obtain ⟨w7, hw7⟩ : ∃ w7, w6.alloc (.cells (made5 200 (.int .u8 0)) 5) = w7 := ⟨_, rfl⟩
  rw [hw7] at r7 b7 x7 s7
  have L7 := Lib.hid (L6.out.then x7)
  have hap := app_full L7.out b7 (L6.out.fresh (Nat.le_refl _) s7) (by omega) (by
    rw [Jo.fits_app, List.length_replicate, Jo.doJ_app]
    show ¬ (1 + 1 + Jo.need (List.replicate 100 (0 : UInt8)).length) + 1 + Jo.need 200 ≤ 0 + 16 / 2
    rw [List.length_replicate]
    decide)
  clear hw7 b7 x7 s7
  go_wp2_with (fail)
  with_reducible refine hap.mono ?_
  rintro e w8 ⟨rfl, x8⟩
  have L8 := Lib.hid (L7.out.then x8)
  clear hap x8 r7
  have r9 : (Instr.makeSlice 32 (.int .i64 64) (.int .i64 64)).run Try.prog w8 = .ok (.slice (some ⟨w8.heap.size, 0, none⟩) 64 64) (w8.alloc (.cells (made5 64 (.int .u8 0)) 5)) := run_make5 w8 64 (by omega)
  have b9 := bs_made w8 64 (by omega)
  have x9 := Ext.alloc w8 (.cells (made5 64 (.int .u8 0)) 5)
  have s9 : w8.heap.size < (w8.alloc (.cells (made5 64 (.int .u8 0)) 5)).heap.size := by rw [World.size_alloc]; omega
  obtain ⟨w9, hw9⟩ : ∃ w9, w8.alloc (.cells (made5 64 (.int .u8 0)) 5) = w9 := ⟨_, rfl⟩
  rw [hw9] at r9 b9 x9 s9
  have L9 := Lib.hid (L8.out.then x9)
  have hcp := cp_ok L9.out A5.out b9 (L8.out.fresh (Nat.le_refl _) s9) (by omega) (by
    rw [Jo.fits_cp, List.length_replicate, Jo.doJ_app]
    show 1 + Jo.need 64 ≤ 16 / 2
    decide) (N' := 20) (by decide) (by decide) (by rw [Jo.doJ_app]; show 1 < 2 ^ 40; omega)
  clear hw9 b9 x9 s9
  go_wp2_with (fail)
  with_reducible refine hcp.mono ?_
  rintro e w10 ⟨o10, d10, rfl, l10, a10, _⟩
  have L10 := Lib.hid l10
  clear hcp l10 a10 r9
  obtain ⟨j, hj⟩ : ∃ j, Jo.doJ (Jo.doJ (Jo.J.first (16 / 2)) 0 (List.replicate 100 0)) 2 (List.replicate 64 0) = j := ⟨_, rfl⟩
  rw [hj] at L10
  have J1 : j.base.length = 64 ∧ j.recs.length = 0 ∧ ((j.from_ + j.half - j.next : Nat) : Int) = 5 := by
    rw [← hj, Jo.doJ_cp, Jo.doJ_app]
    refine ⟨List.length_replicate, rfl, ?_⟩
    show ((16 / 2 - 0 + 16 / 2 - (16 / 2 - 0 + 1 + Jo.need (List.replicate 64 (0 : UInt8)).length) : Nat) : Int) = 5
    rw [List.length_replicate]
    rfl
  have JJ := Lib.hid J1
  clear J1 hj
  have hm := room_lv L10.out (x := 5) JJ.out.2.2
  go_wp2_with (fail)
  with_reducible refine hm.mono ?_
  rintro e w11 ⟨rfl, x11⟩
  have L11 := Lib.hid (L10.out.then x11)
  clear hm x11
  have hcr := L11.out.jn.ds.crash' none 0 0 [] (bls_none24 w11) (fun h => absurd h (Nat.lt_irrefl 0)) rfl
  go_wp2_with (fail)
  with_reducible refine hcr.mono ?_
  rintro e w12 ⟨rfl, d12, k12⟩
  have D12 := Lib.hid (L11.out.dl.turn d12 k12)
  clear hcr d12 k12
  have ho := open_lv w w12 g m b _ _ j D12.out (L11.out.at_.crash [])
  go_wp2_with (fail)
  with_reducible refine ho.mono ?_
  rintro e w13 ⟨p2, o13, rfl, l13, _⟩
  have L13 := Lib.hid l13
  clear ho l13
  have hb := base_lv L13.out
  rw [JJ.out.1] at hb
  go_wp2_with (fail)
  with_reducible refine hb.mono ?_
  rintro e w14 ⟨A14, c14, rfl, _, _, x14⟩
  have L14 := Lib.hid (L13.out.then x14)
  clear hb x14
  have hrc := recs_lv L14.out
  rw [JJ.out.2.1] at hrc
  go_wp2_with (fail)
  with_reducible refine hrc.mono ?_
  rintro e w15 ⟨A15, c15, rfl, _, _, x15⟩
  have L15 := Lib.hid (L14.out.then x15)
  clear hrc x15
  have hm := room_lv L15.out (x := 5) JJ.out.2.2
  go_wp2_with (fail)
  with_reducible refine hm.mono ?_
  rintro e w16 ⟨rfl, x16⟩
  have X16 := Lib.hid (L15.out.ext.trans x16)
  clear hm x16
  go_wp2_with (fail)
  go_ret
  exact ⟨rfl, X16.out⟩
end Go.Proofs.Ytaaegbccejjjcaa
