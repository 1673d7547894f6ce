/- Several texts in one: A state of the document's: three cells in a box; what they read as. No statement of the seat is proved here. The contract of the document's Room. -/
import Derived.Test.YtaaegbccejjjcaaCt28
import Derived.StillTactics
namespace Jo
/-- A state of the document's. -/
structure St where
  half : Nat
  base : List UInt8
  recs : List (List UInt8)
def J.st (j : J) : St := ⟨j.half, j.base, j.recs⟩
def St.room (s : St) : Int := (s.half : Int) - 1 - need s.base.length - Jo.room s.recs
/-- Nothing in it is long. -/
structure St.Small (s : St) : Prop where
  half : s.half ≤ 65536
  base : s.base.length ≤ 2097152
  recs : s.recs.length ≤ 65536
  rows : ∀ i, i < s.recs.length → (Gm.row s.recs i).length ≤ 2097152
  room : Jo.room s.recs ≤ 65536
theorem At.smallS {d : Disks.D} {j : J} (h : At d j) : j.st.Small := by
  obtain ⟨s1, s2, s3, s4, s5, s6, s7, s8⟩ := h.small
  exact ⟨by show j.half ≤ 65536; omega, s1, s2, s3, by show Jo.room j.recs ≤ 65536; omega⟩
theorem At.roomS {d : Disks.D} {j : J} (h : At d j) : j.st.room = ((j.from_ + j.half - j.next : Nat) : Int) := by
  obtain ⟨s1, s2, s3, s4, s5, s6, s7, s8⟩ := h.small
  show (j.half : Int) - 1 - need j.base.length - Jo.room j.recs = _
  omega
end Jo
namespace Go.Proofs.Ytaaegbccejjjcaa
open Go.RowKit Go.Maps Go.Sort Go.Shelf
set_option linter.unusedSimpArgs false

/-- The three cells. -/
abbrev sc (h : Int) (bs rs : Value) : List Value := [.int .i64 h, bs, rs]
/-- Box p has them. -/
structure Sx (w : World) (p : Nat) (h : Int) (bs rs : Value) : Prop where
  blk : w.heap[p]? = some (.cells (sc h bs rs).toArray 45 (0, 0))
section
variable {w w' : World} {p : Nat} {h : Int} {bs rs : Value}
theorem Sx.lt (s : Sx w p h bs rs) : p < w.heap.size := (Array.getElem?_eq_some_iff.1 s.blk).1
theorem Sx.ext (s : Sx w p h bs rs) (hx : Ext w w') : Sx w' p h bs rs := ⟨(hx.block p s.lt).trans s.blk⟩
theorem Sx.ch {Z : Nat → Prop} (s : Sx w p h bs rs) (k : Ch Z w w') (hz : ¬ Z p) : Sx w' p h bs rs := ⟨(k.block p s.lt hz).trans s.blk⟩
theorem Sx.c0 (s : Sx w p h bs rs) : w.cell? ⟨p, 0, none⟩ = some (.int .i64 h) := by rw [cell_of_row w _ _ _ _ _ s.blk]; rfl
theorem Sx.c1 (s : Sx w p h bs rs) : w.cell? ⟨p, 1, none⟩ = some bs := by rw [cell_of_row w _ _ _ _ _ s.blk]; rfl
theorem Sx.c2 (s : Sx w p h bs rs) : w.cell? ⟨p, 2, none⟩ = some rs := by rw [cell_of_row w _ _ _ _ _ s.blk]; rfl
theorem Sx.fz (s : Sx w p h bs rs) (k : Nat) : w.frozen? ⟨p, k, none⟩ = false := frozen_of_row w _ _ _ _ s.blk
theorem Sx.s2 (s : Sx w p h bs rs) (x : Value) : Sx (w.setCell ⟨p, 2, none⟩ x) p h bs x := ⟨heap_setCell_same w p 2 _ _ x s.blk⟩
end
theorem st_under : ∃ d, Try.prog.underlying 45 = some d ∧ d.isRow = true := ⟨_, Try.underlying45, rfl⟩
theorem st_info : (Try.prog.info? 45).map (·.size) = some 3 := by kernel_rfl
theorem Sx.loadV {w : World} {p : Nat} {h : Int} {bs rs : Value} (s : Sx w p h bs rs) : (loadVar 45 ⟨p, 0, none⟩).run Try.prog w = .ok (.agg (sc h bs rs).toArray) w := by
  obtain ⟨d, hd, hr⟩ := st_under
  refine run_loadVar_mid w p 0 45 (sc h bs rs) d (fun j v hv => ?_) hd hr st_info
  rw [cell_of_row w _ _ _ _ _ s.blk, Nat.zero_add]
  simpa using hv
theorem Sx.load {w : World} {p : Nat} {h : Int} {bs rs : Value} (s : Sx w p h bs rs) : (Instr.loadAt 45 (.pointer (some ⟨p, 0, none⟩))).run Try.prog w = .ok (.agg (sc h bs rs).toArray) w := by
  simp only [Instr.loadAt, Instr.sureAddr, Sem.run_bind, Sem.run_pure, Result.andThen_ok, s.loadV]
def zst : Obj := .cells #[.int .i64 0, .slice none 0 0, .slice none 0 0] 45 (0, 0)
theorem run_alloc_st (w : World) : (Instr.alloc 45 true (.tuple #[])).run Try.prog w = .ok (.pointer (some ⟨w.heap.size, 0, none⟩)) (w.alloc zst) := by kernel_rfl
theorem Sx.zero (w : World) : Sx (w.alloc zst) w.heap.size 0 (.slice none 0 0) (.slice none 0 0) := ⟨heap_alloc_new w zst⟩
/-- A box of an argument. -/
theorem Sx.box (w : World) (h : Int) (bs rs : Value) : Sx (w.alloc (.cells #[.int .i64 h, bs, rs] 45)) w.heap.size h bs rs := ⟨heap_alloc_new w _⟩
theorem setCells_three {w : World} {p : Nat} {a b c : Value} {T : TypeId} (hb : w.heap[p]? = some (.cells #[a, b, c] T (0, 0))) (vs : List Value) (hv : vs.length = 3) : (w.setCells p 0 vs).heap[p]? = some (.cells vs.toArray T (0, 0)) := by
  match vs, hv with
  | [a', b', c'], _ =>
    have h1 := heap_setCell_same w p 0 _ _ a' hb
    simp only [List.setIfInBounds_toArray, List.set_cons_zero, List.set_cons_succ] at h1
    have h2 := heap_setCell_same _ p 1 _ _ b' h1
    simp only [List.setIfInBounds_toArray, List.set_cons_zero, List.set_cons_succ] at h2
    have h3 := heap_setCell_same _ p 2 _ _ c' h2
    simp only [List.setIfInBounds_toArray, List.set_cons_zero, List.set_cons_succ] at h3
    exact h3
/-- Three cells are stored over a box. -/
theorem st_store {w : World} {p : Nat} {h0 : Int} {bs0 rs0 : Value} (hb : Sx w p h0 bs0 rs0) (h : Int) (bs rs : Value) (h1 : bs.oneCell' = true) (h2 : rs.oneCell' = true) :
    ∃ w', (Instr.storeAt 45 (.pointer (some ⟨p, 0, none⟩)) (.agg (sc h bs rs).toArray)).run Try.prog w = .ok () w' ∧ Sx w' p h bs rs ∧ Ch (fun q => q = p) w w' := by
  have hth : w.there p 0 3 := fun j hj => ⟨by
    rw [cell_of_row _ _ _ _ _ _ hb.blk]
    have hl : 0 + j < (sc h0 bs0 rs0).toArray.size := by show 0 + j < 3; omega
    rw [Array.getElem?_eq_getElem hl]; rfl, frozen_of_row _ _ _ _ _ hb.blk⟩
  have hall : (sc h bs rs).toArray.all (·.oneCell') = true := all_oneCell_toArray (fun v hv => by
    simp only [sc, List.mem_cons, List.not_mem_nil, or_false] at hv
    rcases hv with rfl | rfl | rfl <;> first | rfl | assumption)
  have hr := run_storeVar_mid (P := Try.prog) w p 0 45 (sc h bs rs).toArray hth st_info hall
  exact ⟨w.setCells p 0 (sc h bs rs), by simp only [Instr.storeAt, Instr.sureAddr, Sem.run_bind, Sem.run_pure, Result.andThen_ok, hr], ⟨setCells_three hb.blk _ rfl⟩, ch_setCells (Z := fun q => q = p) (.inl rfl) _ _ _ (Ch.refl _ _)⟩
/-- The value reads as a state. -/
def Sm (w : World) (v : Value) (s : Jo.St) : Prop := ∃ A c B e, v = .agg (sc (s.half : Int) (.slice A s.base.length c) (.slice B s.recs.length e)).toArray ∧ Bs w A s.base.length c s.base ∧ Mx w B s.recs.length e s.recs
theorem Sm.ext {w w' : World} {v : Value} {s : Jo.St} (h : Sm w v s) (hx : Ext w w') : Sm w' v s := by
  obtain ⟨A, c, B, e, h1, h2, h3⟩ := h
  exact ⟨A, c, B, e, h1, h2.ext hx, h3.ext hx⟩
/-- Bytes that stay what they are whatever turns of a kind. -/
def Bz (Z : Nat → Prop) (w : World) (A : Option Addr) (n c : Nat) (l : List UInt8) : Prop := ∀ W, Ch Z w W → Bs W A n c l
theorem Bz.next {Z : Nat → Prop} {w W : World} {A : Option Addr} {n c : Nat} {l : List UInt8} (h : Bz Z w A n c l) (k : Ch Z w W) : Bz Z W A n c l := fun W' k' => h W' (k.trans k')
theorem Bz.bs {Z : Nat → Prop} {w : World} {A : Option Addr} {n c : Nat} {l : List UInt8} (h : Bz Z w A n c l) : Bs w A n c l := h w (Ch.refl _ _)
theorem Bz.of {Z : Nat → Prop} {w : World} {A : Option Addr} {n c : Nat} {l : List UInt8} (h : Bs w A n c l) (k : Cold Z w A n) : Bz Z w A n c l := fun _ hc => h.ch hc k
/-- Rows that stay. -/
structure Mz (Z : Nat → Prop) (w : World) (B : Option Addr) (n e : Nat) (L : List (List UInt8)) : Prop where
  len : L.length = n
  le : n ≤ e
  max : e ≤ 9223372036854775807
  rows : ∃ cs : List Value, cs.length = n ∧ (∀ W, Ch Z w W → Rd W 1 B n cs) ∧ ∀ i, i < n → ∃ A k c, cs[i]? = some (.slice A k c) ∧ Bz Z w A k c (Gm.row L i)
section
variable {Z : Nat → Prop} {w W : World} {B : Option Addr} {n e : Nat} {L : List (List UInt8)}
theorem Mz.next (h : Mz Z w B n e L) (k : Ch Z w W) : Mz Z W B n e L := by
  obtain ⟨h1, h2, h3, cs, h4, h5, h6⟩ := h
  refine ⟨h1, h2, h3, cs, h4, fun W' k' => h5 W' (k.trans k'), fun i hi => ?_⟩
  obtain ⟨A, m, c, e1, e2⟩ := h6 i hi
  exact ⟨A, m, c, e1, e2.next k⟩
theorem Mz.mx (h : Mz Z w B n e L) : Mx w B n e L := by
  obtain ⟨h1, h2, h3, cs, h4, h5, h6⟩ := h
  refine ⟨h1, h2, h3, cs, h5 w (Ch.refl _ _), by rw [h4, h1], fun i hi => ?_⟩
  obtain ⟨A, m, c, e1, e2⟩ := h6 i (by rw [← h1]; exact hi)
  exact ⟨A, m, c, e1, e2.bs⟩
theorem Mz.at_ (h : Mz Z w B n e L) {k : Nat} (hk : k < n) : ∃ bm om A m c, B = some ⟨bm, om, none⟩ ∧ (∀ W, Ch Z w W → W.cell? ⟨bm, om + k, none⟩ = some (.slice A m c)) ∧ Bz Z w A m c (Gm.row L k) := by
  obtain ⟨h1, h2, h3, cs, h4, h5, h6⟩ := h
  obtain ⟨A, m, c, e1, e2⟩ := h6 k hk
  obtain ⟨bm, om, eB, _⟩ := (h5 w (Ch.refl _ _)).2 (by omega)
  refine ⟨bm, om, A, m, c, eB, fun W hW => ?_, e2⟩
  obtain ⟨bm2, om2, eB2, hc⟩ := (h5 W hW).2 (by omega)
  rw [eB] at eB2
  cases eB2
  exact hc k _ e1
theorem Mz.none (Z : Nat → Prop) (w : World) : Mz Z w none 0 0 [] := ⟨rfl, Nat.le_refl _, by omega, [], rfl, fun _ _ => Rd.nil _ _ _, fun i hi => absurd hi (Nat.not_lt_zero _)⟩
end
/-- The value reads as a state, and stays. -/
def Sz (Z : Nat → Prop) (w : World) (v : Value) (s : Jo.St) : Prop := ∃ A c B e, v = .agg (sc (s.half : Int) (.slice A s.base.length c) (.slice B s.recs.length e)).toArray ∧ Bz Z w A s.base.length c s.base ∧ Mz Z w B s.recs.length e s.recs
theorem Sz.next {Z : Nat → Prop} {w W : World} {v : Value} {s : Jo.St} (h : Sz Z w v s) (k : Ch Z w W) : Sz Z W v s := by
  obtain ⟨A, c, B, e, h1, h2, h3⟩ := h
  exact ⟨A, c, B, e, h1, h2.next k, h3.next k⟩
theorem Sz.sm {Z : Nat → Prop} {w : World} {v : Value} {s : Jo.St} (h : Sz Z w v s) : Sm w v s := by
  obtain ⟨A, c, B, e, h1, h2, h3⟩ := h
  exact ⟨A, c, B, e, h1, h2.bs, h3.mx⟩
/-- Less turns. -/
theorem Ch.down {Z Y : Nat → Prop} {w wx W : World} (hx : Ext w wx) (h : Ch Y wx W) (hy : ∀ q, q < w.heap.size → Y q → Z q) : Ch Z w W :=
  ⟨h.os.trans hx.os, h.tape.trans hx.tape, h.output.trans hx.output, Nat.le_trans hx.size h.size, fun q hq hz => (h.block q (Nat.lt_of_lt_of_le hq hx.size) (fun y => hz (hy q hq y))).trans (hx.block q hq)⟩
theorem Bz.down {Z Y : Nat → Prop} {w wx : World} {A : Option Addr} {n c : Nat} {l : List UInt8} (h : Bz Z w A n c l) (hx : Ext w wx) (hy : ∀ q, q < w.heap.size → Y q → Z q) : Bz Y wx A n c l := fun _ k => h _ (k.down hx hy)
theorem Mz.down {Z Y : Nat → Prop} {w wx : World} {B : Option Addr} {n e : Nat} {L : List (List UInt8)} (h : Mz Z w B n e L) (hx : Ext w wx) (hy : ∀ q, q < w.heap.size → Y q → Z q) : Mz Y wx B n e L := by
  obtain ⟨h1, h2, h3, cs, h4, h5, h6⟩ := h
  refine ⟨h1, h2, h3, cs, h4, fun W' k' => h5 W' (k'.down hx hy), fun i hi => ?_⟩
  obtain ⟨A, m, c, e1, e2⟩ := h6 i hi
  exact ⟨A, m, c, e1, e2.down hx hy⟩
theorem Sz.down {Z Y : Nat → Prop} {w wx : World} {v : Value} {s : Jo.St} (h : Sz Z w v s) (hx : Ext w wx) (hy : ∀ q, q < w.heap.size → Y q → Z q) : Sz Y wx v s := by
  obtain ⟨A, c, B, e, h1, h2, h3⟩ := h
  exact ⟨A, c, B, e, h1, h2.down hx hy, h3.down hx hy⟩
/-- The document's data. -/
theorem data_any (w : World) (n : Nat) (hn : n < 2 ^ 62) : Calls Try.prog 49 #[.int .i64 (n : Int)] w fun e w' => e = .returned (.int .i64 (Jo.need n : Int)) ∧ w = w' := by
  have EN : ((n : Int) + 62).tdiv 63 = (Jo.need n : Int) := by rw [Int.tdiv_eq_ediv_of_nonneg (by omega)]; unfold Jo.need; omega
  obtain ⟨K, hK⟩ : ∃ K, Jo.need n = K := ⟨_, rfl⟩
  have hK2 : K ≤ n := by rw [← hK]; unfold Jo.need; omega
  rw [hK] at EN ⊢
  clear hK
  go_enter Try.func49, Try.ntmps49
  go_wp2_with (fail)
  go_ret
  exact ⟨rfl, rfl⟩
end Go.Proofs.Ytaaegbccejjjcaa
namespace Jo
theorem room_take (l : List (List UInt8)) (k : Nat) (h : k < l.length) : room (l.take (k + 1)) = room (l.take k) + 1 + need (Gm.row l k).length := by
  have e : l.take (k + 1) = l.take k ++ [Gm.row l k] := by
    rw [List.take_add_one, List.getElem?_eq_getElem h, Gm.row_of_lt h]
    rfl
  rw [e]
  unfold room
  rw [List.map_append, List.sum_append]
  simp only [List.map_cons, List.map_nil, List.sum_cons, List.sum_nil]
  omega
theorem room_le (l : List (List UInt8)) (k : Nat) : room (l.take k) ≤ room l := by
  induction l generalizing k with
  | nil => simp
  | cons r t ih =>
    cases k with
    | zero => simp [room]
    | succ k =>
      have := ih k
      simp only [room, List.take_succ_cons, List.map_cons, List.sum_cons] at this ⊢
      omega
end Jo
namespace Go.Proofs.Ytaaegbccejjjcaa
open Go.RowKit Go.Maps Go.Sort Go.Shelf
set_option linter.unusedSimpArgs false

set_option maxRecDepth 100000 in
set_option maxHeartbeats 2000000 in
theorem refRoom_any (w : World) (s : Jo.St) (hs : s.Small) (A : Option Addr) (c : Nat) (B : Option Addr) (e : Nat) (hb : Bs w A s.base.length c s.base) (hm : Mx w B s.recs.length e s.recs) :
    Calls Try.prog 37 #[.agg (sc (s.half : Int) (.slice A s.base.length c) (.slice B s.recs.length e)).toArray] w fun r w' => r = .returned (.int .i64 s.room) ∧ Ext w w' := by
  obtain ⟨L, hL⟩ : ∃ L, s.recs = L := ⟨_, rfl⟩
  obtain ⟨n, hn⟩ : ∃ n, L.length = n := ⟨_, rfl⟩
  obtain ⟨nb, hnb⟩ : ∃ nb, s.base.length = nb := ⟨_, rfl⟩
  obtain ⟨hf, hhf⟩ : ∃ hf, s.half = hf := ⟨_, rfl⟩
  obtain ⟨Kb, hKb⟩ : ∃ Kb, Jo.need nb = Kb := ⟨_, rfl⟩
  have hroom : s.room = (hf : Int) - 1 - (Kb : Int) - (Jo.room L : Int) := by unfold Jo.St.room; rw [hL, hnb, hhf, hKb]
  have f1 : hf ≤ 65536 := by rw [← hhf]; exact hs.half
  have f2 : nb ≤ 2097152 := by rw [← hnb]; exact hs.base
  have f3 : n ≤ 65536 := by rw [← hn, ← hL]; exact hs.recs
  have f4 : Jo.room L ≤ 65536 := by rw [← hL]; exact hs.room
  have f5 : ∀ i, i < n → (Gm.row L i).length ≤ 2097152 := by rw [← hn, ← hL]; exact hs.rows
  have f6 : Kb ≤ 40000 := by rw [← hKb]; unfold Jo.need; omega
  rw [hroom, hnb, hL, hn, hhf]
  rw [hL, hn] at hm
  have hml := hm.le
  have hmx := hm.max
  have HM := Lib.hid hm
  have F5 := Lib.hid f5
  have F4 := Lib.hid f4
  have LN := Lib.hid hn
  have HND := Lib.hid (fun Wx : World => data_any Wx nb (by omega))
  rw [hKb] at HND
  obtain ⟨p, hp⟩ : ∃ p, w.heap.size = p := ⟨_, rfl⟩
  have sx := Sx.box w (hf : Int) (.slice A nb c) (.slice B n e)
  have x1 := Ext.alloc w (.cells #[.int .i64 (hf : Int), .slice A nb c, .slice B n e] 45)
  obtain ⟨w1, hw1⟩ : ∃ w1, w.alloc (.cells #[.int .i64 (hf : Int), .slice A nb c, .slice B n e] 45) = w1 := ⟨_, rfl⟩
  rw [hw1, hp] at sx
  rw [hw1] at x1
  have k0 := sx.c0
  have k1 := sx.c1
  have SX := Lib.hid sx
  have X1 := Lib.hid x1
  clear hs hb hm f4 f5 hroom hL hn hnb hhf hKb sx x1
  go_enter Try.func37, Try.ntmps37
  go_wp2_with (fail)
  try rw [hp]
  try rw [hw1]
  clear hw1 hp
  refine wp_region_still_lit (by kernel_rfl) (by kernel_rfl) ?_
  still_step
  still_step
  still_step
  still_step
  still_step
  still_step
  still_call ((HND.out _).mono (fun e w' h => ⟨h.1, h.2.symm⟩))
  repeat still_step
  refine wpStill_nil ?_
  change Exit.then _ _ _ _ w1.drew
  have WE : IntKind.i64.wrap (IntKind.i64.wrap ((hf : Int) - 1) - (Kb : Int)) = (hf : Int) - 1 - (Kb : Int) := by rw [IntWalk.i64_in ((hf : Int) - 1) (by omega), IntWalk.i64_in _ (by omega)]
  rw [WE]
  clear WE
  have SX2 := Lib.hid (SX.out.ext (Ext.drew w1))
  clear k0 k1 SX
  go_wp2_with (fail)
  go_loopw [3, 4] (fun v i wr => ∃ (k rk : Nat), k ≤ n ∧ v = .int .i64 ((hf : Int) - 1 - (Kb : Int) - (rk : Int)) ∧ i = .int .i64 (k : Int) ∧ RowKit.Hid (rk = Jo.room (L.take k)) ∧ RowKit.Hid (Ext w1.drew wr)) (fun _ i _ => n - (intOf i).toNat)
  case atStart => exact ⟨0, 0, Nat.zero_le _, by simp only [Int.natCast_zero, Int.sub_zero], rfl, Lib.hid rfl, Lib.hid (Ext.refl _)⟩
  case round =>
    obtain ⟨k, rk, hk, rfl, rfl, RK, X⟩ := hrel
    have k2 := (SX2.out.ext X.out).c2
    have hrk : rk ≤ 65536 := by rw [RK.out]; exact Nat.le_trans (Jo.room_le L k) F4.out
    by_cases hlt : k < n
    · have i1 : (k : Int) < n := by omega
      obtain ⟨bm, om, Ai, ni, ci, rfl, hce, hbi⟩ := (HM.out.ext ((X1.out.trans (Ext.drew w1)).trans X.out)).at_ hlt
      have hni := hbi.len
      have hn2 := F5.out k hlt
      have RT := Lib.hid (Jo.room_take L k (by rw [LN.out]; exact hlt))
      rw [hni] at hn2
      have hdt := data_any wr ni (by omega)
      obtain ⟨Ki, hKi⟩ : ∃ Ki, Jo.need ni = Ki := ⟨_, rfl⟩
      rw [hKi] at hdt
      have hki : Ki ≤ 40000 := by rw [← hKi]; unfold Jo.need; omega
      have RK2 := Lib.hid (show rk + 1 + Ki = Jo.room (L.take (k + 1)) by rw [RT.out, hni, hKi, ← RK.out])
      clear hni hKi hbi RT
      go_wp2_with (fail)
      with_reducible refine hdt.mono ?_
      rintro e w4 ⟨rfl, rfl⟩
      clear hdt
      go_wp2_with (fail)
      refine ⟨⟨k + 1, rk + 1 + Ki, by omega, by go_num, by go_num, RK2, X⟩, by simp [intOf]; omega⟩
    · have i1 : ¬ (k : Int) < n := by omega
      obtain rfl : k = n := by omega
      have RE := Lib.hid (show (rk : Int) = (Jo.room L : Int) by rw [RK.out, List.take_of_length_le (by rw [LN.out]; exact Nat.le_refl _)])
      go_wp2_with (fail)
      go_ret
      exact ⟨by rw [← RE.out]; rfl, (X1.out.trans (Ext.drew w1)).trans X.out⟩
end Go.Proofs.Ytaaegbccejjjcaa
