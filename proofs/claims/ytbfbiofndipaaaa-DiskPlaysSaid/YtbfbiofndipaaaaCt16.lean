/- Several texts in one: The contracts of the laws' of and reads, of SameBytes. Ops of chapter 05 that came in as an argument. No statement of the seat is proved here. -/
import Derived.Test.YtbfbiofndipaaaaCt15
import Derived.Laws.MakeOwn
import Derived.Test.YtbfbiofndipaaaaCt3
import Derived.Deep.Fields
namespace Go.Proofs.Ytbfbiofndipaaaa
open Go.RowKit Go.Maps Go.Sort Go.Shelf

theorem u8_info5 : (Try.prog.info? 5).map (fun i => (i.zero, i.size, i.bytes)) = some (some (.int .u8 0), 1, 1) := by kernel_rfl
def made5 (c : Nat) (z : Value) : Array Value := madeCells #[z] c
theorem made5_toList (c : Nat) (z : Value) : (made5 c z).toList = List.replicate c z := by
  unfold made5 madeCells
  rw [Array.toList_map]
  have h : ∀ x ∈ (Array.range c).toList, (fun j => #[z][j % #[z].size]!) x = z := fun x _ => by simp [Nat.mod_one]
  rw [List.map_congr_left h, List.map_const']
  simp
theorem run_make5 (W : World) (c : Nat) (hc : c ≤ 100000) : (Instr.makeSlice 34 (.int .i64 (c : Int)) (.int .i64 (c : Int))).run Try.prog W = .ok (.slice (some ⟨W.heap.size, 0, none⟩) c c) (W.alloc (.cells (made5 c (.int .u8 0)) 5)) := by
  obtain ⟨i, hi, hz, h1, h2⟩ := info_parts u8_info5
  have h := run_make (P := Try.prog) W 34 5 i _ Try.underlying34 hi hz .i64 .i64 (c : Int) (c : Int) (by omega) (Int.le_refl _) (by rw [h2]; omega) (by omega)
  rw [h1] at h
  simpa [made5, Value.cells] using h
theorem sameBytes5 (w : World) (A A' : Option Addr) (n c m c' : Nat) (x y : List UInt8) (hx : Bs w A n c x) (hy : Bs w A' m c' y) :
    Calls Try.prog 25 #[.slice A n c, .slice A' m c'] w fun e w' => e = .returned (.bool (x == y)) ∧ w = w' := by
  have h1 := run_text (P := Try.prog) w 34 9 5 Try.underlying34 Try.underlying5 Try.underlying9 A n c x hx
  have h2 := run_text (P := Try.prog) w 34 9 5 Try.underlying34 Try.underlying5 Try.underlying9 A' m c' y hy
  go_enter Try.func25, Try.ntmps25
  go_wp2
  go_ret
  exact ⟨ret_bool (text_eq x y), rfl⟩
/-- A list of bytes of one's own, whole in block p. -/
structure Ob (w w' : World) (p : Nat) (l : List UInt8) : Prop where
  ext : Ext w w'
  le : w.heap.size ≤ p
  blk : w'.heap[p]? = some (.cells (bcells l).toArray 5 (0, 0))
theorem Ob.bs {w w' : World} {p : Nat} {l : List UInt8} (h : Ob w w' p l) (hl : l.length < 2 ^ 62) {n : Nat} (hn : l.length = n) : Bs w' (some ⟨p, 0, none⟩) n n l := by
  subst hn
  refine ⟨rfl, Nat.le_refl _, by omega, by rw [bcells_len]; omega, fun _ => ⟨p, 0, rfl, fun j u hu => ?_⟩⟩
  rw [cell_of_row w' _ _ _ _ _ h.blk, Nat.zero_add]
  simpa using hu
theorem Ob.lt {w w' : World} {p : Nat} {l : List UInt8} (h : Ob w w' p l) : p < w'.heap.size := (Array.getElem?_eq_some_iff.1 h.blk).1
theorem Ob.then {w w' w'' : World} {p : Nat} {l : List UInt8} (h : Ob w w' p l) (hx : Ext w' w'') : Ob w w'' p l := ⟨h.ext.trans hx, h.le, (hx.block p h.lt).trans h.blk⟩
theorem Ob.kp {w w' w'' : World} {p g m b : Nat} {l : List UInt8} (h : Ob w w' p l) (hk : Kp g m b w' w'') (hg : w.heap.size ≤ g) (hm : w.heap.size ≤ m) (hb : w.heap.size ≤ b) (h1 : p ≠ g) (h2 : p ≠ m) (h3 : p ≠ b) : Ob w w'' p l :=
  ⟨h.ext.kp hk hg hm hb, h.le, (hk.block p h.lt h1 h2 h3).trans h.blk⟩
theorem Ob.set {w w' : World} {p : Nat} {l : List UInt8} (h : Ob w w' p l) (k : Nat) (x : UInt8) : Ob w (w'.setCell ⟨p, k, none⟩ (.int .u8 (x.toNat : Int))) p (l.set k x) := by
  refine ⟨Below.setCell h.ext h.le _, h.le, ?_⟩
  have := heap_setCell_same w' p k _ _ (.int .u8 (x.toNat : Int)) h.blk
  rw [this, dk_bcells_set]
  simp
theorem Ob.cell {w w' : World} {p : Nat} {l : List UInt8} (h : Ob w w' p l) {k : Nat} (hk : k < l.length) : w'.cell? ⟨p, k, none⟩ = some (.int .u8 ((Gf.get l k).toNat : Int)) := by
  rw [cell_of_row w' _ _ _ _ _ h.blk]
  have := dk_bcells_get (l := l) hk
  simpa using this
theorem Ob.fz {w w' : World} {p : Nat} {l : List UInt8} (h : Ob w w' p l) (k : Nat) : w'.frozen? ⟨p, k, none⟩ = false := frozen_of_row w' _ _ _ _ h.blk
def rep (b : UInt8) : List UInt8 := List.replicate 64 b
theorem rep_len (b : UInt8) : (rep b).length = 64 := List.length_replicate ..
/-- k bytes are laid. -/
def laid (b : UInt8) (k : Nat) : List UInt8 := List.replicate k b ++ List.replicate (64 - k) 0
theorem laid_len (b : UInt8) {k : Nat} (hk : k ≤ 64) : (laid b k).length = 64 := by simp [laid]; omega
theorem laid_set (b : UInt8) {k : Nat} (hk : k < 64) : (laid b k).set k b = laid b (k + 1) := by
  apply List.ext_getElem?
  intro i
  rw [List.getElem?_set, laid_len b (by omega)]
  by_cases e : k = i
  · subst e
    rw [if_pos rfl, if_pos hk]
    unfold laid
    rw [List.getElem?_append_left (by simp), List.getElem?_replicate, if_pos (by omega)]
  · rw [if_neg e]
    unfold laid
    by_cases h : i < k
    · rw [List.getElem?_append_left (by simpa using h), List.getElem?_append_left (by simp; omega), List.getElem?_replicate, List.getElem?_replicate, if_pos h, if_pos (by omega)]
    · rw [List.getElem?_append_right (by simp; omega), List.getElem?_append_right (by simp; omega)]
      simp only [List.length_replicate, List.getElem?_replicate]
      by_cases h2 : i < 64
      · rw [if_pos (by omega), if_pos (by omega)]
      · rw [if_neg (by omega), if_neg (by omega)]
theorem laid_all (b : UInt8) : laid b 64 = rep b := by simp [laid, rep]
theorem laid_none (b : UInt8) : (made5 64 (.int .u8 0)) = (bcells (laid b 0)).toArray := by
  refine Array.ext' ?_
  rw [made5_toList]
  simp [laid, bcells]
set_option maxRecDepth 100000 in
set_option maxHeartbeats 1000000 in
theorem of_any5 (w : World) (b : UInt8) :
    Calls Try.prog 14 #[.int .u8 (b.toNat : Int)] w fun e w' => ∃ p, e = .returned (.slice (some ⟨p, 0, none⟩) 64 64) ∧ Ob w w' p (rep b) := by
  have hmk : ∀ W : World, (Instr.makeSlice 34 (.int .i64 64) (.int .i64 64)).run Try.prog W = .ok (.slice (some ⟨W.heap.size, 0, none⟩) 64 64) (W.alloc (.cells (made5 64 (.int .u8 0)) 5)) := fun W => run_make5 W 64 (by omega)
  go_enter Try.func14, Try.ntmps14
  go_wp2_with (fail)
  have h0 : Ob w (w.alloc (.cells (made5 64 (.int .u8 0)) 5)) w.heap.size (laid b 0) := ⟨Ext.alloc _ _, Nat.le_refl _, by rw [← laid_none]; exact heap_alloc_new w _⟩
  have H0 := Lib.hid h0
  clear hmk h0
  go_loopw [8] (fun i wr => ∃ k : Nat, k ≤ 64 ∧ i = .int .i64 k ∧ Hid (Ob w wr w.heap.size (laid b k))) (fun i _ => 64 - (intOf i).toNat)
  case atStart => exact ⟨0, by omega, rfl, H0⟩
  case round =>
    obtain ⟨k, hk, rfl, HO⟩ := hrel
    by_cases hlt : k < 64
    · have i1 : (k : Int) < 64 := by omega
      have hc := HO.out.cell (k := k) (by rw [laid_len b (by omega)]; exact hlt)
      have hf := HO.out.fz k
      have hs := HO.out.set k b
      rw [laid_set b hlt] at hs
      have HS := Lib.hid hs
      clear hs
      go_wp2_with (fail)
      exact ⟨⟨k + 1, by omega, by go_num, HS⟩, by simp [intOf]; omega⟩
    · have ek : k = 64 := by omega
      subst ek
      rw [laid_all] at HO
      go_wp2_with (fail)
      go_ret
      exact ⟨_, rfl, HO.out⟩
/-- Has a sector that byte, all over? -/
def readsB (d : Disks.D) (i : Int) (b : UInt8) : Bool := if Disks.there d i = 0 then Disks.sec d i.toNat == rep b else false
set_option maxRecDepth 100000 in
set_option maxHeartbeats 1000000 in
theorem reads_any (w : World) (g m b N : Nat) (d : Disks.D) (h : Ds w g m b N d) (i : Int) (x : UInt8) {z : Bool} (hz : readsB d i x = z) :
    Calls Try.prog 18 #[dptr g, .int .i64 i, .int .u8 (x.toNat : Int)] w fun e w' => e = .returned (.bool z) ∧ Ext w w' := by
  by_cases h0 : Disks.there d i = 0
  · have hr := h.readOk i h0 rfl
    unfold readsB at hz
    rw [if_pos h0] at hz
    obtain ⟨s, hs⟩ : ∃ s, Disks.sec d i.toNat = s := ⟨_, rfl⟩
    rw [hs] at hr hz
    have hof := fun W => of_any5 W x
    have HZ := Lib.hid hz
    clear h h0 hs hz
    go_enter Try.func18, Try.ntmps18
    go_wp2_with (fail)
    with_reducible refine hr.mono ?_
    rintro e w1 ⟨k, rfl, s1⟩
    have S1 := Lib.hid s1
    clear s1 hr
    go_wp2_with (fail)
    with_reducible refine (hof _).mono ?_
    rintro e w2 ⟨p, rfl, o2⟩
    have hsb := sameBytes5 w2 _ _ _ _ _ _ _ _ (S1.out.then o2.ext).bs (o2.bs (by rw [rep_len]; omega) (rep_len x))
    rw [HZ.out] at hsb
    have X2 := Lib.hid (S1.out.ext.trans o2.ext)
    clear o2 hof
    go_wp2_with (fail)
    with_reducible refine hsb.mono ?_
    rintro e w3 ⟨rfl, rfl⟩
    go_wp2_with (fail)
    go_ret
    exact ⟨rfl, X2.out⟩
  · have hr := h.readNo i rfl h0
    unfold readsB at hz
    rw [if_neg h0] at hz
    subst hz
    obtain ⟨t, ht⟩ : ∃ t, Disks.there d i = t := ⟨_, rfl⟩
    rw [ht] at hr h0
    clear h ht
    go_enter Try.func18, Try.ntmps18
    go_wp2_with (fail)
    with_reducible refine hr.mono ?_
    rintro e w1 ⟨rfl, x1⟩
    go_wp2_with (fail)
    go_ret
    exact ⟨rfl, x1⟩
end Go.Proofs.Ytbfbiofndipaaaa
namespace Go.Proofs.Ytbfbiofndipaaaa
open Go.ChangeShapes Go.WideShapes Go.ChangeAt Go.RowKit

/-- An op. -/
structure Op05 where
  kind : Int
  i : Int
  at_ : Int
  n : Int
  b : UInt8
  A : Option Addr
  m : Nat
  c : Nat
  l : List Bool
instance : Inhabited Op05 := ⟨⟨0, 0, 0, 0, 0, none, 0, 0, []⟩⟩
/-- What is told of an op's numbers. -/
structure Ok05 (o : Op05) : Prop where
  kind : (Lit.int .i64 o.kind).wf = true
  i : (Lit.int .i64 o.i).wf = true
  at_ : (Lit.int .i64 o.at_).wf = true
  n : (Lit.int .i64 o.n).wf = true
/-- The six cells of an op. -/
abbrev ocells (o : Op05) : List Value := [.int .i64 o.kind, .int .i64 o.i, .int .i64 o.at_, .int .i64 o.n, .int .u8 (o.b.toNat : Int), .slice o.A o.m o.c]
abbrev oval (o : Op05) : Value := .agg (ocells o).toArray
/-- A slice of ops. -/
structure Os05 (w : World) (A : Option Addr) (n c : Nat) (o : Nat → Op05) : Prop where
  le : n ≤ c
  max : c ≤ 9223372036854775807
  at_ : ∀ k, k < n → ∃ b off, A = some ⟨b, off, none⟩ ∧ w.cell? ⟨b, off + k * 6, none⟩ = some (.int .i64 (o k).kind) ∧ w.cell? ⟨b, off + k * 6 + 1, none⟩ = some (.int .i64 (o k).i) ∧ w.cell? ⟨b, off + k * 6 + 2, none⟩ = some (.int .i64 (o k).at_) ∧ w.cell? ⟨b, off + k * 6 + 3, none⟩ = some (.int .i64 (o k).n) ∧ w.cell? ⟨b, off + k * 6 + 4, none⟩ = some (.int .u8 ((o k).b.toNat : Int)) ∧ w.cell? ⟨b, off + k * 6 + 5, none⟩ = some (.slice (o k).A (o k).m (o k).c) ∧ Bls w (o k).A (o k).m (o k).c (o k).l ∧ Ok05 (o k)
theorem Os05.ext {w w' : World} {A : Option Addr} {n c : Nat} {o : Nat → Op05} (h : Os05 w A n c o) (hx : Ext w w') : Os05 w' A n c o :=
  ⟨h.le, h.max, fun k hk => by
    obtain ⟨b, off, e, c0, c1, c2, c3, c4, c5, c6, c7⟩ := h.at_ k hk
    exact ⟨b, off, e, hx.cell c0, hx.cell c1, hx.cell c2, hx.cell c3, hx.cell c4, hx.cell c5, c6.ext hx, c7⟩⟩
set_option maxRecDepth 100000 in
set_option maxHeartbeats 1000000 in
theorem os05_open {H : Type} {enc : TypeId × Value → H} {W : World} {r : Reach} {b0 : Nat} {v : Value} {d : DataW H} {p : List MemPlace} (hv : Value.okWide Try.prog W r b0 22 v) (h : DataW.Trod enc Try.prog W 0 (fun _ => true) true 22 v d p) : ∃ A n c o, v = .slice A n c ∧ Os05 W A n c o := by
  obtain ⟨A, len, cap, rfl⟩ := okWide_slice Try.underlying22 hv
  have hce : Try.prog.cellsOf 31 = 6 := by kernel_rfl
  obtain ⟨fuel, hf⟩ := h
  rcases Go.Deep.open_slice Try.underlying22 hf with ⟨hcs, _⟩ | ⟨x, l, c, m, n, D, Pl, hcs, _, hl, hm, hmm, _, hx⟩
  · simp [Value.cells] at hcs
    obtain ⟨rfl, rfl, rfl⟩ := hcs
    exact ⟨none, 0, 0, fun _ => default, rfl, Nat.le_refl _, by omega, fun k hk => absurd hk (Nat.not_lt_zero _)⟩
  · simp [Value.cells] at hcs
    obtain ⟨rfl, rfl, rfl⟩ := hcs
    have cellsAt : ∀ k, k < len → ∃ q : Op05, W.cell? (x.add (k * 6)) = some (.int .i64 q.kind) ∧ W.cell? (x.add (k * 6 + 1)) = some (.int .i64 q.i) ∧ W.cell? (x.add (k * 6 + 2)) = some (.int .i64 q.at_) ∧ W.cell? (x.add (k * 6 + 3)) = some (.int .i64 q.n) ∧ W.cell? (x.add (k * 6 + 4)) = some (.int .u8 (q.b.toNat : Int)) ∧ W.cell? (x.add (k * 6 + 5)) = some (.slice q.A q.m q.c) ∧ Bls W q.A q.m q.c q.l ∧ Ok05 q := by
      intro k hk
      obtain ⟨cs', h1, h2⟩ := hx k (by rw [hmm]; simp; omega)
      obtain ⟨_, hlen, hcell⟩ := World.cells?_some h1
      rw [hce] at hlen
      match cs', hlen with
      | [c0, c1, c2, c3, c4, c5], _ =>
        obtain ⟨xs, n', _, _, _, hxl, hg⟩ := DataW.trod_struct Try.underlying31 h2
        have fld : ∀ (i : Nat) (f : Field) (c : Value), f.offset = i → Try.prog.cellsOf f.type = 1 → ([c0, c1, c2, c3, c4, c5] : List Value)[i]? = some c → DataW.trod enc Try.prog W 0 (fun _ => true) true n' f.type ((([c0, c1, c2, c3, c4, c5] : List Value).drop f.offset).take (Try.prog.cellsOf f.type)) = xs[i]? → i < 6 → ∃ y, DataW.trod enc Try.prog W 0 (fun _ => true) true n' f.type [c] = some y := by
          intro i f c ho hc hi hy h5
          have hx5 : xs.length = 6 := hxl
          rw [List.getElem?_eq_getElem (by omega), ho, hc] at hy
          have hl : i < ([c0, c1, c2, c3, c4, c5] : List Value).length := h5
          rw [List.drop_eq_getElem_cons hl] at hy
          rw [List.getElem?_eq_getElem hl] at hi
          injection hi with hi
          rw [hi] at hy
          exact ⟨_, hy⟩
        obtain ⟨y0, k0⟩ := fld 0 _ c0 rfl (by kernel_rfl) rfl (hg 0 _ rfl) (by omega)
        obtain ⟨y1, k1⟩ := fld 1 _ c1 rfl (by kernel_rfl) rfl (hg 1 _ rfl) (by omega)
        obtain ⟨y2, k2⟩ := fld 2 _ c2 rfl (by kernel_rfl) rfl (hg 2 _ rfl) (by omega)
        obtain ⟨y3, k3⟩ := fld 3 _ c3 rfl (by kernel_rfl) rfl (hg 3 _ rfl) (by omega)
        obtain ⟨y4, k4⟩ := fld 4 _ c4 rfl (by kernel_rfl) rfl (hg 4 _ rfl) (by omega)
        obtain ⟨y5, k5⟩ := fld 5 _ c5 rfl (by kernel_rfl) rfl (hg 5 _ rfl) (by omega)
        obtain ⟨z0, e0, _, u0⟩ := DataW.trod_int Try.underlying3 k0
        obtain ⟨z1, e1, _, u1⟩ := DataW.trod_int Try.underlying3 k1
        obtain ⟨z2, e2, _, u2⟩ := DataW.trod_int Try.underlying3 k2
        obtain ⟨z3, e3, _, u3⟩ := DataW.trod_int Try.underlying3 k3
        obtain ⟨z4, e4, _, u4⟩ := DataW.trod_int Try.underlying5 k4
        injection e0 with e0
        injection e1 with e1
        injection e2 with e2
        injection e3 with e3
        injection e4 with e4
        subst e0 e1 e2 e3 e4
        obtain ⟨zb, rfl⟩ := wf_u8 u4
        have hs : ∃ A n c, c5 = .slice A n c := by
          rcases Go.Deep.open_slice Try.underlying29 k5 with ⟨hcs, _⟩ | ⟨x, l, c, _, _, _, _, hcs, _⟩
          · injection hcs with hcs; exact ⟨_, _, _, hcs⟩
          · injection hcs with hcs; exact ⟨_, _, _, hcs⟩
        obtain ⟨B, q, e, rfl⟩ := hs
        obtain ⟨l, hl⟩ := Bls.of_trod (H := H) (enc := enc) (d := y5.1) (p := y5.2) Try.underlying29 Try.underlying4 (by kernel_rfl) ⟨n', by simpa [Value.cells] using k5⟩
        have j0 := hcell 0 (by rw [hce]; omega)
        have j1 := hcell 1 (by rw [hce]; omega)
        have j2 := hcell 2 (by rw [hce]; omega)
        have j3 := hcell 3 (by rw [hce]; omega)
        have j4 := hcell 4 (by rw [hce]; omega)
        have j5 := hcell 5 (by rw [hce]; omega)
        rw [hce, Go.Deep.add_add] at j0 j1 j2 j3 j4 j5
        exact ⟨⟨z0, z1, z2, z3, zb, B, q, e, l⟩, by simpa using j0, by simpa using j1, by simpa using j2, by simpa using j3, by simpa using j4, by simpa using j5, hl, ⟨u0, u1, u2, u3⟩⟩
    have each : ∀ k, k < len → ∃ q : Op05, ∃ b off, x = ⟨b, off, none⟩ ∧ W.cell? ⟨b, off + k * 6, none⟩ = some (.int .i64 q.kind) ∧ W.cell? ⟨b, off + k * 6 + 1, none⟩ = some (.int .i64 q.i) ∧ W.cell? ⟨b, off + k * 6 + 2, none⟩ = some (.int .i64 q.at_) ∧ W.cell? ⟨b, off + k * 6 + 3, none⟩ = some (.int .i64 q.n) ∧ W.cell? ⟨b, off + k * 6 + 4, none⟩ = some (.int .u8 (q.b.toNat : Int)) ∧ W.cell? ⟨b, off + k * 6 + 5, none⟩ = some (.slice q.A q.m q.c) ∧ Bls W q.A q.m q.c q.l ∧ Ok05 q := by
      intro k hk
      obtain ⟨q0, s0, _⟩ := cellsAt 0 (by omega)
      rw [Nat.zero_mul] at s0
      have hsp := cells_spot s0
      obtain ⟨q, r0, r1, r2, r3, r4, r5, r6, r7⟩ := cellsAt k hk
      rw [hsp, addr_add] at r0 r1 r2 r3 r4 r5
      exact ⟨q, x.block, x.off, hsp, r0, by simpa [Nat.add_assoc] using r1, by simpa [Nat.add_assoc] using r2, by simpa [Nat.add_assoc] using r3, by simpa [Nat.add_assoc] using r4, by simpa [Nat.add_assoc] using r5, r6, r7⟩
    obtain ⟨f, hf⟩ := Go.Deep.choose_lt each
    refine ⟨some x, len, cap, f, rfl, hl, by unfold maxLen at hm; omega, fun k hk => ?_⟩
    obtain ⟨b, off, e1, e2⟩ := hf k hk
    exact ⟨b, off, by rw [e1], e2⟩
end Go.Proofs.Ytbfbiofndipaaaa
