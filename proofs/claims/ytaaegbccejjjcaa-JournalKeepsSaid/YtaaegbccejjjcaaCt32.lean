/- Several texts in one: A journal and a state beside each other: what is written into the state's box leaves the journal alone. Lives of chapter 24 that came in as an argument; the contracts of the laws' opened, and of do behind the end. -/
import Derived.Test.YtaaegbccejjjcaaCt30
import Derived.Test.YtaaegbccejjjcaaCt31
import Derived.Test.YtaaegbccejjjcaaCt17
namespace Go.Proofs.Ytaaegbccejjjcaa
open Go.RowKit Go.Maps Go.Sort Go.Shelf
set_option linter.unusedSimpArgs false

theorem wp_allocR {P : Program} {Q : Exit → Act → World → Prop} {a : Act} {w w' : World} {op : Oper} {K : Act → World → Prop} (t : TypeId) (ho : op.op = .alloc t) (v : Value)
    (hr : (Instr.alloc t true (.tuple #[])).run P w = .ok v w') {a' : Act} (ha : a.put op.dst v = a') (h : K a' w') : op.wp P a w K Q := by
  unfold Oper.wp execOp
  simp only [ho, Sem.run_bind, hr, Result.andThen_ok, Sem.run_pure]
  subst ha
  exact h
theorem Ch.turn {Z Y : Nat → Prop} {w wx W : World} (hx : Ch Z w wx) (h : Ch Y wx W) (hy : ∀ q, q < w.heap.size → Y q → Z q) : Ch Z w W :=
  ⟨h.os.trans hx.os, h.tape.trans hx.tape, h.output.trans hx.output, Nat.le_trans hx.size h.size, fun q hq hz => (h.block q (Nat.lt_of_lt_of_le hq hx.size) (fun y => hz (hy q hq y))).trans (hx.block q hq hz)⟩
theorem Sz.turn {Z Y : Nat → Prop} {w wx : World} {v : Value} {s : Jo.St} (h : Sz Z w v s) (hx : Ch Z w wx) (hy : ∀ q, q < w.heap.size → Y q → Z q) : Sz Y wx v s := by
  obtain ⟨A, c, B, e, h1, h2, h3⟩ := h
  obtain ⟨a1, a2, a3, cs, a4, a5, a6⟩ := h3
  refine ⟨A, c, B, e, h1, fun _ k => h2 _ (hx.turn k hy), a1, a2, a3, cs, a4, fun W' k' => a5 W' (hx.turn k' hy), fun i hi => ?_⟩
  obtain ⟨D, m, d, e1, e2⟩ := a6 i hi
  exact ⟨D, m, d, e1, fun _ k => e2 _ (hx.turn k hy)⟩
/-- Bytes lie in no state's box. -/
theorem Bs.off {w : World} {A : Option Addr} {n c : Nat} {l : List UInt8} (h : Bs w A n c l) {x : Nat} {hh : Int} {D : Option Addr} {dn dd : Nat} {E : Option Addr} {en ee : Nat} (s : Sx w x hh (.slice D dn dd) (.slice E en ee)) : Cold (fun q => q = x) w A n := fun hn q hq => by
  refine ⟨h.block hn hq, fun hx => ?_⟩
  have hx : q = x := hx
  obtain ⟨b, off, e, hc⟩ := h.rd.2 hn
  rw [e] at hq
  injection hq with hq
  have hq : b = q := hq
  have h0 := hc 0 _ (by rw [dk_bcells_get (by rw [h.len]; exact hn)])
  rw [hq, hx, cell_of_row w _ _ _ _ _ s.blk] at h0
  match off, h0 with
  | 0, h0 => injection h0 with h0; injection h0 with h1 h2; cases h1
  | 1, h0 => injection h0 with h0; cases h0
  | 2, h0 => injection h0 with h0; cases h0
  | k + 3, h0 => simp [sc] at h0
theorem Lv.box {W w w' : World} {p g m b N : Nat} {o : Option Nat} {j : Jo.J} {d : Disks.D} (h : Lv W w p g m b N o j d) {x : Nat} {hh : Int} {D : Option Addr} {dn dd : Nat} {E : Option Addr} {en ee : Nat} (s : Sx w x hh (.slice D dn dd) (.slice E en ee)) (hx : ¬ Hot p g m b o x) (hw : W.heap.size ≤ x) (k : Ch (fun q => q = x) w w') : Lv W w' p g m b N o j d := by
  obtain ⟨A, c, v, jv, hb, hc, ho, cs, ow, rows⟩ := h.jn.jv
  obtain ⟨l1, l2, l3⟩ := h.jn.ds.lts
  have hne : ∀ q, Hot p g m b o q → q ≠ x := fun q z e => hx (e ▸ z)
  refine ⟨⟨h.jn.ds.blocks k.size (k.block g l1 (hne g (.inr (.inl rfl)))) (k.block m l2 (hne m (.inr (.inr (.inl rfl))))) (k.block b l3 (hne b (.inr (.inr (.inr (.inl rfl)))))), ⟨A, c, v, (jv.ch k (hne p (.inl rfl))).blk, hb.ch k (hb.off s), hc.ch k.size, ho, cs, own_ch ow k (fun q hq => hne q (.inr (.inr (.inr (.inr (ho ▸ hq)))))), fun i hi => ?_⟩, h.jn.sep⟩, h.at_, k.ext h.ext (fun q hq => by rw [show q = x from hq]; exact hw), h.lo⟩
  obtain ⟨A1, n1, c1, e1, e2, e3⟩ := rows i hi
  exact ⟨A1, n1, c1, e1, e2.ch k (e2.off s), e3.ch k.size⟩
end Go.Proofs.Ytaaegbccejjjcaa
namespace Go.Proofs.Ytaaegbccejjjcaa
open Go.ChangeShapes Go.WideShapes Go.ChangeAt Go.RowKit Go.Maps Go.Sort Go.Shelf
set_option linter.unusedSimpArgs false

/-- A life. -/
structure Lf24 where
  A : Option Addr
  n : Nat
  c : Nat
  o : Nat → Op24
  arm : UInt8
  B : Option Addr
  m : Nat
  e : Nat
  keeps : List Bool
  again : UInt8
instance : Inhabited Lf24 := ⟨⟨none, 0, 0, fun _ => default, 0, none, 0, 0, [], 0⟩⟩
abbrev lcells (f : Lf24) : List Value := [.slice f.A f.n f.c, .int .u8 (f.arm.toNat : Int), .slice f.B f.m f.e, .int .u8 (f.again.toNat : Int)]
abbrev lval (f : Lf24) : Value := .agg (lcells f).toArray
/-- What a life leads to. -/
structure Lo24 (w : World) (f : Lf24) : Prop where
  ops : Os24 w f.A f.n f.c f.o
  keeps : Bls w f.B f.m f.e f.keeps
theorem Lo24.ext {w w' : World} {f : Lf24} (h : Lo24 w f) (hx : Ext w w') : Lo24 w' f := ⟨h.ops.ext hx, h.keeps.ext hx⟩
/-- A slice of lives. -/
structure Ls24 (w : World) (A : Option Addr) (n c : Nat) (f : Nat → Lf24) : Prop where
  le : n ≤ c
  max : c ≤ 9223372036854775807
  at_ : ∀ k, k < n → ∃ b off, A = some ⟨b, off, none⟩ ∧ w.cell? ⟨b, off + k * 4, none⟩ = some (.slice (f k).A (f k).n (f k).c) ∧ w.cell? ⟨b, off + k * 4 + 1, none⟩ = some (.int .u8 ((f k).arm.toNat : Int)) ∧ w.cell? ⟨b, off + k * 4 + 2, none⟩ = some (.slice (f k).B (f k).m (f k).e) ∧ w.cell? ⟨b, off + k * 4 + 3, none⟩ = some (.int .u8 ((f k).again.toNat : Int)) ∧ Lo24 w (f k)
theorem Ls24.ext {w w' : World} {A : Option Addr} {n c : Nat} {f : Nat → Lf24} (h : Ls24 w A n c f) (hx : Ext w w') : Ls24 w' A n c f :=
  ⟨h.le, h.max, fun k hk => by
    obtain ⟨b, off, e, c0, c1, c2, c3, c4⟩ := h.at_ k hk
    exact ⟨b, off, e, hx.cell c0, hx.cell c1, hx.cell c2, hx.cell c3, c4.ext hx⟩⟩
set_option maxRecDepth 100000 in
set_option maxHeartbeats 1000000 in
theorem ls24_open {H : Type} {enc : TypeId × Value → H} {W : World} {r : Reach} {b0 : Nat} {v : Value} {d : DataW H} {p : List MemPlace} (hv : Value.okWide Try.prog W r b0 54 v) (h : DataW.Trod enc Try.prog W 0 (fun _ => true) true 54 v d p) : ∃ A n c f, v = .slice A n c ∧ Ls24 W A n c f := by
  obtain ⟨A, len, cap, rfl⟩ := okWide_slice Try.underlying54 hv
  have hce : Try.prog.cellsOf 57 = 4 := by kernel_rfl
  obtain ⟨fuel, hf⟩ := h
  rcases Go.Deep.open_slice Try.underlying54 hf with ⟨hcs, _⟩ | ⟨x, l, c, m, n, D, Pl, hcs, _, hl, hm, hmm, _, hx⟩
  · simp [Value.cells] at hcs
    obtain ⟨rfl, rfl, rfl⟩ := hcs
    exact ⟨none, 0, 0, fun _ => default, rfl, Nat.le_refl _, by omega, fun k hk => absurd hk (Nat.not_lt_zero _)⟩
  · simp [Value.cells] at hcs
    obtain ⟨rfl, rfl, rfl⟩ := hcs
    have cellsAt : ∀ k, k < len → ∃ q : Lf24, W.cell? (x.add (k * 4)) = some (.slice q.A q.n q.c) ∧ W.cell? (x.add (k * 4 + 1)) = some (.int .u8 (q.arm.toNat : Int)) ∧ W.cell? (x.add (k * 4 + 2)) = some (.slice q.B q.m q.e) ∧ W.cell? (x.add (k * 4 + 3)) = some (.int .u8 (q.again.toNat : Int)) ∧ Lo24 W q := by
      intro k hk
      obtain ⟨cs', h1, h2⟩ := hx k (by rw [hmm]; simp; omega)
      obtain ⟨_, hlen, hcell⟩ := World.cells?_some h1
      rw [hce] at hlen
      match cs', hlen with
      | [c0, c1, c2, c3], _ =>
        obtain ⟨xs, n', _, _, _, hxl, hg⟩ := DataW.trod_struct Try.underlying57 h2
        have fld : ∀ (i : Nat) (f : Field) (c : Value), f.offset = i → Try.prog.cellsOf f.type = 1 → ([c0, c1, c2, c3] : List Value)[i]? = some c → DataW.trod enc Try.prog W 0 (fun _ => true) true n' f.type ((([c0, c1, c2, c3] : List Value).drop f.offset).take (Try.prog.cellsOf f.type)) = xs[i]? → i < 4 → ∃ y, DataW.trod enc Try.prog W 0 (fun _ => true) true n' f.type [c] = some y := by
          intro i f c ho hc hi hy h5
          have hx5 : xs.length = 4 := hxl
          rw [List.getElem?_eq_getElem (by omega), ho, hc] at hy
          have hl : i < ([c0, c1, c2, c3] : List Value).length := h5
          rw [List.drop_eq_getElem_cons hl] at hy
          rw [List.getElem?_eq_getElem hl] at hi
          injection hi with hi
          rw [hi] at hy
          exact ⟨_, hy⟩
        obtain ⟨y0, k0⟩ := fld 0 _ c0 rfl (by kernel_rfl) rfl (hg 0 _ rfl) (by omega)
        obtain ⟨y1, k1⟩ := fld 1 _ c1 rfl (by kernel_rfl) rfl (hg 1 _ rfl) (by omega)
        obtain ⟨y2, k2⟩ := fld 2 _ c2 rfl (by kernel_rfl) rfl (hg 2 _ rfl) (by omega)
        obtain ⟨y3, k3⟩ := fld 3 _ c3 rfl (by kernel_rfl) rfl (hg 3 _ rfl) (by omega)
        obtain ⟨z1, e1, _, u1⟩ := DataW.trod_int Try.underlying5 k1
        obtain ⟨z3, e3, _, u3⟩ := DataW.trod_int Try.underlying5 k3
        injection e1 with e1
        injection e3 with e3
        subst e1 e3
        obtain ⟨a1, rfl⟩ := wf_u8 u1
        obtain ⟨a3, rfl⟩ := wf_u8 u3
        have hs0 : ∃ A n c, c0 = .slice A n c := by
          rcases Go.Deep.open_slice Try.underlying22 k0 with ⟨hcs, _⟩ | ⟨x, l, c, _, _, _, _, hcs, _⟩
          · injection hcs with hcs; exact ⟨_, _, _, hcs⟩
          · injection hcs with hcs; exact ⟨_, _, _, hcs⟩
        obtain ⟨B0, q0, e0, rfl⟩ := hs0
        obtain ⟨os, hos⟩ := os24_of (H := H) (enc := enc) (d := y0.1) (p := y0.2) (W := W) (A := B0) (len := q0) (cap := e0) ⟨n', by simpa [Value.cells] using k0⟩
        have hs2 : ∃ A n c, c2 = .slice A n c := by
          rcases Go.Deep.open_slice Try.underlying55 k2 with ⟨hcs, _⟩ | ⟨x, l, c, _, _, _, _, hcs, _⟩
          · injection hcs with hcs; exact ⟨_, _, _, hcs⟩
          · injection hcs with hcs; exact ⟨_, _, _, hcs⟩
        obtain ⟨B2, q2, e2, rfl⟩ := hs2
        obtain ⟨lb, hlb⟩ := Bls.of_trod (H := H) (enc := enc) (d := y2.1) (p := y2.2) Try.underlying55 Try.underlying4 (by kernel_rfl) ⟨n', by simpa [Value.cells] using k2⟩
        have j0 := hcell 0 (by rw [hce]; omega)
        have j1 := hcell 1 (by rw [hce]; omega)
        have j2 := hcell 2 (by rw [hce]; omega)
        have j3 := hcell 3 (by rw [hce]; omega)
        rw [hce, Go.Deep.add_add] at j0 j1 j2 j3
        exact ⟨⟨B0, q0, e0, os, a1, B2, q2, e2, lb, a3⟩, by simpa using j0, by simpa using j1, by simpa using j2, by simpa using j3, hos, hlb⟩
    have each : ∀ k, k < len → ∃ q : Lf24, ∃ b off, x = ⟨b, off, none⟩ ∧ W.cell? ⟨b, off + k * 4, none⟩ = some (.slice q.A q.n q.c) ∧ W.cell? ⟨b, off + k * 4 + 1, none⟩ = some (.int .u8 (q.arm.toNat : Int)) ∧ W.cell? ⟨b, off + k * 4 + 2, none⟩ = some (.slice q.B q.m q.e) ∧ W.cell? ⟨b, off + k * 4 + 3, none⟩ = some (.int .u8 (q.again.toNat : Int)) ∧ Lo24 W q := by
      intro k hk
      obtain ⟨q0, s0, _⟩ := cellsAt 0 (by omega)
      rw [Nat.zero_mul] at s0
      have hsp := cells_spot s0
      obtain ⟨q, r0, r1, r2, r3, r4⟩ := cellsAt k hk
      rw [hsp, addr_add] at r0 r1 r2 r3
      exact ⟨q, x.block, x.off, hsp, r0, by simpa [Nat.add_assoc] using r1, by simpa [Nat.add_assoc] using r2, by simpa [Nat.add_assoc] using r3, r4⟩
    obtain ⟨f, hf⟩ := Go.Deep.choose_lt each
    refine ⟨some x, len, cap, f, rfl, hl, by unfold maxLen at hm; omega, fun k hk => ?_⟩
    obtain ⟨b, off, e1, e2⟩ := hf k hk
    exact ⟨b, off, by rw [e1], e2⟩
theorem life_under : ∃ d, Try.prog.underlying 57 = some d ∧ d.isRow = true := ⟨_, Try.underlying57, rfl⟩
theorem life_info : (Try.prog.info? 57).map (·.size) = some 4 := by kernel_rfl
set_option maxRecDepth 100000 in
/-- Number k of the lives is loaded. -/
theorem Ls24.load {w : World} {A : Option Addr} {n c : Nat} {f : Nat → Lf24} (h : Ls24 w A n c f) {k : Nat} (hk : k < n) : ∃ b off, A = some ⟨b, off, none⟩ ∧ (Instr.loadAt 57 (.pointer (some ⟨b, off + k * 4, none⟩))).run Try.prog w = .ok (lval (f k)) w := by
  obtain ⟨b, off, e, c0, c1, c2, c3, _⟩ := h.at_ k hk
  refine ⟨b, off, e, ?_⟩
  obtain ⟨d, hd, hr⟩ := life_under
  have hi : (Try.prog.info? 57).map (·.size) = some (lcells (f k)).length := life_info
  have hrg : w.rangeAt b (off + k * 4) (lcells (f k)) := fun j v hv => by
    match j with
    | 0 => injection hv with hv; rw [← hv]; exact c0
    | 1 => injection hv with hv; rw [← hv]; exact c1
    | 2 => injection hv with hv; rw [← hv]; exact c2
    | 3 => injection hv with hv; rw [← hv]; exact c3
    | j + 4 => cases hv
  simp only [Instr.loadAt, Instr.sureAddr, Sem.run_bind, Sem.run_pure, Result.andThen_ok, run_loadVar_mid w b (off + k * 4) 57 (lcells (f k)) d hrg hd hr hi]

/-- The disk's blocks. -/
def Dz (g m b : Nat) (q : Nat) : Prop := q = g ∨ q = m ∨ q = b
theorem Ch.dz {g m b : Nat} {w w' : World} (k : Kp g m b w w') : Ch (Dz g m b) w w' := Ch.kp k ⟨.inl rfl, .inr (.inl rfl), .inr (.inr rfl)⟩
theorem dz_hot {p g m b : Nat} {o : Option Nat} (q : Nat) (h : Dz g m b q) : Hot p g m b o q := by
  rcases h with h | h | h
  · exact .inr (.inl h)
  · exact .inr (.inr (.inl h))
  · exact .inr (.inr (.inr (.inl h)))
/-- A disk is opened, which may fail in being opened, once. -/
def GivesOp (W w : World) (g m b N : Nat) (j : Jo.J) (e : Ending) (w' : World) : Prop :=
  ∃ p o d N', e = .returned (.tuple #[.pointer (some ⟨p, 0, none⟩), .int .i64 0]) ∧ Lv W w' p g m b N' o j d ∧ N' ≤ N ∧ Ch (Dz g m b) w w' ∧ w.heap.size ≤ p ∧ ∀ q, o = some q → w.heap.size ≤ q
set_option maxRecDepth 100000 in
set_option maxHeartbeats 2000000 in
theorem opened_any (W w : World) (g m b N : Nat) (d : Disks.D) (j : Jo.J) (h : Dl W w g m b N d) (hat : Jo.At d j) (f : Lf24) (hk : Bls W f.B f.m f.e f.keeps) :
    Calls Try.prog 26 #[dptr g, lval f] w (GivesOp W w g m b N j) := by
  have H := Lib.hid h
  have HA := Lib.hid hat
  have HK := Lib.hid hk
  clear h hat hk
  obtain ⟨t, ht⟩ : ∃ t, w.heap.size = t := ⟨_, rfl⟩
  obtain ⟨w1, hw1⟩ : ∃ w1, w.alloc (.cells #[.slice f.A f.n f.c, .int .u8 (f.arm.toNat : Int), .slice f.B f.m f.e, .int .u8 (f.again.toNat : Int)] 57) = w1 := ⟨_, rfl⟩
  have x1 : Ext w w1 := by rw [← hw1]; exact Ext.alloc _ _
  have bt : w1.heap[t]? = some (.cells #[.slice f.A f.n f.c, .int .u8 (f.arm.toNat : Int), .slice f.B f.m f.e, .int .u8 (f.again.toNat : Int)] 57 (0, 0)) := by rw [← hw1, ← ht]; exact heap_alloc_new w _
  have k2 : w1.cell? ⟨t, 2, none⟩ = some (.slice f.B f.m f.e) := by rw [cell_of_row _ _ _ _ _ _ bt]; rfl
  have k3 : w1.cell? ⟨t, 3, none⟩ = some (.int .u8 (f.again.toNat : Int)) := by rw [cell_of_row _ _ _ _ _ _ bt]; rfl
  have H1 := Lib.hid (H.out.then x1)
  have X1 := Lib.hid x1
  have hag : f.again.toNat < 256 := f.again.toNat_lt
  have TL := Lib.hid (show t ≠ g ∧ t ≠ m ∧ t ≠ b by have := H.out.ds.lts; omega)
  have K2 := Lib.hid k2
  by_cases h0 : f.again.toNat = 0
  · have t1 : ¬ (0 : Int) < (f.again.toNat : Int) := by omega
    clear x1 bt k2
    go_enter Try.func26, Try.ntmps26
    try dsimp only [List.append]
    go_wp2_with (fail)
    clear hw1 ht
    have ho := open_lv W w1 g m b N d j H1.out HA.out
    go_wp2_with (fail)
    with_reducible refine ho.mono ?_
    rintro e w2 ⟨p, o, rfl, l2, x2, hp, hoo⟩
    have L2 := Lib.hid l2
    have X2 := Lib.hid x2
    have PP := Lib.hid (show w.heap.size ≤ p ∧ ∀ q, o = some q → w.heap.size ≤ q from ⟨Nat.le_trans X1.out.size hp, fun q hq => Nat.le_trans X1.out.size (hoo q hq)⟩)
    clear ho l2 x2 hp hoo
    go_wp2_with (fail)
    refine bodyPost_ret (results_tmp2 rfl _ _ _) rfl ?_
    exact ⟨p, o, d, N, rfl, L2.out, Nat.le_refl _, Ch.of (X1.out.trans X2.out) _, PP.out.1, PP.out.2⟩
  · have t1 : (0 : Int) < (f.again.toNat : Int) := by omega
    clear x1 bt k2
    go_enter Try.func26, Try.ntmps26
    try dsimp only [List.append]
    go_wp2_with (fail)
    try rw [ht]
    try rw [hw1]
    clear hw1 ht
    have ha := H1.out.ds.arm ((f.again.toNat : Int) % 4 - 1) (by omega) rfl
    go_wp2_with (fail)
    with_reducible refine ha.mono ?_
    rintro e w2 ⟨rfl, d2, kp2⟩
    have A2 := Lib.hid (HA.out.arm (n := (f.again.toNat : Int) % 4 - 1) (by omega))
    have H2 := Lib.hid (H1.out.turn d2 kp2)
    have KP2 := Lib.hid kp2
    have k2 : w2.cell? ⟨t, 2, none⟩ = some (.slice f.B f.m f.e) := (World.cell?_of_block (a := ⟨t, 2, none⟩) (kp2.block t (World.block_lt_of_cell? _ _ K2.out) TL.out.1 TL.out.2.1 TL.out.2.2)).trans K2.out
    have K22 := Lib.hid k2
    clear ha d2 kp2 k2 k3 K2 H1
    have ho := open_lv W w2 g m b _ _ j H2.out A2.out
    go_wp2_with (fail)
    with_reducible refine ho.mono ?_
    rintro e w3 ⟨p3, o3, rfl, l3, x3, _, _⟩
    have L3 := Lib.hid l3
    have X3 := Lib.hid x3
    have k2 := x3.cell K22.out
    have hkb : Bls w3 f.B f.m f.e f.keeps := ((HK.out.ext (H.out.ext.trans X1.out)).kp KP2.out (HK.out.awy ⟨H.out.lo.1, H.out.lo.2.1, H.out.lo.2.2⟩)).ext x3
    clear ho l3 x3
    have hcr := L3.out.jn.ds.crash' f.B f.m f.e f.keeps hkb (HK.out.awy ⟨H.out.lo.1, H.out.lo.2.1, H.out.lo.2.2⟩) rfl
    clear hkb
    go_wp2_with (fail)
    with_reducible refine hcr.mono ?_
    rintro e w4 ⟨rfl, d4, kp4⟩
    have H4 := Lib.hid (L3.out.dl.turn d4 kp4)
    have KP4 := Lib.hid kp4
    clear hcr d4 kp4 k2
    have ho := open_lv W w4 g m b _ _ j H4.out (A2.out.crash f.keeps)
    go_wp2_with (fail)
    with_reducible refine ho.mono ?_
    rintro e w5 ⟨p, o, rfl, l5, x5, hp, hoo⟩
    have L5 := Lib.hid l5
    have C5 := Lib.hid (show Ch (Dz g m b) w w5 from (((Ch.of X1.out _).trans (Ch.dz KP2.out)).thenExt X3.out).trans ((Ch.dz KP4.out).thenExt x5))
    have C4 := Lib.hid (show w.heap.size ≤ w4.heap.size from Nat.le_trans X1.out.size (Nat.le_trans KP2.out.size (Nat.le_trans X3.out.size KP4.out.size)))
    have PP := Lib.hid (show w.heap.size ≤ p ∧ ∀ q, o = some q → w.heap.size ≤ q from ⟨Nat.le_trans C4.out hp, fun q hq => Nat.le_trans C4.out (hoo q hq)⟩)
    clear ho l5 x5 hp hoo
    go_wp2_with (fail)
    refine bodyPost_ret (results_tmp2 rfl _ _ _) rfl ?_
    exact ⟨p, o, _, N, rfl, L5.out, Nat.le_refl _, C5.out, PP.out.1, PP.out.2⟩
/-- An op behind the end. -/
theorem do_over (w : World) (p g m b N : Nat) (o : Option Nat) (j : Jo.J) (d : Disks.D) (h : Jn w p g m b N o j true d) (q : Op24) (hq : Bs w q.A q.m q.c q.l) :
    Calls Try.prog 13 #[.pointer (some ⟨p, 0, none⟩), oval24 q] w fun e w' => e = .returned (.int .i64 17) ∧ Ext w w' := by
  obtain ⟨t, ht⟩ : ∃ t, w.heap.size = t := ⟨_, rfl⟩
  obtain ⟨w1, hw1⟩ : ∃ w1, w.alloc (.cells #[.int .i64 q.kind, .slice q.A q.m q.c] 35) = w1 := ⟨_, rfl⟩
  have x1 : Ext w w1 := by rw [← hw1]; exact Ext.alloc _ _
  have bt : w1.heap[t]? = some (.cells #[.int .i64 q.kind, .slice q.A q.m q.c] 35 (0, 0)) := by rw [← hw1, ← ht]; exact heap_alloc_new w _
  have k0 : w1.cell? ⟨t, 0, none⟩ = some (.int .i64 q.kind) := by rw [cell_of_row _ _ _ _ _ _ bt]; rfl
  have k1 : w1.cell? ⟨t, 1, none⟩ = some (.slice q.A q.m q.c) := by rw [cell_of_row _ _ _ _ _ _ bt]; rfl
  have hpk : Calls Try.prog 14 #[.int .i64 q.kind, .int .i64 3] w1 fun r w' => r = .returned (.int .i64 (pick q.kind 3)) ∧ w1 = w' := pick_any w1 q.kind 3 (by omega)
  have hsh := short_size w1 q.A q.m q.c hq.le hq.max
  have hap := append_over w1 p g m b N o j d (h.ext x1) q.A (min q.m 400) q.c
  have hcp := point_over w1 p g m b N o j d (h.ext x1) q.A (min q.m 400) q.c
  have X1 := Lib.hid x1
  clear h hq bt x1
  by_cases h2 : pick q.kind 3 = 2
  · have e2 : (pick q.kind 3 == 2) = true := by rw [beq_iff_eq]; exact h2
    clear h2 hap
    go_enter Try.func13, Try.ntmps13
    try dsimp only [List.append]
    go_wp2_with (fail)
    clear hw1 ht
    with_reducible refine hpk.mono ?_
    rintro e w2 ⟨rfl, rfl⟩
    clear hpk
    go_wp2_with (fail)
    with_reducible refine hsh.mono ?_
    rintro e w2 ⟨rfl, rfl⟩
    clear hsh
    go_wp2_with (fail)
    with_reducible refine hcp.mono ?_
    rintro e w2 ⟨rfl, rfl⟩
    go_wp2_with (fail)
    go_ret
    exact ⟨rfl, X1.out⟩
  · have e2 : (pick q.kind 3 == 2) = false := by rw [beq_eq_false_iff_ne]; exact h2
    clear h2 hcp
    go_enter Try.func13, Try.ntmps13
    try dsimp only [List.append]
    go_wp2_with (fail)
    clear hw1 ht
    with_reducible refine hpk.mono ?_
    rintro e w2 ⟨rfl, rfl⟩
    clear hpk
    go_wp2_with (fail)
    with_reducible refine hsh.mono ?_
    rintro e w2 ⟨rfl, rfl⟩
    clear hsh
    go_wp2_with (fail)
    with_reducible refine hap.mono ?_
    rintro e w2 ⟨rfl, rfl⟩
    go_wp2_with (fail)
    go_ret
    exact ⟨rfl, X1.out⟩
end Go.Proofs.Ytaaegbccejjjcaa
