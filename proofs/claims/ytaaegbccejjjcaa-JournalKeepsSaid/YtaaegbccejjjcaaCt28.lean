/- Several texts in one: A journal in a law: since a world, on a disk that shows it. Ops of chapter 24 that came in as an argument; the contract of the laws' do. -/
import Derived.Test.YtaaegbccejjjcaaCt27
import Derived.Test.YtaaegbccejjjcaaCt2
import Derived.Deep.Fields
namespace Jo
open Disks
theorem doJ_app (j : J) (l : List UInt8) : doJ j 0 l = j.append l := if_neg (by omega)
theorem doJ_cp (j : J) (l : List UInt8) : doJ j 2 l = j.point l := if_pos rfl
theorem fits_app {j : J} {l : List UInt8} : fits j 0 l ↔ j.next + 1 + need l.length ≤ j.from_ + j.half := by unfold fits; rw [if_neg (by omega)]
theorem fits_cp {j : J} {l : List UInt8} : fits j 2 l ↔ 1 + need l.length ≤ j.half := by unfold fits; rw [if_pos rfl]
theorem Ends.ok {d d' : D} {j : J} {k : Int} {l : List UInt8} {f : Int} (h : Ends d j k l d' f) (hf : fits j k l) (ha : d.arm = -1) : f = 0 ∧ At d' (doJ j k l) := by
  rcases h with h | h | h
  · exact absurd hf h.2.1
  · exact ⟨h.1, h.2.2⟩
  · exact absurd ha h.2.2.1
theorem Ends.full {d d' : D} {j : J} {k : Int} {l : List UInt8} {f : Int} (h : Ends d j k l d' f) (hf : ¬ fits j k l) : f = 5 ∧ d' = d := by
  rcases h with h | h | h
  · exact ⟨h.1, h.2.2⟩
  · exact absurd h.2.1 hf
  · exact absurd h.2.1 hf
end Jo
namespace Go.Proofs.Ytaaegbccejjjcaa
open Go.RowKit Go.Maps Go.Sort Go.Shelf
set_option linter.unusedSimpArgs false

/-- A journal that is alive, in blocks newer than a world. -/
structure Lv (w0 w : World) (p g m b N : Nat) (o : Option Nat) (j : Jo.J) (d : Disks.D) : Prop where
  jn : Jn w p g m b N o j false d
  at_ : Jo.At d j
  ext : Ext w0 w
  lo : ∀ q, Hot p g m b o q → w0.heap.size ≤ q
section
variable {w0 w w' : World} {p g m b N : Nat} {o : Option Nat} {j : Jo.J} {d d' : Disks.D}
theorem Lv.then (h : Lv w0 w p g m b N o j d) (hx : Ext w w') : Lv w0 w' p g m b N o j d := ⟨h.jn.ext hx, h.at_, h.ext.trans hx, h.lo⟩
theorem Lv.more (h : Lv w0 w p g m b N o j d) {N' : Nat} (hN : N ≤ N') : Lv w0 w p g m b N' o j d := ⟨h.jn.more hN, h.at_, h.ext, h.lo⟩
/-- What stands behind an op that was done, or did not fit. -/
theorem Lv.did {o' : Option Nat} {j' : Jo.J} {N' : Nat} (h : Lv w0 w p g m b N o j d) (ho : o' = o ∨ ∀ q, o' = some q → w.heap.size ≤ q) (hj : Jn w' p g m b N' o' j' false d') (hat : Jo.At d' j') (hc : Ch (Hot p g m b o) w w') : Lv w0 w' p g m b N' o' j' d' := by
  refine ⟨hj, hat, hc.ext h.ext h.lo, fun q z => ?_⟩
  have h1 := h.ext.size
  rcases z with z | z | z | z | z
  · exact h.lo q (.inl z)
  · exact h.lo q (.inr (.inl z))
  · exact h.lo q (.inr (.inr (.inl z)))
  · exact h.lo q (.inr (.inr (.inr (.inl z))))
  · rcases ho with e | e
    · rw [e] at z; exact h.lo q (.inr (.inr (.inr (.inr z))))
    · have := e q z; omega
/-- What came in may be written. -/
theorem Lv.cold (h : Lv w0 w p g m b N o j d) {A : Option Addr} {n c : Nat} {l : List UInt8} (hb : Bs w0 A n c l) : Cold (Hot p g m b o) w A n := Cold.old hb h.ext h.lo
/-- What is newer than the journal may be written. -/
theorem Lv.fresh (h : Lv w0 w p g m b N o j d) {q off n : Nat} (h1 : w.heap.size ≤ q) (h2 : q < w'.heap.size) : Cold (Hot p g m b o) w' (some ⟨q, off, .none⟩) n :=
  Cold.fresh (w0 := w) h1 h2 (fun q z => h.jn.lt q z)
theorem Lv.first {w1 : World} {d0 : Disks.D} (hx : Ext w0 w1) (l1 : w0.heap.size ≤ g) (l2 : w0.heap.size ≤ m) (l3 : w0.heap.size ≤ b) (hp : w1.heap.size ≤ p) (ho : ∀ q, o = some q → w1.heap.size ≤ q) (hj : Jn w p g m b N o j false d) (hk : Kp g m b w1 w) (hat : Jo.At d j) : Lv w0 w p g m b N o j d := by
  have h1 := hx.size
  refine ⟨hj, hat, hx.kp hk l1 l2 l3, fun q z => ?_⟩
  rcases z with z | z | z | z | z
  · omega
  · omega
  · omega
  · omega
  · have := ho q z; omega
/-- A disk in a law, newer than a world. -/
structure Dl (w0 w : World) (g m b N : Nat) (d : Disks.D) : Prop where
  ds : Ds w g m b N d
  ext : Ext w0 w
  lo : w0.heap.size ≤ g ∧ w0.heap.size ≤ m ∧ w0.heap.size ≤ b
theorem Lv.dl (h : Lv w0 w p g m b N o j d) : Dl w0 w g m b N d := ⟨h.jn.ds, h.ext, h.lo g (.inr (.inl rfl)), h.lo m (.inr (.inr (.inl rfl))), h.lo b (.inr (.inr (.inr (.inl rfl))))⟩
theorem Dl.then (h : Dl w0 w g m b N d) (hx : Ext w w') : Dl w0 w' g m b N d := ⟨h.ds.ext hx, h.ext.trans hx, h.lo⟩
theorem Dl.turn (h : Dl w0 w g m b N d) {N' : Nat} (hd : Ds w' g m b N' d') (hk : Kp g m b w w') : Dl w0 w' g m b N' d' := ⟨hd, h.ext.kp hk h.lo.1 h.lo.2.1 h.lo.2.2, h.lo⟩
end
/-- A disk is opened that shows a journal. -/
theorem open_lv (w0 w : World) (g m b N : Nat) (d : Disks.D) (j : Jo.J) (h : Dl w0 w g m b N d) (hat : Jo.At d j) :
    Calls Try.prog 10 #[dptr g] w fun e w' => ∃ p o, e = .returned (.tuple #[.pointer (some ⟨p, 0, none⟩), .int .i64 0]) ∧ Lv w0 w' p g m b N o j d ∧ Ext w w' ∧ w.heap.size ≤ p ∧ ∀ q, o = some q → w.heap.size ≤ q := by
  refine (open_any w g m b N d j h.ds hat).mono ?_
  rintro e w' ⟨p, o, rfl, hp, ho, hj, hx⟩
  exact ⟨p, o, rfl, Lv.first (d0 := d) h.ext h.lo.1 h.lo.2.1 h.lo.2.2 hp ho hj (Kp.of hx ..) hat, hx, hp, ho⟩
/-- A new disk is opened. -/
theorem open_new (w0 w : World) (g m b n : Nat) (h : Dl w0 w g m b 0 (Disks.new n)) (h8 : 8 ≤ n) (hn : n ≤ 65536) :
    Calls Try.prog 10 #[dptr g] w fun e w' => ∃ p o d, e = .returned (.tuple #[.pointer (some ⟨p, 0, none⟩), .int .i64 0]) ∧ Lv w0 w' p g m b 1 o (Jo.J.first (n / 2)) d ∧ d.arm = -1 := by
  obtain ⟨f1, f2, f3⟩ := Jo.first_done h8 hn
  refine (open_first w g m b 0 n (Disks.new n) _ rfl rfl h.ds h8 hn (by unfold maxLen; omega)).mono ?_
  rintro e w' ⟨p, o, rfl, hp, ho, hj, hk⟩
  exact ⟨p, o, _, rfl, Lv.first (d0 := Disks.new n) h.ext h.lo.1 h.lo.2.1 h.lo.2.2 hp ho hj hk f3, f2⟩
theorem new_dl (w : World) (n : Nat) (h1 : 1 ≤ n) (h2 : n ≤ 65536) :
    Calls Try.prog 9 #[.int .i64 (n : Int)] w fun e w' => ∃ g m b, e = .returned (.tuple #[dptr g, .int .i64 0]) ∧ Dl w w' g m b 0 (Disks.new n) := by
  refine (dsNew w n h1 h2).mono ?_
  rintro e w' ⟨g, rfl, m, b, hd, hx, a1, a2, a3⟩
  exact ⟨g, m, b, rfl, hd, hx, a1, a2, a3⟩
section
variable {w0 w : World} {p g m b N : Nat} {o : Option Nat} {j : Jo.J} {d : Disks.D}
theorem room_lv (h : Lv w0 w p g m b N o j d) {x : Int} (hx : ((j.from_ + j.half - j.next : Nat) : Int) = x) : Calls Try.prog 11 #[.pointer (some ⟨p, 0, none⟩)] w fun e w' => e = .returned (.int .i64 x) ∧ Ext w w' := by
  subst hx
  obtain ⟨s1, s2, s3, s4, s5, s6, s7, s8⟩ := h.at_.small
  exact room_any h.jn (by omega) (by omega) s8
theorem base_lv (h : Lv w0 w p g m b N o j d) : Calls Try.prog 23 #[.pointer (some ⟨p, 0, none⟩)] w fun e w' => ∃ A c, e = .returned (.slice A j.base.length c) ∧ Bs w' A j.base.length c j.base ∧ Newer w A ∧ Ext w w' := by
  obtain ⟨s1, _⟩ := h.at_.small
  exact base_any h.jn (by omega)
theorem recs_lv (h : Lv w0 w p g m b N o j d) : Calls Try.prog 19 #[.pointer (some ⟨p, 0, none⟩)] w fun e w' => ∃ A c, e = .returned (.slice A j.recs.length c) ∧ Mx w' A j.recs.length c j.recs ∧ RwN w w' (.slice A j.recs.length c) j.recs ∧ Ext w w' := by
  obtain ⟨s1, s2, s3, _⟩ := h.at_.small
  refine (records_any w p g m b N o j false d h.jn s2 (fun i hi => by have := s3 i hi; omega)).mono ?_
  rintro e w' ⟨v, rfl, hr, hx⟩
  obtain ⟨A, c, rfl, hm⟩ := rwn_mx hr
  exact ⟨A, c, rfl, hm, hr, hx⟩
/-- A record that fits is kept; one that does not is not. -/
theorem app_ok (h : Lv w0 w p g m b N o j d) (ha : d.arm = -1) {A : Option Addr} {n c : Nat} {l : List UInt8} (hl : Bs w A n c l) (hc : Cold (Hot p g m b o) w A n) (hn : n < 2 ^ 30) (hf : Jo.fits j 0 l) {N' : Nat} (hN : N + Jo.need n + 1 ≤ N') (hN' : N' < maxLen) :
    Calls Try.prog 12 #[.pointer (some ⟨p, 0, none⟩), .slice A n c] w fun e w' => ∃ o' d', e = .returned (.int .i64 0) ∧ Lv w0 w' p g m b N' o' (Jo.doJ j 0 l) d' ∧ d'.arm = -1 ∧ Ch (Hot p g m b o) w w' ∧ (o' = o ∨ ∀ q, o' = some q → w.heap.size ≤ q) := by
  refine (app_any w p g m b N o j d h.jn h.at_ 0 (by omega) A n c l hl hc hn N' hN hN').mono ?_
  rintro e w' ⟨f, d', o', rfl, he, harm, ho, hj, hch⟩
  obtain ⟨rfl, hat⟩ := he.ok hf ha
  exact ⟨o', d', rfl, h.did ho hj hat hch, harm ha, hch, ho⟩
theorem app_full (h : Lv w0 w p g m b N o j d) {A : Option Addr} {n c : Nat} {l : List UInt8} (hl : Bs w A n c l) (hc : Cold (Hot p g m b o) w A n) (hn : n < 2 ^ 30) (hf : ¬ Jo.fits j 0 l) :
    Calls Try.prog 12 #[.pointer (some ⟨p, 0, none⟩), .slice A n c] w fun e w' => e = .returned (.int .i64 5) ∧ Ext w w' := by
  refine append_full w p g m b N o j d h.jn h.at_ A n c (by omega) ?_
  unfold Jo.fits at hf
  rw [if_neg (by omega), hl.len] at hf
  omega
theorem cp_ok (h : Lv w0 w p g m b N o j d) (ha : d.arm = -1) {A : Option Addr} {n c : Nat} {l : List UInt8} (hl : Bs w A n c l) (hc : Cold (Hot p g m b o) w A n) (hn : n < 2 ^ 30) (hf : Jo.fits j 2 l) {N' : Nat} (hN : N + Jo.need n + 1 ≤ N') (hN' : N' < maxLen) (hlf : j.life < 2 ^ 40) :
    Calls Try.prog 16 #[.pointer (some ⟨p, 0, none⟩), .slice A n c] w fun e w' => ∃ o' d', e = .returned (.int .i64 0) ∧ Lv w0 w' p g m b N' o' (Jo.doJ j 2 l) d' ∧ d'.arm = -1 ∧ Ch (Hot p g m b o) w w' ∧ (o' = o ∨ ∀ q, o' = some q → w.heap.size ≤ q) := by
  refine (cp_any w p g m b N o j d h.jn h.at_ 2 rfl A n c l hl hc hn N' hN hN' hlf).mono ?_
  rintro e w' ⟨f, d', o', rfl, he, harm, ho, hj, hch⟩
  obtain ⟨rfl, hat⟩ := he.ok hf ha
  exact ⟨o', d', rfl, h.did ho hj hat hch, harm ha, hch, ho⟩
end
/-- What is cold stays cold. -/
theorem Cold.keep {w w' : World} {p g m b n : Nat} {o o' : Option Nat} {A : Option Addr} (h : Cold (Hot p g m b o) w A n) (hs : w.heap.size ≤ w'.heap.size) (ho : o' = o ∨ ∀ q, o' = some q → w.heap.size ≤ q) : Cold (Hot p g m b o') w' A n := h.turn hs (Hot.mono ho)
theorem bs_lit24 (w : World) (l : List UInt8) (cs : Array Value) (t : TypeId) {n : Nat} (hn : l.length = n) (h : cs.toList = bcells l) (hl : n ≤ 1000) : Bs (w.alloc (.cells cs t)) (some ⟨w.heap.size, 0, none⟩) n n l := by
  subst hn
  have hs : cs.size = l.length := by rw [← Array.length_toList, h]; simp [bcells]
  refine ⟨rfl, Nat.le_refl _, by omega, ?_⟩
  have h2 := Rd.lit w cs t
  rw [hs, h] at h2
  exact h2
theorem made5_zero (c : Nat) : made5 c (.int .u8 0) = (bcells (List.replicate c 0)).toArray := by
  apply Array.toList_inj.1
  rw [made5_toList]
  simp [bcells]
/-- So many bytes of nought, made. -/
theorem bs_made (w : World) (c : Nat) (hc : c ≤ 100000) : Bs (w.alloc (.cells (made5 c (.int .u8 0)) 5)) (some ⟨w.heap.size, 0, none⟩) c c (List.replicate c 0) := by
  have ho : Ob w (w.alloc (.cells (made5 c (.int .u8 0)) 5)) w.heap.size (List.replicate c 0) := ⟨Ext.alloc _ _, Nat.le_refl _, by rw [← made5_zero]; exact heap_alloc_new w _⟩
  exact ho.bs (by rw [List.length_replicate]; omega) (List.length_replicate)
end Go.Proofs.Ytaaegbccejjjcaa
namespace Go.Proofs.Ytaaegbccejjjcaa
open Go.ChangeShapes Go.WideShapes Go.ChangeAt Go.RowKit Go.Maps Go.Sort Go.Shelf
set_option linter.unusedSimpArgs false

/-- An op. -/
structure Op24 where
  kind : Int
  A : Option Addr
  m : Nat
  c : Nat
  l : List UInt8
instance : Inhabited Op24 := ⟨⟨0, none, 0, 0, []⟩⟩
/-- The cells of an op. -/
abbrev ocells24 (o : Op24) : List Value := [.int .i64 o.kind, .slice o.A o.m o.c]
abbrev oval24 (o : Op24) : Value := .agg (ocells24 o).toArray
/-- A slice of ops. -/
structure Os24 (w : World) (A : Option Addr) (n c : Nat) (o : Nat → Op24) : Prop where
  le : n ≤ c
  max : c ≤ 9223372036854775807
  at_ : ∀ k, k < n → ∃ b off, A = some ⟨b, off, none⟩ ∧ w.cell? ⟨b, off + k * 2, none⟩ = some (.int .i64 (o k).kind) ∧ w.cell? ⟨b, off + k * 2 + 1, none⟩ = some (.slice (o k).A (o k).m (o k).c) ∧ Bs w (o k).A (o k).m (o k).c (o k).l ∧ (Lit.int .i64 (o k).kind).wf = true
theorem Os24.ext {w w' : World} {A : Option Addr} {n c : Nat} {o : Nat → Op24} (h : Os24 w A n c o) (hx : Ext w w') : Os24 w' A n c o :=
  ⟨h.le, h.max, fun k hk => by
    obtain ⟨b, off, e, c0, c1, c2, c3⟩ := h.at_ k hk
    exact ⟨b, off, e, hx.cell c0, hx.cell c1, c2.ext hx, c3⟩⟩
set_option maxRecDepth 100000 in
set_option maxHeartbeats 1000000 in
theorem os24_of {H : Type} {enc : TypeId × Value → H} {W : World} {A : Option Addr} {len cap : Nat} {d : DataW H} {p : List MemPlace} (h : DataW.Trod enc Try.prog W 0 (fun _ => true) true 22 (.slice A len cap) d p) : ∃ o, Os24 W A len cap o := by
  have hce : Try.prog.cellsOf 35 = 2 := by kernel_rfl
  obtain ⟨fuel, hf⟩ := h
  rcases Go.Deep.open_slice Try.underlying22 hf with ⟨hcs, _⟩ | ⟨x, l, c, m, n, D, Pl, hcs, _, hl, hm, hmm, _, hx⟩
  · simp [Value.cells] at hcs
    obtain ⟨rfl, rfl, rfl⟩ := hcs
    exact ⟨fun _ => default, Nat.le_refl _, by omega, fun k hk => absurd hk (Nat.not_lt_zero _)⟩
  · simp [Value.cells] at hcs
    obtain ⟨rfl, rfl, rfl⟩ := hcs
    have cellsAt : ∀ k, k < len → ∃ q : Op24, W.cell? (x.add (k * 2)) = some (.int .i64 q.kind) ∧ W.cell? (x.add (k * 2 + 1)) = some (.slice q.A q.m q.c) ∧ Bs W q.A q.m q.c q.l ∧ (Lit.int .i64 q.kind).wf = true := by
      intro k hk
      obtain ⟨cs', h1, h2⟩ := hx k (by rw [hmm]; simp; omega)
      obtain ⟨_, hlen, hcell⟩ := World.cells?_some h1
      rw [hce] at hlen
      match cs', hlen with
      | [c0, c1], _ =>
        obtain ⟨xs, n', _, _, _, hxl, hg⟩ := DataW.trod_struct Try.underlying35 h2
        have fld : ∀ (i : Nat) (f : Field) (c : Value), f.offset = i → Try.prog.cellsOf f.type = 1 → ([c0, c1] : List Value)[i]? = some c → DataW.trod enc Try.prog W 0 (fun _ => true) true n' f.type ((([c0, c1] : List Value).drop f.offset).take (Try.prog.cellsOf f.type)) = xs[i]? → i < 2 → ∃ y, DataW.trod enc Try.prog W 0 (fun _ => true) true n' f.type [c] = some y := by
          intro i f c ho hc hi hy h5
          have hx5 : xs.length = 2 := hxl
          rw [List.getElem?_eq_getElem (by omega), ho, hc] at hy
          have hl : i < ([c0, c1] : List Value).length := h5
          rw [List.drop_eq_getElem_cons hl] at hy
          rw [List.getElem?_eq_getElem hl] at hi
          injection hi with hi
          rw [hi] at hy
          exact ⟨_, hy⟩
        obtain ⟨y0, k0⟩ := fld 0 _ c0 rfl (by kernel_rfl) rfl (hg 0 _ rfl) (by omega)
        obtain ⟨y1, k1⟩ := fld 1 _ c1 rfl (by kernel_rfl) rfl (hg 1 _ rfl) (by omega)
        obtain ⟨z0, e0, _, u0⟩ := DataW.trod_int Try.underlying3 k0
        injection e0 with e0
        subst e0
        have hs : ∃ A n c, c1 = .slice A n c := by
          rcases Go.Deep.open_slice Try.underlying32 k1 with ⟨hcs, _⟩ | ⟨x, l, c, _, _, _, _, hcs, _⟩
          · injection hcs with hcs; exact ⟨_, _, _, hcs⟩
          · injection hcs with hcs; exact ⟨_, _, _, hcs⟩
        obtain ⟨B, q, e, rfl⟩ := hs
        obtain ⟨zs, hzs⟩ := IsRow.of_trod (H := H) (enc := enc) (k := .u8) (d := y1.1) (p := y1.2) Try.underlying32 Try.underlying5 (by kernel_rfl) ⟨n', by simpa [Value.cells] using k1⟩
        obtain ⟨l, hl⟩ := hzs.bytes
        have j0 := hcell 0 (by rw [hce]; omega)
        have j1 := hcell 1 (by rw [hce]; omega)
        rw [hce, Go.Deep.add_add] at j0 j1
        exact ⟨⟨z0, B, q, e, l⟩, by simpa using j0, by simpa using j1, hl, u0⟩
    have each : ∀ k, k < len → ∃ q : Op24, ∃ b off, x = ⟨b, off, none⟩ ∧ W.cell? ⟨b, off + k * 2, none⟩ = some (.int .i64 q.kind) ∧ W.cell? ⟨b, off + k * 2 + 1, none⟩ = some (.slice q.A q.m q.c) ∧ Bs W q.A q.m q.c q.l ∧ (Lit.int .i64 q.kind).wf = true := by
      intro k hk
      obtain ⟨q0, s0, _⟩ := cellsAt 0 (by omega)
      rw [Nat.zero_mul] at s0
      have hsp := cells_spot s0
      obtain ⟨q, r0, r1, r2, r3⟩ := cellsAt k hk
      rw [hsp, addr_add] at r0 r1
      exact ⟨q, x.block, x.off, hsp, r0, by simpa [Nat.add_assoc] using r1, r2, r3⟩
    obtain ⟨f, hf⟩ := Go.Deep.choose_lt each
    refine ⟨f, hl, by unfold maxLen at hm; omega, fun k hk => ?_⟩
    obtain ⟨b, off, e1, e2⟩ := hf k hk
    exact ⟨b, off, by rw [e1], e2⟩
set_option maxRecDepth 100000 in
theorem os24_open {H : Type} {enc : TypeId × Value → H} {W : World} {r : Reach} {b0 : Nat} {v : Value} {d : DataW H} {p : List MemPlace} (hv : Value.okWide Try.prog W r b0 22 v) (h : DataW.Trod enc Try.prog W 0 (fun _ => true) true 22 v d p) : ∃ A n c o, v = .slice A n c ∧ Os24 W A n c o := by
  obtain ⟨A, len, cap, rfl⟩ := okWide_slice Try.underlying22 hv
  obtain ⟨o, ho⟩ := os24_of h
  exact ⟨A, len, cap, o, rfl, ho⟩
theorem op24_under : ∃ d, Try.prog.underlying 35 = some d ∧ d.isRow = true := ⟨_, Try.underlying35, rfl⟩
theorem op24_info : (Try.prog.info? 35).map (·.size) = some 2 := by kernel_rfl
theorem op24_loads {w : World} {p off : Nat} {o : Op24} (h : w.rangeAt p off (ocells24 o)) : (Instr.loadAt 35 (.pointer (some ⟨p, off, none⟩))).run Try.prog w = .ok (oval24 o) w := by
  obtain ⟨d, hd, hr⟩ := op24_under
  have hi : (Try.prog.info? 35).map (·.size) = some (ocells24 o).length := op24_info
  simp only [Instr.loadAt, Instr.sureAddr, Sem.run_bind, Sem.run_pure, Result.andThen_ok, run_loadVar_mid w p off 35 (ocells24 o) d h hd hr hi]
theorem two_range {w : World} {p off : Nat} {o : Op24} (c0 : w.cell? ⟨p, off, none⟩ = some (.int .i64 o.kind)) (c1 : w.cell? ⟨p, off + 1, none⟩ = some (.slice o.A o.m o.c)) : w.rangeAt p off (ocells24 o) := fun j v hv => by
  match j with
  | 0 => injection hv with hv; rw [← hv]; exact c0
  | 1 => injection hv with hv; rw [← hv]; exact c1
  | j + 2 => cases hv
/-- Number k of the ops is loaded. -/
theorem Os24.load {w : World} {A : Option Addr} {n c : Nat} {o : Nat → Op24} (h : Os24 w A n c o) {k : Nat} (hk : k < n) : ∃ b off, A = some ⟨b, off, none⟩ ∧ (Instr.loadAt 35 (.pointer (some ⟨b, off + k * 2, none⟩))).run Try.prog w = .ok (oval24 (o k)) w := by
  obtain ⟨b, off, e, c0, c1, _⟩ := h.at_ k hk
  exact ⟨b, off, e, op24_loads (two_range c0 c1)⟩
theorem Os24.bs {w : World} {A : Option Addr} {n c : Nat} {o : Nat → Op24} (h : Os24 w A n c o) {k : Nat} (hk : k < n) : Bs w (o k).A (o k).m (o k).c (o k).l ∧ (Lit.int .i64 (o k).kind).wf = true := by
  obtain ⟨b, off, e, c0, c1, h6, h7⟩ := h.at_ k hk
  exact ⟨h6, h7⟩

set_option maxRecDepth 100000 in
set_option maxHeartbeats 1000000 in
theorem do_any24 (w : World) (p g m b N : Nat) (o : Option Nat) (j : Jo.J) (d : Disks.D) (h : Jn w p g m b N o j false d) (hat : Jo.At d j) (q : Op24) (hq : Bs w q.A q.m q.c q.l) (hc : Cold (Hot p g m b o) w q.A q.m) (N' : Nat) (hN : N + 8 ≤ N') (hN' : N' < maxLen) (hlf : j.life < 2 ^ 40) :
    Calls Try.prog 13 #[.pointer (some ⟨p, 0, none⟩), oval24 q] w (GivesDo w p g m b N' o j d (pick q.kind 3) (q.l.take 400)) := by
  obtain ⟨t, ht⟩ : ∃ t, w.heap.size = t := ⟨_, rfl⟩
  obtain ⟨w1, hw1⟩ : ∃ w1, w.alloc (.cells #[.int .i64 q.kind, .slice q.A q.m q.c] 35) = w1 := ⟨_, rfl⟩
  have x1 : Ext w w1 := by rw [← hw1]; exact Ext.alloc _ _
  have bt : w1.heap[t]? = some (.cells #[.int .i64 q.kind, .slice q.A q.m q.c] 35 (0, 0)) := by rw [← hw1, ← ht]; exact heap_alloc_new w _
  have k0 : w1.cell? ⟨t, 0, none⟩ = some (.int .i64 q.kind) := by rw [cell_of_row _ _ _ _ _ _ bt]; rfl
  have k1 : w1.cell? ⟨t, 1, none⟩ = some (.slice q.A q.m q.c) := by rw [cell_of_row _ _ _ _ _ _ bt]; rfl
  have hpk : Calls Try.prog 14 #[.int .i64 q.kind, .int .i64 3] w1 fun r w' => r = .returned (.int .i64 (pick q.kind 3)) ∧ w1 = w' := pick_any w1 q.kind 3 (by omega)
  have hsh := short_any w1 q.A q.m q.c q.l (hq.ext x1)
  have J1 := h.ext x1
  have B1 := (hq.ext x1).short
  have C1 : Cold (Hot p g m b o) w1 q.A (min q.m 400) := (hc.ch x1.size).less (by omega)
  have hn7 : N + Jo.need (min q.m 400) + 1 ≤ N' := by unfold Jo.need; omega
  have fin : ∀ e w', GivesDo w1 p g m b N' o j d (pick q.kind 3) (q.l.take 400) e w' → GivesDo w p g m b N' o j d (pick q.kind 3) (q.l.take 400) e w' := by
    rintro e w' ⟨f, d', o', h1, h2, h3, h4, h5, h6⟩
    refine ⟨f, d', o', h1, h2, h3, ?_, h5, (Ch.of x1 _).trans h6⟩
    rcases h4 with h4 | h4
    · exact .inl h4
    · exact .inr fun q hq => Nat.le_trans x1.size (h4 q hq)
  have FIN := Lib.hid fin
  by_cases h2 : pick q.kind 3 = 2
  · have e2 : (pick q.kind 3 == 2) = true := by rw [beq_iff_eq]; exact h2
    have hcp := cp_any w1 p g m b N o j d J1 hat (pick q.kind 3) h2 q.A (min q.m 400) q.c (q.l.take 400) B1 C1 (by omega) N' hn7 hN' hlf
    have HCP := Lib.hid hcp
    clear hcp J1 B1 C1 h hat hq hc fin h2
    go_enter Try.func13, Try.ntmps13
    try dsimp only [List.append]
    go_wp2_with (fail)
    clear hw1 ht
    with_reducible refine hpk.mono ?_
    rintro e w2 ⟨rfl, rfl⟩
    clear hpk
    go_wp2_with (fail)
    with_reducible refine hsh.mono ?_
    rintro e w2 ⟨rfl, rfl⟩
    clear hsh
    go_wp2_with (fail)
    with_reducible refine HCP.out.mono ?_
    intro e w2 hg
    have HG := Lib.hid (FIN.out _ _ hg)
    obtain ⟨f, d', o', rfl, _⟩ := hg
    go_wp2_with (fail)
    go_ret
    exact HG.out
  · have e2 : (pick q.kind 3 == 2) = false := by rw [beq_eq_false_iff_ne]; exact h2
    have hcp := app_any w1 p g m b N o j d J1 hat (pick q.kind 3) h2 q.A (min q.m 400) q.c (q.l.take 400) B1 C1 (by omega) N' hn7 hN'
    have HCP := Lib.hid hcp
    clear hcp J1 B1 C1 h hat hq hc fin h2
    go_enter Try.func13, Try.ntmps13
    try dsimp only [List.append]
    go_wp2_with (fail)
    clear hw1 ht
    with_reducible refine hpk.mono ?_
    rintro e w2 ⟨rfl, rfl⟩
    clear hpk
    go_wp2_with (fail)
    with_reducible refine hsh.mono ?_
    rintro e w2 ⟨rfl, rfl⟩
    clear hsh
    go_wp2_with (fail)
    with_reducible refine HCP.out.mono ?_
    intro e w2 hg
    have HG := Lib.hid (FIN.out _ _ hg)
    obtain ⟨f, d', o', rfl, _⟩ := hg
    go_wp2_with (fail)
    go_ret
    exact HG.out
theorem doJ_life (j : Jo.J) (k : Int) (l : List UInt8) : (Jo.doJ j k l).life ≤ j.life + 1 := by
  unfold Jo.doJ
  split
  · exact Nat.le_refl _
  · exact Nat.le_succ _
/-- An op on a disk that is not armed. -/
theorem do_lv {w0 w : World} {p g m b N : Nat} {o : Option Nat} {j : Jo.J} {d : Disks.D} (h : Lv w0 w p g m b N o j d) (ha : d.arm = -1) (q : Op24) (hq : Bs w0 q.A q.m q.c q.l) {N' : Nat} (hN : N + 8 ≤ N') (hN' : N' < maxLen) (hlf : j.life < 2 ^ 40) :
    Calls Try.prog 13 #[.pointer (some ⟨p, 0, none⟩), oval24 q] w fun e w' => ∃ f o' j' d', e = .returned (.int .i64 f) ∧ Lv w0 w' p g m b N' o' j' d' ∧ d'.arm = -1 ∧ j'.life ≤ j.life + 1 ∧ Ch (Hot p g m b o) w w' ∧ (o' = o ∨ ∀ q, o' = some q → w.heap.size ≤ q) ∧
      (f = 5 ∧ ¬ Jo.fits j (pick q.kind 3) (q.l.take 400) ∧ j' = j ∨ f = 0 ∧ Jo.fits j (pick q.kind 3) (q.l.take 400) ∧ j' = Jo.doJ j (pick q.kind 3) (q.l.take 400)) := by
  refine (do_any24 w p g m b N o j d h.jn h.at_ q (hq.ext h.ext) (h.cold hq) N' hN hN' hlf).mono ?_
  rintro e w' ⟨f, d', o', rfl, he, harm, ho, hj, hc⟩
  rcases he with ⟨rfl, hf, rfl⟩ | ⟨rfl, hf, hat⟩ | ⟨rfl, hf, hx, _⟩
  · exact ⟨5, o', j, d', rfl, h.did ho hj h.at_ hc, ha, Nat.le_succ _, hc, ho, .inl ⟨rfl, hf, rfl⟩⟩
  · exact ⟨0, o', _, d', rfl, h.did ho hj hat hc, harm ha, doJ_life .., hc, ho, .inr ⟨rfl, hf, rfl⟩⟩
  · exact absurd ha hx
theorem do_yes {w0 w : World} {p g m b N : Nat} {o : Option Nat} {j : Jo.J} {d : Disks.D} (h : Lv w0 w p g m b N o j d) (ha : d.arm = -1) (q : Op24) (hq : Bs w0 q.A q.m q.c q.l) {N' : Nat} (hN : N + 8 ≤ N') (hN' : N' < maxLen) (hlf : j.life < 2 ^ 40) (hf : Jo.fits j (pick q.kind 3) (q.l.take 400)) :
    Calls Try.prog 13 #[.pointer (some ⟨p, 0, none⟩), oval24 q] w fun e w' => e = .returned (.int .i64 0) ∧ ∃ o' d', Lv w0 w' p g m b N' o' (Jo.doJ j (pick q.kind 3) (q.l.take 400)) d' ∧ d'.arm = -1 ∧ Ch (Hot p g m b o) w w' ∧ (o' = o ∨ ∀ q, o' = some q → w.heap.size ≤ q) := by
  refine (do_lv h ha q hq hN hN' hlf).mono ?_
  rintro e w' ⟨f, o', j', d', rfl, hl, ha', _, hc, ho, ⟨_, h2, _⟩ | ⟨rfl, _, rfl⟩⟩
  · exact absurd hf h2
  · exact ⟨rfl, o', d', hl, ha', hc, ho⟩
theorem do_not {w0 w : World} {p g m b N : Nat} {o : Option Nat} {j : Jo.J} {d : Disks.D} (h : Lv w0 w p g m b N o j d) (ha : d.arm = -1) (q : Op24) (hq : Bs w0 q.A q.m q.c q.l) {N' : Nat} (hN : N + 8 ≤ N') (hN' : N' < maxLen) (hlf : j.life < 2 ^ 40) (hf : ¬ Jo.fits j (pick q.kind 3) (q.l.take 400)) :
    Calls Try.prog 13 #[.pointer (some ⟨p, 0, none⟩), oval24 q] w fun e w' => e = .returned (.int .i64 5) ∧ ∃ o' d', Lv w0 w' p g m b N' o' j d' ∧ d'.arm = -1 ∧ Ch (Hot p g m b o) w w' ∧ (o' = o ∨ ∀ q, o' = some q → w.heap.size ≤ q) := by
  refine (do_lv h ha q hq hN hN' hlf).mono ?_
  rintro e w' ⟨f, o', j', d', rfl, hl, ha', _, hc, ho, ⟨rfl, _, rfl⟩ | ⟨_, h2, _⟩⟩
  · exact ⟨rfl, o', d', hl, ha', hc, ho⟩
  · exact absurd h2 hf
theorem doJ_half (j : Jo.J) (k : Int) (l : List UInt8) : (Jo.doJ j k l).half = j.half := by
  unfold Jo.doJ
  split <;> rfl
/-- A journal's box says that it is not over. -/
structure Ov (w : World) (p g : Nat) : Prop where
  c0 : w.cell? ⟨p, 0, none⟩ = some (dptr g)
  c7 : w.cell? ⟨p, 7, none⟩ = some (.bool false)
theorem Lv.ov {w0 w : World} {p g m b N : Nat} {o : Option Nat} {j : Jo.J} {d : Disks.D} (h : Lv w0 w p g m b N o j d) : Ov w p g := by
  obtain ⟨A, c, v, hv, _⟩ := h.jn.jv
  exact ⟨hv.c0, hv.c7⟩
theorem Ov.ext {w w' : World} {p g : Nat} (h : Ov w p g) (hx : Ext w w') : Ov w' p g := ⟨hx.cell h.c0, hx.cell h.c7⟩
theorem over_ov {w : World} {p g : Nat} (h : Ov w p g) : Calls Try.prog 22 #[.pointer (some ⟨p, 0, none⟩)] w fun e w' => e = .returned (.bool false) ∧ w = w' := by
  have k0 := h.c0
  have k7 := h.c7
  have hr : Calls Try.prog 31 #[.pointer (some ⟨p, 0, none⟩)] w fun e w' => e = .returned (.bool true) ∧ w = w' := by
    clear h k7
    go_enter Try.func31, Try.ntmps31
    go_wp2_with (fail)
    go_ret
    exact ⟨rfl, rfl⟩
  clear h k0
  go_enter Try.func22, Try.ntmps22
  go_wp2_with (fail)
  with_reducible refine hr.mono ?_
  rintro e w1 ⟨rfl, rfl⟩
  clear hr
  go_wp2_with (fail)
  go_ret
  exact ⟨rfl, rfl⟩
/-- A journal has what it has. -/
theorem same_lv {w0 w : World} {p g m b N : Nat} {o : Option Nat} {j : Jo.J} {d : Disks.D} (h : Lv w0 w p g m b N o j d) (A : Option Addr) (n c : Nat) (bs : List UInt8) (hb : Bs w A n c bs) (B : Option Addr) (k e : Nat) (rs : Gm.L) (hr : Mx w B k e rs) {z : Bool} (hz : decide (j.base = bs ∧ j.recs = rs) = z) :
    Calls Try.prog 18 #[.pointer (some ⟨p, 0, none⟩), .slice A n c, .slice B k e] w fun e w' => e = .returned (.bool z) ∧ Ext w w' := by
  subst hz
  exact same_any24 w p g m b N o j false d d h.jn h.at_ A n c bs hb B k e rs hr
end Go.Proofs.Ytaaegbccejjjcaa
