/- RoundSafe's walk: what is published was prepared by Need indexes at least; for every input. -/
import Derived.Test.YtgfhpgomlocllaaRoundAwake
import Derived.Test.YtgfhpgomlocllaaRoundHeld
import Derived.Test.YtgfhpgomlocllaaRoundMarks
import Derived.Deep.DeepCutAuto
import Derived.Deep.CutBlock
namespace Go.Proofs.Ytgfhpgomlocllaa
open Go.ChangeShapes Go.WideShapes Go.ChangeAt Go.RowKit

namespace roundSafe
/-- Block g holds an op. -/
structure Ob (W : World) (g : Nat) (o : OpR) : Prop where
  blk : W.heap[g]? = some (.cells #[.int .i64 o.kind, .int .i64 o.index, .int .u8 o.op, .int .i64 o.e] 52 (0, 0))
theorem Ob.lt {W : World} {g : Nat} {o : OpR} (h : Ob W g o) : g < W.heap.size := (Array.getElem?_eq_some_iff.1 h.blk).1
theorem Ob.ext {W W' : World} {g : Nat} {o : OpR} (h : Ob W g o) (hx : Ext W W') : Ob W' g o := ⟨(hx.block g h.lt).trans h.blk⟩
theorem Ob.far {W : World} {g : Nat} {o : OpR} (h : Ob W g o) {q : Addr} (hq : q.block ≠ g) (u : Value) : Ob (W.setCell q u) g o := ⟨(heap_setCell_other W q g u (fun e => hq e.symm)).trans h.blk⟩
theorem Ob.o0 {W : World} {g : Nat} {o : OpR} (h : Ob W g o) : W.cell? ⟨g, 0, none⟩ = some (.int .i64 o.kind) := by rw [cell_of_row W _ _ _ _ _ h.blk]; rfl
theorem Ob.o1 {W : World} {g : Nat} {o : OpR} (h : Ob W g o) : W.cell? ⟨g, 1, none⟩ = some (.int .i64 o.index) := by rw [cell_of_row W _ _ _ _ _ h.blk]; rfl
theorem Ob.o2 {W : World} {g : Nat} {o : OpR} (h : Ob W g o) : W.cell? ⟨g, 2, none⟩ = some (.int .u8 o.op) := by rw [cell_of_row W _ _ _ _ _ h.blk]; rfl
theorem Ob.o3 {W : World} {g : Nat} {o : OpR} (h : Ob W g o) : W.cell? ⟨g, 3, none⟩ = some (.int .i64 o.e) := by rw [cell_of_row W _ _ _ _ _ h.blk]; rfl
theorem Held.far {w : World} {g ga gb : Nat} {r : Rounds.R} {D : Option Addr} {q e : Nat} (h : Held w g ga gb r D q e) {p : Addr} (hp : p.block ≠ g) (ha : Away D q p.block) (u : Value) : Held (w.setCell p u) g ga gb r D q e :=
  ⟨h.bx.far hp u, h.is_.off ha u, h.a, h.b⟩
/-- All that lies about in a round of the loop. -/
structure Fx (w1 W : World) (g h2 h1 N : Nat) (r : Rounds.R) (D : Option Addr) (e : Nat) (R : Rounds.R) (D9 : Option Addr) (e9 : Nat) (S : List Bool) (o : OpR) : Prop where
  G : Held W g g (g + 1) r D N e
  Q : Held W h2 g (g + 1) R D9 N e9
  B : Bo W (g + 1) S
  O : Ob W h1 o
  X : Ext w1 W
theorem Fx.ext {w1 W W' : World} {g h2 h1 N : Nat} {r : Rounds.R} {D : Option Addr} {e : Nat} {R : Rounds.R} {D9 : Option Addr} {e9 : Nat} {S : List Bool} {o : OpR} (h : Fx w1 W g h2 h1 N r D e R D9 e9 S o) (hx : Ext W W') : Fx w1 W' g h2 h1 N r D e R D9 e9 S o :=
  ⟨h.G.ext hx, h.Q.ext hx, h.B.ext hx, h.O.ext hx, h.X.trans hx⟩
theorem Fx.set {w1 W : World} {g h2 h1 N : Nat} {r : Rounds.R} {D : Option Addr} {e : Nat} {R : Rounds.R} {D9 : Option Addr} {e9 : Nat} {S : List Bool} {o : OpR} (h : Fx w1 W g h2 h1 N r D e R D9 e9 S o) (n1 : g + 1 ≠ h2) (n2 : g + 1 ≠ h1) (n3 : w1.heap.size ≤ g + 1) (i : Nat) (b : Bool) : Fx w1 (W.setCell ⟨g + 1, i, none⟩ (.bool b)) g h2 h1 N r D e R D9 e9 (S.set i b) o :=
  ⟨Held.far h.G (by show g + 1 ≠ g; omega) h.G.b _, Held.far h.Q n1 h.Q.b _, h.B.set i b, h.O.far n2 _, h.X.set_ (p := ⟨g + 1, i, none⟩) n3 _⟩
set_option maxRecDepth 100000 in
set_option maxHeartbeats 40000000 in
theorem walk {H : Type} {enc : TypeId × Value → H} {base : Nat} (w : World) (a0 a1 : Int) (v2 : Value) (d2 : DataW H) (p2 : List MemPlace) (w0 : (Lit.int .u8 a0).wf = true) (w1 : (Lit.int .u8 a1).wf = true)
    (o2 : Value.okWide Try.prog w .any base 49 v2) (h2 : DataW.Trod enc Try.prog w 0 (fun _ => true) true 49 v2 d2 p2) :
    Calls Try.prog 6 #[.int .u8 a0, .int .u8 a1, v2] w fun e w' => e = .returned (.bool true) ∧ Ext w w' := by
  obtain ⟨a, rfl⟩ := wf_u8 w0
  obtain ⟨b, rfl⟩ := wf_u8 w1
  obtain ⟨A, n, c, l, rfl, hl⟩ := ops_open o2 h2
  clear w0 w1 o2 h2
  have hmx := hl.max
  have hle := hl.le
  have hln := hl.len
  go_enter Try.func6, Try.ntmps6
  try dsimp only [List.append]
  go_wp2_with (fail)
  refine (begun_any w a b).mono ?_
  rintro x w1 ⟨Aa, na, ca, rfl, ia, _, x1⟩
  have hl1 := hl.ext x1
  have X := Lib.hid x1
  clear x1 hl
  have hbeg : ∃ d N : Nat, beg a b = Rounds.begun 5 9 (d : Int) N ∧ manyOf a = N ∧ 1 ≤ N ∧ N ≤ 12 ∧ 1 ≤ d ∧ d ≤ N := by
    have h1 : 1 ≤ manyOf a ∧ manyOf a ≤ 12 := by unfold manyOf; omega
    have h2 := Nat.mod_lt b.toNat (show 0 < manyOf a by omega)
    exact ⟨1 + b.toNat % manyOf a, manyOf a, rfl, rfl, h1.1, h1.2, by omega, by omega⟩
  obtain ⟨d, N, hbg, hmn, N1, N2, D1, D2⟩ := hbeg
  obtain ⟨r0, hr0⟩ : ∃ r0, Rounds.begun 5 9 (d : Int) N = r0 := ⟨_, rfl⟩
  have hlen0 : r0.marks.length = N := by rw [← hr0]; simp [Rounds.begun]
  rw [hr0] at hbg
  have HBG := Lib.hid hbg
  have HR0 := Lib.hid hr0
  have HMN := Lib.hid hmn
  clear hbg hmn hr0
  rw [HBG.out] at ia ⊢
  rw [HMN.out]
  have hsafe0 : Rounds.Safe N r0 (List.replicate N false) := by rw [← HR0.out]; exact Rounds.safe_begun N d (by omega) (by omega)
  have hph0 : r0.phase = 1 := by rw [← HR0.out]; rfl
  have HPH0 := Lib.hid hph0
  clear hph0
  have hmk := fun W => run_make_bools W N (by omega)
  go_wp2_with (fail)
  have ba := Bx.new w1 r0.stripe r0.version r0.need r0.phase (.slice Aa na ca) rfl
  have x2 : Ext w1 (w1.alloc (.cells #[.int .i64 r0.stripe, .int .i64 r0.version, .int .i64 r0.need, .int .i64 r0.phase, .slice Aa na ca] 25)) := Ext.alloc _ _
  have bo := Bo.made (w1.alloc (.cells #[.int .i64 r0.stripe, .int .i64 r0.version, .int .i64 r0.need, .int .i64 r0.phase, .slice Aa na ca] 25)) N (g := w1.heap.size + 1) (by simp)
  have x3 : Ext w1 ((w1.alloc (.cells #[.int .i64 r0.stripe, .int .i64 r0.version, .int .i64 r0.need, .int .i64 r0.phase, .slice Aa na ca] 25)).alloc (.cells (made N (.bool false)) 4)) := x2.thenAlloc _
  have aa : Away Aa na w1.heap.size := Away.old ia (Nat.le_refl _)
  have ab : Away Aa na (w1.heap.size + 1) := Away.old ia (by omega)
  have st : Held ((w1.alloc (.cells #[.int .i64 r0.stripe, .int .i64 r0.version, .int .i64 r0.need, .int .i64 r0.phase, .slice Aa na ca] 25)).alloc (.cells (made N (.bool false)) 4)) w1.heap.size w1.heap.size (w1.heap.size + 1) r0 Aa na ca := ⟨ba.ext (Ext.alloc _ _), ia.ext x3, aa, ab⟩
  clear ba aa ab ia hmk x2
  generalize ((w1.alloc (.cells #[.int .i64 r0.stripe, .int .i64 r0.version, .int .i64 r0.need, .int .i64 r0.phase, .slice Aa na ca] 25)).alloc (.cells (made N (.bool false)) 4)) = W0 at *
  generalize hg : w1.heap.size = g at *
  have HG := Lib.hid hg
  clear hg
  go_loopw [11, 12, 13] (fun s11 s12 s13 wr => ∃ (k : Nat) (r : Rounds.R) (S : List Bool) (D : Option Addr) (q e : Nat), k ≤ 80 ∧ k ≤ n ∧ s13 = .int .i64 k ∧ s11 = .bool (decide (r.phase = 3 ∨ r.phase = 4)) ∧ s12 = .bool (decide (r.phase = 5 ∨ r.phase = 6)) ∧ Rounds.Safe N r S ∧ Held wr g g (g + 1) r D q e ∧ Bo wr (g + 1) S ∧ Ext w1 wr) (fun _ _ i _ => 80 - (intOf i).toNat)
  case atStart => exact ⟨0, r0, List.replicate N false, Aa, na, ca, by omega, by omega, rfl, by rw [HPH0.out]; rfl, by rw [HPH0.out]; rfl, hsafe0, st, bo, x3⟩
  case round =>
    obtain ⟨k, r, S, D, q, e, hk1, hk2, rfl, rfl, rfl, hsf, hH, hbo, hx⟩ := hrel
    clear st bo x3 hsafe0 hlen0
    by_cases hkn : k < n
    · have q1 : (k : Int) < n := by omega
      by_cases hk6 : k < 80
      · have q2 : (k : Int) < 80 := by omega
        obtain ⟨b0, o0, rfl, y0, y1, y2, y3⟩ := (hl1.ext hx).at_ k (by rw [hln]; exact hkn)
        generalize hop : opget l k = o at *
        have hqn : N = q := by rw [← hH.is_.len]; exact hsf.len.symm
        subst hqn
        generalize hpb : decide (r.phase = 3 ∨ r.phase = 4) = pb at *
        generalize hgv : decide (r.phase = 5 ∨ r.phase = 6) = gv at *
        have HPB := Lib.hid hpb
        have HGV := Lib.hid hgv
        have hspot : spot r o.index = pick o.index N := by unfold spot; rw [hsf.len, Nat.max_eq_left (by omega)]
        have hpr := pick_range o.index N (by omega)
        obtain ⟨i0, hi0⟩ := Int.eq_ofNat_of_zero_le hpr.1
        have hi1 : i0 < N := by omega
        obtain ⟨R, hR⟩ : ∃ R, doesR r o = R := ⟨_, rfl⟩
        obtain ⟨E, hE⟩ : ∃ E, doesE r o = E := ⟨_, rfl⟩
        have hact : Rounds.act r o.kind (i0 : Int) o.op o.e = R := by rw [← hR, doesR_act, hspot, hi0]
        have hactE : Rounds.actE r o.kind (i0 : Int) = E := by rw [← hE, doesE_act, hspot, hi0]
        have hin : 0 ≤ (i0 : Int) ∧ (i0 : Int) < r.marks.length := ⟨by omega, by rw [hsf.len]; omega⟩
        have hway : Rounds.Way r R o.kind := by rw [← hact]; exact Rounds.way_act hsf.right hin
        have hsf2 : Rounds.Safe N R (Rounds.saidStep S o.kind i0 o.op o.e) := by
          have := Rounds.safe_act (k := o.kind) (o := o.op) (e := o.e) hsf (show 0 ≤ (i0 : Int) ∧ (i0 : Int) < N by omega)
          rw [hact, Int.toNat_natCast] at this
          exact this
        have hbad : E ≠ 0 → R = r := fun h => by rw [← hact]; exact Rounds.act_bad _ _ (by rw [hactE]; exact h)
        have hcs : (o.kind = 7 ∧ R = Rounds.publish r ∧ E = Rounds.turnedE r [2]) ∨ (o.kind = 8 ∧ R = Rounds.give r ∧ E = Rounds.turnedE r [1, 2]) ∨ (o.kind = 9 ∧ R = Rounds.lose1 r i0 ∧ E = 0) ∨ (o.kind ≠ 7 ∧ o.kind ≠ 8 ∧ o.kind ≠ 9 ∧ R = Rounds.told1 r i0 o.op o.e ∧ E = 0) := by
          have hir : Rounds.InRange r (i0 : Int) := ⟨hsf.right, hin.1, hin.2⟩
          have h1 := Rounds.act_cases r o.kind (i0 : Int) o.op o.e hsf.right hin
          rw [hact, Int.toNat_natCast] at h1
          unfold Rounds.actE Rounds.toldE at hactE
          rw [if_pos hir] at hactE
          rcases h1 with ⟨h7, h⟩ | ⟨h8, h⟩ | ⟨h9, h⟩ | ⟨h7, h8, h9, h⟩
          · exact .inl ⟨h7, h, by rw [← hactE, if_pos h7]⟩
          · exact .inr (.inl ⟨h8, h, by rw [← hactE, if_neg (by omega), if_pos h8]⟩)
          · exact .inr (.inr (.inl ⟨h9, h, by rw [← hactE, if_neg (by omega), if_neg (by omega)]⟩))
          · exact .inr (.inr (.inr ⟨h7, h8, h9, h, by rw [← hactE, if_neg h7, if_neg h8]⟩))
        have hc : ∀ W, Ext wr W → Calls Try.prog 33 #[rval r D N e, oval o] W (GivesR D N R E W) := fun W hW => (does_any W r D N e (hH.is_.ext hW) (by omega) o).mono (fun _ _ h => h.of hR hE)
        have HC := Lib.hid hc
        have HI := Lib.hid hi0
        have HWAY := Lib.hid hway
        have HSF := Lib.hid hsf
        have HSF2 := Lib.hid hsf2
        have HBAD := Lib.hid hbad
        have HCS := Lib.hid hcs
        have HH := Lib.hid hH
        have HBO := Lib.hid hbo
        have HXR := Lib.hid hx
        have ob := (⟨heap_alloc_new wr _⟩ : Ob (wr.alloc (.cells #[.int .i64 o.kind, .int .i64 o.index, .int .u8 o.op, .int .i64 o.e] 52)) wr.heap.size o)
        have HOB := Lib.hid ob
        have c0 := hH.bx.c0
        have c1 := hH.bx.c1
        have c2 := hH.bx.c2
        have c3 := hH.bx.c3
        have c4 := hH.bx.c4
        have lg := hH.bx.lt
        clear hpb hgv hspot hpr hi0 hR hE hact hactE hin hway hsf2 hbad hcs hc hH hbo ob hsf hop hx
        go_wp2_with (fail)
        refine (HC.out _ (Ext.alloc _ _)).mono ?_
        rintro x9 w9 ⟨D9, n9, e9, rfl, hD9, hf9, x9⟩
        have hn9 : N = n9 := by rw [← hD9.len]; exact HSF2.out.len.symm
        subst hn9
        have xa : Ext wr (w9.alloc (.cells #[.int .i64 R.stripe, .int .i64 R.version, .int .i64 R.need, .int .i64 R.phase, .slice D9 N e9] 25)) := ((Ext.alloc wr (.cells #[.int .i64 o.kind, .int .i64 o.index, .int .u8 o.op, .int .i64 o.e] 52)).trans x9).thenAlloc _
        have hG := HH.out.ext xa
        have ob3 := (HOB.out.ext x9).ext (Ext.alloc w9 (.cells #[.int .i64 R.stripe, .int .i64 R.version, .int .i64 R.need, .int .i64 R.phase, .slice D9 N e9] 25))
        have bo3 := HBO.out.ext xa
        have hl2 := (Ext.alloc wr (.cells #[.int .i64 o.kind, .int .i64 o.index, .int .u8 o.op, .int .i64 o.e] 52)).size
        have awg := HH.out.a.step hf9 (Nat.lt_of_lt_of_le HH.out.bx.lt hl2)
        have aws := HH.out.b.step hf9 (Nat.lt_of_lt_of_le HBO.out.lt hl2)
        have hQ : Held (w9.alloc (.cells #[.int .i64 R.stripe, .int .i64 R.version, .int .i64 R.need, .int .i64 R.phase, .slice D9 N e9] 25)) w9.heap.size g (g + 1) R D9 N e9 := ⟨Bx.new w9 _ _ _ _ _ rfl, hD9.ext (Ext.alloc _ _), awg, aws⟩
        have hxq := HXR.out.trans xa
        have hbl : g < wr.heap.size := HH.out.bx.lt
        have hbl2 : g + 1 < wr.heap.size := HBO.out.lt
        have hh2 : wr.heap.size < w9.heap.size := Nat.lt_of_lt_of_le (by simp) x9.size
        clear HC HOB xa hl2 awg aws hf9 hD9 c0 c1 c2 c3 c4 y0 y1 y2 y3 x9 HH HBO HXR lg
        generalize hh1 : wr.heap.size = h1 at *
        clear hh1
        have hsn : g + 1 ≠ w9.heap.size := by omega
        have hs1 : g + 1 ≠ h1 := by omega
        have HF := Lib.hid (⟨hG, hQ, bo3, ob3, hxq⟩ : Fx w1 (w9.alloc (.cells #[.int .i64 R.stripe, .int .i64 R.version, .int .i64 R.need, .int .i64 R.phase, .slice D9 N e9] 25)) g w9.heap.size h1 N r D e R D9 e9 S o)
        clear hG hQ bo3 ob3 hxq
        go_upto_region 11 with (fail)
        go_cut [70] (fun s70 wx => ∃ wv : World, wv = wx ∧ s70 = .bool false ∧ Ext (w9.alloc (.cells #[.int .i64 R.stripe, .int .i64 R.version, .int .i64 R.need, .int .i64 R.phase, .slice D9 N e9] 25)) wx)
        case first =>
          as_aux_lemma =>
            have rt := fun (W : World) (h : Is W D9 N e9 R.marks) => right_any W R D9 N e9 h
            rw [decide_eq_true HSF2.out.right] at rt
            have RT := Lib.hid rt
            clear rt
            have c0 := HF.out.G.bx.c0
            have c1 := HF.out.G.bx.c1
            have c2 := HF.out.G.bx.c2
            have c3 := HF.out.G.bx.c3
            have c4 := HF.out.G.bx.c4
            have d0 := HF.out.Q.bx.c0
            have d1 := HF.out.Q.bx.c1
            have d2 := HF.out.Q.bx.c2
            have d3 := HF.out.Q.bx.c3
            have d4 := HF.out.Q.bx.c4
            by_cases hE0 : E = 0
            · have e0 : (E != 0) = false := by rw [bne_eq_false_iff_eq]; exact hE0
              clear hE0
              go_wp2_with (fail)
              refine (RT.out _ HF.out.Q.is_).mono ?_
              rintro x6 w6 ⟨rfl, x6⟩
              clear c0 c1 c2 c3 c4 d0 d1 d2 d3 d4
              have d4 := (HF.out.Q.ext x6).bx.c4
              go_wp2_with (fail)
              go_meet
              exact ⟨_, rfl, rfl, x6⟩
            · have e0 : (E != 0) = true := by rw [bne_iff_ne]; exact hE0
              have sr := sameRound_any _ R r D9 D N e9 N e HF.out.Q.is_ HF.out.G.is_
              rw [decide_eq_true (HBAD.out hE0)] at sr
              have SR := Lib.hid sr
              clear sr hE0
              go_wp2_with (fail)
              refine SR.out.mono ?_
              rintro x8 w8 ⟨rfl, x8⟩
              have HF8 := Lib.hid (HF.out.ext x8)
              clear c0 c1 c2 c3 c4 d0 d1 d2 d3 d4
              have d0 := HF8.out.Q.bx.c0
              have d1 := HF8.out.Q.bx.c1
              have d2 := HF8.out.Q.bx.c2
              have d3 := HF8.out.Q.bx.c3
              have d4 := HF8.out.Q.bx.c4
              go_wp2_with (fail)
              refine (RT.out _ HF8.out.Q.is_).mono ?_
              rintro x6 w6 ⟨rfl, x6⟩
              clear d0 d1 d2 d3 d4
              have d4 := (HF8.out.Q.ext x6).bx.c4
              go_wp2_with (fail)
              go_meet
              exact ⟨_, rfl, rfl, x8.trans x6⟩
        case rest =>
          obtain ⟨w6, rfl, rfl, x6⟩ := hcut
          have HF6 := Lib.hid (HF.out.ext x6)
          clear x6 HF
          have o1 := HF6.out.O.o1
          go_wp2_with (fail)
          refine (pick_any w6 o.index N (by omega)).mono ?_
          rintro x5 w5 ⟨rfl, rfl⟩
          rw [HI.out]
          go_upto_block 2 with (fail)
          clear o1
          obtain ⟨S2, hS2⟩ : ∃ S2, Rounds.saidStep S o.kind i0 o.op o.e = S2 := ⟨_, rfl⟩
          have HS2 := Lib.hid hS2
          rw [hS2] at HSF2
          clear hS2
          go_cut [] (fun wx => ∃ wv : World, wv = wx ∧ Fx w1 wx g w9.heap.size h1 N r D e R D9 e9 S2 o)
          case first =>
            as_aux_lemma =>
              have o0 := HF6.out.O.o0
              have o2 := HF6.out.O.o2
              have o3 := HF6.out.O.o3
              have s0 := HF6.out.B.cell (j := i0) (by rw [HSF.out.slen]; omega)
              have sf := HF6.out.B.fz i0
              have hst := HS2.out
              unfold Rounds.saidStep at hst
              by_cases hk9 : o.kind = 9
              · rw [if_pos hk9] at hst
                have kk9 : (o.kind == 9) = true := by rw [beq_iff_eq]; exact hk9
                have HST := Lib.hid hst
                clear hst hk9
                go_wp2_with (fail)
                go_meet
                refine ⟨_, rfl, ?_⟩
                rw [← HST.out]
                exact HF6.out.set hsn hs1 (by have := HG.out; omega) i0 false
              · rw [if_neg hk9] at hst
                have kk9 : (o.kind == 9) = false := by rw [beq_eq_false_iff_ne]; exact hk9
                clear hk9
                by_cases hk7 : o.kind = 7
                · rw [if_neg (fun hh => hh.1 hk7)] at hst
                  have kn7 : (o.kind != 7) = false := by rw [bne_eq_false_iff_eq]; exact hk7
                  have HST := Lib.hid hst
                  clear hst hk7
                  go_wp2_with (fail)
                  go_meet
                  refine ⟨_, rfl, ?_⟩
                  rw [← HST.out]
                  exact HF6.out
                · have kn7 : (o.kind != 7) = true := by rw [bne_iff_ne]; exact hk7
                  by_cases hk8 : o.kind = 8
                  · rw [if_neg (fun hh => hh.2.1 hk8)] at hst
                    have kn8 : (o.kind != 8) = false := by rw [bne_eq_false_iff_eq]; exact hk8
                    have HST := Lib.hid hst
                    clear hst hk7 hk8
                    go_wp2_with (fail)
                    go_meet
                    refine ⟨_, rfl, ?_⟩
                    rw [← HST.out]
                    exact HF6.out
                  · have kn8 : (o.kind != 8) = true := by rw [bne_iff_ne]; exact hk8
                    by_cases ho : o.op = 1
                    · have ko : (o.op == 1) = true := by rw [beq_iff_eq]; exact ho
                      by_cases he : o.e = 0
                      · have ke : (o.e == 0) = true := by rw [beq_iff_eq]; exact he
                        rw [if_pos ⟨hk7, hk8, ho, he⟩] at hst
                        have HST := Lib.hid hst
                        clear hst hk7 hk8 ho he
                        go_wp2_with (fail)
                        go_meet
                        refine ⟨_, rfl, ?_⟩
                        rw [← HST.out]
                        exact HF6.out.set hsn hs1 (by have := HG.out; omega) i0 true
                      · have ke : (o.e == 0) = false := by rw [beq_eq_false_iff_ne]; exact he
                        rw [if_neg (fun hh => he hh.2.2.2)] at hst
                        have HST := Lib.hid hst
                        clear hst hk7 hk8 ho he
                        go_wp2_with (fail)
                        go_meet
                        refine ⟨_, rfl, ?_⟩
                        rw [← HST.out]
                        exact HF6.out
                    · have ko : (o.op == 1) = false := by rw [beq_eq_false_iff_ne]; exact ho
                      rw [if_neg (fun hh => ho hh.2.2.1)] at hst
                      have HST := Lib.hid hst
                      clear hst hk7 hk8 ho
                      go_wp2_with (fail)
                      go_meet
                      refine ⟨_, rfl, ?_⟩
                      rw [← HST.out]
                      exact HF6.out
          case rest =>
            obtain ⟨wy, rfl, hF⟩ := hcut
            have HF := Lib.hid hF
            clear hF HF6
            have c3 := HF.out.G.bx.c3
            have d3 := HF.out.Q.bx.c3
            go_upto_region 18 with (fail)
            go_cut [111] (fun s111 wx => ∃ wv : World, wv = wx ∧ wy = wx ∧ s111 = .bool (decide (R.phase = 3 ∧ r.phase ≠ 3)))
            case first =>
              as_aux_lemma =>
                by_cases q3 : R.phase = 3
                · have k1 : (R.phase == 3) = true := by rw [beq_iff_eq]; exact q3
                  by_cases p3 : r.phase = 3
                  · have k2 : (r.phase != 3) = false := by rw [bne_eq_false_iff_eq]; exact p3
                    have HP := Lib.hid (And.intro q3 p3)
                    clear q3 p3
                    go_wp2_with (fail)
                    go_meet
                    exact ⟨_, rfl, rfl, by rw [decide_eq_false (fun hh => hh.2 HP.out.2)]⟩
                  · have k2 : (r.phase != 3) = true := by rw [bne_iff_ne]; exact p3
                    have HP := Lib.hid (And.intro q3 p3)
                    clear q3 p3
                    go_wp2_with (fail)
                    go_meet
                    exact ⟨_, rfl, rfl, by rw [decide_eq_true HP.out]⟩
                · have k1 : (R.phase == 3) = false := by rw [beq_eq_false_iff_ne]; exact q3
                  have HP := Lib.hid q3
                  clear q3
                  go_wp2_with (fail)
                  go_meet
                  exact ⟨_, rfl, rfl, by rw [decide_eq_false (fun hh => HP.out hh.1)]⟩
            case rest =>
              obtain ⟨wv, rfl, rfl, rfl⟩ := hcut
              clear c3 d3
              go_upto_if 111 with (fail)
              go_cut [11] (fun s11 wx => ∃ wv : World, wv = wx ∧ s11 = .bool (decide (R.phase = 3 ∨ R.phase = 4)) ∧ Fx w1 wx g w9.heap.size h1 N r D e R D9 e9 S2 o)
              case first =>
                as_aux_lemma =>
                  by_cases hX : R.phase = 3 ∧ r.phase ≠ 3
                  · rw [decide_eq_true hX]
                    obtain ⟨p2, hk7, hms⟩ := HWAY.out.pub hX.1 hX.2
                    have hS2S : S2 = S := by rw [← HS2.out]; unfold Rounds.saidStep; rw [if_neg (by omega), if_neg (fun hh => hh.1 hk7)]
                    subst hS2S
                    have hpub := Rounds.safe_pub HSF.out p2
                    have pgv : gv = false := by rw [← HGV.out, p2]; decide
                    subst pgv
                    have kp2 : (r.phase != 2) = false := by rw [bne_eq_false_iff_eq]; exact p2
                    have kn7 : (o.kind != 7) = false := by rw [bne_eq_false_iff_eq]; exact hk7
                    have HXX := Lib.hid hX
                    clear hX p2 hk7 hms
                    have qn1 : r.need ≤ ((Rounds.saidTo S2 N : Nat) : Int) := by omega
                    have qn2 : r.need ≤ Rounds.many r.marks 1 := hpub.1
                    clear hpub
                    go_wp2_with (fail)
                    go_loopw [18, 114] (fun s18 s114 wz => ∃ j : Nat, j ≤ N ∧ s114 = .int .i64 j ∧ s18 = .int .i64 ((Rounds.saidTo S2 j : Nat) : Int) ∧ wy = wz) (fun _ i _ => N - (intOf i).toNat)
                    case atStart => exact ⟨0, by omega, rfl, rfl, rfl⟩
                    case round =>
                      obtain ⟨j, hj, rfl, rfl, rfl⟩ := hrel
                      have hjl := Rounds.saidTo_le S2 j
                      by_cases hjn : j < N
                      · have q3 : (j : Int) < N := by omega
                        have m0 := HF.out.B.cell (j := j) (by rw [HSF.out.slen]; omega)
                        have hs : Rounds.saidTo S2 (j + 1) = Rounds.saidTo S2 j + if Rounds.sget S2 j = true then 1 else 0 := rfl
                        have HS := Lib.hid hs
                        clear hs
                        generalize Rounds.saidTo S2 j = m at *
                        cases hsg : Rounds.sget S2 j with
                        | true =>
                          rw [hsg] at m0
                          have HSG := Lib.hid hsg
                          clear hsg
                          go_wp2_with (fail)
                          exact ⟨⟨j + 1, by omega, rfl, by rw [HS.out, HSG.out]; simp, trivial⟩, by simp only [intOf]; omega⟩
                        | false =>
                          rw [hsg] at m0
                          have HSG := Lib.hid hsg
                          clear hsg
                          go_wp2_with (fail)
                          exact ⟨⟨j + 1, by omega, rfl, by rw [HS.out, HSG.out]; simp, trivial⟩, by simp only [intOf]; omega⟩
                      · have hjj : N = j := by omega
                        subst hjj
                        have c0 := HF.out.G.bx.c0
                        have c1 := HF.out.G.bx.c1
                        have c2 := HF.out.G.bx.c2
                        have c3 := HF.out.G.bx.c3
                        have c4 := HF.out.G.bx.c4
                        have o0 := HF.out.O.o0
                        have hS : ∀ W : World, Ext wy W → (W.cell? ⟨g, 0, none⟩ = some (.int .i64 r.stripe) ∧ W.cell? ⟨g, 1, none⟩ = some (.int .i64 r.version) ∧ W.cell? ⟨g, 2, none⟩ = some (.int .i64 r.need) ∧ W.cell? ⟨g, 3, none⟩ = some (.int .i64 r.phase) ∧ W.cell? ⟨g, 4, none⟩ = some (.slice D N e) ∧ W.cell? ⟨h1, 0, none⟩ = some (.int .i64 o.kind)) := fun W hW => ⟨hW.cell c0, hW.cell c1, hW.cell c2, hW.cell c3, hW.cell c4, hW.cell o0⟩
                        have HS := Lib.hid hS
                        have mk1 := fun (W : World) (hW : Ext wy W) => marks_any W r D N e (HF.out.G.is_.ext hW) (by omega) 1
                        have MK1 := Lib.hid mk1
                        clear hS mk1
                        generalize Rounds.many r.marks 1 = m1 at *
                        generalize hct : ((Rounds.saidTo S2 N : Nat) : Int) = ct at *
                        have qd1 : decide (ct < r.need) = false := decide_eq_false (by omega)
                        have qd2 : decide (m1 < r.need) = false := decide_eq_false (by omega)
                        clear hct
                        go_wp2_with (fail)
                        go_region_held3 (fun W => W.cell? ⟨g, 0, none⟩ = some (.int .i64 r.stripe) ∧ W.cell? ⟨g, 1, none⟩ = some (.int .i64 r.version) ∧ W.cell? ⟨g, 2, none⟩ = some (.int .i64 r.need) ∧ W.cell? ⟨g, 3, none⟩ = some (.int .i64 r.phase) ∧ W.cell? ⟨g, 4, none⟩ = some (.slice D N e) ∧ W.cell? ⟨h1, 0, none⟩ = some (.int .i64 o.kind))
                          (first | (refine HS.out _ ?_; (first | (with_reducible exact Ext.drew _) | (with_reducible exact (Ext.drew _).trans x4))))
                          (first | ((with_reducible refine (MK1.out _ ?_).mono ?_); (focus (with_reducible exact Ext.drew _)); rintro x4 w4 ⟨rfl, x4⟩))
                        all_goals
                          go_wp2_with (fail)
                          go_meet
                          exact ⟨_, rfl, by rw [HXX.out.1]; rfl, HF.out.ext ((Ext.drew wy).trans x4)⟩
                  · rw [decide_eq_false hX]
                    have hpe : pb = decide (R.phase = 3 ∨ R.phase = 4) := by
                      rw [← HPB.out]
                      rw [decide_eq_decide]
                      constructor
                      · exact HWAY.out.up
                      · rintro (h3 | h4)
                        · exact .inl (Classical.byContradiction fun hn => hX ⟨h3, hn⟩)
                        · exact HWAY.out.done h4
                    clear hX
                    go_wp2_with (fail)
                    go_meet
                    exact ⟨_, rfl, by rw [hpe], HF.out⟩
              case rest =>
                clear HF
                obtain ⟨wy, rfl, rfl, hF⟩ := hcut
                have HF := Lib.hid hF
                clear hF
                have d3 := HF.out.Q.bx.c3
                go_upto_region 29 with (fail)
                go_cut [12] (fun s12 wx => ∃ wv : World, wv = wx ∧ wy = wx ∧ s12 = .bool (decide (R.phase = 5 ∨ R.phase = 6)))
                case first =>
                  as_aux_lemma =>
                    have hge : (gv || (R.phase == 5)) = decide (R.phase = 5 ∨ R.phase = 6) := by
                      rw [← HGV.out, Bool.eq_iff_iff]
                      simp only [Bool.or_eq_true, decide_eq_true_eq, beq_iff_eq]
                      constructor
                      · rintro (h5 | h5)
                        · exact HWAY.out.given h5
                        · exact .inl h5
                      · rintro (h5 | h5)
                        · exact .inr h5
                        · exact .inl (HWAY.out.gone h5)
                    have HGE := Lib.hid hge
                    clear hge
                    cases gv with
                    | true =>
                      go_wp2_with (fail)
                      go_meet
                      exact ⟨_, rfl, rfl, by rw [← HGE.out]; rfl⟩
                    | false =>
                      go_wp2_with (fail)
                      go_meet
                      exact ⟨_, rfl, rfl, by rw [← HGE.out]; rfl⟩
                case rest =>
                  obtain ⟨wv, rfl, rfl, rfl⟩ := hcut
                  clear d3
                  go_upto_region 30 with (fail)
                  go_cut [11, 12, 193] (fun s11 s12 s193 wx => ∃ wv : World, wv = wx ∧ s11 = .bool (decide (R.phase = 3 ∨ R.phase = 4)) ∧ s12 = .bool (decide (R.phase = 5 ∨ R.phase = 6)) ∧ s193 = .bool false ∧ Ext wy wx)
                  case first =>
                    as_aux_lemma =>
                      have hq := Rounds.right_phase HSF2.out.right
                      have hcq : (R.phase ≠ 3 ∧ R.phase ≠ 4 ∧ R.phase ≠ 5 ∧ R.phase ≠ 6) ∨ R.phase = 3 ∨ R.phase = 4 ∨ R.phase = 5 ∨ R.phase = 6 := by omega
                      have mk := fun (W : World) (h : Is W D9 N e9 R.marks) (x : Int) => marks_any W R D9 N e9 h (by omega) x
                      have MK := Lib.hid mk
                      have Z := Lib.hid (Rounds.right_none HSF2.out.right)
                      clear mk hq
                      have d0 := HF.out.Q.bx.c0
                      have d1 := HF.out.Q.bx.c1
                      have d2 := HF.out.Q.bx.c2
                      have d3 := HF.out.Q.bx.c3
                      have d4 := HF.out.Q.bx.c4
                      rcases hcq with ⟨n3, n4, n5, n6⟩ | n3 | n4 | n5 | n6
                      · rw [decide_eq_false (fun hh : R.phase = 3 ∨ R.phase = 4 => by omega), decide_eq_false (fun hh : R.phase = 5 ∨ R.phase = 6 => by omega)]
                        have z2 := Z.out.1 (by omega)
                        have z4 := Z.out.2 (by omega)
                        have kq3 : (R.phase == 3) = false := by rw [beq_eq_false_iff_ne]; omega
                        have kq4 : (R.phase == 4) = false := by rw [beq_eq_false_iff_ne]; omega
                        have kq5 : (R.phase == 5) = false := by rw [beq_eq_false_iff_ne]; omega
                        have kq6 : (R.phase == 6) = false := by rw [beq_eq_false_iff_ne]; omega
                        have mk2 := MK.out wy HF.out.Q.is_ 2
                        rw [z2] at mk2
                        have MK2 := Lib.hid mk2
                        have Z4 := Lib.hid z4
                        have NN := Lib.hid (show ¬ (R.phase = 3 ∨ R.phase = 4) ∧ ¬ (R.phase = 5 ∨ R.phase = 6) by omega)
                        clear z2 z4 mk2 n3 n4 n5 n6
                        go_wp2_with (fail)
                        refine MK2.out.mono ?_
                        rintro xa wa ⟨rfl, xa⟩
                        have HFa := Lib.hid (HF.out.ext xa)
                        clear d0 d1 d2 d3 d4
                        have d0 := HFa.out.Q.bx.c0
                        have d1 := HFa.out.Q.bx.c1
                        have d2 := HFa.out.Q.bx.c2
                        have d3 := HFa.out.Q.bx.c3
                        have d4 := HFa.out.Q.bx.c4
                        have mk4 := MK.out wa HFa.out.Q.is_ 4
                        rw [Z4.out] at mk4
                        have MK4 := Lib.hid mk4
                        clear mk4
                        go_wp2_with (fail)
                        refine MK4.out.mono ?_
                        rintro xb wb ⟨rfl, xb⟩
                        clear d0 d1 d2 d3 d4
                        go_wp2_with (fail)
                        go_meet
                        exact ⟨_, rfl, by rw [decide_eq_false NN.out.1], by rw [decide_eq_false NN.out.2], rfl, xa.trans xb⟩
                      · rw [show decide (R.phase = 3 ∨ R.phase = 4) = true by rw [n3]; decide, show decide (R.phase = 5 ∨ R.phase = 6) = false by rw [n3]; decide]
                        have zk := Z.out.2 (by omega)
                        have kq3 : (R.phase == 3) = true := by rw [beq_iff_eq]; omega
                        have kq4 : (R.phase == 4) = false := by rw [beq_eq_false_iff_ne]; omega
                        have kq5 : (R.phase == 5) = false := by rw [beq_eq_false_iff_ne]; omega
                        have kq6 : (R.phase == 6) = false := by rw [beq_eq_false_iff_ne]; omega
                        have mk2 := MK.out wy HF.out.Q.is_ 4
                        rw [zk] at mk2
                        have MK2 := Lib.hid mk2
                        have NN := Lib.hid n3
                        clear zk mk2 n3
                        go_wp2_with (fail)
                        refine MK2.out.mono ?_
                        rintro xa wa ⟨rfl, xa⟩
                        clear d0 d1 d2 d3 d4
                        go_wp2_with (fail)
                        go_meet
                        exact ⟨_, rfl, by rw [NN.out]; rfl, by rw [NN.out]; rfl, rfl, xa⟩
                      · rw [show decide (R.phase = 3 ∨ R.phase = 4) = true by rw [n4]; decide, show decide (R.phase = 5 ∨ R.phase = 6) = false by rw [n4]; decide]
                        have zk := Z.out.2 (by omega)
                        have kq3 : (R.phase == 3) = false := by rw [beq_eq_false_iff_ne]; omega
                        have kq4 : (R.phase == 4) = true := by rw [beq_iff_eq]; omega
                        have kq5 : (R.phase == 5) = false := by rw [beq_eq_false_iff_ne]; omega
                        have kq6 : (R.phase == 6) = false := by rw [beq_eq_false_iff_ne]; omega
                        have mk2 := MK.out wy HF.out.Q.is_ 4
                        rw [zk] at mk2
                        have MK2 := Lib.hid mk2
                        have NN := Lib.hid n4
                        clear zk mk2 n4
                        go_wp2_with (fail)
                        refine MK2.out.mono ?_
                        rintro xa wa ⟨rfl, xa⟩
                        clear d0 d1 d2 d3 d4
                        go_wp2_with (fail)
                        go_meet
                        exact ⟨_, rfl, by rw [NN.out]; rfl, by rw [NN.out]; rfl, rfl, xa⟩
                      · rw [show decide (R.phase = 3 ∨ R.phase = 4) = false by rw [n5]; decide, show decide (R.phase = 5 ∨ R.phase = 6) = true by rw [n5]; decide]
                        have zk := Z.out.1 (by omega)
                        have kq3 : (R.phase == 3) = false := by rw [beq_eq_false_iff_ne]; omega
                        have kq4 : (R.phase == 4) = false := by rw [beq_eq_false_iff_ne]; omega
                        have kq5 : (R.phase == 5) = true := by rw [beq_iff_eq]; omega
                        have kq6 : (R.phase == 6) = false := by rw [beq_eq_false_iff_ne]; omega
                        have mk2 := MK.out wy HF.out.Q.is_ 2
                        rw [zk] at mk2
                        have MK2 := Lib.hid mk2
                        have NN := Lib.hid n5
                        clear zk mk2 n5
                        go_wp2_with (fail)
                        refine MK2.out.mono ?_
                        rintro xa wa ⟨rfl, xa⟩
                        clear d0 d1 d2 d3 d4
                        go_wp2_with (fail)
                        go_meet
                        exact ⟨_, rfl, by rw [NN.out]; rfl, by rw [NN.out]; rfl, rfl, xa⟩
                      · rw [show decide (R.phase = 3 ∨ R.phase = 4) = false by rw [n6]; decide, show decide (R.phase = 5 ∨ R.phase = 6) = true by rw [n6]; decide]
                        have zk := Z.out.1 (by omega)
                        have kq3 : (R.phase == 3) = false := by rw [beq_eq_false_iff_ne]; omega
                        have kq4 : (R.phase == 4) = false := by rw [beq_eq_false_iff_ne]; omega
                        have kq5 : (R.phase == 5) = false := by rw [beq_eq_false_iff_ne]; omega
                        have kq6 : (R.phase == 6) = true := by rw [beq_iff_eq]; omega
                        have mk2 := MK.out wy HF.out.Q.is_ 2
                        rw [zk] at mk2
                        have MK2 := Lib.hid mk2
                        have NN := Lib.hid n6
                        clear zk mk2 n6
                        go_wp2_with (fail)
                        refine MK2.out.mono ?_
                        rintro xa wa ⟨rfl, xa⟩
                        clear d0 d1 d2 d3 d4
                        go_wp2_with (fail)
                        go_meet
                        exact ⟨_, rfl, by rw [NN.out]; rfl, by rw [NN.out]; rfl, rfl, xa⟩
                  case rest =>
                    obtain ⟨wb, rfl, rfl, rfl, rfl, xb⟩ := hcut
                    have HFb := Lib.hid (HF.out.ext xb)
                    clear xb HF
                    generalize hp2 : decide (R.phase = 3 ∨ R.phase = 4) = pb2 at *
                    generalize hg2 : decide (R.phase = 5 ∨ R.phase = 6) = gv2 at *
                    have HP2 := Lib.hid hp2
                    have HG2 := Lib.hid hg2
                    clear hp2 hg2
                    have c0 := HFb.out.G.bx.c0
                    have c1 := HFb.out.G.bx.c1
                    have c2 := HFb.out.G.bx.c2
                    have c3 := HFb.out.G.bx.c3
                    have c4 := HFb.out.G.bx.c4
                    have d0 := HFb.out.Q.bx.c0
                    have d1 := HFb.out.Q.bx.c1
                    have d2 := HFb.out.Q.bx.c2
                    have d3 := HFb.out.Q.bx.c3
                    have d4 := HFb.out.Q.bx.c4
                    go_upto_region 32 with (fail)
                    go_cut [207] (fun s207 wx => ∃ wv : World, wv = wx ∧ s207 = .bool false ∧ Ext wb wx)
                    case first =>
                      as_aux_lemma =>
                        by_cases hp46 : r.phase = 4 ∨ r.phase = 6
                        · have sr := sameRound_any wb R r D9 D N e9 N e HFb.out.Q.is_ HFb.out.G.is_
                          rw [decide_eq_true (HWAY.out.stay hp46)] at sr
                          have SR := Lib.hid sr
                          clear sr
                          rcases hp46 with hp | hp
                          · have k4 : (r.phase == 4) = true := by rw [beq_iff_eq]; exact hp
                            clear hp
                            go_wp2_with (fail)
                            refine SR.out.mono ?_
                            rintro xs ws ⟨rfl, xs⟩
                            clear c0 c1 c2 c3 c4 d0 d1 d2 d3 d4
                            go_wp2_with (fail)
                            go_meet
                            exact ⟨_, rfl, rfl, xs⟩
                          · have k4 : (r.phase == 4) = false := by rw [beq_eq_false_iff_ne]; omega
                            have k6 : (r.phase == 6) = true := by rw [beq_iff_eq]; exact hp
                            clear hp
                            go_wp2_with (fail)
                            refine SR.out.mono ?_
                            rintro xs ws ⟨rfl, xs⟩
                            clear c0 c1 c2 c3 c4 d0 d1 d2 d3 d4
                            go_wp2_with (fail)
                            go_meet
                            exact ⟨_, rfl, rfl, xs⟩
                        · have k4 : (r.phase == 4) = false := by rw [beq_eq_false_iff_ne]; omega
                          have k6 : (r.phase == 6) = false := by rw [beq_eq_false_iff_ne]; omega
                          clear hp46
                          go_wp2_with (fail)
                          go_meet
                          exact ⟨_, rfl, rfl, Ext.refl _⟩
                    case rest =>
                      clear c0 c1 c2 c3 c4 d0 d1 d2 d3 d4
                      obtain ⟨we, rfl, rfl, xe⟩ := hcut
                      have HFe := Lib.hid (HFb.out.ext xe)
                      clear xe HFb
                      have c0 := HFe.out.G.bx.c0
                      have c1 := HFe.out.G.bx.c1
                      have c2 := HFe.out.G.bx.c2
                      have c3 := HFe.out.G.bx.c3
                      have c4 := HFe.out.G.bx.c4
                      have d0 := HFe.out.Q.bx.c0
                      have d1 := HFe.out.Q.bx.c1
                      have d2 := HFe.out.Q.bx.c2
                      have d3 := HFe.out.Q.bx.c3
                      have d4 := HFe.out.Q.bx.c4
                      have f0 := HFe.out.G.bx.fz 0
                      have f1 := HFe.out.G.bx.fz 1
                      have f2 := HFe.out.G.bx.fz 2
                      have f3 := HFe.out.G.bx.fz 3
                      have f4 := HFe.out.G.bx.fz 4
                      go_wp2_with (fail)
                      exact ⟨⟨k + 1, R, S2, D9, N, e9, by omega, by omega, rfl, by rw [HP2.out], by rw [HG2.out], HSF2.out, ⟨HFe.out.G.bx.whole _ _ _ _ _, HFe.out.Q.is_.five HFe.out.Q.a _ _ _ _ _, HFe.out.Q.a, HFe.out.Q.b⟩, HFe.out.B.five (by omega) _ _ _ _ _, Ext.five HFe.out.X (by have := HG.out; omega) _ _ _ _ _⟩, by simp only [intOf]; omega⟩
      · have q2 : ¬ (k : Int) < 80 := by omega
        go_wp2_with (fail)
        refine (awake_any wr).mono ?_
        rintro x9 w9 ⟨rfl, x9⟩
        go_wp2_with (fail)
        go_ret
        exact ⟨rfl, X.out.trans (hx.trans x9)⟩
    · have q1 : ¬ (k : Int) < n := by omega
      go_wp2_with (fail)
      refine (awake_any wr).mono ?_
      rintro x9 w9 ⟨rfl, x9⟩
      go_wp2_with (fail)
      go_ret
      exact ⟨rfl, X.out.trans (hx.trans x9)⟩
end roundSafe
end Go.Proofs.Ytgfhpgomlocllaa
