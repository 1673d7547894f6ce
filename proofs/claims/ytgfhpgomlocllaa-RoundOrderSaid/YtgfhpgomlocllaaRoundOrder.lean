/- RoundOrder's walk: in which order answers to prepare come says nothing of which indexes are marked how; for every input. -/
import Derived.Test.YtgfhpgomlocllaaRoundAwake
import Derived.Test.YtgfhpgomlocllaaRoundBegun
import Derived.Test.YtgfhpgomlocllaaRoundsOrder
import Derived.Test.YtgfhpgomlocllaaOpen
namespace Go.Proofs.Ytgfhpgomlocllaa
open Go.ChangeShapes Go.WideShapes Go.ChangeAt Go.RowKit

namespace roundOrder
/-- A row is not in block g. -/
def Away (D : Option Addr) (q g : Nat) : Prop := 0 < q → ∀ b, D.map (·.block) = some b → g ≠ b
theorem Away.step {w : World} {A D : Option Addr} {n q g : Nat} (h : Away A n g) (hf : FreshOr w A n D q) (hg : g < w.heap.size) : Away D q g := by
  intro hq b hb e
  rcases hf with ⟨rfl, rfl⟩ | hf
  · exact h hq b hb e
  · obtain ⟨b', o, rfl, hb'⟩ := hf hq
    injection hb with hb
    have h4 : b' = b := hb
    omega
theorem Away.none (g : Nat) : Away .none 0 g := fun h => absurd h (Nat.lt_irrefl 0)
theorem Away.old {w : World} {A : Option Addr} {n c g : Nat} {l : List Int} (h : Is w A n c l) (hg : w.heap.size ≤ g) : Away A n g := by
  intro hn b hb e
  obtain ⟨b', o, rfl, hc⟩ := h.rd.intAt hn
  have h3 : b' < w.heap.size := World.block_lt_of_cell? _ _ hc
  injection hb with hb
  have h4 : b' = b := hb
  omega
/-- A round in box g, its row away from two boxes. -/
structure Held (w : World) (g ga gb : Nat) (r : Rounds.R) (D : Option Addr) (q e : Nat) : Prop where
  bx : Bx w g r.stripe r.version r.need r.phase (.slice D q e)
  is_ : Is w D q e r.marks
  a : Away D q ga
  b : Away D q gb
theorem Held.ext {w w' : World} {g ga gb : Nat} {r : Rounds.R} {D : Option Addr} {q e : Nat} (h : Held w g ga gb r D q e) (hx : Ext w w') : Held w' g ga gb r D q e := ⟨h.bx.ext hx, h.is_.ext hx, h.a, h.b⟩
theorem Bx.farFive {w : World} {g : Nat} {s v d p : Int} {S : Value} (h : Bx w g s v d p S) {q : Nat} (hq : q ≠ g) (a0 a1 a2 a3 a4 : Value) :
    Bx (((((w.setCell ⟨q, 0, .none⟩ a0).setCell ⟨q, 1, .none⟩ a1).setCell ⟨q, 2, .none⟩ a2).setCell ⟨q, 3, .none⟩ a3).setCell ⟨q, 4, .none⟩ a4) g s v d p S :=
  ((((h.far (q := ⟨q, 0, .none⟩) hq _).far (q := ⟨q, 1, .none⟩) hq _).far (q := ⟨q, 2, .none⟩) hq _).far (q := ⟨q, 3, .none⟩) hq _).far (q := ⟨q, 4, .none⟩) hq _
theorem Held.five {w : World} {g ga gb : Nat} {r : Rounds.R} {D : Option Addr} {n e : Nat} (h : Held w g ga gb r D n e) {q : Nat} (hq : q ≠ g) (hw : Away D n q) (a0 a1 a2 a3 a4 : Value) :
    Held (((((w.setCell ⟨q, 0, .none⟩ a0).setCell ⟨q, 1, .none⟩ a1).setCell ⟨q, 2, .none⟩ a2).setCell ⟨q, 3, .none⟩ a3).setCell ⟨q, 4, .none⟩ a4) g ga gb r D n e :=
  ⟨Bx.farFive h.bx hq _ _ _ _ _, h.is_.five hw _ _ _ _ _, h.a, h.b⟩
theorem Held.store {w w3 : World} {g ga gb : Nat} {r r' : Rounds.R} {A D : Option Addr} {q e n c : Nat} (h : Held w g ga gb r A q e) (hx : Ext w w3) (hf : FreshOr w A q D n) (hi : Is w3 D n c r'.marks) (hg : g = ga ∨ g = gb) (la : ga < w.heap.size) (lb : gb < w.heap.size) :
    Held (((((w3.setCell ⟨g, 0, .none⟩ (.int .i64 r'.stripe)).setCell ⟨g, 1, .none⟩ (.int .i64 r'.version)).setCell ⟨g, 2, .none⟩ (.int .i64 r'.need)).setCell ⟨g, 3, .none⟩ (.int .i64 r'.phase)).setCell ⟨g, 4, .none⟩ (.slice D n c)) g ga gb r' D n c := by
  have ha := h.a.step hf la
  have hb := h.b.step hf lb
  refine ⟨(h.bx.ext hx).whole _ _ _ _ _, hi.five ?_ _ _ _ _ _, ha, hb⟩
  rcases hg with rfl | rfl
  · exact ha
  · exact hb
/-- What an index answers. -/
def ans (l : List UInt8) (i : Nat) : Int := if i < l.length ∧ (Gf.get l i).toNat % 3 = 0 then 62 else 0
theorem ans_cases (l : List UInt8) (i : Nat) : ans l i = 0 ∨ ans l i = 62 := by unfold ans; split <;> omega
set_option maxHeartbeats 1000000 in
theorem said_any (w : World) (i : Nat) (bx : Nat) (A : Option Addr) (n c : Nat) (l : List UInt8) (hb : w.cell? ⟨bx, 0, none⟩ = some (.slice A n c)) (hl : Bs w A n c l) :
    Calls Try.prog 11 #[.int .i64 (i : Int), .pointer (some ⟨bx, 0, none⟩)] w fun r w' => r = .returned (.int .i64 (ans l i)) ∧ w = w' := by
  have hmx := hl.max
  have hle := hl.le
  have L := Lib.hid hl.len
  unfold ans
  rw [hl.len]
  by_cases h : i < n
  · obtain ⟨b, o, rfl, hc⟩ := hl.rd.byte h
    have hlt := (Gf.get l i).toNat_lt
    have q1 : (i : Int) < n := by omega
    by_cases h3 : (Gf.get l i).toNat % 3 = 0
    · rw [if_pos ⟨h, h3⟩]
      have e1 : (((Gf.get l i).toNat : Int) % 3 == 0) = true := by rw [beq_iff_eq]; omega
      clear h3 hl
      generalize Gf.get l i = x at *
      go_enter Try.func11, Try.ntmps11
      go_wp2
      go_ret
      exact ⟨rfl, rfl⟩
    · rw [if_neg (fun hh => h3 hh.2)]
      have e1 : (((Gf.get l i).toNat : Int) % 3 == 0) = false := by rw [beq_eq_false_iff_ne]; omega
      clear h3 hl
      generalize Gf.get l i = x at *
      go_enter Try.func11, Try.ntmps11
      go_wp2
      go_ret
      exact ⟨rfl, rfl⟩
  · rw [if_neg (fun hh => h hh.1)]
    have q1 : ¬ (i : Int) < n := by omega
    clear hl
    go_enter Try.func11, Try.ntmps11
    go_wp2
    go_ret
    exact ⟨rfl, rfl⟩

theorem Rd.intCell {w : World} {n b o : Nat} {l : List Int} (h : Rd w 1 (some ⟨b, o, none⟩) n (icells l)) {k : Nat} (hk : k < n) : w.cell? ⟨b, o + k, none⟩ = some (.int .i64 (Il.get l k)) := by
  obtain ⟨b', o', e, hc⟩ := h.intAt hk
  injection e with e
  injection e with e1 e2
  subst e1
  subst e2
  exact hc
theorem fine_back (E : Nat → Int) (N k : Nat) (hk : k ≤ N) : Rounds.fineTo (fun j => N - 1 - j) E k + Rounds.fineTo id E (N - k) = Rounds.fineTo id E N := by
  induction k with
  | zero => show 0 + _ = _; rw [Nat.sub_zero]; omega
  | succ k ih =>
    have h := ih (by omega)
    have e1 : Rounds.fineTo (fun j => N - 1 - j) E (k + 1) = Rounds.fineTo (fun j => N - 1 - j) E k + if E (N - 1 - k) = 0 then 1 else 0 := rfl
    have e3 : Rounds.fineTo id E (N - (k + 1) + 1) = Rounds.fineTo id E (N - (k + 1)) + if E (N - (k + 1)) = 0 then 1 else 0 := rfl
    rw [show N - (k + 1) + 1 = N - k by omega] at e3
    rw [show N - 1 - k = N - (k + 1) by omega] at e1
    omega
theorem fine_same (E : Nat → Int) (N : Nat) : Rounds.fineTo (fun j => N - 1 - j) E N = Rounds.fineTo id E N := by
  have h := fine_back E N N (Nat.le_refl _)
  rw [Nat.sub_self] at h
  have : Rounds.fineTo id E 0 = 0 := rfl
  omega
theorem fine_in (E : Nat → Int) (k : Nat) : 0 ≤ Rounds.fineTo id E k ∧ Rounds.fineTo id E k ≤ k := by
  induction k with
  | zero => exact ⟨Int.le_refl _, Int.le_refl _⟩
  | succ k ih =>
    have e1 : Rounds.fineTo id E (k + 1) = Rounds.fineTo id E k + if E k = 0 then 1 else 0 := rfl
    split at e1 <;> omega
theorem plain {E : Nat → Int} {N : Nat} {d : Int} {ra rb : Rounds.R} (ha : Rounds.Inv id E N d N ra) (hb : Rounds.Inv (fun j => N - 1 - j) E N d N rb) :
    ra.need = d ∧ ra.marks.length = N ∧ rb.marks.length = N ∧ ((ra.phase = 2 ∧ rb.phase = 2 ∧ d ≤ Rounds.fineTo id E N) ∨ (ra.phase = 5 ∧ rb.phase = 5 ∧ Rounds.fineTo id E N < d)) ∧
    (∀ i, i < N → E i = 0 → Il.get ra.marks i = 1 ∧ Il.get rb.marks i = 1) ∧ (∀ i, i < N → E i ≠ 0 → ra.phase = 2 → Il.get ra.marks i = 3 ∧ Il.get rb.marks i = 3) := by
  have pa := Rounds.inv_phase ha
  have pb := Rounds.inv_phase hb
  rw [fine_same] at pb
  have hp : (ra.phase = 2 ∧ rb.phase = 2 ∧ d ≤ Rounds.fineTo id E N) ∨ (ra.phase = 5 ∧ rb.phase = 5 ∧ Rounds.fineTo id E N < d) := by
    by_cases h : d ≤ Rounds.fineTo id E N
    · exact .inl ⟨pa.1.2 h, pb.1.2 h, h⟩
    · have h1 : ¬ ra.phase = 2 := fun e => h (pa.1.1 e)
      have h2 : ¬ rb.phase = 2 := fun e => h (pb.1.1 e)
      exact .inr ⟨by omega, by omega, by omega⟩
  refine ⟨ha.need, ha.len, hb.len, hp, fun i hi he => ⟨ha.fine i hi he, ?_⟩, fun i hi he h2 => ⟨ha.ill i hi he (by omega), ?_⟩⟩
  · have h := hb.fine (N - 1 - i) (by omega)
    simp only [show N - 1 - (N - 1 - i) = i by omega] at h
    exact h he
  · have h := hb.ill (N - 1 - i) (by omega)
    simp only [show N - 1 - (N - 1 - i) = i by omega] at h
    exact h he (by omega)

set_option maxRecDepth 100000 in
set_option maxHeartbeats 4000000 in
theorem walk (w : World) (a0 a1 : Int) (A : Option Addr) (n c : Nat) (zs : List Int) (w0 : (Lit.int .u8 a0).wf = true) (w1 : (Lit.int .u8 a1).wf = true) (w2 : IsRow .u8 w A n c zs) :
    Calls Try.prog 3 #[.int .u8 a0, .int .u8 a1, .slice A n c] w fun e w' => e = .returned (.bool true) ∧ Ext w w' := by
  obtain ⟨a, rfl⟩ := wf_u8 w0
  obtain ⟨b, rfl⟩ := wf_u8 w1
  obtain ⟨l, hl⟩ := w2.bytes
  clear w0 w1 w2
  go_enter Try.func3, Try.ntmps3
  try dsimp only [List.append]
  go_wp2_with (fail)
  have bs : (w.alloc (.cells #[.slice A n c] 22)).cell? ⟨w.heap.size, 0, none⟩ = some (.slice A n c) := by rw [World.cell?_alloc_new]; rfl
  have X : RowKit.Hid (Ext w (w.alloc (.cells #[.slice A n c] 22))) := Lib.hid (Ext.alloc _ _)
  have hl1 := hl.ext X.out
  generalize w.alloc (.cells #[.slice A n c] 22) = W at *
  generalize w.heap.size = gs at *
  refine (begun_any W a b).mono ?_
  rintro x w1 ⟨Aa, na, ca, rfl, ia, _, x1⟩
  replace bs := x1.cell bs
  replace hl1 := hl1.ext x1
  replace X := Lib.hid (X.out.trans x1)
  clear x1
  have hbeg : ∃ d N : Nat, beg a b = Rounds.begun 5 9 (d : Int) N ∧ manyOf a = N ∧ 1 ≤ N ∧ N ≤ 12 ∧ 1 ≤ d ∧ d ≤ N := by
    have h1 : 1 ≤ manyOf a ∧ manyOf a ≤ 12 := by unfold manyOf; omega
    have h2 := Nat.mod_lt b.toNat (show 0 < manyOf a by omega)
    exact ⟨1 + b.toNat % manyOf a, manyOf a, rfl, rfl, h1.1, h1.2, by omega, by omega⟩
  obtain ⟨d, N, hbg, hmn, N1, N2, D1, D2⟩ := hbeg
  obtain ⟨r0, hr0⟩ : ∃ r0, Rounds.begun 5 9 (d : Int) N = r0 := ⟨_, rfl⟩
  rw [hr0] at hbg
  have HBG := Lib.hid hbg
  have HR0 := Lib.hid hr0
  have HMN := Lib.hid hmn
  clear hbg hmn hr0
  rw [HBG.out] at ia ⊢
  rw [HMN.out]
  go_wp2_with (fail)
  have ba := Bx.new w1 r0.stripe r0.version r0.need r0.phase (.slice Aa na ca) rfl
  have x2 : Ext w1 (w1.alloc (.cells #[.int .i64 r0.stripe, .int .i64 r0.version, .int .i64 r0.need, .int .i64 r0.phase, .slice Aa na ca] 25)) := Ext.alloc _ _
  have aa : Away Aa na w1.heap.size := Away.old ia (Nat.le_refl _)
  have ab : ∀ g, w1.heap.size ≤ g → Away Aa na g := fun g hg => Away.old ia hg
  have la : w1.heap.size < (w1.alloc (.cells #[.int .i64 r0.stripe, .int .i64 r0.version, .int .i64 r0.need, .int .i64 r0.phase, .slice Aa na ca] 25)).heap.size := by simp
  replace ia := ia.ext x2
  generalize (w1.alloc (.cells #[.int .i64 r0.stripe, .int .i64 r0.version, .int .i64 r0.need, .int .i64 r0.phase, .slice Aa na ca] 25)) = V at *
  refine (begun_any V a b).mono ?_
  rintro x w2 ⟨Ab, nb, cb, rfl, ib, fb, x3⟩
  rw [HBG.out] at ib ⊢
  rw [HMN.out]
  have lb : w1.heap.size < w2.heap.size := Nat.lt_of_lt_of_le la x3.size
  have ba2 := ba.ext x3
  replace ia := ia.ext x3
  have hba : Away Ab nb w1.heap.size := (Away.none _).step fb la
  have hbb : Away Ab nb w2.heap.size := Away.old ib (Nat.le_refl _)
  have hab := ab w2.heap.size (by omega)
  have x4 := x2.trans x3
  clear ba ab x2 x3 la fb
  go_wp2_with (fail)
  have bb := Bx.new w2 r0.stripe r0.version r0.need r0.phase (.slice Ab nb cb) rfl
  have x5 : Ext w2 (w2.alloc (.cells #[.int .i64 r0.stripe, .int .i64 r0.version, .int .i64 r0.need, .int .i64 r0.phase, .slice Ab nb cb] 25)) := Ext.alloc _ _
  have stA : Held (w2.alloc (.cells #[.int .i64 r0.stripe, .int .i64 r0.version, .int .i64 r0.need, .int .i64 r0.phase, .slice Ab nb cb] 25)) w1.heap.size w1.heap.size w2.heap.size r0 Aa na ca := ⟨ba2.ext x5, ia.ext x5, aa, hab⟩
  have stB : Held (w2.alloc (.cells #[.int .i64 r0.stripe, .int .i64 r0.version, .int .i64 r0.need, .int .i64 r0.phase, .slice Ab nb cb] 25)) w2.heap.size w1.heap.size w2.heap.size r0 Ab nb cb := ⟨bb, ib.ext x5, hba, hbb⟩
  have x6 := x4.trans x5
  have hga : w1.heap.size ≤ w1.heap.size := Nat.le_refl _
  clear ba2 bb ia ib aa hab hba hbb x4 x5
  generalize (w2.alloc (.cells #[.int .i64 r0.stripe, .int .i64 r0.version, .int .i64 r0.need, .int .i64 r0.phase, .slice Ab nb cb] 25)) = W0 at *
  have lw : w2.heap.size < W0.heap.size := stB.bx.lt
  generalize hga' : w1.heap.size = ga at *
  generalize hgb' : w2.heap.size = gb at *
  have HGA := Lib.hid hga'
  clear hga' hgb' hga
  have BS := Lib.hid bs
  have HL := Lib.hid hl1
  clear bs hl1
  go_loopw [14] (fun i wr => ∃ (k : Nat) (D : Option Addr) (q e : Nat) (D' : Option Addr) (q' e' : Nat), k ≤ N ∧ i = .int .i64 k ∧ Held wr ga ga gb (Rounds.seq r0 id (ans l) k) D q e ∧ Held wr gb ga gb (Rounds.seq r0 (fun j => N - 1 - j) (ans l) k) D' q' e' ∧ Ext w1 wr) (fun i _ => N - (intOf i).toNat)
  case atStart => exact ⟨0, Aa, na, ca, Ab, nb, cb, by omega, rfl, stA, stB, x6⟩
  case round =>
    obtain ⟨k, D, q, e, D', q', e', hk, rfl, hA, hB, hx⟩ := hrel
    clear stA stB
    by_cases hlt : k < N
    · have q1 : (k : Int) < N := by omega
      have inv1 : Rounds.Inv id (ans l) N d k (Rounds.seq r0 id (ans l) k) := by
        rw [← HR0.out]
        exact Rounds.inv_all (by omega) (by omega) (fun i hi => hi) (fun i j hij _ => by show i ≠ j; omega) k hk
      have inv2 : Rounds.Inv (fun j => N - 1 - j) (ans l) N d k (Rounds.seq r0 (fun j => N - 1 - j) (ans l) k) := by
        rw [← HR0.out]
        exact Rounds.inv_all (by omega) (by omega) (fun i hi => by show N - 1 - i < N; omega) (fun i j hij hj => by show N - 1 - i ≠ N - 1 - j; omega) k hk
      have st1 := (Rounds.inv_step inv1 (show id k < N from hlt) (fun i hi => by show i ≠ k; omega)).2
      have st2 := (Rounds.inv_step inv2 (show N - 1 - k < N by omega) (fun i hi => by show N - 1 - i ≠ N - 1 - k; omega)).2
      have n1 : Rounds.seq r0 id (ans l) (k + 1) = Rounds.told (Rounds.seq r0 id (ans l) k) (k : Int) 1 (ans l k) := rfl
      have n2 : Rounds.seq r0 (fun j => N - 1 - j) (ans l) (k + 1) = Rounds.told (Rounds.seq r0 (fun j => N - 1 - j) (ans l) k) ((N - 1 - k : Nat) : Int) 1 (ans l (N - 1 - k)) := rfl
      have N1' := Lib.hid n1
      have N2' := Lib.hid n2
      have lenA : (Rounds.seq r0 id (ans l) k).marks.length = N := inv1.len
      have lenB : (Rounds.seq r0 (fun j => N - 1 - j) (ans l) k).marks.length = N := inv2.len
      generalize Rounds.seq r0 id (ans l) k = ra at *
      generalize Rounds.seq r0 (fun j => N - 1 - j) (ans l) k = rb at *
      have hqa : q = N := by rw [← hA.is_.len]; exact lenA
      have hqb : N = q' := by rw [← hB.is_.len]; exact lenB.symm
      subst hqa
      subst hqb
      have sd := fun (W : World) (hW : Ext wr W) => said_any W k gs A n c l ((hx.trans hW).cell BS.out) (HL.out.ext (hx.trans hW))
      have tl := fun (W : World) (hW : Ext wr W) => told_any W ra D q e (hA.is_.ext hW) (by omega) (k : Int) 1 (ans l k)
      rw [show Rounds.toldE ra (k : Int) = 0 from st1, ← n1] at tl
      have SD := Lib.hid sd
      have TL := Lib.hid tl
      have HA := Lib.hid hA
      have HB := Lib.hid hB
      have c0 := hA.bx.c0
      have c1 := hA.bx.c1
      have c2 := hA.bx.c2
      have c3 := hA.bx.c3
      have c4 := hA.bx.c4
      have f0 := hA.bx.fz 0
      have f1 := hA.bx.fz 1
      have f2 := hA.bx.fz 2
      have f3 := hA.bx.fz 3
      have f4 := hA.bx.fz 4
      have la := hA.bx.lt
      have ST2 := Lib.hid st2
      clear n1 n2 lenA lenB sd tl st1 st2 inv1 inv2 hA hB
      obtain ⟨wo, rfl⟩ : ∃ wo : World, wo = wr := ⟨_, rfl⟩
      go_wp2_with (fail)
      go_cut [15] (fun s15 wx => ∃ wv : World, wv = wx ∧ s15 = .int .i64 0 ∧ ∃ (D : Option Addr) (n e : Nat), Held wx ga ga gb (Rounds.seq r0 id (ans l) (k + 1)) D n e ∧ Held wx gb ga gb rb D' q e' ∧ Ext w1 wx)
      case first =>
        go_region_with (first | (go_at_call 11; refine (SD.out _ (Ext.drewN wo 1)).mono ?_; rintro x w' ⟨rfl, rfl⟩) | (go_at_call 12; refine (TL.out _ (Ext.drewN wo 1)).mono ?_; rintro x w3 ⟨E1, f, h, rfl, hJ, hfr, x7⟩; have bx3 := HA.out.bx.ext ((Ext.drewN wo 1).trans x7); have d0 := bx3.c0; have d1 := bx3.c1; have d2 := bx3.c2; have d3 := bx3.c3; have d4 := bx3.c4; have z0 := bx3.fz 0; have z1 := bx3.fz 1; have z2 := bx3.fz 2; have z3 := bx3.fz 3; have z4 := bx3.fz 4; have l3 := bx3.lt; clear c0 c1 c2 c3 c4 f0 f1 f2 f3 f4 la bx3))
        all_goals
          go_wp2_with (fail)
          go_meet
          refine ⟨_, rfl, rfl, E1, f, h, ?_, ?_, ?_⟩
          · refine (HA.out.ext (Ext.drewN wo 1)).store x7 hfr hJ (.inl rfl) (by simpa using HA.out.bx.lt) (by simpa using HB.out.bx.lt)
          · exact (HB.out.ext ((Ext.drewN wo 1).trans x7)).five (by omega) HB.out.a _ _ _ _ _
          · exact Ext.five ((hx.trans (Ext.drewN wo 1)).trans x7) (by have := HGA.out; omega) _ _ _ _ _
      case rest =>
        obtain ⟨wv, rfl, rfl, D1, n1, e1, hA, hB, hx⟩ := hcut
        clear SD TL HA HB c0 c1 c2 c3 c4 f0 f1 f2 f3 f4 la
        have sd := fun (W : World) (hW : Ext wv W) => said_any W (q - 1 - k) gs A n c l ((hx.trans hW).cell BS.out) (HL.out.ext (hx.trans hW))
        have tl := fun (W : World) (hW : Ext wv W) => told_any W rb D' q e' (hB.is_.ext hW) (by omega) ((q - 1 - k : Nat) : Int) 1 (ans l (q - 1 - k))
        rw [show Rounds.toldE rb ((q - 1 - k : Nat) : Int) = 0 from ST2.out, ← N2'.out] at tl
        have hidx : IntKind.i64.wrap (IntKind.i64.wrap ((q : Int) - 1) - k) = ((q - 1 - k : Nat) : Int) := by
          rw [IntKind.wrap_i64, IntKind.wrap_i64]
          omega
        rw [← hidx] at sd tl
        obtain ⟨rc, hrc⟩ : ∃ rc, Rounds.seq r0 (fun j => q - 1 - j) (ans l) (k + 1) = rc := ⟨_, rfl⟩
        rw [hrc] at tl
        have HRC := Lib.hid hrc
        clear hrc
        have SD := Lib.hid sd
        have TL := Lib.hid tl
        have HA := Lib.hid hA
        have HB := Lib.hid hB
        have c0 := hB.bx.c0
        have c1 := hB.bx.c1
        have c2 := hB.bx.c2
        have c3 := hB.bx.c3
        have c4 := hB.bx.c4
        have f0 := hB.bx.fz 0
        have f1 := hB.bx.fz 1
        have f2 := hB.bx.fz 2
        have f3 := hB.bx.fz 3
        have f4 := hB.bx.fz 4
        have la := hB.bx.lt
        clear sd tl hA hB hidx
        go_wp2_with (fail)
        go_region_with (first | (go_at_call 11; refine (SD.out _ (Ext.drew wv)).mono ?_; rintro x w' ⟨rfl, rfl⟩) | (go_at_call 12; refine (TL.out _ (Ext.drew wv)).mono ?_; rintro x w3 ⟨E1, f, h, rfl, hJ, hfr, x7⟩; have bx3 := HB.out.bx.ext ((Ext.drew wv).trans x7); have d0 := bx3.c0; have d1 := bx3.c1; have d2 := bx3.c2; have d3 := bx3.c3; have d4 := bx3.c4; have z0 := bx3.fz 0; have z1 := bx3.fz 1; have z2 := bx3.fz 2; have z3 := bx3.fz 3; have z4 := bx3.fz 4; have l3 := bx3.lt; clear c0 c1 c2 c3 c4 f0 f1 f2 f3 f4 la bx3))
        all_goals
          go_wp2_with (fail)
          refine ⟨⟨k + 1, D1, n1, e1, E1, f, h, by omega, rfl, ?_, ?_, ?_⟩, by simp only [intOf]; omega⟩
          · exact (HA.out.ext ((Ext.drew wv).trans x7)).five (by omega) HA.out.b _ _ _ _ _
          · rw [HRC.out]
            exact (HB.out.ext (Ext.drew wv)).store x7 hfr hJ (.inr rfl) (by simpa using HA.out.bx.lt) (by simpa using HB.out.bx.lt)
          · exact Ext.five ((hx.trans (Ext.drew wv)).trans x7) (by have := HGA.out; omega) _ _ _ _ _
    · have hkn : k = N := by omega
      subst hkn
      have invA : Rounds.Inv id (ans l) k d k (Rounds.seq r0 id (ans l) k) := by
        rw [← HR0.out]
        exact Rounds.inv_all (by omega) (by omega) (fun i hi => hi) (fun i j hij _ => by show i ≠ j; omega) k (Nat.le_refl _)
      have invB : Rounds.Inv (fun j => k - 1 - j) (ans l) k d k (Rounds.seq r0 (fun j => k - 1 - j) (ans l) k) := by
        rw [← HR0.out]
        exact Rounds.inv_all (by omega) (by omega) (fun i hi => by show k - 1 - i < k; omega) (fun i j hij hj => by show k - 1 - i ≠ k - 1 - j; omega) k (Nat.le_refl _)
      obtain ⟨hneed, lenA, lenB, hph, hfi, hil⟩ := plain invA invB
      generalize Rounds.seq r0 id (ans l) k = ra at *
      generalize Rounds.seq r0 (fun j => k - 1 - j) (ans l) k = rb at *
      have hqa : k = q := by rw [← hA.is_.len]; exact lenA.symm
      have hqb : k = q' := by rw [← hB.is_.len]; exact lenB.symm
      subst hqa
      subst hqb
      obtain ⟨ba, oa, rfl, _⟩ := hA.is_.rd.intAt (show 0 < k by omega)
      obtain ⟨bb, ob, rfl, _⟩ := hB.is_.rd.intAt (show 0 < k by omega)
      have c2 := hA.bx.c2
      have c3 := hA.bx.c3
      have c4 := hA.bx.c4
      have d3 := hB.bx.c3
      have d4 := hB.bx.c4
      rw [hneed] at c2
      have FI := Lib.hid hfi
      have IL := Lib.hid hil
      have HPH := Lib.hid hph
      have MA := Lib.hid hA.is_.rd
      have MB := Lib.hid hB.is_.rd
      have BW := Lib.hid (hx.cell BS.out)
      have LW := Lib.hid (HL.out.ext hx)
      have HX := Lib.hid hx
      clear hfi hil hph invA invB lenA lenB hA hB hx hneed
      obtain ⟨we, rfl⟩ : ∃ we : World, we = wr := ⟨_, rfl⟩
      go_wp2_with (fail)
      go_loopw [17, 18] (fun s i wz => ∃ j : Nat, j ≤ k ∧ i = .int .i64 j ∧ s = .int .i64 (Rounds.fineTo id (ans l) j) ∧ we = wz) (fun _ i _ => k - (intOf i).toNat)
      case atStart => exact ⟨0, by omega, rfl, rfl, rfl⟩
      case round =>
        obtain ⟨j, hj, rfl, rfl, rfl⟩ := hrel
        by_cases hlt2 : j < k
        · have q2 : (j : Int) < k := by omega
          have q3 := fine_in (ans l) j
          have hs : Rounds.fineTo id (ans l) (j + 1) = Rounds.fineTo id (ans l) j + if ans l j = 0 then 1 else 0 := rfl
          have HS := Lib.hid hs
          clear hs
          obtain ⟨q3, q4⟩ := q3
          have sd := said_any we j gs A n c l BW.out LW.out
          generalize hF : Rounds.fineTo id (ans l) j = F at *
          rcases ans_cases l j with e0 | e0
          · rw [e0] at sd
            go_wp2_with (fail)
            refine sd.mono ?_
            rintro x w' ⟨rfl, rfl⟩
            go_wp2_with (fail)
            exact ⟨⟨j + 1, by omega, rfl, by rw [HS.out, e0]; rfl, trivial⟩, by simp only [intOf]; omega⟩
          · rw [e0] at sd
            go_wp2_with (fail)
            refine sd.mono ?_
            rintro x w' ⟨rfl, rfl⟩
            go_wp2_with (fail)
            exact ⟨⟨j + 1, by omega, rfl, by rw [HS.out, e0]; simp, trivial⟩, by simp only [intOf]; omega⟩
        · have hjk : j = k := by omega
          subst hjk
          obtain ⟨q3, q4⟩ := fine_in (ans l) j
          generalize Rounds.fineTo id (ans l) j = F at *
          rcases HPH.out with ⟨p1, p2, p3⟩ | ⟨p1, p2, p3⟩
          · rw [p1] at c3
            rw [p2] at d3
            have P2 := Lib.hid p1
            clear p1 p2 HPH
            go_wp2_with (fail)
            go_loopw [19] (fun i wz => ∃ t : Nat, t ≤ j ∧ i = .int .i64 t ∧ we = wz) (fun i _ => j - (intOf i).toNat)
            case atStart => exact ⟨0, by omega, rfl, rfl⟩
            case round =>
              obtain ⟨t, ht, rfl, rfl⟩ := hrel
              by_cases hlt3 : t < j
              · have q5 : (t : Int) < j := by omega
                have sd := said_any we t gs A n c l BW.out LW.out
                have m1 := roundOrder.Rd.intCell MA.out hlt3
                have m2 := roundOrder.Rd.intCell MB.out hlt3
                rcases ans_cases l t with e0 | e0
                · rw [e0] at sd
                  rw [(FI.out t hlt3 e0).1] at m1
                  rw [(FI.out t hlt3 e0).2] at m2
                  have SD := Lib.hid sd
                  clear sd
                  go_wp2_with (fail)
                  refine SD.out.mono ?_
                  rintro x w' ⟨rfl, rfl⟩
                  go_wp2_with (fail)
                  refine SD.out.mono ?_
                  rintro x w' ⟨rfl, rfl⟩
                  go_wp2_with (fail)
                  exact ⟨⟨t + 1, by omega, rfl, trivial⟩, by simp only [intOf]; omega⟩
                · rw [e0] at sd
                  rw [(IL.out t hlt3 (by omega) P2.out).1] at m1
                  rw [(IL.out t hlt3 (by omega) P2.out).2] at m2
                  have SD := Lib.hid sd
                  clear sd
                  go_wp2_with (fail)
                  refine SD.out.mono ?_
                  rintro x w' ⟨rfl, rfl⟩
                  go_wp2_with (fail)
                  refine SD.out.mono ?_
                  rintro x w' ⟨rfl, rfl⟩
                  go_wp2_with (fail)
                  exact ⟨⟨t + 1, by omega, rfl, trivial⟩, by simp only [intOf]; omega⟩
              · go_wp2_with (fail)
                refine (awake_any we).mono ?_
                rintro x w9 ⟨rfl, x9⟩
                go_wp2_with (fail)
                go_ret
                exact ⟨rfl, X.out.trans (HX.out.trans x9)⟩
          · rw [p1] at c3
            rw [p2] at d3
            have P2 := Lib.hid p1
            clear p1 p2 HPH
            go_wp2_with (fail)
            go_loopw [19] (fun i wz => ∃ t : Nat, t ≤ j ∧ i = .int .i64 t ∧ we = wz) (fun i _ => j - (intOf i).toNat)
            case atStart => exact ⟨0, by omega, rfl, rfl⟩
            case round =>
              obtain ⟨t, ht, rfl, rfl⟩ := hrel
              by_cases hlt3 : t < j
              · have q5 : (t : Int) < j := by omega
                have sd := said_any we t gs A n c l BW.out LW.out
                have m1 := roundOrder.Rd.intCell MA.out hlt3
                have m2 := roundOrder.Rd.intCell MB.out hlt3
                rcases ans_cases l t with e0 | e0
                · rw [e0] at sd
                  rw [(FI.out t hlt3 e0).1] at m1
                  rw [(FI.out t hlt3 e0).2] at m2
                  have SD := Lib.hid sd
                  clear sd
                  go_wp2_with (fail)
                  refine SD.out.mono ?_
                  rintro x w' ⟨rfl, rfl⟩
                  go_wp2_with (fail)
                  refine SD.out.mono ?_
                  rintro x w' ⟨rfl, rfl⟩
                  go_wp2_with (fail)
                  exact ⟨⟨t + 1, by omega, rfl, trivial⟩, by simp only [intOf]; omega⟩
                · rw [e0] at sd
                  have SD := Lib.hid sd
                  clear sd
                  go_wp2_with (fail)
                  refine SD.out.mono ?_
                  rintro x w' ⟨rfl, rfl⟩
                  go_wp2_with (fail)
                  refine SD.out.mono ?_
                  rintro x w' ⟨rfl, rfl⟩
                  go_wp2_with (fail)
                  exact ⟨⟨t + 1, by omega, rfl, trivial⟩, by simp only [intOf]; omega⟩
              · go_wp2_with (fail)
                refine (awake_any we).mono ?_
                rintro x w9 ⟨rfl, x9⟩
                go_wp2_with (fail)
                go_ret
                exact ⟨rfl, X.out.trans (HX.out.trans x9)⟩
end roundOrder
end Go.Proofs.Ytgfhpgomlocllaa
