/- Several texts in one: 'append(s, x...)' as one step of a region that draws its order; no statement of the seat is proved here. The contract of a journal's reader: what a half has. -/
import Derived.Test.YtaaegbccejjjcaaCt1
import Derived.Test.YtaaegbccejjjcaaCt20
namespace Go.Proofs.Ytaaegbccejjjcaa
open Go.RowKit
theorem step_append_rd {P : Program} (w : World) {ops : Array Oper} {o : Oper} {a : Act} {K : Act → World → Prop} {Q : Exit → Act → World → Prop} {E : Prop} (hgd : o.guard = none) (s x : Operand) (t : TypeId)
    (ho : o.op = .call { callee := .builtin .append, args := #[s, x], argTypes := #[t, t] })
    (base : Nat) (e : TypeId) (i : TypeInfo) (z : Value) (size bytes : Nat) (ht : P.underlying t = some (.slice e)) (hi : P.info? e = some i) (hz : i.zero = some z)
    (hsize : i.size = size) (hby : i.bytes = bytes) (hzs : z.cells.size = size) (hsz : 0 < size)
    (v : Value) (n : Nat) (xs : List Value) (hs : a.eval s = v) (hown : w.ownsRow base e size v n xs)
    (A : Option Addr) (m c : Nat) (news : List Value) (hx : a.eval x = .slice A m c) (hr : Rd w size A m news) (h1 : ∀ u ∈ news, u.oneCell' = true)
    (hbytes : (n + m) * bytes ≤ 140737488355328) (h63 : n + m ≤ maxLen) (hbase : base ≤ w.heap.size)
    (h : ∀ v' w', w'.ownsRow base e size v' (n + m) (xs ++ news) → w.grownBy w' v.ownBlock → (v'.ownBlock = v.ownBlock ∨ v'.ownBlock = some w.heap.size) → K (a.put o.dst v') w') :
    if Region.wanted o (yielded ops a.tmps) = true then Oper.wp P o a w K Q else E := by
  have hw : Region.wanted o (yielded ops a.tmps) = true := by simp [Region.wanted, hgd]
  rw [if_pos hw]
  exact wp_append_rd w s x t ho base e i z size bytes ht hi hz hsize hby hzs hsz v n xs hs hown A m c news hx hr h1 hbytes h63 hbase h
/-- The same at an operation of a list that a guard lets through. -/
theorem wpList_append_wanted {P : Program} (w : World) {ops : Array Oper} {rest : List Oper} {o : Oper} {a : Act} {Q : Exit → Act → World → Prop} (hw : Region.wanted o (yielded ops a.tmps) = true) (s x : Operand) (t : TypeId)
    (ho : o.op = .call { callee := .builtin .append, args := #[s, x], argTypes := #[t, t] })
    (base : Nat) (e : TypeId) (i : TypeInfo) (z : Value) (size bytes : Nat) (ht : P.underlying t = some (.slice e)) (hi : P.info? e = some i) (hz : i.zero = some z)
    (hsize : i.size = size) (hby : i.bytes = bytes) (hzs : z.cells.size = size) (hsz : 0 < size)
    (v : Value) (n : Nat) (xs : List Value) (hs : a.eval s = v) (hown : w.ownsRow base e size v n xs)
    (A : Option Addr) (m c : Nat) (news : List Value) (hx : a.eval x = .slice A m c) (hr : Rd w size A m news) (h1 : ∀ u ∈ news, u.oneCell' = true)
    (hbytes : (n + m) * bytes ≤ 140737488355328) (h63 : n + m ≤ maxLen) (hbase : base ≤ w.heap.size)
    (h : ∀ v' w', w'.ownsRow base e size v' (n + m) (xs ++ news) → w.grownBy w' v.ownBlock → (v'.ownBlock = v.ownBlock ∨ v'.ownBlock = some w.heap.size) → wpList P ops Q rest (a.put o.dst v') w') : wpList P ops Q (o :: rest) a w :=
  wpList_step fun _ hK => by
    rw [if_pos hw]
    exact wp_append_rd w s x t ho base e i z size bytes ht hi hz hsize hby hzs hsz v n xs hs hown A m c news hx hr h1 hbytes h63 hbase fun v' w' h2 h3 h4 => hK _ _ (h v' w' h2 h3 h4)
end Go.Proofs.Ytaaegbccejjjcaa
namespace Go.Proofs.Ytaaegbccejjjcaa
open Go.RowKit Go.Maps Go.Sort Go.Shelf
set_option linter.unusedSimpArgs false

theorem bytes_info24 : (Try.prog.info? 32).map (fun i => (i.zero, i.size, i.bytes)) = some (some (.slice none 0 0), 1, 24) := by kernel_rfl
theorem bs_none24 (w : World) : Bs w none 0 0 [] := ⟨rfl, Nat.le_refl _, by omega, Rd.nil _ _ _⟩
theorem Newer.none (w : World) : Newer w none := fun q hq => by cases hq
/-- Records of one's own, all newer than a world; no row lies in the outer row's block. -/
def RwN (w0 w : World) (v : Value) (l : List (List UInt8)) : Prop :=
  ∃ cs, w.ownsRow w0.heap.size 32 1 v l.length cs ∧ ∀ i, i < l.length → ∃ A n c, cs[i]? = some (.slice A n c) ∧ Bs w A n c (Gm.row l i) ∧ Newer w0 A ∧ Cold (fun q => v.ownBlock = some q) w A n
theorem RwN.nil (w0 w : World) : RwN w0 w (.slice none 0 0) [] := ⟨[], World.ownsRow_nil _ _ _ _, fun i hi => absurd hi (Nat.not_lt_zero _)⟩
theorem Newer.cold {w0 w w' : World} {A : Option Addr} {n : Nat} {Z Y : Nat → Prop} (h : Newer w0 A) (hc : Cold Y w A n) (hz : ∀ q, Z q → q < w0.heap.size) : Cold Z w A n := fun hn q hq => ⟨(hc hn q hq).1, fun z => by have := h q hq; have := hz q z; omega⟩
theorem RwN.ch {w0 w w' : World} {v : Value} {l : List (List UInt8)} {Z : Nat → Prop} (h : RwN w0 w v l) (k : Ch Z w w') (hz : ∀ q, Z q → q < w0.heap.size) : RwN w0 w' v l := by
  obtain ⟨cs, o1, o2⟩ := h
  refine ⟨cs, own_ch o1 k (fun q hq z => by have := own_row o1 q hq; have := hz q z; omega), fun i hi => ?_⟩
  obtain ⟨A, n, c, e, hb, hn, hc⟩ := o2 i hi
  exact ⟨A, n, c, e, hb.ch k (hn.cold (w' := w) hc hz), hn, hc.ch k.size⟩
theorem RwN.ext {w0 w w' : World} {v : Value} {l : List (List UInt8)} (h : RwN w0 w v l) (hx : Ext w w') : RwN w0 w' v l := h.ch (Ch.of hx (fun _ => False)) (fun _ f => f.elim)
theorem RwN.push {w0 w w' : World} {v v' : Value} {l : List (List UInt8)} {cs : List Value} {A : Option Addr} {n c : Nat} {s : List UInt8}
    (h2 : ∀ i, i < l.length → ∃ A n c, cs[i]? = some (.slice A n c) ∧ Bs w A n c (Gm.row l i) ∧ Newer w0 A ∧ Cold (fun q => v.ownBlock = some q) w A n) (hlen : cs.length = l.length)
    (hb : Bs w A n c s) (hn : Newer w0 A) (hc : Cold (fun q => v.ownBlock = some q) w A n)
    (ho : w'.ownsRow w0.heap.size 32 1 v' (l.length + 1) (cs ++ [.slice A n c])) (hg : w.grownBy w' v.ownBlock) (hat : v'.ownBlock = v.ownBlock ∨ v'.ownBlock = some w.heap.size) : RwN w0 w' v' (l ++ [s]) := by
  have hch : Ch (fun q => v.ownBlock = some q) w w' := (Ch.refl _ _).grown hg (fun q hq => .inl hq)
  have cold' : ∀ {A : Option Addr} {n : Nat}, Cold (fun q => v.ownBlock = some q) w A n → Cold (fun q => v'.ownBlock = some q) w' A n := fun h hn q hq => by
    obtain ⟨a1, a2⟩ := h hn q hq
    refine ⟨Nat.lt_of_lt_of_le a1 hg.size, fun e => ?_⟩
    rcases hat with e1 | e1
    · exact a2 (e1.symm.trans e)
    · have e : v'.ownBlock = some q := e
      rw [e1] at e
      injection e with e
      omega
  refine ⟨_, by rw [List.length_append]; exact ho, fun i hi => ?_⟩
  rw [List.length_append, List.length_singleton] at hi
  by_cases hlt : i < l.length
  · obtain ⟨A1, n1, c1, e, hb1, hn1, hc1⟩ := h2 i hlt
    have er : Gm.row (l ++ [s]) i = Gm.row l i := by simp [Gm.row, List.getElem?_append, hlt]
    rw [er]
    exact ⟨A1, n1, c1, by rw [List.getElem?_append_left (by omega)]; exact e, hb1.ch hch hc1, hn1, cold' hc1⟩
  · obtain rfl : i = l.length := by omega
    have er : Gm.row (l ++ [s]) l.length = s := by simp [Gm.row]
    rw [er]
    exact ⟨A, n, c, by rw [List.getElem?_append_right (by omega), hlen, Nat.sub_self]; rfl, hb.ch hch hc, hn, cold' hc⟩
theorem Rb.ch6 {w w' : World} {r g m b N p : Nat} {d : Disks.D} (h : Rb w r g m b N d) (k : Ch (fun q => q = p) w w') (h1 : p ≠ r) (h2 : p ≠ g) (h3 : p ≠ m) (h4 : p ≠ b) : Rb w' r g m b N d := by
  obtain ⟨nn, DD, hnn, hdd⟩ := h.ds.ex
  obtain ⟨l1, l2, l3⟩ := h.ds.lts
  exact ⟨⟨⟨nn, DD, hnn, hdd.same k.size (k.block g l1 (fun e => h2 e.symm)) (k.block m l2 (fun e => h3 e.symm)) (k.block b l3 (fun e => h4 e.symm))⟩, h.ds.ok⟩, (k.block r (Array.getElem?_eq_some_iff.1 h.blk).1 (fun e => h1 e.symm)).trans h.blk, h.sep, h.up⟩
theorem Ch.thenP {w w1 w2 : World} {r p : Nat} (h : Ch (fun q => q = r) w w1) (k : Ch (fun q => q = p) w1 w2) (hp : w.heap.size ≤ p) : Ch (fun q => q = r) w w2 :=
  ⟨k.os.trans h.os, k.tape.trans h.tape, k.output.trans h.output, Nat.le_trans h.size k.size, fun q hq hz => (k.block q (Nat.lt_of_lt_of_le hq h.size) (fun e => by omega)).trans (h.block q hq hz)⟩
theorem RwN.base {w0 w1 w : World} {v : Value} {l : List (List UInt8)} (h : RwN w1 w v l) (hb : w0.heap.size ≤ w1.heap.size) : RwN w0 w v l := by
  obtain ⟨cs, o1, o2⟩ := h
  refine ⟨cs, ownsRow_base o1 hb, fun i hi => ?_⟩
  obtain ⟨A, n, c, e, hbs, hn, hc⟩ := o2 i hi
  exact ⟨A, n, c, e, hbs, fun q hq => Nat.le_trans hb (hn q hq), hc⟩
theorem Ch.thenQ {w w1 w2 : World} {r p : Nat} (h : Ch (fun q => q = r) w w1) (k : Ch (fun q => q = r ∨ q = p) w1 w2) (hp : w.heap.size ≤ p) : Ch (fun q => q = r) w w2 :=
  ⟨k.os.trans h.os, k.tape.trans h.tape, k.output.trans h.output, Nat.le_trans h.size k.size, fun q hq hz => (k.block q (Nat.lt_of_lt_of_le hq h.size) (fun e => by rcases e with e | e; exact hz e; omega)).trans (h.block q hq hz)⟩
theorem numbers_at (w : World) (A : Option Addr) (n c : Nat) (lb : List UInt8) (hl : Bs w A n c lb) (kd : UInt8) (cnt : Nat) (hcnt : cnt ≤ 7) (ki ci : Int) (h1 : (kd.toNat : Int) = ki) (h2 : (cnt : Int) = ci) :
    Calls Try.prog 42 #[.slice A n c, .int .u8 ki, .int .i64 ci] w (GivesN w lb kd cnt) := by
  subst h1 h2
  exact numbers_any w A n c lb hl kd cnt hcnt
/-- What a half has, as it is handed back. -/
def GivesH (w : World) (r g m b N : Nat) (d : Disks.D) (fr half : Nat) (e : Ending) (w' : World) : Prop :=
  ∃ A c v, e = .returned (.agg (jc g half fr ((Jo.halfH (Disks.sec d) fr half).next : Int) ((Jo.halfH (Disks.sec d) fr half).life : Int) (.slice A (Jo.halfH (Disks.sec d) fr half).base.length c) v false).toArray) ∧
    Bs w' A (Jo.halfH (Disks.sec d) fr half).base.length c (Jo.halfH (Disks.sec d) fr half).base ∧ Newer w A ∧ RwN w w' v (Jo.halfH (Disks.sec d) fr half).recs ∧ Cold (fun q => v.ownBlock = some q) w' A (Jo.halfH (Disks.sec d) fr half).base.length ∧ Rb w' r g m b N d ∧ Ch (fun q => q = r) w w'

set_option maxRecDepth 100000 in
set_option maxHeartbeats 4000000 in
theorem halved_any (w : World) (r g m b N : Nat) (d : Disks.D) (h : Rb w r g m b N d) (fr half : Nat) (hf : fr + half ≤ d.med.length) (hh : 1 ≤ half) :
    Calls Try.prog 28 #[.pointer (some ⟨r, 0, none⟩), .int .i64 (fr : Int), .int .i64 (half : Int)] w (GivesH w r g m b N d fr half) := by
  obtain ⟨i1, hi1, hy0, hy1, hy2⟩ := info_parts bytes_info24
  have hmx := h.ds.ok.wf.max
  obtain ⟨l1, l2, l3⟩ := h.ds.lts
  have l4 := (Array.getElem?_eq_some_iff.1 h.blk).1
  obtain ⟨p6, hp6⟩ : ∃ p6, w.heap.size = p6 := ⟨_, rfl⟩
  have hr6 := run_alloc_jour w
  have hz6 := heap_alloc_new w zjour
  have x6 := Ext.alloc w zjour
  have s6 : (w.alloc zjour).heap.size = p6 + 1 := by rw [World.size_alloc, hp6]
  rw [hp6] at hr6 hz6
  obtain ⟨w1, hw1⟩ : ∃ w1, w.alloc zjour = w1 := ⟨_, rfl⟩
  rw [hw1] at hr6 hz6 x6 s6
  obtain ⟨p7, hp7⟩ : ∃ p7, w1.heap.size = p7 := ⟨_, rfl⟩
  have hr7 := run_alloc_jour w1
  obtain ⟨w2, hs7, j7, x7⟩ := jour_copy w1 g half fr 0 0 (.slice none 0 0) (.slice none 0 0) false rfl rfl
  rw [hp7] at hr7 hs7 j7
  obtain ⟨w1b, hw1b⟩ : ∃ w1b, w1.alloc zjour = w1b := ⟨_, rfl⟩
  rw [hw1b] at hr7 hs7
  have R2 := Lib.hid (h.ext (x6.trans x7))
  have k0 := h.c0
  have k0' := (h.ext x6).c0
  have HR6 := Lib.hid hr6
  have HR7 := Lib.hid hr7
  have HS7 := Lib.hid hs7
  have J2 := Lib.hid j7
  have Z2 := Lib.hid ((x7.block p6 (by omega)).trans hz6)
  have X2 := Lib.hid (x6.trans x7)
  have P6 := Lib.hid (show p6 ≠ g ∧ p6 ≠ m ∧ p6 ≠ b ∧ p6 ≠ r ∧ w.heap.size ≤ p6 by omega)
  have P7 := Lib.hid (show p7 ≠ g ∧ p7 ≠ m ∧ p7 ≠ b ∧ p7 ≠ r ∧ w.heap.size ≤ p7 ∧ p7 ≠ p6 ∧ p7 < w2.heap.size ∧ p6 < w2.heap.size by have := j7.lt; omega)
  clear h hr6 hz6 x6 s6 hw1 hp6 hp7 hr7 hs7 j7 x7 hw1b l1 l2 l3 l4
  have hsec := rdSector_any w2 r g m b N d R2.out fr (by omega)
  go_enter Try.func28, Try.ntmps28
  try dsimp only [List.append]
  go_wp2_with (first
    | ((with_reducible refine opIs ⟨some 6, .alloc 50, _, _, _, _⟩ ?_); refine wpList_allocR rfl 50 rfl _ HR6.out ?_)
    | ((with_reducible refine opIs ⟨some 7, .alloc 50, _, _, _, _⟩ ?_); refine wpList_allocR rfl 50 rfl _ HR7.out ?_)
    | ((with_reducible refine opIs ⟨none, .store 50 (.tmp 7) (.tmp 19), _, _, _, _⟩ ?_); refine wpList_storeR rfl 50 (.tmp 7) (.tmp 19) rfl rfl rfl HS7.out ?_))
  with_reducible refine hsec.mono ?_
  rintro e w3 ⟨q, rfl, bs3, r3, c3⟩
  have R3 := Lib.hid r3
  have C3 := Lib.hid c3
  have hnum := numbers_at w3 (some ⟨q, 0, none⟩) 64 64 _ bs3 1 2 (by omega) 1 2 rfl rfl
  clear hsec r3 c3 bs3 k0 k0'
  go_wp2_with (fail)
  with_reducible refine hnum.mono ?_
  rintro e w4 hg
  clear hnum
  have hx4 : Ext w3 w4 := by
    rcases hg with ⟨_, _, _, _, hx, _⟩ | ⟨_, _, hx⟩ <;> exact hx
  have R7 := Lib.hid (R3.out.ext hx4)
  have C24 := Lib.hid (C3.out.thenExt hx4)
  have J7 := Lib.hid (J2.out.ch C24.out P7.out.2.2.2.1)
  have ZX := Lib.hid ((C24.out.block p6 P7.out.2.2.2.2.2.2.2 P6.out.2.2.2.1).trans Z2.out)
  have C7 := Lib.hid ((Ch.of X2.out (fun q => q = r)).trans C24.out)
  clear hx4 R3 C3 J2 Z2 R2
  rcases hg with ⟨ht, q1, rfl, hi, _⟩ | ⟨ht, rfl, _⟩
  · skip
    obtain ⟨f0, hf0⟩ : ∃ f0, Jo.fld (Disks.sec d fr) 0 = f0 := ⟨_, rfl⟩
    obtain ⟨f1, hf1⟩ : ∃ f1, Jo.fld (Disks.sec d fr) 1 = f1 := ⟨_, rfl⟩
    have hb0 : f0 ≤ 2 ^ 60 := hf0 ▸ ht.2.2.1 0 (by omega)
    have hb1 : f1 ≤ 2 ^ 60 := hf1 ▸ ht.2.2.1 1 (by omega)
    have hq1 : ∀ j, j < 2 → w4.cell? ⟨q1, j, none⟩ = some (.int .i64 ((Jo.fld (Disks.sec d fr) j : Nat) : Int)) := fun j hj => by
      obtain ⟨bb, oo, e, hc⟩ := hi.rd.intAt hj
      injection e with e
      injection e with e1 e2
      subst e1 e2
      rw [nints_get (by simp [Jo.flds]; exact hj)] at hc
      have : (Jo.flds (Disks.sec d fr) 2).getD j 0 = Jo.fld (Disks.sec d fr) j := by simp [Jo.flds, List.getD_eq_getElem?_getD, hj]
      rw [this] at hc
      simpa using hc
    have n0 := hq1 0 (by omega)
    have n1 := hq1 1 (by omega)
    rw [hf0] at n0
    rw [hf1] at n1
    have Q1 := Lib.hid (And.intro n0 n1)
    have HT := Lib.hid ht
    have F0 := Lib.hid hf0
    have F1 := Lib.hid hf1
    clear hq1 hi ht hf0 hf1
    by_cases a1 : f0 < 1
    · have a1' : (f0 : Int) < 1 := by omega
      have HNO := Lib.hid (show ¬ Jo.baseOk (Disks.sec d) fr half from fun z => by have := z.2.1; rw [F0.out] at this; omega)
      clear a1
      obtain ⟨wz, hst, jz, chz⟩ := jour_store (show w4.heap[p6]? = some (.cells #[.pointer none, .int .i64 0, .int .i64 0, .int .i64 0, .int .i64 0, .slice none 0 0, .slice none 0 0, .bool false] 50 (0, 0)) from ZX.out) g (half : Int) (fr : Int) 0 0 (.slice none 0 0) (.slice none 0 0) false rfl rfl
      have HST := Lib.hid hst
      have JZ := Lib.hid jz
      have CHZ := Lib.hid chz
      clear hst jz chz
      go_wp2_with (first
        | ((with_reducible refine opIs ⟨some 63, .load 50 (.tmp 7), _, _, _, _⟩ ?_); refine wpList_loadR rfl 50 (.tmp 7) rfl rfl J7.out.load ?_)
        | ((with_reducible refine opIs ⟨none, .store 50 (.tmp 6) (.tmp 63), _, _, _, _⟩ ?_); refine wpList_storeR rfl 50 (.tmp 6) (.tmp 63) rfl rfl rfl HST.out ?_))
      refine bodyPost_ret (jour_results rfl _ JZ.out rfl) rfl ?_
      have e0 : Jo.halfH (Disks.sec d) fr half = ⟨0, [], [], 0⟩ := if_neg HNO.out
      unfold GivesH
      rw [e0]
      exact ⟨none, 0, .slice none 0 0, rfl, bs_none24 _, Newer.none _, RwN.nil _ _, Cold.none _ _ _, (R7.out.ch6 CHZ.out P6.out.2.2.2.1 P6.out.1 P6.out.2.1 P6.out.2.2.1), C7.out.thenP CHZ.out P6.out.2.2.2.2⟩
    · by_cases a2 : 1099511627776 < f0
      · have a1' : ¬ (f0 : Int) < 1 := by omega
        have a2' : (1099511627776 : Int) < (f0 : Int) := by omega
        have HNO := Lib.hid (show ¬ Jo.baseOk (Disks.sec d) fr half from fun z => by have := z.2.2.1; rw [F0.out] at this; omega)
        clear a1 a2
        obtain ⟨wz, hst, jz, chz⟩ := jour_store (show w4.heap[p6]? = some (.cells #[.pointer none, .int .i64 0, .int .i64 0, .int .i64 0, .int .i64 0, .slice none 0 0, .slice none 0 0, .bool false] 50 (0, 0)) from ZX.out) g (half : Int) (fr : Int) 0 0 (.slice none 0 0) (.slice none 0 0) false rfl rfl
        have HST := Lib.hid hst
        have JZ := Lib.hid jz
        have CHZ := Lib.hid chz
        clear hst jz chz
        go_wp2_with (first
          | ((with_reducible refine opIs ⟨some 63, .load 50 (.tmp 7), _, _, _, _⟩ ?_); refine wpList_loadR rfl 50 (.tmp 7) rfl rfl J7.out.load ?_)
          | ((with_reducible refine opIs ⟨none, .store 50 (.tmp 6) (.tmp 63), _, _, _, _⟩ ?_); refine wpList_storeR rfl 50 (.tmp 6) (.tmp 63) rfl rfl rfl HST.out ?_))
        refine bodyPost_ret (jour_results rfl _ JZ.out rfl) rfl ?_
        have e0 : Jo.halfH (Disks.sec d) fr half = ⟨0, [], [], 0⟩ := if_neg HNO.out
        unfold GivesH
        rw [e0]
        exact ⟨none, 0, .slice none 0 0, rfl, bs_none24 _, Newer.none _, RwN.nil _ _, Cold.none _ _ _, (R7.out.ch6 CHZ.out P6.out.2.2.2.1 P6.out.1 P6.out.2.1 P6.out.2.2.1), C7.out.thenP CHZ.out P6.out.2.2.2.2⟩
      · by_cases a3 : 63 * half < f1
        · have a1' : ¬ (f0 : Int) < 1 := by omega
          have a2' : ¬ (1099511627776 : Int) < (f0 : Int) := by omega
          have a3' : 63 * (half : Int) < (f1 : Int) := by omega
          have HNO := Lib.hid (show ¬ Jo.baseOk (Disks.sec d) fr half from fun z => by have := z.2.2.2.1; rw [F1.out] at this; omega)
          clear a1 a2 a3
          obtain ⟨wz, hst, jz, chz⟩ := jour_store (show w4.heap[p6]? = some (.cells #[.pointer none, .int .i64 0, .int .i64 0, .int .i64 0, .int .i64 0, .slice none 0 0, .slice none 0 0, .bool false] 50 (0, 0)) from ZX.out) g (half : Int) (fr : Int) 0 0 (.slice none 0 0) (.slice none 0 0) false rfl rfl
          have HST := Lib.hid hst
          have JZ := Lib.hid jz
          have CHZ := Lib.hid chz
          clear hst jz chz
          go_wp2_with (first
            | ((with_reducible refine opIs ⟨some 63, .load 50 (.tmp 7), _, _, _, _⟩ ?_); refine wpList_loadR rfl 50 (.tmp 7) rfl rfl J7.out.load ?_)
            | ((with_reducible refine opIs ⟨none, .store 50 (.tmp 6) (.tmp 63), _, _, _, _⟩ ?_); refine wpList_storeR rfl 50 (.tmp 6) (.tmp 63) rfl rfl rfl HST.out ?_))
          refine bodyPost_ret (jour_results rfl _ JZ.out rfl) rfl ?_
          have e0 : Jo.halfH (Disks.sec d) fr half = ⟨0, [], [], 0⟩ := if_neg HNO.out
          unfold GivesH
          rw [e0]
          exact ⟨none, 0, .slice none 0 0, rfl, bs_none24 _, Newer.none _, RwN.nil _ _, Cold.none _ _ _, (R7.out.ch6 CHZ.out P6.out.2.2.2.1 P6.out.1 P6.out.2.1 P6.out.2.2.1), C7.out.thenP CHZ.out P6.out.2.2.2.2⟩
        · have a1' : ¬ (f0 : Int) < 1 := by omega
          have a2' : ¬ (1099511627776 : Int) < (f0 : Int) := by omega
          have a3' : ¬ 63 * (half : Int) < (f1 : Int) := by omega
          have hnd := need_any w4 f1 (by omega)
          obtain ⟨nd, hnd1⟩ : ∃ nd, Jo.need f1 = nd := ⟨_, rfl⟩
          have hndl : nd ≤ half := by rw [← hnd1]; unfold Jo.need; omega
          rw [hnd1] at hnd
          have ND := Lib.hid hnd1
          clear hnd1
          by_cases a4 : fr + half < fr + 1 + nd
          · have a4' : (fr : Int) + (half : Int) < (fr : Int) + 1 + (nd : Int) := by omega
            have HNO := Lib.hid (show ¬ Jo.baseOk (Disks.sec d) fr half from fun z => by have := z.2.2.2.2; rw [F1.out, ND.out] at this; omega)
            clear a1 a2 a3 a4
            go_wp2_with (fail)
            with_reducible refine hnd.mono ?_
            rintro e wn ⟨rfl, rfl⟩
            clear hnd
            obtain ⟨wz, hst, jz, chz⟩ := jour_store (show w4.heap[p6]? = some (.cells #[.pointer none, .int .i64 0, .int .i64 0, .int .i64 0, .int .i64 0, .slice none 0 0, .slice none 0 0, .bool false] 50 (0, 0)) from ZX.out) g (half : Int) (fr : Int) 0 0 (.slice none 0 0) (.slice none 0 0) false rfl rfl
            have HST := Lib.hid hst
            have JZ := Lib.hid jz
            have CHZ := Lib.hid chz
            clear hst jz chz
            go_wp2_with (first
              | ((with_reducible refine opIs ⟨some 63, .load 50 (.tmp 7), _, _, _, _⟩ ?_); refine wpList_loadR rfl 50 (.tmp 7) rfl rfl J7.out.load ?_)
              | ((with_reducible refine opIs ⟨none, .store 50 (.tmp 6) (.tmp 63), _, _, _, _⟩ ?_); refine wpList_storeR rfl 50 (.tmp 6) (.tmp 63) rfl rfl rfl HST.out ?_))
            refine bodyPost_ret (jour_results rfl _ JZ.out rfl) rfl ?_
            have e0 : Jo.halfH (Disks.sec d) fr half = ⟨0, [], [], 0⟩ := if_neg HNO.out
            unfold GivesH
            rw [e0]
            exact ⟨none, 0, .slice none 0 0, rfl, bs_none24 _, Newer.none _, RwN.nil _ _, Cold.none _ _ _, (R7.out.ch6 CHZ.out P6.out.2.2.2.1 P6.out.1 P6.out.2.1 P6.out.2.2.1), C7.out.thenP CHZ.out P6.out.2.2.2.2⟩
          · have a4' : ¬ (fr : Int) + (half : Int) < (fr : Int) + 1 + (nd : Int) := by omega
            have HOK := Lib.hid (show Jo.baseOk (Disks.sec d) fr half from ⟨HT.out, by rw [F0.out]; omega, by rw [F0.out]; omega, by rw [F1.out]; omega, by rw [F1.out, ND.out]; omega⟩)
            clear a1 a2 a3
            go_wp2_with (fail)
            with_reducible refine hnd.mono ?_
            rintro e wn ⟨rfl, rfl⟩
            clear hnd
            go_wp2_with (fail)

            have hby := rdBytes_any w4.drew r g m b N d (R7.out.ext (Ext.drew w4)) (fr + 1) f1 (by rw [ND.out]; omega)
            rw [show ((fr + 1 : Nat) : Int) = (fr : Int) + 1 by omega] at hby
            have HBY := Lib.hid hby
            have NEQ := Lib.hid (show q1 ≠ r ∧ q1 ≠ p7 from ⟨fun e => (by have h1 := Q1.out.1; rw [e, R7.out.c0] at h1; cases h1), fun e => (by have h1 := Q1.out.1; rw [e, J7.out.c0] at h1; cases h1)⟩)
            clear hby n0 n1 a1' a2' a3' a4'
            have hS0 : (fun W : World => Hid (W.cell? ⟨q1, 0, none⟩ = some (.int .i64 (f0 : Int)) ∧ W.cell? ⟨q1, 1, none⟩ = some (.int .i64 (f1 : Int)))) w4.drew := Lib.hid ⟨(Ext.drew w4).cell Q1.out.1, (Ext.drew w4).cell Q1.out.2⟩
            refine wp_region_T (S := (fun W : World => Hid (W.cell? ⟨q1, 0, none⟩ = some (.int .i64 (f0 : Int)) ∧ W.cell? ⟨q1, 1, none⟩ = some (.int .i64 (f1 : Int))))) 13 rfl rfl ?_
            refine takeC [] (i := 0) (v := ?_) rfl (by kernel_rfl) (by kernel_rfl) (by kernel_rfl) (by kernel_rfl) (by decide) (fun _ _ _ h => h) (by kernel_rfl) (Or.inl ⟨by kernel_rfl, ?_⟩) (by assumption) ?_
            rotate_left
            · (intro W9 hSw; go_simp; (try with_reducible rfl))
            try simp only [Act.put, List.setIfInBounds_toArray, List.set_cons_zero, List.set_cons_succ]
            refine takeC [] (i := 1) (v := ?_) rfl (by kernel_rfl) (by kernel_rfl) (by kernel_rfl) (by kernel_rfl) (by decide) (fun _ _ _ h => h) (by kernel_rfl) (Or.inl ⟨by kernel_rfl, ?_⟩) (by assumption) ?_
            rotate_left
            · (intro W9 hSw; go_simp; (try with_reducible rfl))
            try simp only [Act.put, List.setIfInBounds_toArray, List.set_cons_zero, List.set_cons_succ]
            refine takeC [] (i := 2) (v := ?_) rfl (by kernel_rfl) (by kernel_rfl) (by kernel_rfl) (by kernel_rfl) (by decide) (fun _ _ _ h => h) (by kernel_rfl) (Or.inl ⟨by kernel_rfl, ?_⟩) (by assumption) ?_
            rotate_left
            · (intro W9 hSw; (have m0 := hSw.out.1; clear hSw; skip); go_simp; (try with_reducible rfl))
            try simp only [Act.put, List.setIfInBounds_toArray, List.set_cons_zero, List.set_cons_succ]
            refine takeC [] (i := 3) (v := ?_) rfl (by kernel_rfl) (by kernel_rfl) (by kernel_rfl) (by kernel_rfl) (by decide) (fun _ _ _ h => h) (by kernel_rfl) (Or.inl ⟨by kernel_rfl, ?_⟩) (by assumption) ?_
            rotate_left
            · (intro W9 hSw; go_simp; (try with_reducible rfl))
            try simp only [Act.put, List.setIfInBounds_toArray, List.set_cons_zero, List.set_cons_succ]
            refine takeC [] (i := 4) (v := ?_) rfl (by kernel_rfl) (by kernel_rfl) (by kernel_rfl) (by kernel_rfl) (by decide) (fun _ _ _ h => h) (by kernel_rfl) (Or.inl ⟨by kernel_rfl, ?_⟩) (by assumption) ?_
            rotate_left
            · (intro W9 hSw; go_simp; (try with_reducible rfl))
            try simp only [Act.put, List.setIfInBounds_toArray, List.set_cons_zero, List.set_cons_succ]
            refine takeC [] (i := 5) (v := ?_) rfl (by kernel_rfl) (by kernel_rfl) (by kernel_rfl) (by kernel_rfl) (by decide) (fun _ _ _ h => h) (by kernel_rfl) (Or.inl ⟨by kernel_rfl, ?_⟩) (by assumption) ?_
            rotate_left
            · (intro W9 hSw; go_simp; (try with_reducible rfl))
            try simp only [Act.put, List.setIfInBounds_toArray, List.set_cons_zero, List.set_cons_succ]
            refine takeC [] (i := 6) (v := ?_) rfl (by kernel_rfl) (by kernel_rfl) (by kernel_rfl) (by kernel_rfl) (by decide) (fun _ _ _ h => h) (by kernel_rfl) (Or.inl ⟨by kernel_rfl, ?_⟩) (by assumption) ?_
            rotate_left
            · (intro W9 hSw; go_simp; (try with_reducible rfl))
            try simp only [Act.put, List.setIfInBounds_toArray, List.set_cons_zero, List.set_cons_succ]
            refine takeC [] (i := 7) (v := ?_) rfl (by kernel_rfl) (by kernel_rfl) (by kernel_rfl) (by kernel_rfl) (by decide) (fun _ _ _ h => h) (by kernel_rfl) (Or.inl ⟨by kernel_rfl, ?_⟩) (by assumption) ?_
            rotate_left
            · (intro W9 hSw; go_simp; (try with_reducible rfl))
            try simp only [Act.put, List.setIfInBounds_toArray, List.set_cons_zero, List.set_cons_succ]
            refine takeC [] (i := 8) (v := ?_) rfl (by kernel_rfl) (by kernel_rfl) (by kernel_rfl) (by kernel_rfl) (by decide) (fun _ _ _ h => h) (by kernel_rfl) (Or.inl ⟨by kernel_rfl, ?_⟩) (by assumption) ?_
            rotate_left
            · (intro W9 hSw; (have m1 := hSw.out.2; clear hSw; skip); go_simp; (try with_reducible rfl))
            try simp only [Act.put, List.setIfInBounds_toArray, List.set_cons_zero, List.set_cons_succ]
            refine takeC [] (i := 10) (v := ?_) rfl (by kernel_rfl) (by kernel_rfl) (by kernel_rfl) (by kernel_rfl) (by decide) (fun _ _ _ h => h) (by kernel_rfl) (Or.inl ⟨by kernel_rfl, ?_⟩) (by assumption) ?_
            rotate_left
            · (intro W9 hSw; go_simp; (try with_reducible rfl))
            try simp only [Act.put, List.setIfInBounds_toArray, List.set_cons_zero, List.set_cons_succ]
            refine oneT (i := 9) rfl (by kernel_rfl) (fun K hK => ?_)
            rw [if_pos (by kernel_rfl)]
            go_wp2_with (fail)
            with_reducible refine HBY.out.mono ?_
            rintro e w5 ⟨A5, c5, rfl, bs5, nw5, rb5, ch5⟩
            have hS5 : (fun W : World => Hid (W.cell? ⟨q1, 0, none⟩ = some (.int .i64 (f0 : Int)) ∧ W.cell? ⟨q1, 1, none⟩ = some (.int .i64 (f1 : Int)))) w5 := Lib.hid ⟨(World.cell?_of_block (a := ⟨q1, 0, none⟩) (ch5.block q1 (World.block_lt_of_cell? _ _ hS0.out.1) NEQ.out.1)).trans hS0.out.1, (World.cell?_of_block (a := ⟨q1, 1, none⟩) (ch5.block q1 (World.block_lt_of_cell? _ _ hS0.out.1) NEQ.out.1)).trans hS0.out.2⟩
            have B5 := Lib.hid bs5
            have W5 := Lib.hid nw5
            have R5 := Lib.hid rb5
            have C5 := Lib.hid ((C7.out.thenExt (Ext.drew w4)).trans ch5)
            have J5 := Lib.hid ((J7.out.ext (Ext.drew w4)).ch ch5 P7.out.2.2.2.1)
            have ZX5 := Lib.hid ((ch5.block p6 (Array.getElem?_eq_some_iff.1 ZX.out).1 P6.out.2.2.2.1).trans ZX.out)
            have SZ5 := Lib.hid (show w4.heap.size ≤ w5.heap.size from ch5.size)
            clear bs5 nw5 rb5 ch5
            go_wp2_with (fail)
            refine hK.out _ _ (fun _ => hS5) ?_
            clear hK K
            try simp only [Act.put, List.setIfInBounds_toArray, List.set_cons_zero, List.set_cons_succ]
            refine oneT (i := 11) rfl (by kernel_rfl) (fun K hK => ?_)
            rw [if_pos (by kernel_rfl)]
            have j4 := J5.out.c4
            have z4 := J5.out.fz 4
            go_wp2_with (fail)
            have hS6 : (fun W : World => Hid (W.cell? ⟨q1, 0, none⟩ = some (.int .i64 (f0 : Int)) ∧ W.cell? ⟨q1, 1, none⟩ = some (.int .i64 (f1 : Int)))) (w5.setCell ⟨p7, 4, none⟩ (.int .i64 (f0 : Int))) := Lib.hid ⟨(World.cell?_setCell_far _ _ _ _ (fun e => NEQ.out.2 e.symm)).trans hS5.out.1, (World.cell?_setCell_far _ _ _ _ (fun e => NEQ.out.2 e.symm)).trans hS5.out.2⟩
            refine hK.out _ _ (fun _ => hS6) ?_
            clear hK K
            try simp only [Act.put, List.setIfInBounds_toArray, List.set_cons_zero, List.set_cons_succ]
            refine takeC [] (i := 12) (v := ?_) rfl (by kernel_rfl) (by kernel_rfl) (by kernel_rfl) (by kernel_rfl) (by decide) (fun _ _ _ h => h) (by kernel_rfl) (Or.inl ⟨by kernel_rfl, ?_⟩) (by assumption) ?_
            rotate_left
            · (intro W9 hSw; go_simp; (try with_reducible rfl))
            try simp only [Act.put, List.setIfInBounds_toArray, List.set_cons_zero, List.set_cons_succ]
            refine oneT (i := 13) rfl (by kernel_rfl) (fun K hK => ?_)
            rw [if_pos (by kernel_rfl)]
            have j5 := (J5.out.s4 (f0 : Int)).c5
            have z5 := (J5.out.s4 (f0 : Int)).fz 5
            clear j4 z4
            go_wp2_with (fail)
            refine hK.out _ _ (fun h => absurd (show true = false from h) (by decide)) ?_
            clear hK K
            try simp only [Act.put, List.setIfInBounds_toArray, List.set_cons_zero, List.set_cons_succ]
            refine doneT (by kernel_rfl) ?_ _
            clear hS0 hS5 j5 z5
            have J6 := Lib.hid ((J5.out.s4 (f0 : Int)).s5 (.slice A5 f1 c5))
            have CHS : RowKit.Hid (Ch (fun q => q = p7) w5 ((w5.setCell ⟨p7, 4, none⟩ (.int .i64 (f0 : Int))).setCell ⟨p7, 5, none⟩ (.slice A5 f1 c5))) := Lib.hid (Ch.set (Z := fun q => q = p7) (Ch.set (Z := fun q => q = p7) (Ch.refl _ _) (p := ⟨p7, 4, none⟩) (.inl rfl) _) (p := ⟨p7, 5, none⟩) (.inl rfl) _)
            have hq6 : ((w5.setCell ⟨p7, 4, none⟩ (.int .i64 (f0 : Int))).setCell ⟨p7, 5, none⟩ (.slice A5 f1 c5)).cell? ⟨q1, 1, none⟩ = some (.int .i64 (f1 : Int)) := (World.cell?_setCell_far _ _ _ _ (fun e => NEQ.out.2 e.symm)).trans hS6.out.2
            obtain ⟨w6, hw6⟩ : ∃ w6, (w5.setCell ⟨p7, 4, none⟩ (.int .i64 (f0 : Int))).setCell ⟨p7, 5, none⟩ (.slice A5 f1 c5) = w6 := ⟨_, rfl⟩
            rw [hw6] at J6 CHS hq6 ⊢
            clear hw6 hS6
            have j3 := J6.out.c3
            have z3 := J6.out.fz 3
            have hnd2 := need_any w6 f1 (by omega)
            rw [ND.out] at hnd2
            go_wp2_with (fail)
            with_reducible refine hnd2.mono ?_
            rintro e wn ⟨rfl, rfl⟩
            clear hnd2
            go_wp2_with (fail)
            have JL0 := Lib.hid (J6.out.s3 ((fr : Int) + 1 + (nd : Int)))
            have CHS2 : RowKit.Hid (Ch (fun q => q = p7) w5 (w6.setCell ⟨p7, 3, none⟩ (.int .i64 ((fr : Int) + 1 + (nd : Int))))) := Lib.hid (CHS.out.set (p := ⟨p7, 3, none⟩) (.inl rfl) _)
            obtain ⟨WL, hWL⟩ : ∃ WL, w6.setCell ⟨p7, 3, none⟩ (.int .i64 ((fr : Int) + 1 + (nd : Int))) = WL := ⟨_, rfl⟩
            rw [hWL] at JL0 CHS2 ⊢
            have P7L := Lib.hid JL0.out.lt
            have RL0 := Lib.hid (R5.out.ch6 CHS2.out P7.out.2.2.2.1 P7.out.1 P7.out.2.1 P7.out.2.2.1)
            have RWL := Lib.hid (Array.getElem?_eq_some_iff.1 RL0.out.blk).1
            have GLT0 := Lib.hid RL0.out.ds.lts
            have CWL := Lib.hid (C5.out.thenP CHS2.out P7.out.2.2.2.2.1)
            have WWL := Lib.hid CWL.out.size
            have P6W := Lib.hid (show p6 < WL.heap.size from Nat.lt_of_lt_of_le (Array.getElem?_eq_some_iff.1 ZX5.out).1 CHS2.out.size)
            have ZXL := Lib.hid ((CHS2.out.block p6 (Array.getElem?_eq_some_iff.1 ZX5.out).1 (fun e => P7.out.2.2.2.2.2.1 e.symm)).trans ZX5.out)
            have CD5 := Lib.hid (show Cold (fun q => q = r ∨ q = p7 ∨ q = p6) w5 A5 f1 from fun hn q hq => ⟨B5.out.block hn hq, fun z => by
              have h1 := W5.out q hq
              have h2 : w4.drew.heap.size = w4.heap.size := rfl
              have h3 := (Array.getElem?_eq_some_iff.1 R7.out.blk).1
              have h4 := J7.out.lt
              have h5 := (Array.getElem?_eq_some_iff.1 ZX.out).1
              rcases z with z | z | z <;> omega⟩)
            have BL := Lib.hid (B5.out.ch CHS2.out (CD5.out.mono fun q _ z => .inr (.inl z)))
            have CDL := Lib.hid (CD5.out.ch CHS2.out.size)
            have WBL := Lib.hid (show Newer w A5 from fun q hq => by have h1 := W5.out q hq; have h2 : w4.drew.heap.size = w4.heap.size := rfl; have := C7.out.size; omega)
            clear hWL hq6 j3 z3 J6 CHS CHS2 B5 W5 R5 J5 CD5 SZ5 ZX ZX5 C5 C7 R7 J7 C24 HBY Q1 NEQ HR6 HR7 HS7

            go_loopw [] (fun wr => ∃ (pos : Nat) (v : Value) (l : List (List UInt8)), RowKit.Hid (Jv wr p7 g half fr (pos : Int) (f0 : Int) (.slice A5 f1 c5) v false) ∧ RowKit.Hid (Rb wr r g m b N d) ∧ RowKit.Hid (Ch (fun q => q = r ∨ q = p7) WL wr) ∧ RowKit.Hid (RwN WL wr v l) ∧ RowKit.Hid (Jo.recs (Disks.sec d) half (fr + half) f0 (fr + 1 + nd) 0 = l ++ Jo.recs (Disks.sec d) half (fr + half) f0 pos l.length ∧ Jo.recE (Disks.sec d) half (fr + half) f0 (fr + 1 + nd) 0 = Jo.recE (Disks.sec d) half (fr + half) f0 pos l.length ∧ pos ≤ fr + half ∧ l.length ≤ pos)) (fun wr => match wr.cell? ⟨p7, 3, none⟩ with | some (.int _ x) => fr + half - x.toNat | _ => 0)
            case atStart =>
              refine ⟨fr + 1 + nd, .slice none 0 0, [], ?_, RL0, Lib.hid (Ch.refl _ _), Lib.hid (RwN.nil _ _), Lib.hid ⟨rfl, rfl, by omega, Nat.zero_le _⟩⟩
              rw [show ((fr + 1 + nd : Nat) : Int) = (fr : Int) + 1 + (nd : Int) by omega]
              exact JL0
            case round =>
              obtain ⟨pos, v, l, J, R, C, RN, PL⟩ := hrel
              clear JL0 RL0
              obtain ⟨D, dd, rfl⟩ : ∃ D dd, v = .slice D l.length dd := by
                obtain ⟨cs, o1, _⟩ := RN.out
                obtain ⟨D, dd, e, _, _⟩ := ownsRow_slice o1
                exact ⟨D, dd, e⟩
              have k3 := J.out.c3
              have kr := R.out.c1
              by_cases hlt : pos < fr + half
              · have t1 : (pos : Int) < (fr : Int) + (half : Int) := by omega
                have hsec := rdSector_any wr r g m b N d R.out pos (by omega)
                go_wp2_with (fail)
                with_reducible refine hsec.mono ?_
                rintro e w3 ⟨q3, rfl, bs3, r3, c3⟩
                have hnum := numbers_at w3 (some ⟨q3, 0, none⟩) 64 64 _ bs3 2 3 (by omega) 2 3 rfl rfl
                have R3 := Lib.hid r3
                have J3 := Lib.hid (J.out.ch c3 P7.out.2.2.2.1)
                have C3 := Lib.hid (C.out.trans (c3.mono (Z := fun q => q = r ∨ q = p7) (fun q _ z => .inl z)))
                have RN3 := Lib.hid (RN.out.ch c3 (fun q z => by rw [z]; exact RWL.out))
                clear hsec r3 c3 bs3 k3 kr
                go_wp2_with (fail)
                with_reducible refine hnum.mono ?_
                rintro e w4' hg
                clear hnum
                have hx4 : Ext w3 w4' := by
                  rcases hg with ⟨_, _, _, _, hx, _⟩ | ⟨_, _, hx⟩ <;> exact hx
                have R4 := Lib.hid (R3.out.ext hx4)
                have J4' := Lib.hid (J3.out.ext hx4)
                have C4 := Lib.hid (C3.out.thenExt hx4)
                have RN4' := Lib.hid (RN3.out.ext hx4)
                have CO3 := Lib.hid (show ∀ q, (Value.slice D l.length dd).ownBlock = some q → q < w3.heap.size from by obtain ⟨cs, o1, _⟩ := RN3.out; exact fun q hq => (o1.lt q hq).2)
                have K3 := Lib.hid J.out.c3
                clear hx4 R3 J3 C3 RN3 R J C RN
                rcases hg with ⟨ht, q2, rfl, hi, _, hq2n⟩ | ⟨ht, rfl, _⟩
                · have Q2N := Lib.hid hq2n
                  clear hq2n
                  obtain ⟨h0, hh0⟩ : ∃ h0, Jo.fld (Disks.sec d pos) 0 = h0 := ⟨_, rfl⟩
                  obtain ⟨h1, hh1⟩ : ∃ h1, Jo.fld (Disks.sec d pos) 1 = h1 := ⟨_, rfl⟩
                  obtain ⟨h2, hh2⟩ : ∃ h2, Jo.fld (Disks.sec d pos) 2 = h2 := ⟨_, rfl⟩
                  have hb0 : h0 ≤ 2 ^ 60 := hh0 ▸ ht.2.2.1 0 (by omega)
                  have hb1 : h1 ≤ 2 ^ 60 := hh1 ▸ ht.2.2.1 1 (by omega)
                  have hb2 : h2 ≤ 2 ^ 60 := hh2 ▸ ht.2.2.1 2 (by omega)
                  have hq2 : ∀ j, j < 3 → w4'.cell? ⟨q2, j, none⟩ = some (.int .i64 ((Jo.fld (Disks.sec d pos) j : Nat) : Int)) := fun j hj => by
                    obtain ⟨bb, oo, e, hc⟩ := hi.rd.intAt hj
                    injection e with e
                    injection e with e1 e2
                    subst e1 e2
                    rw [nints_get (by simp [Jo.flds]; exact hj)] at hc
                    have : (Jo.flds (Disks.sec d pos) 3).getD j 0 = Jo.fld (Disks.sec d pos) j := by simp [Jo.flds, List.getD_eq_getElem?_getD, hj]
                    rw [this] at hc
                    simpa using hc
                  have m0 := hq2 0 (by omega)
                  have m1 := hq2 1 (by omega)
                  have m2 := hq2 2 (by omega)
                  rw [hh0] at m0
                  rw [hh1] at m1
                  rw [hh2] at m2
                  have HT2 := Lib.hid ht
                  have H0 := Lib.hid hh0
                  have H1 := Lib.hid hh1
                  have H2 := Lib.hid hh2
                  have M2 := Lib.hid m2
                  clear hq2 hi ht hh0 hh1 hh2
                  have hll : l.length ≤ 131072 := by have := PL.out.2.2; omega
                  have hwl : IntKind.i64.wrap ((l.length : Int) + 1) = (l.length : Int) + 1 := IntWalk.i64_in _ (by omega)
                  have hw1 : IntKind.i64.wrap (63 * (half : Int)) = 63 * (half : Int) := IntWalk.i64_in _ (by omega)
                  have hw2 : IntKind.i64.wrap ((pos : Int) + 1) = (pos : Int) + 1 := IntWalk.i64_in _ (by omega)
                  have k3 := J4'.out.c3
                  have k4 := J4'.out.c4
                  have k6 := J4'.out.c6
                  by_cases e0 : h0 = f0
                  · have e0' : ((h0 : Int) != (f0 : Int)) = false := by rw [e0]; simp
                    by_cases e1 : h1 = l.length + 1
                    · have e1' : ((h1 : Int) != (l.length : Int) + 1) = false := by rw [e1]; simp
                      by_cases e2 : 63 * half < h2
                      · have e2' : 63 * (half : Int) < (h2 : Int) := by omega
                        have HNH := Lib.hid (show ¬ Jo.hit (Disks.sec d) half (fr + half) f0 pos l.length from fun z => by have := z.2.2.2.2.1; rw [H2.out] at this; omega)
                        have PLX := Lib.hid (And.intro PL.out.1 (And.intro PL.out.2.1 trivial))
                        clear e0 e1 e2
                        go_wp2
                        go_quiet (fail)
                        go_upto_region 13 with (fail)
                        generalize hwl : w4'.drewN _ = wl
                        have xl : Ext w4' wl := hwl ▸ Ext.drewN _ _
                        have JX := Lib.hid (J4'.out.ext xl)
                        have RX := Lib.hid (R4.out.ext xl)
                        have CX := Lib.hid (C4.out.thenExt xl)
                        have RNX := Lib.hid (RN4'.out.ext xl)
                        clear hwl xl
                        have ZX := Lib.hid ((CX.out.block p6 P6W.out (fun z => by rcases z with z | z; exact P6.out.2.2.2.1 z; exact P7.out.2.2.2.2.2.1 z.symm)).trans ZXL.out)
                        obtain ⟨wz, hst, jz, chz⟩ := jour_store (show wl.heap[p6]? = some (.cells #[.pointer none, .int .i64 0, .int .i64 0, .int .i64 0, .int .i64 0, .slice none 0 0, .slice none 0 0, .bool false] 50 (0, 0)) from ZX.out) g (half : Int) (fr : Int) (pos : Int) (f0 : Int) (.slice A5 f1 c5) (.slice D l.length dd) false rfl rfl
                        have HST := Lib.hid hst
                        have JZ := Lib.hid jz
                        have CHZ := Lib.hid chz
                        clear hst jz chz
                        go_wp2_with (first
                          | ((with_reducible refine opIs ⟨some 165, .load 50 (.tmp 7), _, _, _, _⟩ ?_); refine wpList_loadR rfl 50 (.tmp 7) rfl rfl JX.out.load ?_)
                          | ((with_reducible refine opIs ⟨none, .store 50 (.tmp 6) (.tmp 165), _, _, _, _⟩ ?_); refine wpList_storeR rfl 50 (.tmp 6) (.tmp 165) rfl rfl rfl HST.out ?_))
                        refine bodyPost_ret (jour_results rfl _ JZ.out rfl) rfl ?_
                        have hr0 := Jo.recs_no HNH.out
                        have hr1 := Jo.recE_no HNH.out
                        have e0 : Jo.halfH (Disks.sec d) fr half = ⟨f0, Jo.bytesR (Disks.sec d) (fr + 1) f1, l, pos⟩ := by
                          unfold Jo.halfH
                          rw [if_pos HOK.out, F0.out, F1.out, ND.out, PLX.out.1, PLX.out.2.1, hr0, hr1, List.append_nil]
                        unfold GivesH
                        rw [e0]
                        have hlb : (Jo.bytesR (Disks.sec d) (fr + 1) f1).length = f1 := BL.out.len
                        rw [hlb]
                        have chz : Ch (fun q => q = p6 ∨ q = r ∨ q = p7) WL wz := (CX.out.mono (fun q _ z => .inr z)).trans (CHZ.out.mono (fun q _ z => .inl z))
                        have hzlt : ∀ q, (q = p6 ∨ q = r ∨ q = p7) → q < WL.heap.size := fun q z => by
                          rcases z with z | z | z
                          · rw [z]; exact P6W.out
                          · rw [z]; exact RWL.out
                          · rw [z]; exact P7L.out
                        have hrn := RNX.out.ch CHZ.out (fun q z => hzlt q (.inl z))
                        refine ⟨A5, c5, _, rfl, BL.out.ch chz (CDL.out.mono fun q _ z => ?_), WBL.out, RwN.base hrn WWL.out, ?_, RX.out.ch6 CHZ.out P6.out.2.2.2.1 P6.out.1 P6.out.2.1 P6.out.2.2.1, ?_⟩
                        · rcases z with z | z | z
                          · exact .inr (.inr z)
                          · exact .inl z
                          · exact .inr (.inl z)
                        · obtain ⟨cs, o1, _⟩ := hrn
                          exact fun hn q hq => ⟨Nat.lt_of_lt_of_le (CDL.out hn q hq).1 chz.size, fun z => by have := own_row o1 q z; have := (CDL.out hn q hq).1; omega⟩
                        · exact Ch.thenP ((CWL.out).thenQ CX.out P7.out.2.2.2.2.1) CHZ.out P6.out.2.2.2.2
                      · have e2' : ¬ 63 * (half : Int) < (h2 : Int) := by omega
                        have hnd3 := fun W => need_any W h2 (by omega)
                        obtain ⟨n2, hn2⟩ : ∃ n2, Jo.need h2 = n2 := ⟨_, rfl⟩
                        rw [hn2] at hnd3
                        have hn2l : n2 ≤ half := by rw [← hn2]; unfold Jo.need; omega
                        have HND2 := Lib.hid hnd3
                        have N2 := Lib.hid hn2
                        clear hnd3 hn2
                        by_cases e3 : fr + half < pos + 1 + n2
                        · have e3' : (fr : Int) + (half : Int) < (pos : Int) + 1 + (n2 : Int) := by omega
                          have HNH := Lib.hid (show ¬ Jo.hit (Disks.sec d) half (fr + half) f0 pos l.length from fun z => by have := z.2.2.2.2.2; rw [H2.out, N2.out] at this; omega)
                          have PLX := Lib.hid (And.intro PL.out.1 (And.intro PL.out.2.1 trivial))
                          have hw3 : IntKind.i64.wrap ((pos : Int) + 1 + (n2 : Int)) = (pos : Int) + 1 + (n2 : Int) := IntWalk.i64_in _ (by omega)
                          clear e0 e1 e2 e3
                          go_wp2
                          go_quiet ((go_at_call 33; exact Calls.quiet_of ((HND2.out _).mono (fun _ _ h => ⟨h.1, h.2 ▸ Dr.refl _⟩))))
                          go_upto_region 13 with (fail)
                          generalize hwl : w4'.drewN _ = wl
                          have xl : Ext w4' wl := hwl ▸ Ext.drewN _ _
                          have JX := Lib.hid (J4'.out.ext xl)
                          have RX := Lib.hid (R4.out.ext xl)
                          have CX := Lib.hid (C4.out.thenExt xl)
                          have RNX := Lib.hid (RN4'.out.ext xl)
                          clear hwl xl
                          have ZX := Lib.hid ((CX.out.block p6 P6W.out (fun z => by rcases z with z | z; exact P6.out.2.2.2.1 z; exact P7.out.2.2.2.2.2.1 z.symm)).trans ZXL.out)
                          obtain ⟨wz, hst, jz, chz⟩ := jour_store (show wl.heap[p6]? = some (.cells #[.pointer none, .int .i64 0, .int .i64 0, .int .i64 0, .int .i64 0, .slice none 0 0, .slice none 0 0, .bool false] 50 (0, 0)) from ZX.out) g (half : Int) (fr : Int) (pos : Int) (f0 : Int) (.slice A5 f1 c5) (.slice D l.length dd) false rfl rfl
                          have HST := Lib.hid hst
                          have JZ := Lib.hid jz
                          have CHZ := Lib.hid chz
                          clear hst jz chz
                          go_wp2_with (first
                            | ((with_reducible refine opIs ⟨some 165, .load 50 (.tmp 7), _, _, _, _⟩ ?_); refine wpList_loadR rfl 50 (.tmp 7) rfl rfl JX.out.load ?_)
                            | ((with_reducible refine opIs ⟨none, .store 50 (.tmp 6) (.tmp 165), _, _, _, _⟩ ?_); refine wpList_storeR rfl 50 (.tmp 6) (.tmp 165) rfl rfl rfl HST.out ?_))
                          refine bodyPost_ret (jour_results rfl _ JZ.out rfl) rfl ?_
                          have hr0 := Jo.recs_no HNH.out
                          have hr1 := Jo.recE_no HNH.out
                          have e0 : Jo.halfH (Disks.sec d) fr half = ⟨f0, Jo.bytesR (Disks.sec d) (fr + 1) f1, l, pos⟩ := by
                            unfold Jo.halfH
                            rw [if_pos HOK.out, F0.out, F1.out, ND.out, PLX.out.1, PLX.out.2.1, hr0, hr1, List.append_nil]
                          unfold GivesH
                          rw [e0]
                          have hlb : (Jo.bytesR (Disks.sec d) (fr + 1) f1).length = f1 := BL.out.len
                          rw [hlb]
                          have chz : Ch (fun q => q = p6 ∨ q = r ∨ q = p7) WL wz := (CX.out.mono (fun q _ z => .inr z)).trans (CHZ.out.mono (fun q _ z => .inl z))
                          have hzlt : ∀ q, (q = p6 ∨ q = r ∨ q = p7) → q < WL.heap.size := fun q z => by
                            rcases z with z | z | z
                            · rw [z]; exact P6W.out
                            · rw [z]; exact RWL.out
                            · rw [z]; exact P7L.out
                          have hrn := RNX.out.ch CHZ.out (fun q z => hzlt q (.inl z))
                          refine ⟨A5, c5, _, rfl, BL.out.ch chz (CDL.out.mono fun q _ z => ?_), WBL.out, RwN.base hrn WWL.out, ?_, RX.out.ch6 CHZ.out P6.out.2.2.2.1 P6.out.1 P6.out.2.1 P6.out.2.2.1, ?_⟩
                          · rcases z with z | z | z
                            · exact .inr (.inr z)
                            · exact .inl z
                            · exact .inr (.inl z)
                          · obtain ⟨cs, o1, _⟩ := hrn
                            exact fun hn q hq => ⟨Nat.lt_of_lt_of_le (CDL.out hn q hq).1 chz.size, fun z => by have := own_row o1 q z; have := (CDL.out hn q hq).1; omega⟩
                          · exact Ch.thenP ((CWL.out).thenQ CX.out P7.out.2.2.2.2.1) CHZ.out P6.out.2.2.2.2
                        · have e3' : ¬ (fr : Int) + (half : Int) < (pos : Int) + 1 + (n2 : Int) := by omega
                          have HH := Lib.hid (show Jo.hit (Disks.sec d) half (fr + half) f0 pos l.length from ⟨hlt, HT2.out, by rw [H0.out, e0], by rw [H1.out, e1], by rw [H2.out]; omega, by rw [H2.out, N2.out]; omega⟩)
                          have hw3 : IntKind.i64.wrap ((pos : Int) + 1 + (n2 : Int)) = (pos : Int) + 1 + (n2 : Int) := IntWalk.i64_in _ (by omega)
                          clear e0 e1 e2 e3
                          go_wp2
                          go_quiet ((go_at_call 33; exact Calls.quiet_of ((HND2.out _).mono (fun _ _ h => ⟨h.1, h.2 ▸ Dr.refl _⟩))))
                          go_wp2
                          generalize hwl : w4'.drewN _ = wn4
                          have xl : Ext w4' wn4 := hwl ▸ Ext.drewN _ _
                          have J4 := Lib.hid (J4'.out.ext xl)
                          have R5 := Lib.hid (R4.out.ext xl)
                          have CL4 := Lib.hid (C4.out.thenExt xl)
                          have RN4 := Lib.hid (RN4'.out.ext xl)
                          have PL4 := Lib.hid (And.intro trivial (And.intro trivial (And.intro trivial (And.intro trivial (show l.length ≤ 131072 from hll)))))
                          replace m2 := xl.cell m2
                          have NQ2 := Lib.hid (show q2 ≠ r ∧ q2 ≠ p7 from ⟨fun e => (by have h1 := xl.cell m0; rw [e, R5.out.c0] at h1; cases h1), fun e => (by have h1 := xl.cell m0; rw [e, J4.out.c0] at h1; cases h1)⟩)
                          clear hwl xl J4' R4 C4 RN4' m0 m1 k3 k4 k6 e0' e1' e2' e3'
                          have hby := rdBytes_any wn4.drew r g m b N d (R5.out.ext (Ext.drew wn4)) (pos + 1) h2 (by have h1 := HH.out.2.2.2.2.2; rw [H2.out] at h1; omega)
                          rw [show ((pos + 1 : Nat) : Int) = (pos : Int) + 1 by omega] at hby
                          have HBY2 := Lib.hid hby
                          have CO := Lib.hid (show ∃ cs, wn4.ownsRow WL.heap.size 32 1 (.slice D l.length dd) l.length cs from by obtain ⟨cs, o1, _⟩ := RN4.out; exact ⟨cs, o1⟩)
                          obtain ⟨cs0, hco⟩ := CO.out
                          replace CO := Lib.hid hco
                          clear hco
                          have GLT := Lib.hid (show g < WL.heap.size ∧ m < WL.heap.size ∧ b < WL.heap.size from GLT0.out)
                          clear hby
                          have NQV := Lib.hid (show ∀ (W : World) (cs : List Value), W.ownsRow WL.heap.size 32 1 (.slice D l.length dd) l.length cs → some q2 ≠ (Value.slice D l.length dd).ownBlock from fun W cs o1 e => (by have h1 := CO3.out q2 e.symm; have h2 := Q2N.out; omega))
                          have hS0 : (fun W : World => Hid (Jv W p7 g half fr (pos : Int) (f0 : Int) (.slice A5 f1 c5) (.slice D l.length dd) false ∧ W.cell? ⟨q2, 2, none⟩ = some (.int .i64 (h2 : Int)))) wn4.drew := Lib.hid ⟨J4.out.ext (Ext.drew wn4), (Ext.drew wn4).cell m2⟩
                          refine wp_region_T (S := (fun W : World => Hid (Jv W p7 g half fr (pos : Int) (f0 : Int) (.slice A5 f1 c5) (.slice D l.length dd) false ∧ W.cell? ⟨q2, 2, none⟩ = some (.int .i64 (h2 : Int))))) 13 rfl rfl ?_
                          refine takeC [] (i := 0) (v := ?_) rfl (by kernel_rfl) (by kernel_rfl) (by kernel_rfl) (by kernel_rfl) (by decide) (fun _ _ _ h => h) (by kernel_rfl) (Or.inl ⟨by kernel_rfl, ?_⟩) (by assumption) ?_
                          rotate_left
                          · (intro W9 hSw; go_simp; (try with_reducible rfl))
                          try simp only [Act.put, List.setIfInBounds_toArray, List.set_cons_zero, List.set_cons_succ]
                          refine takeC [] (i := 1) (v := ?_) rfl (by kernel_rfl) (by kernel_rfl) (by kernel_rfl) (by kernel_rfl) (by decide) (fun _ _ _ h => h) (by kernel_rfl) (Or.inl ⟨by kernel_rfl, ?_⟩) (by assumption) ?_
                          rotate_left
                          · (intro W9 hSw; (have k6 := hSw.out.1.c6; clear hSw; skip); go_simp; (try with_reducible rfl))
                          try simp only [Act.put, List.setIfInBounds_toArray, List.set_cons_zero, List.set_cons_succ]
                          refine takeC [] (i := 2) (v := ?_) rfl (by kernel_rfl) (by kernel_rfl) (by kernel_rfl) (by kernel_rfl) (by decide) (fun _ _ _ h => h) (by kernel_rfl) (Or.inl ⟨by kernel_rfl, ?_⟩) (by assumption) ?_
                          rotate_left
                          · (intro W9 hSw; go_simp; (try with_reducible rfl))
                          try simp only [Act.put, List.setIfInBounds_toArray, List.set_cons_zero, List.set_cons_succ]
                          refine takeC [] (i := 3) (v := ?_) rfl (by kernel_rfl) (by kernel_rfl) (by kernel_rfl) (by kernel_rfl) (by decide) (fun _ _ _ h => h) (by kernel_rfl) (Or.inl ⟨by kernel_rfl, ?_⟩) (by assumption) ?_
                          rotate_left
                          · (intro W9 hSw; go_simp; (try with_reducible rfl))
                          try simp only [Act.put, List.setIfInBounds_toArray, List.set_cons_zero, List.set_cons_succ]
                          refine takeC [] (i := 4) (v := ?_) rfl (by kernel_rfl) (by kernel_rfl) (by kernel_rfl) (by kernel_rfl) (by decide) (fun _ _ _ h => h) (by kernel_rfl) (Or.inl ⟨by kernel_rfl, ?_⟩) (by assumption) ?_
                          rotate_left
                          · (intro W9 hSw; (have k3 := hSw.out.1.c3; clear hSw; skip); go_simp; (try with_reducible rfl))
                          try simp only [Act.put, List.setIfInBounds_toArray, List.set_cons_zero, List.set_cons_succ]
                          refine takeC [] (i := 5) (v := ?_) rfl (by kernel_rfl) (by kernel_rfl) (by kernel_rfl) (by kernel_rfl) (by decide) (fun _ _ _ h => h) (by kernel_rfl) (Or.inl ⟨by kernel_rfl, ?_⟩) (by assumption) ?_
                          rotate_left
                          · (intro W9 hSw; go_simp; (try with_reducible rfl))
                          try simp only [Act.put, List.setIfInBounds_toArray, List.set_cons_zero, List.set_cons_succ]
                          refine takeC [] (i := 6) (v := ?_) rfl (by kernel_rfl) (by kernel_rfl) (by kernel_rfl) (by kernel_rfl) (by decide) (fun _ _ _ h => h) (by kernel_rfl) (Or.inl ⟨by kernel_rfl, ?_⟩) (by assumption) ?_
                          rotate_left
                          · (intro W9 hSw; go_simp; (try with_reducible rfl))
                          try simp only [Act.put, List.setIfInBounds_toArray, List.set_cons_zero, List.set_cons_succ]
                          refine takeC [] (i := 7) (v := ?_) rfl (by kernel_rfl) (by kernel_rfl) (by kernel_rfl) (by kernel_rfl) (by decide) (fun _ _ _ h => h) (by kernel_rfl) (Or.inl ⟨by kernel_rfl, ?_⟩) (by assumption) ?_
                          rotate_left
                          · (intro W9 hSw; go_simp; (try with_reducible rfl))
                          try simp only [Act.put, List.setIfInBounds_toArray, List.set_cons_zero, List.set_cons_succ]
                          refine takeC [] (i := 8) (v := ?_) rfl (by kernel_rfl) (by kernel_rfl) (by kernel_rfl) (by kernel_rfl) (by decide) (fun _ _ _ h => h) (by kernel_rfl) (Or.inl ⟨by kernel_rfl, ?_⟩) (by assumption) ?_
                          rotate_left
                          · (intro W9 hSw; (have m2 := hSw.out.2; clear hSw; skip); go_simp; (try with_reducible rfl))
                          try simp only [Act.put, List.setIfInBounds_toArray, List.set_cons_zero, List.set_cons_succ]
                          refine oneT (i := 9) rfl (by kernel_rfl) (fun K hK => ?_)
                          rw [if_pos (by kernel_rfl)]
                          go_wp2_with (fail)
                          with_reducible refine HBY2.out.mono ?_
                          rintro e wb ⟨AB, cB, rfl, bsb, nwb, rbb, chb⟩
                          have hSb : (fun W : World => Hid (Jv W p7 g half fr (pos : Int) (f0 : Int) (.slice A5 f1 c5) (.slice D l.length dd) false ∧ W.cell? ⟨q2, 2, none⟩ = some (.int .i64 (h2 : Int)))) wb := Lib.hid ⟨hS0.out.1.ch chb P7.out.2.2.2.1, (World.cell?_of_block (a := ⟨q2, 2, none⟩) (chb.block q2 (World.block_lt_of_cell? _ _ hS0.out.2) NQ2.out.1)).trans hS0.out.2⟩
                          have BB := Lib.hid bsb
                          have WB := Lib.hid nwb
                          have RB := Lib.hid rbb
                          have CB := Lib.hid chb
                          have RNB := Lib.hid (show RwN WL wb (.slice D l.length dd) l from (RN4.out.ext (Ext.drew wn4)).ch chb (fun q hq => by rw [hq]; exact RWL.out))
                          clear bsb nwb rbb chb
                          go_wp2_with (fail)
                          refine hK.out _ _ (fun _ => hSb) ?_
                          clear hK K
                          try simp only [Act.put, List.setIfInBounds_toArray, List.set_cons_zero, List.set_cons_succ]
                          refine oneT (i := 10) rfl (by kernel_rfl) (fun K hK => ?_)
                          rw [if_pos (by kernel_rfl)]
                          go_wp2_with (fail)
                          have hSc : (fun W : World => Hid (Jv W p7 g half fr (pos : Int) (f0 : Int) (.slice A5 f1 c5) (.slice D l.length dd) false ∧ W.cell? ⟨q2, 2, none⟩ = some (.int .i64 (h2 : Int)))) (wb.alloc (.cells #[.slice AB h2 cB] 32)) := Lib.hid ⟨hSb.out.1.ext (Ext.alloc _ _), (Ext.alloc wb _).cell hSb.out.2⟩
                          obtain ⟨cs, o1, o2⟩ := RNB.out.ext (Ext.alloc wb (.cells #[.slice AB h2 cB] 32))
                          have O1 := Lib.hid o1
                          have O2 := Lib.hid o2
                          have CSL := Lib.hid (show cs.length = l.length by have := o1.1; omega)
                          clear o1 o2
                          refine hK.out _ _ (fun _ => hSc) ?_
                          clear hK K
                          try simp only [Act.put, List.setIfInBounds_toArray, List.set_cons_zero, List.set_cons_succ]
                          refine oneT (i := 11) rfl (by kernel_rfl) (fun K hK => ?_)
                          refine step_append_rd _ rfl (.tmp 144) (.tmp 153) 41 rfl WL.heap.size 32 i1 _ 1 24 Try.underlying41 hi1 hy0 hy1 hy2 rfl (by omega) (.slice D l.length dd) l.length cs (by simp [Act.eval]) O1.out (some ⟨wb.heap.size, 0, none⟩) 1 1 [.slice AB h2 cB] (by simp [Act.eval]) (Rd.lit wb _ _) (by simp [Value.oneCell']) (by have := PL4.out.2.2.2.2; omega) (by have := PL4.out.2.2.2.2; unfold maxLen; omega) (by have := CL4.out.size; have := CB.out.size; have e : wn4.drew.heap.size = wn4.heap.size := rfl; simp; omega) ?_
                          intro vd wd od gd atd
                          have NVP := Lib.hid (show ∀ q, q < WL.heap.size → some q ≠ (Value.slice D l.length dd).ownBlock from fun q hq e => by have := own_row O1.out q e.symm; omega)
                          have hSd : (fun W : World => Hid (Jv W p7 g half fr (pos : Int) (f0 : Int) (.slice A5 f1 c5) (.slice D l.length dd) false ∧ W.cell? ⟨q2, 2, none⟩ = some (.int .i64 (h2 : Int)))) wd := Lib.hid ⟨⟨(gd.block p7 (Nat.lt_of_lt_of_le P7L.out (by have := CL4.out.size; have := CB.out.size; have e : wn4.drew.heap.size = wn4.heap.size := rfl; simp; omega)) (NVP.out p7 P7L.out)).trans hSc.out.1.blk⟩, gd.cell hSc.out.2 (NQV.out _ _ O1.out)⟩
                          have OD := Lib.hid od
                          have GD := Lib.hid gd
                          have ATD := Lib.hid atd
                          obtain ⟨D2, dd2, rfl, _, _⟩ := ownsRow_slice od
                          clear od gd atd
                          refine hK.out _ _ (fun _ => hSd) ?_
                          clear hK K
                          try simp only [Act.put, List.setIfInBounds_toArray, List.set_cons_zero, List.set_cons_succ]
                          refine takeC [] (i := 12) (v := ?_) rfl (by kernel_rfl) (by kernel_rfl) (by kernel_rfl) (by kernel_rfl) (by decide) (fun _ _ _ h => h) (by kernel_rfl) (Or.inl ⟨by kernel_rfl, ?_⟩) (by assumption) ?_
                          rotate_left
                          · (intro W9 hSw; go_simp; (try with_reducible rfl))
                          try simp only [Act.put, List.setIfInBounds_toArray, List.set_cons_zero, List.set_cons_succ]
                          refine oneT (i := 13) rfl (by kernel_rfl) (fun K hK => ?_)
                          rw [if_pos (by kernel_rfl)]
                          have j6 := hSd.out.1.c6
                          have z6 := hSd.out.1.fz 6
                          go_wp2_with (fail)
                          refine hK.out _ _ (fun h => absurd (show true = false from h) (by decide)) ?_
                          clear hK K
                          try simp only [Act.put, List.setIfInBounds_toArray, List.set_cons_zero, List.set_cons_succ]
                          refine doneT (by kernel_rfl) ?_ _
                          clear hS0 hSb hSc j6 z6
                          have CNB := Lib.hid (show Ch (fun q => q = r ∨ q = p7) WL wb from (CL4.out.thenExt (Ext.drew wn4)).trans (CB.out.mono (Z := fun q => q = r ∨ q = p7) (fun q _ z => .inl z)))
                          have CND := Lib.hid (show Ch (fun q => q = r ∨ q = p7) WL wd from (CNB.out.thenExt (Ext.alloc wb (.cells #[.slice AB h2 cB] 32))).grown GD.out (fun q hq => .inr (own_row O1.out q hq)))
                          have hcoldB : Cold (fun q => (Value.slice D l.length dd).ownBlock = some q) wb AB h2 := fun hn q hq => ⟨BB.out.block hn hq, fun z => by
                            have h1 := WB.out q hq
                            have h2 := (CO.out.lt q z).2
                            have h3 : wn4.drew.heap.size = wn4.heap.size := rfl
                            omega⟩
                          have hpush : RwN WL wd (.slice D2 (l.length + 1) dd2) (l ++ [Jo.bytesR (Disks.sec d) (pos + 1) h2]) :=
                            RwN.push (w := wb.alloc (.cells #[.slice AB h2 cB] 32)) O2.out CSL.out (BB.out.ext (Ext.alloc _ _)) (fun q hq => by have h1 := WB.out q hq; have h3 : wn4.drew.heap.size = wn4.heap.size := rfl; have := CL4.out.size; omega) (hcoldB.ch (Ext.alloc wb _).size) OD.out GD.out ATD.out
                          have HPU := Lib.hid hpush
                          have RBD : RowKit.Hid (Rb wd r g m b N d) := by
                            have rb := RB.out.ext (Ext.alloc wb (.cells #[.slice AB h2 cB] 32))
                            obtain ⟨nn, DD, hnn, hdd⟩ := rb.ds.ex
                            obtain ⟨k1, k2, k3⟩ := rb.ds.lts
                            have nv : ∀ q, q < WL.heap.size → some q ≠ (Value.slice D l.length dd).ownBlock := NVP.out
                            exact Lib.hid ⟨⟨⟨nn, DD, hnn, hdd.same GD.out.size (GD.out.block g k1 (nv g GLT.out.1)) (GD.out.block m k2 (nv m GLT.out.2.1)) (GD.out.block b k3 (nv b GLT.out.2.2))⟩, rb.ds.ok⟩, (GD.out.block r (Array.getElem?_eq_some_iff.1 rb.blk).1 (nv r RWL.out)).trans rb.blk, rb.sep, rb.up⟩
                          clear hpush hcoldB
                          go_wp2_with (fail)
                          obtain ⟨we, hwe⟩ : ∃ we, wd.setCell ⟨p7, 6, none⟩ (.slice D2 (l.length + 1) dd2) = we := ⟨_, rfl⟩
                          have JE : RowKit.Hid (Jv we p7 g half fr (pos : Int) (f0 : Int) (.slice A5 f1 c5) (.slice D2 (l.length + 1) dd2) false) := Lib.hid (hwe ▸ hSd.out.1.s6 _)
                          have ME : RowKit.Hid (we.cell? ⟨q2, 2, none⟩ = some (.int .i64 (h2 : Int))) := Lib.hid (hwe ▸ (World.cell?_setCell_far _ _ _ _ (fun e => NQ2.out.2 e.symm)).trans hSd.out.2)
                          have CE : RowKit.Hid (Ch (fun q => q = r ∨ q = p7) WL we) := Lib.hid (hwe ▸ CND.out.set (p := ⟨p7, 6, none⟩) (.inl (.inr rfl)) _)
                          have chs : Ch (fun q => q = p7) wd we := hwe ▸ Ch.set (Z := fun q => q = p7) (Ch.refl _ _) (p := ⟨p7, 6, none⟩) (.inl rfl) _
                          have RE := Lib.hid (RBD.out.ch6 chs P7.out.2.2.2.1 P7.out.1 P7.out.2.1 P7.out.2.2.1)
                          have RNE := Lib.hid (HPU.out.ch chs (fun q z => by rw [z]; exact P7L.out))
                          rw [hwe]
                          clear hSd hwe chs CND CNB HPU RBD GD OD ATD O1 O2 BB WB RB CB J4 R5 RN4 HBY2 RNB
                          have hS0 : (fun W : World => Hid (Jv W p7 g half fr (pos : Int) (f0 : Int) (.slice A5 f1 c5) (.slice D2 (l.length + 1) dd2) false ∧ W.cell? ⟨q2, 2, none⟩ = some (.int .i64 (h2 : Int)))) we.drew := Lib.hid ⟨JE.out.ext (Ext.drew we), (Ext.drew we).cell ME.out⟩
                          refine wp_region_T (S := (fun W : World => Hid (Jv W p7 g half fr (pos : Int) (f0 : Int) (.slice A5 f1 c5) (.slice D2 (l.length + 1) dd2) false ∧ W.cell? ⟨q2, 2, none⟩ = some (.int .i64 (h2 : Int))))) 9 rfl rfl ?_
                          refine takeC [] (i := 0) (v := ?_) rfl (by kernel_rfl) (by kernel_rfl) (by kernel_rfl) (by kernel_rfl) (by decide) (fun _ _ _ h => h) (by kernel_rfl) (Or.inl ⟨by kernel_rfl, ?_⟩) (by assumption) ?_
                          rotate_left
                          · (intro W9 hSw; go_simp; (try with_reducible rfl))
                          try simp only [Act.put, List.setIfInBounds_toArray, List.set_cons_zero, List.set_cons_succ]
                          refine takeC [] (i := 1) (v := ?_) rfl (by kernel_rfl) (by kernel_rfl) (by kernel_rfl) (by kernel_rfl) (by decide) (fun _ _ _ h => h) (by kernel_rfl) (Or.inl ⟨by kernel_rfl, ?_⟩) (by assumption) ?_
                          rotate_left
                          · (intro W9 hSw; (have k3 := hSw.out.1.c3; clear hSw; skip); go_simp; (try with_reducible rfl))
                          try simp only [Act.put, List.setIfInBounds_toArray, List.set_cons_zero, List.set_cons_succ]
                          refine takeC [] (i := 2) (v := ?_) rfl (by kernel_rfl) (by kernel_rfl) (by kernel_rfl) (by kernel_rfl) (by decide) (fun _ _ _ h => h) (by kernel_rfl) (Or.inl ⟨by kernel_rfl, ?_⟩) (by assumption) ?_
                          rotate_left
                          · (intro W9 hSw; go_simp; (try with_reducible rfl))
                          try simp only [Act.put, List.setIfInBounds_toArray, List.set_cons_zero, List.set_cons_succ]
                          refine takeC [] (i := 3) (v := ?_) rfl (by kernel_rfl) (by kernel_rfl) (by kernel_rfl) (by kernel_rfl) (by decide) (fun _ _ _ h => h) (by kernel_rfl) (Or.inl ⟨by kernel_rfl, ?_⟩) (by assumption) ?_
                          rotate_left
                          · (intro W9 hSw; go_simp; (try with_reducible rfl))
                          try simp only [Act.put, List.setIfInBounds_toArray, List.set_cons_zero, List.set_cons_succ]
                          refine takeC [] (i := 4) (v := ?_) rfl (by kernel_rfl) (by kernel_rfl) (by kernel_rfl) (by kernel_rfl) (by decide) (fun _ _ _ h => h) (by kernel_rfl) (Or.inl ⟨by kernel_rfl, ?_⟩) (by assumption) ?_
                          rotate_left
                          · (intro W9 hSw; (have m2 := hSw.out.2; clear hSw; skip); go_simp; (try with_reducible rfl))
                          try simp only [Act.put, List.setIfInBounds_toArray, List.set_cons_zero, List.set_cons_succ]
                          refine oneT (i := 5) rfl (by kernel_rfl) (fun K hK => ?_)
                          rw [if_pos (by kernel_rfl)]
                          go_wp2_with (fail)
                          with_reducible refine (HND2.out we.drew).mono ?_
                          rintro e wf ⟨rfl, rfl⟩
                          go_wp2_with (fail)
                          refine hK.out _ _ (fun _ => hS0) ?_
                          clear hK K
                          try simp only [Act.put, List.setIfInBounds_toArray, List.set_cons_zero, List.set_cons_succ]
                          refine takeC [] (i := 6) (v := ?_) rfl (by kernel_rfl) (by kernel_rfl) (by kernel_rfl) (by kernel_rfl) (by decide) (fun _ _ _ h => h) (by kernel_rfl) (Or.inl ⟨by kernel_rfl, ?_⟩) (by assumption) ?_
                          rotate_left
                          · (intro W9 hSw; go_simp; (try with_reducible rfl))
                          try simp only [Act.put, List.setIfInBounds_toArray, List.set_cons_zero, List.set_cons_succ]
                          refine takeC [] (i := 7) (v := ?_) rfl (by kernel_rfl) (by kernel_rfl) (by kernel_rfl) (by kernel_rfl) (by decide) (fun _ _ _ h => h) (by kernel_rfl) (Or.inl ⟨by kernel_rfl, ?_⟩) (by assumption) ?_
                          rotate_left
                          · (intro W9 hSw; go_simp; (try with_reducible rfl))
                          try simp only [Act.put, List.setIfInBounds_toArray, List.set_cons_zero, List.set_cons_succ]
                          refine takeC [] (i := 8) (v := ?_) rfl (by kernel_rfl) (by kernel_rfl) (by kernel_rfl) (by kernel_rfl) (by decide) (fun _ _ _ h => h) (by kernel_rfl) (Or.inl ⟨by kernel_rfl, ?_⟩) (by assumption) ?_
                          rotate_left
                          · (intro W9 hSw; go_simp; (try with_reducible rfl))
                          try simp only [Act.put, List.setIfInBounds_toArray, List.set_cons_zero, List.set_cons_succ]
                          refine oneT (i := 9) rfl (by kernel_rfl) (fun K hK => ?_)
                          rw [if_pos (by kernel_rfl)]
                          have j3 := hS0.out.1.c3
                          have z3 := hS0.out.1.fz 3
                          go_wp2_with (fail)
                          refine hK.out _ _ (fun h => absurd (show true = false from h) (by decide)) ?_
                          clear hK K
                          try simp only [Act.put, List.setIfInBounds_toArray, List.set_cons_zero, List.set_cons_succ]
                          refine doneT (by kernel_rfl) ?_ _
                          clear hS0 j3 z3
                          go_wp2_with (fail)
                          have ecast : ((pos + 1 + n2 : Nat) : Int) = (pos : Int) + (1 + (n2 : Int)) := by omega
                          have chs : Ch (fun q => q = p7) we (we.setCell ⟨p7, 3, none⟩ (.int .i64 ((pos : Int) + (1 + (n2 : Int))))) := Ch.set (Z := fun q => q = p7) (Ch.refl _ _) (p := ⟨p7, 3, none⟩) (.inl rfl) _
                          have jn := (JE.out.s3 ((pos : Int) + (1 + (n2 : Int)))).ext (Ext.drew _)
                          have hmeas := jn.c3
                          have hrec := Jo.recs_hit HH.out
                          have hree := Jo.recE_hit HH.out
                          rw [H2.out, N2.out] at hrec hree
                          have hbd := HH.out.2.2.2.2.2
                          rw [H2.out, N2.out] at hbd
                          refine ⟨⟨pos + 1 + n2, .slice D2 (l.length + 1) dd2, l ++ [Jo.bytesR (Disks.sec d) (pos + 1) h2], ?_, Lib.hid ((RE.out.ch6 chs P7.out.2.2.2.1 P7.out.1 P7.out.2.1 P7.out.2.2.1).ext (Ext.drew _)), Lib.hid ((CE.out.set (p := ⟨p7, 3, none⟩) (.inl (.inr rfl)) _).thenExt (Ext.drew _)), Lib.hid ((RNE.out.ch chs (fun q z => by rw [z]; exact P7L.out)).ext (Ext.drew _)), Lib.hid ⟨?_, ?_, hbd, ?_⟩⟩, ?_⟩
                          · rw [ecast]
                            exact Lib.hid jn
                          · rw [PL.out.1, hrec, List.append_assoc, List.length_append]
                            rfl
                          · rw [PL.out.2.1, hree, List.length_append]
                            rfl
                          · rw [List.length_append, List.length_singleton]
                            have := PL.out.2.2.2
                            omega
                          · rw [hmeas, K3.out]
                            show fr + half - ((pos : Int) + (1 + (n2 : Int))).toNat < fr + half - ((pos : Int)).toNat
                            omega
                    · have e1' : ((h1 : Int) != (l.length : Int) + 1) = true := by simp; omega
                      have HNH := Lib.hid (show ¬ Jo.hit (Disks.sec d) half (fr + half) f0 pos l.length from fun z => e1 (by rw [← H1.out]; exact z.2.2.2.1))
                      have PLX := Lib.hid (And.intro PL.out.1 (And.intro PL.out.2.1 trivial))
                      clear e0
                      go_wp2
                      go_quiet (fail)
                      go_upto_region 13 with (fail)
                      generalize hwl : w4'.drewN _ = wl
                      have xl : Ext w4' wl := hwl ▸ Ext.drewN _ _
                      have JX := Lib.hid (J4'.out.ext xl)
                      have RX := Lib.hid (R4.out.ext xl)
                      have CX := Lib.hid (C4.out.thenExt xl)
                      have RNX := Lib.hid (RN4'.out.ext xl)
                      clear hwl xl
                      have ZX := Lib.hid ((CX.out.block p6 P6W.out (fun z => by rcases z with z | z; exact P6.out.2.2.2.1 z; exact P7.out.2.2.2.2.2.1 z.symm)).trans ZXL.out)
                      obtain ⟨wz, hst, jz, chz⟩ := jour_store (show wl.heap[p6]? = some (.cells #[.pointer none, .int .i64 0, .int .i64 0, .int .i64 0, .int .i64 0, .slice none 0 0, .slice none 0 0, .bool false] 50 (0, 0)) from ZX.out) g (half : Int) (fr : Int) (pos : Int) (f0 : Int) (.slice A5 f1 c5) (.slice D l.length dd) false rfl rfl
                      have HST := Lib.hid hst
                      have JZ := Lib.hid jz
                      have CHZ := Lib.hid chz
                      clear hst jz chz
                      go_wp2_with (first
                        | ((with_reducible refine opIs ⟨some 165, .load 50 (.tmp 7), _, _, _, _⟩ ?_); refine wpList_loadR rfl 50 (.tmp 7) rfl rfl JX.out.load ?_)
                        | ((with_reducible refine opIs ⟨none, .store 50 (.tmp 6) (.tmp 165), _, _, _, _⟩ ?_); refine wpList_storeR rfl 50 (.tmp 6) (.tmp 165) rfl rfl rfl HST.out ?_))
                      refine bodyPost_ret (jour_results rfl _ JZ.out rfl) rfl ?_
                      have hr0 := Jo.recs_no HNH.out
                      have hr1 := Jo.recE_no HNH.out
                      have e0 : Jo.halfH (Disks.sec d) fr half = ⟨f0, Jo.bytesR (Disks.sec d) (fr + 1) f1, l, pos⟩ := by
                        unfold Jo.halfH
                        rw [if_pos HOK.out, F0.out, F1.out, ND.out, PLX.out.1, PLX.out.2.1, hr0, hr1, List.append_nil]
                      unfold GivesH
                      rw [e0]
                      have hlb : (Jo.bytesR (Disks.sec d) (fr + 1) f1).length = f1 := BL.out.len
                      rw [hlb]
                      have chz : Ch (fun q => q = p6 ∨ q = r ∨ q = p7) WL wz := (CX.out.mono (fun q _ z => .inr z)).trans (CHZ.out.mono (fun q _ z => .inl z))
                      have hzlt : ∀ q, (q = p6 ∨ q = r ∨ q = p7) → q < WL.heap.size := fun q z => by
                        rcases z with z | z | z
                        · rw [z]; exact P6W.out
                        · rw [z]; exact RWL.out
                        · rw [z]; exact P7L.out
                      have hrn := RNX.out.ch CHZ.out (fun q z => hzlt q (.inl z))
                      refine ⟨A5, c5, _, rfl, BL.out.ch chz (CDL.out.mono fun q _ z => ?_), WBL.out, RwN.base hrn WWL.out, ?_, RX.out.ch6 CHZ.out P6.out.2.2.2.1 P6.out.1 P6.out.2.1 P6.out.2.2.1, ?_⟩
                      · rcases z with z | z | z
                        · exact .inr (.inr z)
                        · exact .inl z
                        · exact .inr (.inl z)
                      · obtain ⟨cs, o1, _⟩ := hrn
                        exact fun hn q hq => ⟨Nat.lt_of_lt_of_le (CDL.out hn q hq).1 chz.size, fun z => by have := own_row o1 q z; have := (CDL.out hn q hq).1; omega⟩
                      · exact Ch.thenP ((CWL.out).thenQ CX.out P7.out.2.2.2.2.1) CHZ.out P6.out.2.2.2.2
                  · have e0' : ((h0 : Int) != (f0 : Int)) = true := by simp; omega
                    have HNH := Lib.hid (show ¬ Jo.hit (Disks.sec d) half (fr + half) f0 pos l.length from fun z => e0 (by rw [← H0.out]; exact z.2.2.1))
                    have PLX := Lib.hid (And.intro PL.out.1 (And.intro PL.out.2.1 trivial))
                    go_wp2
                    go_quiet (fail)
                    go_upto_region 13 with (fail)
                    generalize hwl : w4'.drewN _ = wl
                    have xl : Ext w4' wl := hwl ▸ Ext.drewN _ _
                    have JX := Lib.hid (J4'.out.ext xl)
                    have RX := Lib.hid (R4.out.ext xl)
                    have CX := Lib.hid (C4.out.thenExt xl)
                    have RNX := Lib.hid (RN4'.out.ext xl)
                    clear hwl xl
                    have ZX := Lib.hid ((CX.out.block p6 P6W.out (fun z => by rcases z with z | z; exact P6.out.2.2.2.1 z; exact P7.out.2.2.2.2.2.1 z.symm)).trans ZXL.out)
                    obtain ⟨wz, hst, jz, chz⟩ := jour_store (show wl.heap[p6]? = some (.cells #[.pointer none, .int .i64 0, .int .i64 0, .int .i64 0, .int .i64 0, .slice none 0 0, .slice none 0 0, .bool false] 50 (0, 0)) from ZX.out) g (half : Int) (fr : Int) (pos : Int) (f0 : Int) (.slice A5 f1 c5) (.slice D l.length dd) false rfl rfl
                    have HST := Lib.hid hst
                    have JZ := Lib.hid jz
                    have CHZ := Lib.hid chz
                    clear hst jz chz
                    go_wp2_with (first
                      | ((with_reducible refine opIs ⟨some 165, .load 50 (.tmp 7), _, _, _, _⟩ ?_); refine wpList_loadR rfl 50 (.tmp 7) rfl rfl JX.out.load ?_)
                      | ((with_reducible refine opIs ⟨none, .store 50 (.tmp 6) (.tmp 165), _, _, _, _⟩ ?_); refine wpList_storeR rfl 50 (.tmp 6) (.tmp 165) rfl rfl rfl HST.out ?_))
                    refine bodyPost_ret (jour_results rfl _ JZ.out rfl) rfl ?_
                    have hr0 := Jo.recs_no HNH.out
                    have hr1 := Jo.recE_no HNH.out
                    have e0 : Jo.halfH (Disks.sec d) fr half = ⟨f0, Jo.bytesR (Disks.sec d) (fr + 1) f1, l, pos⟩ := by
                      unfold Jo.halfH
                      rw [if_pos HOK.out, F0.out, F1.out, ND.out, PLX.out.1, PLX.out.2.1, hr0, hr1, List.append_nil]
                    unfold GivesH
                    rw [e0]
                    have hlb : (Jo.bytesR (Disks.sec d) (fr + 1) f1).length = f1 := BL.out.len
                    rw [hlb]
                    have chz : Ch (fun q => q = p6 ∨ q = r ∨ q = p7) WL wz := (CX.out.mono (fun q _ z => .inr z)).trans (CHZ.out.mono (fun q _ z => .inl z))
                    have hzlt : ∀ q, (q = p6 ∨ q = r ∨ q = p7) → q < WL.heap.size := fun q z => by
                      rcases z with z | z | z
                      · rw [z]; exact P6W.out
                      · rw [z]; exact RWL.out
                      · rw [z]; exact P7L.out
                    have hrn := RNX.out.ch CHZ.out (fun q z => hzlt q (.inl z))
                    refine ⟨A5, c5, _, rfl, BL.out.ch chz (CDL.out.mono fun q _ z => ?_), WBL.out, RwN.base hrn WWL.out, ?_, RX.out.ch6 CHZ.out P6.out.2.2.2.1 P6.out.1 P6.out.2.1 P6.out.2.2.1, ?_⟩
                    · rcases z with z | z | z
                      · exact .inr (.inr z)
                      · exact .inl z
                      · exact .inr (.inl z)
                    · obtain ⟨cs, o1, _⟩ := hrn
                      exact fun hn q hq => ⟨Nat.lt_of_lt_of_le (CDL.out hn q hq).1 chz.size, fun z => by have := own_row o1 q z; have := (CDL.out hn q hq).1; omega⟩
                    · exact Ch.thenP ((CWL.out).thenQ CX.out P7.out.2.2.2.2.1) CHZ.out P6.out.2.2.2.2
                · have HT2 := Lib.hid ht
                  clear ht
                  have HNH := Lib.hid (show ¬ Jo.hit (Disks.sec d) half (fr + half) f0 pos l.length from fun z => HT2.out z.2.1)
                  have PLX := Lib.hid (And.intro PL.out.1 (And.intro PL.out.2.1 trivial))
                  go_wp2
                  go_quiet (fail)
                  go_upto_region 13 with (fail)
                  generalize hwl : w4'.drewN _ = wl
                  have xl : Ext w4' wl := hwl ▸ Ext.drewN _ _
                  have JX := Lib.hid (J4'.out.ext xl)
                  have RX := Lib.hid (R4.out.ext xl)
                  have CX := Lib.hid (C4.out.thenExt xl)
                  have RNX := Lib.hid (RN4'.out.ext xl)
                  clear hwl xl
                  have ZX := Lib.hid ((CX.out.block p6 P6W.out (fun z => by rcases z with z | z; exact P6.out.2.2.2.1 z; exact P7.out.2.2.2.2.2.1 z.symm)).trans ZXL.out)
                  obtain ⟨wz, hst, jz, chz⟩ := jour_store (show wl.heap[p6]? = some (.cells #[.pointer none, .int .i64 0, .int .i64 0, .int .i64 0, .int .i64 0, .slice none 0 0, .slice none 0 0, .bool false] 50 (0, 0)) from ZX.out) g (half : Int) (fr : Int) (pos : Int) (f0 : Int) (.slice A5 f1 c5) (.slice D l.length dd) false rfl rfl
                  have HST := Lib.hid hst
                  have JZ := Lib.hid jz
                  have CHZ := Lib.hid chz
                  clear hst jz chz
                  go_wp2_with (first
                    | ((with_reducible refine opIs ⟨some 165, .load 50 (.tmp 7), _, _, _, _⟩ ?_); refine wpList_loadR rfl 50 (.tmp 7) rfl rfl JX.out.load ?_)
                    | ((with_reducible refine opIs ⟨none, .store 50 (.tmp 6) (.tmp 165), _, _, _, _⟩ ?_); refine wpList_storeR rfl 50 (.tmp 6) (.tmp 165) rfl rfl rfl HST.out ?_))
                  refine bodyPost_ret (jour_results rfl _ JZ.out rfl) rfl ?_
                  have hr0 := Jo.recs_no HNH.out
                  have hr1 := Jo.recE_no HNH.out
                  have e0 : Jo.halfH (Disks.sec d) fr half = ⟨f0, Jo.bytesR (Disks.sec d) (fr + 1) f1, l, pos⟩ := by
                    unfold Jo.halfH
                    rw [if_pos HOK.out, F0.out, F1.out, ND.out, PLX.out.1, PLX.out.2.1, hr0, hr1, List.append_nil]
                  unfold GivesH
                  rw [e0]
                  have hlb : (Jo.bytesR (Disks.sec d) (fr + 1) f1).length = f1 := BL.out.len
                  rw [hlb]
                  have chz : Ch (fun q => q = p6 ∨ q = r ∨ q = p7) WL wz := (CX.out.mono (fun q _ z => .inr z)).trans (CHZ.out.mono (fun q _ z => .inl z))
                  have hzlt : ∀ q, (q = p6 ∨ q = r ∨ q = p7) → q < WL.heap.size := fun q z => by
                    rcases z with z | z | z
                    · rw [z]; exact P6W.out
                    · rw [z]; exact RWL.out
                    · rw [z]; exact P7L.out
                  have hrn := RNX.out.ch CHZ.out (fun q z => hzlt q (.inl z))
                  refine ⟨A5, c5, _, rfl, BL.out.ch chz (CDL.out.mono fun q _ z => ?_), WBL.out, RwN.base hrn WWL.out, ?_, RX.out.ch6 CHZ.out P6.out.2.2.2.1 P6.out.1 P6.out.2.1 P6.out.2.2.1, ?_⟩
                  · rcases z with z | z | z
                    · exact .inr (.inr z)
                    · exact .inl z
                    · exact .inr (.inl z)
                  · obtain ⟨cs, o1, _⟩ := hrn
                    exact fun hn q hq => ⟨Nat.lt_of_lt_of_le (CDL.out hn q hq).1 chz.size, fun z => by have := own_row o1 q z; have := (CDL.out hn q hq).1; omega⟩
                  · exact Ch.thenP ((CWL.out).thenQ CX.out P7.out.2.2.2.2.1) CHZ.out P6.out.2.2.2.2
              · have t1 : ¬ (pos : Int) < (fr : Int) + (half : Int) := by omega
                have HNH := Lib.hid (show ¬ Jo.hit (Disks.sec d) half (fr + half) f0 pos l.length from fun z => hlt z.1)
                have PLX := Lib.hid (And.intro PL.out.1 (And.intro PL.out.2.1 trivial))
                obtain ⟨wl, hwl⟩ : ∃ wl, wl = wr := ⟨_, rfl⟩
                subst hwl
                have ZX := Lib.hid ((C.out.block p6 P6W.out (fun z => by rcases z with z | z; exact P6.out.2.2.2.1 z; exact P7.out.2.2.2.2.2.1 z.symm)).trans ZXL.out)
                obtain ⟨wz, hst, jz, chz⟩ := jour_store (show wl.heap[p6]? = some (.cells #[.pointer none, .int .i64 0, .int .i64 0, .int .i64 0, .int .i64 0, .slice none 0 0, .slice none 0 0, .bool false] 50 (0, 0)) from ZX.out) g (half : Int) (fr : Int) (pos : Int) (f0 : Int) (.slice A5 f1 c5) (.slice D l.length dd) false rfl rfl
                have HST := Lib.hid hst
                have JZ := Lib.hid jz
                have CHZ := Lib.hid chz
                clear hst jz chz
                go_wp2_with (first
                  | ((with_reducible refine opIs ⟨some 165, .load 50 (.tmp 7), _, _, _, _⟩ ?_); refine wpList_loadR rfl 50 (.tmp 7) rfl rfl J.out.load ?_)
                  | ((with_reducible refine opIs ⟨none, .store 50 (.tmp 6) (.tmp 165), _, _, _, _⟩ ?_); refine wpList_storeR rfl 50 (.tmp 6) (.tmp 165) rfl rfl rfl HST.out ?_))
                refine bodyPost_ret (jour_results rfl _ JZ.out rfl) rfl ?_
                have hr0 := Jo.recs_no HNH.out
                have hr1 := Jo.recE_no HNH.out
                have e0 : Jo.halfH (Disks.sec d) fr half = ⟨f0, Jo.bytesR (Disks.sec d) (fr + 1) f1, l, pos⟩ := by
                  unfold Jo.halfH
                  rw [if_pos HOK.out, F0.out, F1.out, ND.out, PLX.out.1, PLX.out.2.1, hr0, hr1, List.append_nil]
                unfold GivesH
                rw [e0]
                have hlb : (Jo.bytesR (Disks.sec d) (fr + 1) f1).length = f1 := BL.out.len
                rw [hlb]
                have chz : Ch (fun q => q = p6 ∨ q = r ∨ q = p7) WL wz := (C.out.mono (fun q _ z => .inr z)).trans (CHZ.out.mono (fun q _ z => .inl z))
                have hzlt : ∀ q, (q = p6 ∨ q = r ∨ q = p7) → q < WL.heap.size := fun q z => by
                  rcases z with z | z | z
                  · rw [z]; exact P6W.out
                  · rw [z]; exact RWL.out
                  · rw [z]; exact P7L.out
                have hrn := RN.out.ch CHZ.out (fun q z => hzlt q (.inl z))
                refine ⟨A5, c5, _, rfl, BL.out.ch chz (CDL.out.mono fun q _ z => ?_), WBL.out, RwN.base hrn WWL.out, ?_, R.out.ch6 CHZ.out P6.out.2.2.2.1 P6.out.1 P6.out.2.1 P6.out.2.2.1, ?_⟩
                · rcases z with z | z | z
                  · exact .inr (.inr z)
                  · exact .inl z
                  · exact .inr (.inl z)
                · obtain ⟨cs, o1, _⟩ := hrn
                  exact fun hn q hq => ⟨Nat.lt_of_lt_of_le (CDL.out hn q hq).1 chz.size, fun z => by have := own_row o1 q z; have := (CDL.out hn q hq).1; omega⟩
                · exact Ch.thenP ((CWL.out).thenQ C.out P7.out.2.2.2.2.1) CHZ.out P6.out.2.2.2.2
  · have HNO := Lib.hid (show ¬ Jo.baseOk (Disks.sec d) fr half from fun z => ht z.1)
    clear ht
    obtain ⟨wz, hst, jz, chz⟩ := jour_store (show w4.heap[p6]? = some (.cells #[.pointer none, .int .i64 0, .int .i64 0, .int .i64 0, .int .i64 0, .slice none 0 0, .slice none 0 0, .bool false] 50 (0, 0)) from ZX.out) g (half : Int) (fr : Int) 0 0 (.slice none 0 0) (.slice none 0 0) false rfl rfl
    have HST := Lib.hid hst
    have JZ := Lib.hid jz
    have CHZ := Lib.hid chz
    clear hst jz chz
    go_wp2_with (first
      | ((with_reducible refine opIs ⟨some 63, .load 50 (.tmp 7), _, _, _, _⟩ ?_); refine wpList_loadR rfl 50 (.tmp 7) rfl rfl J7.out.load ?_)
      | ((with_reducible refine opIs ⟨none, .store 50 (.tmp 6) (.tmp 63), _, _, _, _⟩ ?_); refine wpList_storeR rfl 50 (.tmp 6) (.tmp 63) rfl rfl rfl HST.out ?_))
    refine bodyPost_ret (jour_results rfl _ JZ.out rfl) rfl ?_
    have e0 : Jo.halfH (Disks.sec d) fr half = ⟨0, [], [], 0⟩ := if_neg HNO.out
    unfold GivesH
    rw [e0]
    exact ⟨none, 0, .slice none 0 0, rfl, bs_none24 _, Newer.none _, RwN.nil _ _, Cold.none _ _ _, (R7.out.ch6 CHZ.out P6.out.2.2.2.1 P6.out.1 P6.out.2.1 P6.out.2.2.1), C7.out.thenP CHZ.out P6.out.2.2.2.2⟩
end Go.Proofs.Ytaaegbccejjjcaa
