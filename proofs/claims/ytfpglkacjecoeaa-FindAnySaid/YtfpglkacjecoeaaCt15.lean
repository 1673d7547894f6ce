/- Several texts in one: The contracts of find.Lacks and Wants. Matrices of the call's own: the outer row, and each row, in blocks of their own. No statement of the seat is proved here. -/
import Derived.Test.YtfpglkacjecoeaaCt14
import Derived.Test.YtfpglkacjecoeaaCt6
import Derived.Test.YtfpglkacjecoeaaCt12
import Derived.OneCell
import Derived.Laws.OwnMore
import Derived.Laws.MakeOwn
namespace Go.Proofs.Ytfpglkacjecoeaa
open Go.RowKit

set_option maxRecDepth 100000 in
set_option maxHeartbeats 2000000 in
theorem fLacks_any (w : World) (f : Finds.F) (A : Option Addr) (n c : Nat) (B : Option Addr) (m d : Nat) (C : Option Addr) (k e : Nat) (h : Fd w f A n c B m d C k e) (hn : n ≤ 1000) (hm : m ≤ 1000) :
    Calls Try.prog 18 #[fval f.stripe f.version f.need f.phase (.slice A n c) (.slice B m d) (.slice C k e)] w fun r w' => ∃ v, r = .returned v ∧ NewInts w w' v (Finds.lacksL f) := by
  have q1 := h.u.max
  have q2 := h.u.le
  have q3 := h.v.max
  have q4 := h.v.le
  have q5 := h.s.max
  have q6 := h.s.le
  have xA := Ext.alloc w (.cells #[.int .i64 f.stripe, .int .i64 f.version, .int .i64 f.need, .int .i64 f.phase, .slice A n c, .slice B m d, .slice C k e] 27)
  have hR := fRight_any _ f A n c B m d C k e (h.ext xA) hn hm
  have s1 := Fb.new w f.stripe f.version f.need f.phase (.slice A n c) (.slice B m d) (.slice C k e) rfl
  have XA := Lib.hid xA
  have HR := Lib.hid hR
  have SB := Lib.hid s1
  have HU := Lib.hid h.u
  clear h hR xA s1
  go_enter Try.func18, Try.ntmps18
  go_wp2_with (fail)
  refine HR.out.mono ?_
  rintro r w1 ⟨rfl, x1⟩
  have X1 := Lib.hid (XA.out.trans x1)
  have s1 := SB.out.ext x1
  have k0 := s1.c0
  have k1 := s1.c1
  have k2 := s1.c2
  have k3 := s1.c3
  have k4 := s1.c4
  have k5 := s1.c5
  have k6 := s1.c6
  clear x1 s1
  by_cases hr : Finds.right f
  · rw [decide_eq_true hr]
    have HL := Lib.hid (show Finds.lacksL f = Finds.ofL f.marks 2 from if_pos hr)
    clear hr
    go_wp2_with (fail)
    refine (of_any13 w1 f.stripe f.version f.need f.phase A n c (.slice B m d) (.slice C k e) 2 f.marks (HU.out.ext X1.out) hn).mono ?_
    rintro r w2 ⟨v, rfl, hv⟩
    have HV := Lib.hid hv
    clear hv
    go_wp2_with (fail)
    go_ret
    rw [HL.out]
    exact ⟨v, rfl, ownsRow_base HV.out.own X1.out.size, X1.out.trans HV.out.ext⟩
  · rw [decide_eq_false hr]
    have HL := Lib.hid (show Finds.lacksL f = [] from if_neg hr)
    clear hr
    go_wp2_with (fail)
    go_ret
    rw [HL.out]
    exact ⟨_, rfl, World.ownsRow_nil _ _ _ _, X1.out⟩
theorem ret_val {a b : Value} (h : a = b) : Ending.returned a = .returned b := by rw [h]
/-- What is wanted, as the program lists it. -/
def wants4 (l : List Int) : List (Int × Int) := l.map (fun x => (x, 4))
theorem wants4_snoc (l : List Int) {k : Nat} (hk : k < l.length) : wants4 (l.take (k + 1)) = wants4 (l.take k) ++ [(Il.get l k, 4)] := by
  unfold wants4
  rw [List.take_succ_eq_append_getElem hk, List.map_append, Il.get_of_lt hk]
  rfl
theorem wants4_length (l : List Int) : (wants4 l).length = l.length := by simp [wants4]
set_option maxRecDepth 100000 in
set_option maxHeartbeats 2000000 in
theorem fWants_any (w : World) (f : Finds.F) (A : Option Addr) (n c : Nat) (B : Option Addr) (m d : Nat) (C : Option Addr) (k e : Nat) (h : Fd w f A n c B m d C k e) (hn : n ≤ 1000) (hm : m ≤ 1000) :
    Calls Try.prog 19 #[fval f.stripe f.version f.need f.phase (.slice A n c) (.slice B m d) (.slice C k e)] w (GivesW (wants4 (Finds.wantsL f)) w) := by
  obtain ⟨i0, hi0, hz0, hz1, hz2⟩ := info_parts want_info
  have q1 := h.u.max
  have q2 := h.u.le
  have q3 := h.v.max
  have q4 := h.v.le
  have q5 := h.s.max
  have q6 := h.s.le
  have xA := Ext.alloc w (.cells #[.int .i64 f.stripe, .int .i64 f.version, .int .i64 f.need, .int .i64 f.phase, .slice A n c, .slice B m d, .slice C k e] 27)
  have hR := fRight_any _ f A n c B m d C k e (h.ext xA) hn hm
  have s1 := Fb.new w f.stripe f.version f.need f.phase (.slice A n c) (.slice B m d) (.slice C k e) rfl
  have XA := Lib.hid xA
  have HR := Lib.hid hR
  have SB := Lib.hid s1
  have HU := Lib.hid h.u
  clear h hR xA s1
  go_enter Try.func19, Try.ntmps19
  go_wp2_with (fail)
  refine HR.out.mono ?_
  rintro r w1 ⟨rfl, x1⟩
  have X1 := Lib.hid (XA.out.trans x1)
  have s1 := SB.out.ext x1
  have k0 := s1.c0
  have k1 := s1.c1
  have k2 := s1.c2
  have k3 := s1.c3
  have k4 := s1.c4
  have k5 := s1.c5
  have k6 := s1.c6
  clear x1 s1
  by_cases hr : Finds.right f
  · by_cases hp : f.phase = 1
    · have e1 : (f.phase != 1) = false := by rw [bne_eq_false_iff_eq]; exact hp
      rw [decide_eq_true hr]
      have HL := Lib.hid (show Finds.wantsL f = Finds.ofL f.marks 0 from if_pos ⟨hr, hp⟩)
      have HLM := Lib.hid (show (Finds.ofL f.marks 0).length ≤ 1000 by have := Finds.cnt_le f.marks 0; have := HU.out.len; unfold Finds.cnt at *; omega)
      clear hr hp
      go_wp2_with (fail)
      refine (of_any13 w1 f.stripe f.version f.need f.phase A n c (.slice B m d) (.slice C k e) 0 f.marks (HU.out.ext X1.out) hn).mono ?_
      rintro r w2 ⟨v, rfl, hv⟩
      obtain ⟨A2, c2, rfl, hi⟩ := hv.is
      have X2 := Lib.hid (X1.out.trans hv.ext)
      obtain ⟨l, hl⟩ : ∃ l, Finds.ofL f.marks 0 = l := ⟨_, rfl⟩
      rw [hl] at hi HLM HL ⊢
      obtain ⟨N, hN⟩ : ∃ N, l.length = N := ⟨_, rfl⟩
      rw [hN] at hi HLM ⊢
      have q7 := hi.max
      have q8 := hi.le
      have HI := Lib.hid hi
      have hN2 : N ≤ 1000 := HLM.out
      have HN := Lib.hid hN
      clear hv hi hl hN k0 k1 k2 k3 k4 k5 k6 e1
      go_wp2_with (fail)
      go_loopw [3, 5, 17] (fun u _ s wr => ∃ j : Nat, j ≤ N ∧ s = .int .i64 (j : Int) ∧ RowKit.Hid (wr.ownsRow w2.heap.size 57 2 u (wants4 (l.take j)).length (wcells (wants4 (l.take j)))) ∧ RowKit.Hid (Ext w2 wr)) (fun _ _ s _ => N - (intOf s).toNat)
      case atStart => exact ⟨0, by omega, rfl, Lib.hid (World.ownsRow_nil _ _ _ _), Lib.hid (Ext.refl _)⟩
      case round =>
        obtain ⟨j, hj, rfl, OWN, HX⟩ := hrel
        by_cases hlt : j < N
        · have r1 : (j : Int) < N := by omega
          obtain ⟨b, o, rfl, hc⟩ := (HI.out.ext HX.out).rd.intAt hlt
          have hsn := wants4_snoc l (k := j) (by rw [HN.out]; exact hlt)
          have hln : (wants4 (l.take j)).length ≤ 1000 := by rw [wants4_length, List.length_take]; omega
          obtain ⟨y, hy⟩ : ∃ y, Il.get l j = y := ⟨_, rfl⟩
          rw [hy] at hc hsn
          have HSN := Lib.hid hsn
          have hsz := HX.out.size
          clear hy hsn
          go_wp2_with (at_builtin; refine wpList_append_rd _ rfl (.tmp 21) (.tmp 24) 49 rfl w2.heap.size 57 i0 _ 2 16 Try.underlying49 hi0 hz0 hz1 hz2 rfl (by omega) u3 (wants4 (l.take j)).length (wcells (wants4 (l.take j))) rfl (ownsRow_ext OWN.out (Ext.alloc _ _)) (some ⟨wr.heap.size, 0, none⟩) 1 1 [.int .i64 y, .int .u8 4] rfl (Rd.lit2w wr _ _ _) (by simp [Value.oneCell']) (by omega) (by unfold maxLen; omega) (by simp; omega) ?_; intro v1 w3 hown hgr hat)
          refine ⟨⟨j + 1, by omega, by go_num, Lib.hid ?_, Lib.hid ((HX.out.trans (Ext.alloc _ _)).ofGrown hgr (fun k hk => (OWN.out.lt k hk).1))⟩, by simp [intOf]; omega⟩
          rw [HSN.out, wcells_append, List.length_append]
          exact hown
        · have r1 : ¬ (j : Int) < N := by omega
          obtain rfl : j = N := by omega
          have ht : l.take j = l := List.take_of_length_le (by rw [HN.out]; exact Nat.le_refl _)
          rw [ht] at OWN
          clear ht
          go_wp2_with (fail)
          go_ret
          obtain ⟨A3, c3, e3, hw⟩ := Ws.own OWN.out
          rw [HL.out]
          exact ⟨A3, _, c3, ret_val e3, hw, X2.out.trans HX.out⟩
    · have e1 : (f.phase != 1) = true := by rw [bne_iff_ne]; exact hp
      rw [decide_eq_true hr]
      have HL := Lib.hid (show Finds.wantsL f = [] from if_neg (fun h => hp h.2))
      clear hr hp
      go_wp2_with (fail)
      go_ret
      rw [HL.out]; exact ⟨_, _, _, rfl, Ws.none _, X1.out⟩
  · rw [decide_eq_false hr]
    have HL := Lib.hid (show Finds.wantsL f = [] from if_neg (fun h => hr h.1))
    clear hr
    go_wp2_with (fail)
    go_ret
    rw [HL.out]; exact ⟨_, _, _, rfl, Ws.none _, X1.out⟩
end Go.Proofs.Ytfpglkacjecoeaa
namespace Go.Proofs.Ytfpglkacjecoeaa
open Go.RowKit

/-- A matrix of one's own: its blocks are from 'base' on, all different; no row is in a block of a kind, the outer row is. -/
structure Mq (w : World) (base : Nat) (P : Nat → Prop) (v : Value) (n : Nat) (cs : List Value) (m : Gm.L) : Prop where
  len : m.length = n
  own : w.ownsRow base 35 1 v n cs
  row : ∀ i, i < n → ∃ A c, cs[i]? = some (.slice A (Gm.row m i).length c) ∧ w.ownsRow base 5 1 (.slice A (Gm.row m i).length c) (Gm.row m i).length (bcells (Gm.row m i))
  cool : ∀ (i : Nat) (u : Value) (b : Nat), cs[i]? = some u → u.ownBlock = some b → ¬ P b
  hot : ∀ b, v.ownBlock = some b → P b
  apart : ∀ (i j : Nat) (u u' : Value) (b : Nat), i ≠ j → cs[i]? = some u → cs[j]? = some u' → u.ownBlock = some b → u'.ownBlock ≠ some b
section
variable {w w' : World} {base : Nat} {P : Nat → Prop} {v : Value} {n : Nat} {cs : List Value} {m : Gm.L}
theorem Mq.clen (h : Mq w base P v n cs m) : cs.length = n := by have := h.own.1; omega
theorem Mq.ext (h : Mq w base P v n cs m) (hx : Ext w w') : Mq w' base P v n cs m :=
  ⟨h.len, ownsRow_ext h.own hx, fun i hi => by obtain ⟨A, c, e, ho⟩ := h.row i hi; exact ⟨A, c, e, ownsRow_ext ho hx⟩, h.cool, h.hot, h.apart⟩
theorem Mq.rows (h : Mq w base P v n cs m) : Rows w cs m :=
  ⟨by rw [h.clen, h.len], fun i hi => by
    obtain ⟨A, c, e, ho⟩ := h.row i (by rw [← h.len]; exact hi)
    exact ⟨A, _, c, e, (Own.mk (base := base) (e := 5) ho).bs⟩⟩
theorem Mq.mx (h : Mq w base P v n cs m) : ∃ A c, v = .slice A n c ∧ Mx w A n c m := by
  obtain ⟨A, c, rfl, h1, h2⟩ := ownsRow_slice h.own
  exact ⟨A, c, rfl, h.len, h1, h2, cs, Rd.of_own h.own, h.rows⟩
theorem Mq.block (h : Mq w base P v n cs m) {i : Nat} {u : Value} {b : Nat} (hu : cs[i]? = some u) (hb : u.ownBlock = some b) : base ≤ b ∧ b < w.heap.size := by
  have hi : i < n := by have := (List.getElem?_eq_some_iff.1 hu).1; rwa [h.clen] at this
  obtain ⟨A, c, e, ho⟩ := h.row i hi
  rw [hu] at e
  injection e with e
  subst e
  exact ho.lt b hb
theorem Mq.kind {P' : Nat → Prop} (h : Mq w base P v n cs m) (hP : ∀ b, b < w.heap.size → base ≤ b → P' b → P b) (hv : ∀ b, v.ownBlock = some b → P' b) : Mq w base P' v n cs m :=
  ⟨h.len, h.own, h.row, fun i u b hu hb hp => h.cool i u b hu hb (hP b (h.block hu hb).2 (h.block hu hb).1 hp), hv, h.apart⟩
theorem Mq.base_le {base' : Nat} (h : Mq w base P v n cs m) (hb : base' ≤ base) : Mq w base' P v n cs m :=
  ⟨h.len, ownsRow_base h.own hb, fun i hi => by obtain ⟨A, c, e, ho⟩ := h.row i hi; exact ⟨A, c, e, ownsRow_base ho hb⟩, h.cool, h.hot, h.apart⟩
/-- A store into another block of the kind. -/
theorem Mq.far (h : Mq w base P v n cs m) {q : Addr} (hq : P q.block) (hv : v.ownBlock ≠ some q.block) (u : Value) : Mq (w.setCell q u) base P v n cs m :=
  ⟨h.len, ownsRow_setCell_other h.own hv u, fun i hi => by
    obtain ⟨A, c, e, ho⟩ := h.row i hi
    exact ⟨A, c, e, ownsRow_setCell_other ho (fun e' => h.cool i _ _ e e' hq) u⟩, h.cool, h.hot, h.apart⟩
/-- A store into a block ahead of all of it. -/
theorem Mq.below (h : Mq w base P v n cs m) {q : Addr} (hq : q.block < base) (u : Value) : Mq (w.setCell q u) base P v n cs m :=
  ⟨h.len, ownsRow_far h.own hq u, fun i hi => by
    obtain ⟨A, c, e, ho⟩ := h.row i hi
    exact ⟨A, c, e, ownsRow_far ho hq u⟩, h.cool, h.hot, h.apart⟩
theorem row_set_ne {m : Gm.L} {i j : Nat} (r : List UInt8) (h : i ≠ j) : Gm.row (m.set i r) j = Gm.row m j := by
  unfold Gm.row
  rw [List.getD_eq_getElem?_getD, List.getD_eq_getElem?_getD, List.getElem?_set, if_neg h]
/-- A row is stored. -/
theorem Mq.put {g c0 : Nat} (h : Mq w base P (.slice (some ⟨g, 0, none⟩) n c0) n cs m) {i : Nat} (hi : i < n) {A : Option Addr} {c b1 : Nat} {r : List UInt8} (hr1 : w.ownsRow b1 5 1 (.slice A r.length c) r.length (bcells r)) (hb1 : base ≤ b1)
    (hf : ∀ b, (Value.slice A r.length c).ownBlock = some b → ¬ P b ∧ ∀ j u, j ≠ i → cs[j]? = some u → u.ownBlock ≠ some b) :
    Mq (w.setCell ⟨g, i, none⟩ (.slice A r.length c)) base P (.slice (some ⟨g, 0, none⟩) n c0) n (cs.set i (.slice A r.length c)) (m.set i r) := by
  have hr := ownsRow_base hr1 hb1
  have hg : P g := h.hot g rfl
  have hil : i < cs.length := by rw [h.clen]; exact hi
  refine ⟨by rw [List.length_set]; exact h.len, (h.own.stored i _).1, fun j hj => ?_, fun j u b hu hb => ?_, h.hot, fun j k u u' b hjk hu hu' hb => ?_⟩
  · by_cases e : i = j
    · subst e
      have hrow : Gm.row (m.set i r) i = r := by rw [Gm.row_set _ (by rw [h.len]; exact hi), if_pos rfl]
      rw [hrow]
      exact ⟨A, c, by rw [List.getElem?_set, if_pos rfl, if_pos hil], ownsRow_setCell_other hr (fun e' => (hf _ e').1 hg) _⟩
    · rw [row_set_ne r e]
      obtain ⟨A', c', e', ho⟩ := h.row j hj
      exact ⟨A', c', by rw [List.getElem?_set, if_neg e]; exact e', ownsRow_setCell_other ho (fun e2 => h.cool j _ _ e' e2 hg) _⟩
  · rw [List.getElem?_set] at hu
    by_cases e : i = j
    · rw [if_pos e, if_pos hil] at hu
      injection hu with hu
      subst hu
      exact (hf b hb).1
    · rw [if_neg e] at hu
      exact h.cool j u b hu hb
  · rw [List.getElem?_set] at hu hu'
    by_cases e : i = j
    · rw [if_pos e, if_pos hil] at hu
      injection hu with hu
      subst hu
      rw [if_neg (by omega)] at hu'
      exact (hf b hb).2 k u' (by omega) hu'
    · rw [if_neg e] at hu
      by_cases e2 : i = k
      · rw [if_pos e2, if_pos hil] at hu'
        injection hu' with hu'
        subst hu'
        intro hb'
        exact (hf b hb').2 j u (by omega) hu hb
      · rw [if_neg e2] at hu'
        exact h.apart j k u u' b hjk hu hu' hb
/-- What a new row must be: in a block that was not there. -/
theorem Mq.fresh (h : Mq w base P v n cs m) {w1 : World} {A : Option Addr} {r : List UInt8} {c base1 : Nat} (hr : w1.ownsRow base1 5 1 (.slice A r.length c) r.length (bcells r)) (hb1 : w.heap.size ≤ base1) (hP : ∀ b, P b → b < w.heap.size) :
    ∀ b, (Value.slice A r.length c).ownBlock = some b → ¬ P b ∧ ∀ (j : Nat) (u : Value), cs[j]? = some u → u.ownBlock ≠ some b := fun b hb => by
  have h1 := (hr.lt b hb).1
  exact ⟨fun hp => by have := hP b hp; omega, fun j u hu e => by have := (h.block hu e).2; omega⟩
/-- Two rows are changed about. -/
theorem Mq.swap {g c0 : Nat} (h : Mq w base P (.slice (some ⟨g, 0, none⟩) n c0) n cs m) {p q : Nat} (hp : p < n) (hq : q < n) {up uq : Value} (hup : cs[p]? = some up) (huq : cs[q]? = some uq) :
    Mq ((w.setCell ⟨g, p, none⟩ uq).setCell ⟨g, q, none⟩ up) base P (.slice (some ⟨g, 0, none⟩) n c0) n ((cs.set p uq).set q up) (Gm.swapL m p q) := by
  have hg : P g := h.hot g rfl
  have hpl : p < cs.length := by rw [h.clen]; exact hp
  have hql : q < cs.length := by rw [h.clen]; exact hq
  have hml : p < m.length := by rw [h.len]; exact hp
  have hmq : q < m.length := by rw [h.len]; exact hq
  have key : ∀ j, j < n → ((cs.set p uq).set q up)[j]? = cs[Gm.swapI p q j]? := fun j hj => by
    rw [List.getElem?_set, List.getElem?_set, List.length_set]
    unfold Gm.swapI
    by_cases e1 : q = j
    · rw [if_pos e1, if_pos hql]
      by_cases e2 : j = p
      · have e3 : p = q := by omega
        rw [if_pos e2, ← e3, hup]
      · rw [if_neg e2, if_pos e1.symm, hup]
    · rw [if_neg e1]
      by_cases e2 : p = j
      · rw [if_pos e2, if_pos hpl, if_pos e2.symm, huq]
      · rw [if_neg e2, if_neg (Ne.symm e2), if_neg (Ne.symm e1)]
  have o2 := ((h.own.stored p uq).1.stored q up).1
  have hclen : ((cs.set p uq).set q up).length = n := by rw [List.length_set, List.length_set, h.clen]
  have lt_of : ∀ (j : Nat) (u : Value), ((cs.set p uq).set q up)[j]? = some u → j < n := fun j u hu => by have := (List.getElem?_eq_some_iff.1 hu).1; rwa [hclen] at this
  refine ⟨by unfold Gm.swapL; rw [List.length_set, List.length_set]; exact h.len, o2, fun j hj => ?_, fun j u b hu hb => ?_, h.hot, fun j k u u' b hjk hu hu' hb => ?_⟩
  · have hs := Gm.swapI_lt hp hq hj
    rw [Gm.row_swapL hml hmq, key j hj]
    obtain ⟨A, c, e, ho⟩ := h.row _ hs
    exact ⟨A, c, e, ownsRow_setCell_other (ownsRow_setCell_other ho (fun e2 => h.cool _ _ _ e e2 hg) _) (fun e2 => h.cool _ _ _ e e2 hg) _⟩
  · have hj := lt_of j u hu
    rw [key j hj] at hu
    exact h.cool _ u b hu hb
  · have hj := lt_of j u hu
    have hk := lt_of k u' hu'
    rw [key j hj] at hu
    rw [key k hk] at hu'
    refine h.apart _ _ u u' b (fun e => hjk ?_) hu hu' hb
    have := congrArg (Gm.swapI p q) e
    rwa [Gm.swapI_swapI, Gm.swapI_swapI] at this
/-- A byte of a row is stored. -/
theorem Mq.poke (h : Mq w base P v n cs m) {i : Nat} (hi : i < n) {g c : Nat} (hc : cs[i]? = some (.slice (some ⟨g, 0, none⟩) (Gm.row m i).length c)) (j : Nat) (x : UInt8) (hv : v.ownBlock ≠ some g) :
    Mq (w.setCell ⟨g, j, none⟩ (.int .u8 (x.toNat : Int))) base P v n cs (m.set i ((Gm.row m i).set j x)) := by
  refine ⟨by rw [List.length_set]; exact h.len, ownsRow_setCell_other h.own hv _, fun k hk => ?_, h.cool, h.hot, h.apart⟩
  by_cases e : i = k
  · subst e
    rw [Gm.row_set _ (by rw [h.len]; exact hi), if_pos rfl, List.length_set]
    obtain ⟨A, c', e', ho⟩ := h.row i hi
    rw [hc] at e'
    injection e' with e'
    injection e' with e1 e2 e3
    subst e1 e3
    refine ⟨_, _, hc, ?_⟩
    rw [bcells_set]
    exact (ho.stored j _).1
  · rw [row_set_ne _ e]
    obtain ⟨A, c', e', ho⟩ := h.row k hk
    exact ⟨A, c', e', ownsRow_setCell_other ho (fun e2 => h.apart k i _ _ g (Ne.symm e) e' hc e2 rfl) _⟩
theorem Mq.nil (w : World) (base : Nat) (P : Nat → Prop) : Mq w base P (.slice none 0 0) 0 [] [] :=
  ⟨rfl, World.ownsRow_nil _ _ _ _, fun _ h => absurd h (Nat.not_lt_zero _), fun _ _ _ h => by simp at h, fun _ h => by simp [Value.ownBlock] at h, fun _ _ _ _ _ _ h => by simp at h⟩
end
/-- The kind of blocks that are hot for a matrix handed back: its outer row's, and what was there before. -/
abbrev Hot (base : Nat) (v : Value) : Nat → Prop := fun b => v.ownBlock = some b ∨ b < base
theorem Mq.lower {w : World} {base base' n : Nat} {v : Value} {cs : List Value} {m : Gm.L} (h : Mq w base (Hot base v) v n cs m) (hb : base' ≤ base) : Mq w base' (Hot base' v) v n cs m :=
  (h.kind (fun b _ h2 hp => by rcases hp with hp | hp; exact .inl hp; omega) (fun b hb => .inl hb)).base_le hb
theorem hot_lt {base g r c N : Nat} (hg : g < N) (hb : base ≤ N) : ∀ b, Hot base (.slice (some ⟨g, 0, none⟩) r c) b → b < N := fun b hp => by
  rcases hp with hp | hp
  · have hp' : some g = some b := hp
    injection hp' with hp'
    omega
  · omega
theorem Mq.cellAt {w : World} {base g c0 n : Nat} {P : Nat → Prop} {cs : List Value} {m : Gm.L} (h : Mq w base P (.slice (some ⟨g, 0, none⟩) n c0) n cs m) {k : Nat} (hk : k < n) : ∃ A c, cs[k]? = some (.slice A (Gm.row m k).length c) ∧ w.cell? ⟨g, k, none⟩ = some (.slice A (Gm.row m k).length c) ∧ w.frozen? ⟨g, k, none⟩ = false ∧ w.ownsRow base 5 1 (.slice A (Gm.row m k).length c) (Gm.row m k).length (bcells (Gm.row m k)) := by
  obtain ⟨A, c, e, ho⟩ := h.row k hk
  exact ⟨A, c, e, by rw [h.own.cellAt k (by omega), e], h.own.frozenAt k, ho⟩
/-- A row is appended. -/
theorem Mq.snoc {w w1 w' : World} {base : Nat} {v v' : Value} {n : Nat} {cs : List Value} {m : Gm.L} (h : Mq w base (Hot base v) v n cs m) (hx : Ext w w1) {A : Option Addr} {c b1 : Nat} {r : List UInt8} (hr : w1.ownsRow b1 5 1 (.slice A r.length c) r.length (bcells r)) (hb1 : w.heap.size ≤ b1) (hbase : base ≤ w.heap.size)
    (hx' : Ext w1 w') {w2 : World} (hown : w2.ownsRow base 35 1 v' (n + 1) (cs ++ [.slice A r.length c])) (hg : w'.grownBy w2 v.ownBlock) (hat : v'.ownBlock = v.ownBlock ∨ v'.ownBlock = some w'.heap.size) :
    Mq w2 base (Hot base v') v' (n + 1) (cs ++ [.slice A r.length c]) (m ++ [r]) := by
  have hclen := h.clen
  have hrow : ∀ (j : Nat) (u : Value), (cs ++ [Value.slice A r.length c])[j]? = some u → (j < n ∧ cs[j]? = some u) ∨ (j = n ∧ u = .slice A r.length c) := fun j u hu => by
    by_cases e : j < n
    · exact .inl ⟨e, by rwa [List.getElem?_append_left (by omega)] at hu⟩
    · rw [List.getElem?_append_right (by omega)] at hu
      have hj := (List.getElem?_eq_some_iff.1 hu).1
      simp at hj
      have : j = n := by omega
      subst this
      rw [hclen, Nat.sub_self] at hu
      simp at hu
      exact .inr ⟨rfl, hu.symm⟩
  have blk : ∀ (j : Nat) (u : Value) (b : Nat), (cs ++ [Value.slice A r.length c])[j]? = some u → u.ownBlock = some b → base ≤ b ∧ b < w'.heap.size ∧ v.ownBlock ≠ some b := fun j u b hu hb => by
    rcases hrow j u hu with ⟨_, hu'⟩ | ⟨_, rfl⟩
    · have h1 := h.block hu' hb
      have h2 := hx.size
      have h3 := hx'.size
      exact ⟨h1.1, by omega, fun e => h.cool j u b hu' hb (.inl e)⟩
    · have h1 := hr.lt b hb
      have h3 := hx'.size
      refine ⟨by omega, by omega, fun e => ?_⟩
      have := (h.own.lt b e).2
      omega
  have cool : ∀ (j : Nat) (u : Value) (b : Nat), (cs ++ [Value.slice A r.length c])[j]? = some u → u.ownBlock = some b → ¬ Hot base v' b := fun j u b hu hb hp => by
    obtain ⟨h1, h2, h3⟩ := blk j u b hu hb
    rcases hp with hp | hp
    · rcases hat with e | e
      · rw [e] at hp; exact h3 hp
      · rw [e] at hp; injection hp with hp; omega
    · omega
  refine ⟨by simp [h.len], hown, fun i hi => ?_, cool, fun b hb => .inl hb, fun i j u u' b hij hu hu' hb hb' => ?_⟩
  · by_cases e : i < n
    · rw [row_append_lt _ (by rw [h.len]; exact e)]
      obtain ⟨A', c', e', ho⟩ := h.row i e
      refine ⟨A', c', by rw [List.getElem?_append_left (by omega)]; exact e', ?_⟩
      refine ownsRow_grown (ownsRow_ext (ownsRow_ext ho hx) hx') hg ?_
      cases hq : (Value.slice A' (Gm.row m i).length c').ownBlock with
      | none => exact .inl rfl
      | some b => exact .inr (fun e2 => h.cool i _ b e' hq (.inl e2.symm))
    · have : i = n := by omega
      subst this
      rw [← h.len, row_append_last]
      refine ⟨A, c, by rw [List.getElem?_append_right (by rw [hclen, h.len]; exact Nat.le_refl _)]; simp [hclen, h.len], ?_⟩
      refine ownsRow_grown (ownsRow_base (ownsRow_ext hr hx') (by omega)) hg ?_
      cases hq : (Value.slice A r.length c).ownBlock with
      | none => exact .inl rfl
      | some b => exact .inr (fun e2 => (blk m.length _ b (by rw [List.getElem?_append_right (by rw [hclen, h.len]; exact Nat.le_refl _)]; simp [hclen, h.len]) hq).2.2 e2.symm)
  · rcases hrow i u hu with ⟨hi, hu1⟩ | ⟨hi, rfl⟩
    · rcases hrow j u' hu' with ⟨hj, hu2⟩ | ⟨hj, rfl⟩
      · exact h.apart i j u u' b hij hu1 hu2 hb hb'
      · have h1 := (h.block hu1 hb).2
        have h2 := (hr.lt b hb').1
        omega
    · rcases hrow j u' hu' with ⟨hj, hu2⟩ | ⟨hj, rfl⟩
      · have h1 := (h.block hu2 hb').2
        have h2 := (hr.lt b hb).1
        omega
      · omega

/-- Many times one value, in a block. -/
def made (c : Nat) (z : Value) : Array Value := madeCells #[z] c
theorem made_toList (c : Nat) (z : Value) : (made c z).toList = List.replicate c z := by
  unfold made madeCells
  rw [Array.toList_map, Array.toList_range]
  apply List.ext_getElem (by simp)
  intro i h1 h2
  simp [Nat.mod_one]
theorem made_size (c : Nat) (z : Value) : (made c z).size = c := by simp [made, size_madeCells]
theorem run_make_rows (W : World) (c : Nat) (hc : c ≤ 1000) : (Instr.makeSlice 80 (.int .i64 (c : Int)) (.int .i64 (c : Int))).run Try.prog W = .ok (.slice (some ⟨W.heap.size, 0, none⟩) c c) (W.alloc (.cells (made c (.slice none 0 0)) 35)) := by
  obtain ⟨i, hi, hz, h1, h2⟩ := info_parts bytes_info
  have h := run_make (P := Try.prog) W 80 35 i _ Try.underlying80 hi hz .i64 .i64 (c : Int) (c : Int) (by omega) (Int.le_refl _) (by rw [h2]; omega) (by omega)
  rw [h1] at h
  simpa [made, Value.cells] using h
theorem run_make_bytes (W : World) (c : Nat) (hc : c ≤ 1000) : (Instr.makeSlice 35 (.int .i64 (c : Int)) (.int .i64 (c : Int))).run Try.prog W = .ok (.slice (some ⟨W.heap.size, 0, none⟩) c c) (W.alloc (.cells (made c (.int .u8 0)) 5)) := by
  obtain ⟨i, hi, hz, h1, h2⟩ := info_parts u8_info
  have h := run_make (P := Try.prog) W 35 5 i _ Try.underlying35 hi hz .i64 .i64 (c : Int) (c : Int) (by omega) (Int.le_refl _) (by rw [h2]; omega) (by omega)
  rw [h1] at h
  simpa [made, Value.cells] using h
/-- A block that was just made, as a row of one's own. -/
theorem ownsRow_made (w : World) (e : TypeId) (z : Value) (c : Nat) (hz : z.oneCell' = true) (hc : c ≤ 1000) {base : Nat} (hb : base ≤ w.heap.size) : (w.alloc (.cells (made c z) e)).ownsRow base e 1 (.slice (some ⟨w.heap.size, 0, none⟩) c c) c (List.replicate c z) :=
  ⟨by simp, .inr ⟨w.heap.size, c, made c z, rfl, hb, heap_alloc_new w _, Nat.le_refl _, by unfold maxLen; omega, by simp [made_size], by rw [made_toList]; simp⟩⟩
theorem bcells_zeros (c : Nat) : bcells (List.replicate c 0) = List.replicate c (.int .u8 0) := by simp [bcells]
end Go.Proofs.Ytfpglkacjecoeaa
