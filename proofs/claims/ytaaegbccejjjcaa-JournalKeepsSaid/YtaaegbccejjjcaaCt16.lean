/- Several texts in one: A disk, as the laws meet it: the contracts of all its methods, at one word. What a journal's write makes of a disk, and a crash of it, in plain words. -/
import Derived.Test.YtaaegbccejjjcaaCt15
import Derived.Test.YtaaegbccejjjcaaCt4
namespace Disks
theorem op_med (d : D) : (op d).med = d.med := by unfold op; split <;> rfl
theorem op_cac (d : D) : (op d).cac = d.cac := by unfold op; split <;> rfl
/-- Right, and of an arm that is a number. -/
structure Ok (d : D) : Prop where
  wf : Wf d
  top : d.arm < 2 ^ 63
theorem Ok.op {d : D} (h : Ok d) : Ok (op d) := by
  have h1 := h.wf.arm
  have h2 := h.top
  unfold Disks.op
  split
  · exact ⟨⟨h.wf.len, h.wf.med, h.wf.cac, by show (-1 : Int) ≤ -1; omega, h.wf.pos, h.wf.max⟩, by show (-1 : Int) < _; omega⟩
  · exact ⟨⟨h.wf.len, h.wf.med, h.wf.cac, by show (-1 : Int) ≤ max (d.arm - 1) (-1); omega, h.wf.pos, h.wf.max⟩, by show max (d.arm - 1) (-1) < _; omega⟩
theorem Ok.write {d : D} (h : Ok d) (i : Int) (l : List UInt8) : Ok (writeD d i l) := by
  unfold writeD
  split
  · exact h
  · split
    · exact h
    · rename_i hl
      split
      · exact h.op
      · have ho := h.op
        have hc := op_cac d
        have hl' : l.length = 64 := by omega
        refine ⟨⟨?_, ho.wf.med, fun j s hs => ?_, ho.wf.arm, ho.wf.pos, ho.wf.max⟩, ho.top⟩
        · show (d.cac.set _ _).length = (Disks.op d).med.length
          rw [List.length_set, op_med]
          exact h.wf.len
        · have hs : cget (d.cac.set i.toNat (some l)) j = some s := hs
          by_cases e : i.toNat = j
          · rcases Nat.lt_or_ge j d.cac.length with q | q
            · rw [e, cget_set_eq q] at hs
              injection hs with hs
              rw [← hs]
              exact hl'
            · rw [cget_ge (by rw [List.length_set]; exact q)] at hs
              cases hs
          · rw [cget_set_ne e] at hs
            exact h.wf.cac j s hs
theorem row_merged (d : D) {i : Nat} (hi : i < d.med.length) : Gm.row (merged d) i = sec d i := by
  unfold Gm.row merged
  rw [List.getD_eq_getElem?_getD, List.getElem?_map, List.getElem?_range hi]
  rfl
theorem row_left (d : D) (keeps : List Bool) {i : Nat} (hi : i < d.med.length) : Gm.row ((List.range d.med.length).map (left d keeps)) i = left d keeps i := by
  unfold Gm.row
  rw [List.getD_eq_getElem?_getD, List.getElem?_map, List.getElem?_range hi]
  rfl
theorem len_sec {d : D} (h : Wf d) {i : Nat} (hi : i < d.med.length) : (sec d i).length = 64 := by
  unfold sec
  cases hc : cget d.cac i with
  | none => exact h.med i hi
  | some s => exact h.cac i s hc
theorem cget_empty (n i : Nat) : cget (List.replicate n none) i = none := by
  by_cases h : i < n
  · rw [cget_lt (by simpa using h)]; simp
  · rw [cget_ge (by simpa using h)]
theorem len_merged (d : D) : (merged d).length = d.med.length := by simp [merged]
theorem Ok.flush {d : D} (h : Ok d) : Ok (flushD d) := by
  unfold flushD
  split
  · exact h
  · split
    · exact h.op
    · have ho := h.op
      refine ⟨⟨?_, fun i hi => ?_, fun j s hs => ?_, ho.wf.arm, ?_, ?_⟩, ho.top⟩
      · show (emptied d).length = (merged d).length
        simp [emptied, merged]
      · have hi : i < (merged d).length := hi
        rw [len_merged] at hi
        show (Gm.row (merged d) i).length = 64
        rw [row_merged d hi]
        exact len_sec h.wf hi
      · have hs : cget (emptied d) j = some s := hs
        rw [emptied, cget_empty] at hs
        cases hs
      · show 1 ≤ (merged d).length
        rw [len_merged]; exact h.wf.pos
      · show (merged d).length ≤ _
        rw [len_merged]; exact h.wf.max
theorem Ok.crash {d : D} (h : Ok d) (keeps : List Bool) : Ok (crashD d keeps) := by
  have hl : ((List.range d.med.length).map (left d keeps)).length = d.med.length := by simp
  refine ⟨⟨?_, fun i hi => ?_, fun j s hs => ?_, by show (-1 : Int) ≤ -1; omega, ?_, ?_⟩, by show (-1 : Int) < _; omega⟩
  · show (emptied d).length = ((List.range d.med.length).map (left d keeps)).length
    rw [hl]; simp [emptied]
  · have hi : i < ((List.range d.med.length).map (left d keeps)).length := hi
    rw [hl] at hi
    show (Gm.row ((List.range d.med.length).map (left d keeps)) i).length = 64
    rw [row_left d keeps hi]
    unfold left
    split
    · exact len_sec h.wf hi
    · exact h.wf.med i hi
  · have hs : cget (emptied d) j = some s := hs
    rw [emptied, cget_empty] at hs
    cases hs
  · show 1 ≤ ((List.range d.med.length).map (left d keeps)).length
    rw [hl]; exact h.wf.pos
  · show ((List.range d.med.length).map (left d keeps)).length ≤ _
    rw [hl]; exact h.wf.max
theorem Ok.arm {d : D} (h : Ok d) {n : Int} (hn : n < 2 ^ 63) : Ok (armD d n) := by
  unfold armD
  split
  · exact h
  · exact ⟨⟨h.wf.len, h.wf.med, h.wf.cac, by show (-1 : Int) ≤ max n 0; omega, h.wf.pos, h.wf.max⟩, by show max n 0 < _; omega⟩
theorem Ok.spoil {d : D} (h : Ok d) (i k : Int) (t : UInt8) : Ok (spoilD d i k t) := by
  unfold spoilD
  split
  · exact h
  · refine ⟨⟨by show d.cac.length = (d.med.set _ _).length; rw [List.length_set]; exact h.wf.len, fun j hj => ?_, h.wf.cac, h.wf.arm, by show 1 ≤ (d.med.set _ _).length; rw [List.length_set]; exact h.wf.pos, by show (d.med.set _ _).length ≤ _; rw [List.length_set]; exact h.wf.max⟩, h.top⟩
    have hj : j < (d.med.set i.toNat (turn (Gm.row d.med i.toNat) k.toNat t)).length := hj
    rw [List.length_set] at hj
    show (Gm.row (d.med.set i.toNat (turn (Gm.row d.med i.toNat) k.toNat t)) j).length = 64
    unfold Gm.row
    rw [List.getD_eq_getElem?_getD, List.getElem?_set]
    by_cases e : i.toNat = j
    · rw [if_pos e, if_pos (by omega)]
      show (turn (Gm.row d.med i.toNat) k.toNat t).length = 64
      unfold turn
      rw [List.length_set]
      exact h.wf.med _ (by omega)
    · rw [if_neg e]
      exact h.wf.med j hj
theorem Ok.new {n : Nat} (h1 : 1 ≤ n) (h2 : n ≤ 65536) : Ok (Disks.new n) := by
  have e : (Disks.new n).med.length = n := List.length_replicate ..
  refine ⟨⟨by rw [e]; exact List.length_replicate .., fun i hi => ?_, fun i s hs => ?_, by show (-1 : Int) ≤ -1; omega, by rw [e]; exact h1, by rw [e]; exact h2⟩, by show (-1 : Int) < _; omega⟩
  · have hi : i < (List.replicate n (List.replicate 64 (0 : UInt8))).length := hi
    rw [List.length_replicate] at hi
    show (Gm.row (List.replicate n (List.replicate 64 (0 : UInt8))) i).length = 64
    unfold Gm.row
    rw [List.getD_eq_getElem?_getD, List.getElem?_replicate, if_pos hi]
    exact List.length_replicate ..
  · have hs : cget (List.replicate n none) i = some s := hs
    rw [cget_empty] at hs
    cases hs
end Disks
namespace Go.Proofs.Ytaaegbccejjjcaa
open Go.RowKit Go.Maps Go.Sort Go.Shelf

/-- Box g, medium m, cache b (of at most N entries) hold the disk. -/
structure Ds (w : World) (g m b N : Nat) (d : Disks.D) : Prop where
  ex : ∃ n D, n ≤ N ∧ Dk w g m b n D d
  ok : Disks.Ok d
section
variable {w w' : World} {g m b N : Nat} {d : Disks.D}
theorem Ds.ext (h : Ds w g m b N d) (hx : Ext w w') : Ds w' g m b N d := by
  obtain ⟨n, D, hn, hd⟩ := h.ex
  exact ⟨⟨n, D, hn, hd.ext hx⟩, h.ok⟩
theorem Ds.lts (h : Ds w g m b N d) : g < w.heap.size ∧ m < w.heap.size ∧ b < w.heap.size := by
  obtain ⟨n, D, hn, hd⟩ := h.ex
  exact ⟨hd.lt, hd.md.lt, hd.ltb⟩
theorem Ds.mono (h : Ds w g m b N d) {N' : Nat} (hN : N ≤ N') : Ds w g m b N' d := by
  obtain ⟨n, D, hn, hd⟩ := h.ex
  exact ⟨⟨n, D, by omega, hd⟩, h.ok⟩
/-- Another disk's method leaves it alone. -/
theorem Ds.kp {g' m' b' : Nat} (h : Ds w g m b N d) (hk : Kp g' m' b' w w') (h1 : g ≠ g' ∧ g ≠ m' ∧ g ≠ b') (h2 : m ≠ g' ∧ m ≠ m' ∧ m ≠ b') (h3 : b ≠ g' ∧ b ≠ m' ∧ b ≠ b') : Ds w' g m b N d := by
  obtain ⟨n, D, hn, hd⟩ := h.ex
  exact ⟨⟨n, D, hn, hd.same hk.size (hk.block g hd.lt h1.1 h1.2.1 h1.2.2) (hk.block m hd.md.lt h2.1 h2.2.1 h2.2.2) (hk.block b hd.ltb h3.1 h3.2.1 h3.2.2)⟩, h.ok⟩
theorem Ds.none (h : Ds w g m b N d) : Calls Try.prog 40 #[dptr g] w fun e w' => e = .returned (.bool false) ∧ Ext w w' := by
  obtain ⟨n, D, hn, hd⟩ := h.ex
  exact dkNone_any w g m b n D d hd
theorem Ds.write (h : Ds w g m b N d) (hN : N < maxLen) (i : Int) (A : Option Addr) (c e : Nat) (l : List UInt8) (hl : Bs w A c e l) (ha : Awy g m b A) {er : Int} {d' : Disks.D} (hE : Disks.writeE d i l = er) (hD : Disks.writeD d i l = d') :
    Calls Try.prog 46 #[dptr g, .int .i64 i, .slice A c e] w fun e w' => e = .returned (.int .i64 er) ∧ Ds w' g m b (N + 1) d' ∧ Kp g m b w w' := by
  subst hE
  subst hD
  obtain ⟨n, D, hn, hd⟩ := h.ex
  refine (dkWrite_any w g m b n D d hd h.ok.wf h.ok.top (by omega) i A c e l hl ha).mono ?_
  rintro e w' ⟨rfl, ⟨n', D', hn', hd'⟩, hk⟩
  exact ⟨rfl, ⟨⟨n', D', by omega, hd'⟩, h.ok.write i l⟩, hk⟩
theorem Ds.flush (h : Ds w g m b N d) {er : Int} {d' : Disks.D} (hE : Disks.flushE d = er) (hD : Disks.flushD d = d') :
    Calls Try.prog 47 #[dptr g] w fun e w' => e = .returned (.int .i64 er) ∧ Ds w' g m b N d' ∧ Kp g m b w w' := by
  subst hE
  subst hD
  obtain ⟨n, D, hn, hd⟩ := h.ex
  by_cases h0 : Disks.flushE d = 0
  · refine (dkFlush_ok w g m b n D d hd h.ok.wf h.ok.top h0).mono ?_
    rintro e w' ⟨rfl, hd', hk⟩
    exact ⟨by rw [h0], ⟨⟨0, _, Nat.zero_le _, hd'⟩, h.ok.flush⟩, hk⟩
  · refine (dkFlush_no w g m b n D d hd h.ok.wf h.ok.top h0).mono ?_
    rintro e w' ⟨rfl, hd', hk⟩
    exact ⟨rfl, ⟨⟨n, D, hn, hd'⟩, h.ok.flush⟩, hk⟩
theorem Ds.readNo (h : Ds w g m b N d) (i : Int) {t : Int} (ht : Disks.there d i = t) (h0 : t ≠ 0) :
    Calls Try.prog 52 #[dptr g, .int .i64 i] w (GivesR0 t w) := by
  subst ht
  obtain ⟨n, D, hn, hd⟩ := h.ex
  exact dkRead_no w g m b n D d hd h.ok.wf i h0
theorem Ds.readOk (h : Ds w g m b N d) (i : Int) (h0 : Disks.there d i = 0) {s : List UInt8} (hs : Disks.sec d i.toNat = s) :
    Calls Try.prog 52 #[dptr g, .int .i64 i] w (GivesR1 s w) := by
  subst hs
  obtain ⟨n, D, hn, hd⟩ := h.ex
  exact dkRead_ok w g m b n D d hd h.ok.wf i h0
theorem Ds.arm (h : Ds w g m b N d) (x : Int) (hx : x < 2 ^ 63) {d' : Disks.D} (hD : Disks.armD d x = d') :
    Calls Try.prog 24 #[dptr g, .int .i64 x] w fun e w' => e = .returned (.tuple #[]) ∧ Ds w' g m b N d' ∧ Kp g m b w w' := by
  subst hD
  obtain ⟨n, D, hn, hd⟩ := h.ex
  refine (dkArm_any w g m b n D d hd x).mono ?_
  rintro e w' ⟨rfl, hd', hk⟩
  exact ⟨rfl, ⟨⟨n, D, hn, hd'⟩, h.ok.arm hx⟩, hk⟩
theorem Ds.size (h : Ds w g m b N d) {z : Nat} (hz : d.med.length = z) : Calls Try.prog 27 #[dptr g] w fun e w' => e = .returned (.int .i64 (z : Int)) ∧ Ext w w' := by
  subst hz
  obtain ⟨n, D, hn, hd⟩ := h.ex
  exact dkSize_any w g m b n D d hd
theorem Ds.crash (h : Ds w g m b N d) (Ak : Option Addr) (nk ck : Nat) (keeps : List Bool) (hk : Bls w Ak nk ck keeps) (ha : Awy g m b Ak) {d' : Disks.D} (hD : Disks.crashD d keeps = d') :
    Calls Try.prog 25 #[dptr g, .slice Ak nk ck] w fun e w' => e = .returned (.tuple #[]) ∧ Ds w' g m b N d' ∧ Kp g m b w w' := by
  subst hD
  obtain ⟨n, D, hn, hd⟩ := h.ex
  refine (dkCrash_any w g m b n D d hd h.ok.wf Ak nk ck keeps hk (fun _ => ha)).mono ?_
  rintro e w' ⟨rfl, hd', hk⟩
  exact ⟨rfl, ⟨⟨0, _, Nat.zero_le _, hd'⟩, h.ok.crash keeps⟩, hk⟩
theorem Ds.crash' (h : Ds w g m b N d) (Ak : Option Addr) (nk ck : Nat) (keeps : List Bool) (hk : Bls w Ak nk ck keeps) (ha : 0 < nk → Awy g m b Ak) {d' : Disks.D} (hD : Disks.crashD d keeps = d') :
    Calls Try.prog 25 #[dptr g, .slice Ak nk ck] w fun e w' => e = .returned (.tuple #[]) ∧ Ds w' g m b N d' ∧ Kp g m b w w' := by
  subst hD
  obtain ⟨n, D, hn, hd⟩ := h.ex
  refine (dkCrash_any w g m b n D d hd h.ok.wf Ak nk ck keeps hk ha).mono ?_
  rintro e w' ⟨rfl, hd', hk⟩
  exact ⟨rfl, ⟨⟨0, _, Nat.zero_le _, hd'⟩, h.ok.crash keeps⟩, hk⟩
theorem Ds.cached (h : Ds w g m b N d) {L : List Int} (hL : Disks.cached d = L) : Calls Try.prog 41 #[dptr g] w fun e w' => ∃ A c, e = .returned (.slice A L.length c) ∧ Is w' A L.length c L ∧ Ext w w' := by
  subst hL
  obtain ⟨n, D, hn, hd⟩ := h.ex
  refine (dkCached_any w g m b n D d hd h.ok.wf).mono ?_
  rintro e w' ⟨v, rfl, ho, hx⟩
  obtain ⟨A, c, rfl, hi, _⟩ := own_is ho
  exact ⟨A, c, rfl, hi, hx⟩
end
theorem dsNew (w : World) (n : Nat) (h1 : 1 ≤ n) (h2 : n ≤ 65536) :
    Calls Try.prog 9 #[.int .i64 (n : Int)] w fun e w' => ∃ g, e = .returned (.tuple #[dptr g, .int .i64 0]) ∧ ∃ m b, Ds w' g m b 0 (Disks.new n) ∧ Ext w w' ∧ w.heap.size ≤ g ∧ w.heap.size ≤ m ∧ w.heap.size ≤ b := by
  refine (dkNew_ok w n h1 h2).mono ?_
  rintro e w' ⟨g, rfl, m, b, hd, hx, a1, a2, a3⟩
  exact ⟨g, rfl, m, b, ⟨⟨0, _, Nat.le_refl _, hd⟩, Disks.Ok.new h1 h2⟩, hx, a1, a2, a3⟩
end Go.Proofs.Ytaaegbccejjjcaa
namespace Jo
open Disks

/-- Nothing is cached, and there is power. -/
structure Flat (d : D) : Prop where
  cac : ∀ q, cget d.cac q = none
  up : d.down = false
theorem sec_flat {d : D} (h : ∀ q, cget d.cac q = none) (q : Nat) : sec d q = Gm.row d.med q := by unfold sec; rw [h q]; rfl
def putS (st : D × Int) (i : Nat) (s : List UInt8) : D × Int := if st.2 = 0 then (writeD st.1 i s, writeE st.1 i s) else st
def flushS (st : D × Int) : D × Int := if st.2 = 0 then (flushD st.1, flushE st.1) else st
def dataTo (d : D) (at_ : Nat) (b : List UInt8) : Nat → D × Int
  | 0 => (d, 0)
  | k + 1 => putS (dataTo d at_ b k) (at_ + 1 + k) (dsec (chunk b k))
def wrote (d : D) (at_ : Nat) (b first : List UInt8) : D × Int := flushS (putS (flushS (dataTo d at_ b (need b.length))) at_ first)
theorem there_up {d : D} (h : d.down = false) {i : Nat} (hi : i < d.med.length) : there d i = 0 := by
  unfold there
  rw [h, if_neg (by simp), if_neg (by omega)]
theorem put_up {d : D} (h : d.down = false) {i : Nat} (hi : i < d.med.length) {s : List UInt8} (hs : s.length = 64) : putS (d, 0) i s = if d.arm = 0 then (op d, 15) else ({ op d with cac := d.cac.set i (some s) }, 0) := by
  have ht := there_up h hi
  have e1 : writeD d i s = if d.arm = 0 then op d else { op d with cac := d.cac.set i (some s) } := by
    unfold writeD
    rw [if_neg (by rw [ht]; simp), if_neg (by omega), Int.toNat_natCast]
  have e2 : writeE d i s = opE d := by
    unfold writeE
    rw [if_neg (by rw [ht]; simp), if_neg (by omega)]
  unfold putS
  rw [if_pos rfl]
  show (writeD d i s, writeE d i s) = _
  rw [e1, e2]
  unfold opE
  split <;> rfl
theorem flush_up {d : D} (h : d.down = false) (hi : 0 < d.med.length) : flushS (d, 0) = if d.arm = 0 then (op d, 15) else ({ op d with med := merged d, cac := emptied d }, 0) := by
  have ht : there d 0 = 0 := there_up h (i := 0) hi
  have e1 : flushD d = if d.arm = 0 then op d else { op d with med := merged d, cac := emptied d } := by
    unfold flushD
    rw [if_neg (by rw [ht]; simp)]
  have e2 : flushE d = opE d := by
    unfold flushE
    rw [if_neg (by rw [ht]; simp)]
  unfold flushS
  rw [if_pos rfl]
  show (flushD d, flushE d) = _
  rw [e1, e2]
  unfold opE
  split <;> rfl
theorem put_no {d : D} {e : Int} (h : e ≠ 0) (i : Nat) (s : List UInt8) : putS (d, e) i s = (d, e) := if_neg h
theorem flush_no {d : D} {e : Int} (h : e ≠ 0) : flushS (d, e) = (d, e) := if_neg h
theorem op_down {d : D} (h : d.arm ≠ 0) : (op d).down = d.down := by unfold op; rw [if_neg h]
theorem op_arm {d : D} (h : d.arm = -1) : (op d).arm = -1 := by unfold op; rw [if_neg (by omega)]; show max (d.arm - 1) (-1) = -1; omega
theorem put_ok {st : D × Int} (h : Ok st.1) (i : Nat) (s : List UInt8) : Ok (putS st i s).1 := by
  unfold putS
  split
  · exact h.write i s
  · exact h
theorem flush_ok {st : D × Int} (h : Ok st.1) : Ok (flushS st).1 := by
  unfold flushS
  split
  · exact h.flush
  · exact h
theorem dataTo_ok {d : D} (h : Ok d) (at_ : Nat) (b : List UInt8) (k : Nat) : Ok (dataTo d at_ b k).1 := by
  induction k with
  | zero => exact h
  | succ k ih => exact put_ok ih _ _
theorem wrote_Ok {d : D} (h : Ok d) (at_ : Nat) (b first : List UInt8) : Ok (wrote d at_ b first).1 := flush_ok (put_ok (flush_ok (dataTo_ok h at_ b _)) _ _)
/-- Of the sectors behind a place, what is cached is data. -/
structure Part (d : D) (at_ : Nat) (b : List UInt8) (k : Nat) (st : D × Int) : Prop where
  med : st.1.med = d.med
  cac : ∀ q, cget st.1.cac q = none ∨ (at_ < q ∧ q ≤ at_ + k ∧ cget st.1.cac q = some (dsec (chunk b (q - at_ - 1))))
  good : st.2 = 0 → st.1.down = false ∧ ∀ q, at_ < q → q ≤ at_ + k → cget st.1.cac q = some (dsec (chunk b (q - at_ - 1)))
  err : st.2 = 0 ∨ st.2 = 15
  free : d.arm = -1 → st.2 = 0 ∧ st.1.arm = -1
theorem chunk_le (b : List UInt8) (i : Nat) : (chunk b i).length ≤ 63 := by rw [chunk_length]; omega
theorem part {d : D} (h : Ok d) (hf : Flat d) (at_ : Nat) (b : List UInt8) (k : Nat) (hk : at_ + k < d.med.length) : Part d at_ b k (dataTo d at_ b k) := by
  induction k with
  | zero => exact ⟨rfl, fun q => .inl (hf.cac q), fun _ => ⟨hf.up, fun q h1 h2 => by omega⟩, .inl rfl, fun ha => ⟨rfl, ha⟩⟩
  | succ k ih =>
    obtain ⟨p1, p2, p3, p4, p5⟩ := ih (by omega)
    have hok := dataTo_ok h at_ b k
    show Part d at_ b (k + 1) (putS (dataTo d at_ b k) (at_ + 1 + k) (dsec (chunk b k)))
    generalize dataTo d at_ b k = st at *
    obtain ⟨d1, e⟩ := st
    have p1 : d1.med = d.med := p1
    have p2 : ∀ q, cget d1.cac q = none ∨ (at_ < q ∧ q ≤ at_ + k ∧ cget d1.cac q = some (dsec (chunk b (q - at_ - 1)))) := p2
    have p4 : e = 0 ∨ e = 15 := p4
    have up2 : ∀ q, cget d1.cac q = none ∨ (at_ < q ∧ q ≤ at_ + (k + 1) ∧ cget d1.cac q = some (dsec (chunk b (q - at_ - 1)))) := fun q => by
      rcases p2 q with h1 | ⟨h1, h2, h3⟩
      · exact .inl h1
      · exact .inr ⟨h1, by omega, h3⟩
    rcases p4 with rfl | rfl
    · obtain ⟨q1, q2⟩ := p3 rfl
      have q1 : d1.down = false := q1
      have hlen : at_ + 1 + k < d1.med.length := by rw [p1]; omega
      have hcl : at_ + 1 + k < d1.cac.length := by have := hok.wf.len; have : d1.cac.length = d1.med.length := this; omega
      rw [put_up q1 hlen (dsec_length _ (chunk_le b k))]
      by_cases ha : d1.arm = 0
      · rw [if_pos ha]
        exact ⟨(op_med d1).trans p1, fun q => by show cget (op d1).cac q = none ∨ _ ∧ _ ∧ cget (op d1).cac q = _; rw [op_cac]; exact up2 q, fun z => absurd (show (15 : Int) = 0 from z) (by decide), .inr rfl, fun z => by have := (p5 z).2; have : d1.arm = -1 := this; omega⟩
      · rw [if_neg ha]
        have key : ∀ q, cget (d1.cac.set (at_ + 1 + k) (some (dsec (chunk b k)))) q = if q = at_ + 1 + k then some (dsec (chunk b k)) else cget d1.cac q := fun q => by
          by_cases e : q = at_ + 1 + k
          · rw [if_pos e, e, cget_set_eq hcl]
          · rw [if_neg e, cget_set_ne (fun z => e z.symm)]
        refine ⟨(op_med d1).trans p1, fun q => ?_, fun _ => ⟨(op_down ha).trans q1, fun q g1 g2 => ?_⟩, .inl rfl, fun z => ⟨rfl, op_arm (p5 z).2⟩⟩
        · show cget (d1.cac.set (at_ + 1 + k) (some (dsec (chunk b k)))) q = none ∨ _ ∧ _ ∧ cget (d1.cac.set (at_ + 1 + k) (some (dsec (chunk b k)))) q = _
          rw [key q]
          by_cases e : q = at_ + 1 + k
          · rw [if_pos e, show q - at_ - 1 = k by omega]
            exact .inr ⟨by omega, by omega, rfl⟩
          · rw [if_neg e]
            exact up2 q
        · show cget (d1.cac.set (at_ + 1 + k) (some (dsec (chunk b k)))) q = _
          rw [key q]
          by_cases e : q = at_ + 1 + k
          · rw [if_pos e, show q - at_ - 1 = k by omega]
          · rw [if_neg e]
            exact q2 q g1 (by omega)
    · rw [put_no (by decide)]
      exact ⟨p1, up2, fun z => absurd (show (15 : Int) = 0 from z) (by decide), .inr rfl, fun z => absurd (show (15 : Int) = 0 from (p5 z).1) (by decide)⟩
/-- What each sector has behind the whole. -/
def full (d : D) (at_ : Nat) (b first : List UInt8) (q : Nat) : List UInt8 := if q = at_ then first else if at_ < q ∧ q ≤ at_ + need b.length then dsec (chunk b (q - at_ - 1)) else Gm.row d.med q
/-- Whatever of it comes to be. -/
structure Out (d : D) (at_ : Nat) (b first : List UInt8) (st : D × Int) : Prop where
  len : st.1.med.length = d.med.length
  good : st.2 = 0 → Flat st.1 ∧ ∀ q, q < d.med.length → sec st.1 q = full d at_ b first q
  err : st.2 = 0 ∨ st.2 = 15
  bad : st.2 ≠ 0 → (∀ q, q < d.med.length → (∀ x, x = sec st.1 q ∨ x = Gm.row st.1.med q → x = Gm.row d.med q ∨ (at_ < q ∧ q ≤ at_ + need b.length ∧ x = dsec (chunk b (q - at_ - 1))))) ∨ ((∀ q, q < d.med.length → q ≠ at_ → sec st.1 q = full d at_ b first q ∧ Gm.row st.1.med q = full d at_ b first q) ∧ sec st.1 at_ = first ∧ Gm.row st.1.med at_ = Gm.row d.med at_)
  free : d.arm = -1 → st.2 = 0 ∧ st.1.arm = -1
theorem out {d : D} (h : Ok d) (hf : Flat d) (at_ : Nat) (b first : List UInt8) (hk : at_ + need b.length < d.med.length) (hl : first.length = 64) : Out d at_ b first (wrote d at_ b first) := by
  obtain ⟨p1, p2, p3, p4, p5⟩ := part h hf at_ b (need b.length) hk
  have hok := dataTo_ok h at_ b (need b.length)
  unfold wrote
  generalize dataTo d at_ b (need b.length) = st at *
  obtain ⟨d1, e⟩ := st
  have p1 : d1.med = d.med := p1
  have p2 : ∀ q, cget d1.cac q = none ∨ (at_ < q ∧ q ≤ at_ + need b.length ∧ cget d1.cac q = some (dsec (chunk b (q - at_ - 1)))) := p2
  have p4 : e = 0 ∨ e = 15 := p4
  have hpos : 0 < d.med.length := by omega
  -- what is there when it breaks off ahead of the first flush's end
  have early : ∀ d2 : D, d2.med = d.med → d2.cac = d1.cac → d.arm ≠ -1 → Out d at_ b first (d2, 15) := fun d2 e1 e2 e3 =>
    ⟨by rw [e1], fun z => absurd (show (15 : Int) = 0 from z) (by decide), .inr rfl, fun _ => .inl fun q _ x hx => by
      rcases hx with rfl | rfl
      · show sec d2 q = _ ∨ _ ∧ _ ∧ sec d2 q = _
        unfold sec
        rw [e1, e2]
        rcases p2 q with h1 | ⟨h1, h2, h3⟩
        · rw [h1]; exact .inl rfl
        · rw [h3]; exact .inr ⟨h1, h2, rfl⟩
      · exact .inl (by rw [e1]), fun z => absurd z e3⟩
  rcases p4 with rfl | rfl
  · obtain ⟨q1, q2⟩ := p3 rfl
    have q1 : d1.down = false := q1
    rw [flush_up q1 (by rw [p1]; exact hpos)]
    by_cases ha : d1.arm = 0
    · rw [if_pos ha, put_no (by decide), flush_no (by decide)]
      exact early (op d1) ((op_med d1).trans p1) (op_cac d1) (fun z => by have := (p5 z).2; have : d1.arm = -1 := this; omega)
    · rw [if_neg ha]
      obtain ⟨d2, hd2⟩ : ∃ d2, ({ op d1 with med := merged d1, cac := emptied d1 } : D) = d2 := ⟨_, rfl⟩
      have m2 : d2.med = merged d1 := by rw [← hd2]
      have c2 : ∀ q, cget d2.cac q = none := fun q => by rw [← hd2]; exact cget_empty _ _
      have l2 : d2.med.length = d.med.length := by rw [m2, len_merged, p1]
      have lc2 : d2.cac.length = d.med.length := by rw [← hd2]; show (emptied d1).length = _; rw [← p1]; simp [emptied]
      have dn2 : d2.down = false := by rw [← hd2]; exact (op_down ha).trans q1
      have a2 : d.arm = -1 → d2.arm = -1 := fun z => by rw [← hd2]; exact op_arm (p5 z).2
      have r2 : ∀ q, q < d.med.length → Gm.row d2.med q = if at_ < q ∧ q ≤ at_ + need b.length then dsec (chunk b (q - at_ - 1)) else Gm.row d.med q := fun q hq => by
        rw [m2, row_merged d1 (by rw [p1]; exact hq)]
        unfold sec
        by_cases hr : at_ < q ∧ q ≤ at_ + need b.length
        · rw [if_pos hr, q2 q hr.1 hr.2]; rfl
        · rw [if_neg hr]
          rcases p2 q with g1 | ⟨g1, g2, _⟩
          · rw [g1, p1]; rfl
          · exact absurd ⟨g1, g2⟩ hr
      rw [hd2]
      clear hd2 m2 q2 p2 p3 p5 early ha
      rw [put_up dn2 (by omega) hl]
      by_cases ha2 : d2.arm = 0
      · rw [if_pos ha2, flush_no (by decide)]
        refine ⟨by show (op d2).med.length = _; rw [op_med, l2], fun z => absurd (show (15 : Int) = 0 from z) (by decide), .inr rfl, fun _ => .inl fun q hq x hx => ?_, fun z => by have := a2 z; omega⟩
        have hx : x = Gm.row d2.med q := by
          rcases hx with rfl | rfl
          · show sec (op d2) q = _
            unfold sec
            rw [op_cac, op_med, c2 q]
            rfl
          · show Gm.row (op d2).med q = _
            rw [op_med]
        rw [hx, r2 q hq]
        by_cases hr : at_ < q ∧ q ≤ at_ + need b.length
        · rw [if_pos hr]; exact .inr ⟨hr.1, hr.2, rfl⟩
        · rw [if_neg hr]; exact .inl rfl
      · rw [if_neg ha2]
        obtain ⟨d3, hd3⟩ : ∃ d3, ({ op d2 with cac := d2.cac.set at_ (some first) } : D) = d3 := ⟨_, rfl⟩
        have m3 : d3.med = d2.med := by rw [← hd3]; exact op_med d2
        have c3 : ∀ q, cget d3.cac q = if q = at_ then some first else none := fun q => by
          rw [← hd3]
          show cget (d2.cac.set at_ (some first)) q = _
          by_cases e : q = at_
          · rw [if_pos e, e, cget_set_eq (by omega)]
          · rw [if_neg e, cget_set_ne (fun z => e z.symm), c2 q]
        have dn3 : d3.down = false := by rw [← hd3]; exact (op_down ha2).trans dn2
        have a3 : d.arm = -1 → d3.arm = -1 := fun z => by rw [← hd3]; exact op_arm (a2 z)
        have s3 : ∀ q, q < d.med.length → sec d3 q = full d at_ b first q := fun q hq => by
          unfold sec full
          rw [c3 q, m3]
          by_cases e : q = at_
          · rw [if_pos e, if_pos e]; rfl
          · rw [if_neg e, if_neg e, ← r2 q hq]; rfl
        rw [hd3]
        clear hd3
        rw [flush_up dn3 (by rw [m3]; omega)]
        by_cases ha3 : d3.arm = 0
        · rw [if_pos ha3]
          refine ⟨by show (op d3).med.length = _; rw [op_med, m3, l2], fun z => absurd (show (15 : Int) = 0 from z) (by decide), .inr rfl, fun _ => .inr ⟨fun q hq hne => ?_, ?_, ?_⟩, fun z => by have := a3 z; omega⟩
          · constructor
            · show sec (op d3) q = _
              rw [← s3 q hq]
              unfold sec
              rw [op_cac, op_med]
            · show Gm.row (op d3).med q = _
              rw [op_med, m3, r2 q hq]
              unfold full
              rw [if_neg hne]
          · show sec (op d3) at_ = _
            unfold sec
            rw [op_cac, c3, if_pos rfl]
            rfl
          · show Gm.row (op d3).med at_ = _
            rw [op_med, m3, r2 at_ (by omega), if_neg (by omega)]
        · rw [if_neg ha3]
          refine ⟨by show (merged d3).length = _; rw [len_merged, m3, l2], fun _ => ⟨⟨fun q => cget_empty _ _, (op_down ha3).trans dn3⟩, fun q hq => ?_⟩, .inl rfl, fun z => absurd rfl z, fun z => ⟨rfl, op_arm (a3 z)⟩⟩
          show sec { op d3 with med := merged d3, cac := emptied d3 } q = _
          rw [sec_flat (fun q => cget_empty _ _)]
          show Gm.row (merged d3) q = _
          rw [row_merged d3 (by rw [m3]; omega), s3 q hq]
  · rw [flush_no (d := d1) (e := 15) (by decide), put_no (d := d1) (e := 15) (by decide), flush_no (d := d1) (e := 15) (by decide)]
    exact early d1 p1 rfl (fun z => absurd (show (15 : Int) = 0 from (p5 z).1) (by decide))

/-- What a journal's disk is, between two ops. -/
structure At (d : D) (j : J) : Prop where
  ok : Ok d
  flat : Flat d
  len : d.med.length / 2 = j.half
  shows : Shows (fun q => Gm.row d.med q) j
/-- A disk that the power may have failed on: behind any crash it shows the one or the other. -/
structure Broken (d : D) (j j' : J) : Prop where
  ok : Ok d
  len : d.med.length / 2 = j.half
  len' : d.med.length / 2 = j'.half
  any : ∀ keeps, Shows (fun q => Gm.row (crashD d keeps).med q) j ∨ Shows (fun q => Gm.row (crashD d keeps).med q) j'
theorem crash_row (d : D) (keeps : List Bool) {q : Nat} (hq : q < d.med.length) : Gm.row (crashD d keeps).med q = sec d q ∨ Gm.row (crashD d keeps).med q = Gm.row d.med q := by
  show Gm.row ((List.range d.med.length).map (left d keeps)) q = _ ∨ Gm.row ((List.range d.med.length).map (left d keeps)) q = _
  rw [row_left d keeps hq]
  unfold left
  split
  · exact .inl rfl
  · exact .inr rfl
theorem crash_len (d : D) (keeps : List Bool) : (crashD d keeps).med.length = d.med.length := by show ((List.range d.med.length).map _).length = _; simp
theorem crash_flat (d : D) (keeps : List Bool) : Flat (crashD d keeps) := ⟨fun q => cget_empty _ _, rfl⟩
theorem Shows.same {S S' : Nat → List UInt8} {j : J} (h : Shows S j) (hc : ∀ q, q < 2 * j.half → S' q = S q) : Shows S' j := by
  have hh := h.half
  have hf := h.from_
  have hn := h.next
  have hle := h.lays.le
  refine ⟨hh, hf, h.life, by rw [hc _ (by omega)]; exact h.base, h.data.congr (fun q h1 h2 => hc q (by omega)), h.lays.congr (fun q h1 h2 => hc q (by omega)), hn, fun q h1 h2 => by rw [hc q (by omega)]; exact h.free q h1 h2, by rw [hc _ (by omega)]; exact h.other, fun q h1 => by rw [hc q h1]; exact h.heads q h1⟩
/-- A crash between two ops changes nothing. -/
theorem At.crash {d : D} {j : J} (h : At d j) (keeps : List Bool) : At (crashD d keeps) j :=
  ⟨h.ok.crash keeps, crash_flat d keeps, by rw [crash_len]; exact h.len, h.shows.same fun q hq => by
    have hq' : q < d.med.length := by have := h.len; omega
    rcases crash_row d keeps hq' with e | e
    · exact e.trans (sec_flat h.flat.cac q)
    · exact e⟩
theorem At.arm {d : D} {j : J} (h : At d j) {n : Int} (hn : n < 2 ^ 63) : At (armD d n) j := by
  have e : armD d n = { d with arm := max n 0 } := by unfold armD; rw [h.flat.up, if_neg (by simp)]
  refine ⟨h.ok.arm hn, ?_, ?_, ?_⟩
  · rw [e]; exact ⟨h.flat.cac, h.flat.up⟩
  · rw [e]; exact h.len
  · rw [e]; exact h.shows
/-- What an op writes, and what it makes of the journal: one word for both kinds. -/
structure Step (j : J) (at_ : Nat) (b first : List UInt8) (j' : J) : Prop where
  half : j'.half = j.half
  len : first.length = 64
  top : at_ + need b.length < 2 * j.half
  whole : ∀ S S' : Nat → List UInt8, Shows S j → S' at_ = first → Holds S' (at_ + 1) b → (∀ q, q < at_ ∨ at_ + 1 + need b.length ≤ q → S' q = S q) → Shows S' j'
  part : ∀ q, at_ < q → q ≤ at_ + need b.length → j.next ≤ q ∧ q < j.from_ + j.half ∨ j.half - j.from_ < q ∧ q < j.half - j.from_ + j.half
theorem Step.append {S : Nat → List UInt8} {j : J} (h : Shows S j) (b : List UInt8) (hb : j.next + 1 + need b.length ≤ j.from_ + j.half) : Step j j.next b (sect 2 [j.life, j.recs.length + 1, b.length]) (j.append b) :=
  ⟨rfl, sect_length _ _ (by simp), by have := h.from_; have := h.half; omega, fun S S' hs h1 h2 h3 => hs.append b hb h1 h2 h3, fun q h1 h2 => .inl ⟨by omega, by omega⟩⟩
theorem Step.point {S : Nat → List UInt8} {j : J} (h : Shows S j) (b : List UInt8) (hb : 1 + need b.length ≤ j.half) (hl : j.life < 2 ^ 40) : Step j (j.half - j.from_) b (sect 1 [j.life + 1, b.length]) (j.point b) :=
  ⟨rfl, sect_length _ _ (by simp), by have := h.from_; have := h.half; omega, fun S S' hs h1 h2 h3 => hs.point b hb hl h1 h2 h3, fun q h1 h2 => .inr ⟨by omega, by omega⟩⟩
/-- The op is done. -/
theorem Step.done {d : D} {j j' : J} {at_ : Nat} {b first : List UInt8} (hs : Step j at_ b first j') (h : At d j) (h0 : (wrote d at_ b first).2 = 0) : At (wrote d at_ b first).1 j' := by
  have ht := hs.top
  have hd := h.len
  have ho := out h.ok h.flat at_ b first (by omega) hs.len
  obtain ⟨g1, g2⟩ := ho.good h0
  have hr : ∀ q, q < d.med.length → Gm.row (wrote d at_ b first).1.med q = full d at_ b first q := fun q hq => (sec_flat g1.cac q).symm.trans (g2 q hq)
  refine ⟨wrote_Ok h.ok _ _ _, g1, by rw [ho.len, hs.half]; exact hd, ?_⟩
  have hsame : Shows (full d at_ b first) j' := by
    refine hs.whole (fun q => Gm.row d.med q) _ h.shows ?_ ?_ ?_
    · unfold full; rw [if_pos rfl]
    · intro i hi
      unfold full
      rw [if_neg (by omega), if_pos (by omega), show at_ + 1 + i - at_ - 1 = i by omega]
    · intro q hq
      unfold full
      rw [if_neg (by omega), if_neg (by omega)]
  exact hsame.same fun q hq => hr q (by rw [hs.half] at hq; omega)
/-- The power fails under way. -/
theorem Step.broken {d : D} {j j' : J} {at_ : Nat} {b first : List UInt8} (hs : Step j at_ b first j') (h : At d j) (h0 : (wrote d at_ b first).2 ≠ 0) : Broken (wrote d at_ b first).1 j j' := by
  have ht := hs.top
  have hd := h.len
  have ho := out h.ok h.flat at_ b first (by omega) hs.len
  have hl := ho.len
  refine ⟨wrote_Ok h.ok _ _ _, by rw [hl]; exact hd, by rw [hl, hs.half]; exact hd, fun keeps => ?_⟩
  rcases ho.bad h0 with hb | ⟨hb, hx, hy⟩
  · refine .inl (Shows.same (S := fun q => if q < d.med.length then Gm.row (crashD (wrote d at_ b first).1 keeps).med q else Gm.row d.med q) (h.shows.junk fun q => ?_) fun q hq => ?_)
    · by_cases hq : q < d.med.length
      · have := hb q hq _ (crash_row (wrote d at_ b first).1 keeps (by rw [hl]; exact hq))
        show (if q < d.med.length then _ else _) = _ ∨ _
        rw [if_pos hq]
        rcases this with e | ⟨e1, e2, e3⟩
        · exact .inl e
        · exact .inr ⟨hs.part q e1 e2, _, e3⟩
      · exact .inl (by rw [if_neg hq])
    · show _ = if q < d.med.length then _ else _
      rw [if_pos (by omega)]
  · have hrow : ∀ q, q < d.med.length → q ≠ at_ → Gm.row (crashD (wrote d at_ b first).1 keeps).med q = full d at_ b first q := fun q hq hne => by
      obtain ⟨f1, f2⟩ := hb q hq hne
      rcases crash_row (wrote d at_ b first).1 keeps (q := q) (by rw [hl]; exact hq) with e | e
      · rw [e, f1]
      · rw [e, f2]
    rcases crash_row (wrote d at_ b first).1 keeps (q := at_) (by rw [hl]; omega) with e | e
    · refine .inr (Shows.same (S := full d at_ b first) ?_ fun q hq => ?_)
      · refine hs.whole (fun q => Gm.row d.med q) _ h.shows ?_ ?_ ?_
        · unfold full; rw [if_pos rfl]
        · intro i hi
          unfold full
          rw [if_neg (by omega), if_pos (by omega), show at_ + 1 + i - at_ - 1 = i by omega]
        · intro q hq
          unfold full
          rw [if_neg (by omega), if_neg (by omega)]
      · rw [hs.half] at hq
        by_cases hne : q = at_
        · rw [hne, e, hx]; unfold full; rw [if_pos rfl]
        · exact hrow q (by omega) hne
    · refine .inl (Shows.same (S := fun q => if q = at_ then Gm.row d.med q else full d at_ b first q) (h.shows.junk fun q => ?_) fun q hq => ?_)
      · show (if q = at_ then _ else _) = _ ∨ _
        by_cases hne : q = at_
        · rw [if_pos hne]; exact .inl rfl
        · rw [if_neg hne]
          unfold full
          rw [if_neg hne]
          by_cases hr : at_ < q ∧ q ≤ at_ + need b.length
          · rw [if_pos hr]
            exact .inr ⟨hs.part q hr.1 hr.2, _, rfl⟩
          · rw [if_neg hr]; exact .inl rfl
      · show _ = if q = at_ then _ else _
        by_cases hne : q = at_
        · rw [if_pos hne, hne, e, hy]
        · rw [if_neg hne]; exact hrow q (by omega) hne
theorem Broken.crash {d : D} {j j' : J} (h : Broken d j j') (keeps : List Bool) : At (crashD d keeps) j ∨ At (crashD d keeps) j' := by
  rcases h.any keeps with e | e
  · exact .inl ⟨h.ok.crash keeps, crash_flat d keeps, by rw [crash_len]; exact h.len, e⟩
  · exact .inr ⟨h.ok.crash keeps, crash_flat d keeps, by rw [crash_len]; exact h.len', e⟩
/-- A new disk, and what Open makes of it. -/
theorem new_flat (n : Nat) : Flat (Disks.new n) := ⟨fun q => cget_empty _ _, rfl⟩
theorem new_row {n q : Nat} (h : q < n) : Gm.row (Disks.new n).med q = List.replicate 64 0 := by
  show Gm.row (List.replicate n (List.replicate 64 0)) q = _
  unfold Gm.row
  rw [List.getD_eq_getElem?_getD, List.getElem?_replicate, if_pos h]
  rfl
theorem first_done {n : Nat} (h1 : 8 ≤ n) (h2 : n ≤ 65536) : (wrote (Disks.new n) 0 [] (sect 1 [1, 0])).2 = 0 ∧ (wrote (Disks.new n) 0 [] (sect 1 [1, 0])).1.arm = -1 ∧ At (wrote (Disks.new n) 0 [] (sect 1 [1, 0])).1 (J.first (n / 2)) := by
  have hk : Ok (Disks.new n) := Ok.new (by omega) h2
  have hl : (Disks.new n).med.length = n := List.length_replicate ..
  have ho := out hk (new_flat n) 0 [] (sect 1 [1, 0]) (by rw [hl]; show 0 + (0 + 62) / 63 < n; omega) (sect_length _ _ (by simp))
  obtain ⟨e0, ea⟩ := ho.free rfl
  obtain ⟨g1, g2⟩ := ho.good e0
  refine ⟨e0, ea, wrote_Ok hk _ _ _, g1, by rw [ho.len, hl]; rfl, ?_⟩
  have hr : ∀ q, q < n → Gm.row (wrote (Disks.new n) 0 [] (sect 1 [1, 0])).1.med q = full (Disks.new n) 0 [] (sect 1 [1, 0]) q := fun q hq => (sec_flat g1.cac q).symm.trans (g2 q (by rw [hl]; exact hq))
  refine Shows.first (by omega) ?_ fun q q1 q2 => ?_
  · show Gm.row _ 0 = _
    rw [hr 0 (by omega)]
    unfold full
    rw [if_pos rfl]
  · show Gm.row _ q = _
    rw [hr q (by omega)]
    unfold full
    rw [if_neg (by omega), if_neg (by show ¬ (0 < q ∧ q ≤ 0 + (0 + 62) / 63); omega), new_row (by omega)]
end Jo
