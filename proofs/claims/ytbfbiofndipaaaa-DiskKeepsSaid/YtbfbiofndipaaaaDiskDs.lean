/- A disk, as the laws meet it: the contracts of all its methods, at one word. -/
import Derived.Test.YtbfbiofndipaaaaDiskCrash
namespace Disks
theorem op_med (d : D) : (op d).med = d.med := by unfold op; split <;> rfl
theorem op_cac (d : D) : (op d).cac = d.cac := by unfold op; split <;> rfl
/-- Right, and of an arm that is a number. -/
structure Ok (d : D) : Prop where
  wf : Wf d
  top : d.arm < 2 ^ 63
theorem Ok.op {d : D} (h : Ok d) : Ok (op d) := by
  have h1 := h.wf.arm
  have h2 := h.top
  unfold Disks.op
  split
  · exact ⟨⟨h.wf.len, h.wf.med, h.wf.cac, by show (-1 : Int) ≤ -1; omega, h.wf.pos, h.wf.max⟩, by show (-1 : Int) < _; omega⟩
  · exact ⟨⟨h.wf.len, h.wf.med, h.wf.cac, by show (-1 : Int) ≤ max (d.arm - 1) (-1); omega, h.wf.pos, h.wf.max⟩, by show max (d.arm - 1) (-1) < _; omega⟩
theorem Ok.write {d : D} (h : Ok d) (i : Int) (l : List UInt8) : Ok (writeD d i l) := by
  unfold writeD
  split
  · exact h
  · split
    · exact h
    · rename_i hl
      split
      · exact h.op
      · have ho := h.op
        have hc := op_cac d
        have hl' : l.length = 64 := by omega
        refine ⟨⟨?_, ho.wf.med, fun j s hs => ?_, ho.wf.arm, ho.wf.pos, ho.wf.max⟩, ho.top⟩
        · show (d.cac.set _ _).length = (Disks.op d).med.length
          rw [List.length_set, op_med]
          exact h.wf.len
        · have hs : cget (d.cac.set i.toNat (some l)) j = some s := hs
          by_cases e : i.toNat = j
          · rcases Nat.lt_or_ge j d.cac.length with q | q
            · rw [e, cget_set_eq q] at hs
              injection hs with hs
              rw [← hs]
              exact hl'
            · rw [cget_ge (by rw [List.length_set]; exact q)] at hs
              cases hs
          · rw [cget_set_ne e] at hs
            exact h.wf.cac j s hs
theorem row_merged (d : D) {i : Nat} (hi : i < d.med.length) : Gm.row (merged d) i = sec d i := by
  unfold Gm.row merged
  rw [List.getD_eq_getElem?_getD, List.getElem?_map, List.getElem?_range hi]
  rfl
theorem row_left (d : D) (keeps : List Bool) {i : Nat} (hi : i < d.med.length) : Gm.row ((List.range d.med.length).map (left d keeps)) i = left d keeps i := by
  unfold Gm.row
  rw [List.getD_eq_getElem?_getD, List.getElem?_map, List.getElem?_range hi]
  rfl
theorem len_sec {d : D} (h : Wf d) {i : Nat} (hi : i < d.med.length) : (sec d i).length = 64 := by
  unfold sec
  cases hc : cget d.cac i with
  | none => exact h.med i hi
  | some s => exact h.cac i s hc
theorem cget_empty (n i : Nat) : cget (List.replicate n none) i = none := by
  by_cases h : i < n
  · rw [cget_lt (by simpa using h)]; simp
  · rw [cget_ge (by simpa using h)]
theorem len_merged (d : D) : (merged d).length = d.med.length := by simp [merged]
theorem Ok.flush {d : D} (h : Ok d) : Ok (flushD d) := by
  unfold flushD
  split
  · exact h
  · split
    · exact h.op
    · have ho := h.op
      refine ⟨⟨?_, fun i hi => ?_, fun j s hs => ?_, ho.wf.arm, ?_, ?_⟩, ho.top⟩
      · show (emptied d).length = (merged d).length
        simp [emptied, merged]
      · have hi : i < (merged d).length := hi
        rw [len_merged] at hi
        show (Gm.row (merged d) i).length = 64
        rw [row_merged d hi]
        exact len_sec h.wf hi
      · have hs : cget (emptied d) j = some s := hs
        rw [emptied, cget_empty] at hs
        cases hs
      · show 1 ≤ (merged d).length
        rw [len_merged]; exact h.wf.pos
      · show (merged d).length ≤ _
        rw [len_merged]; exact h.wf.max
theorem Ok.crash {d : D} (h : Ok d) (keeps : List Bool) : Ok (crashD d keeps) := by
  have hl : ((List.range d.med.length).map (left d keeps)).length = d.med.length := by simp
  refine ⟨⟨?_, fun i hi => ?_, fun j s hs => ?_, by show (-1 : Int) ≤ -1; omega, ?_, ?_⟩, by show (-1 : Int) < _; omega⟩
  · show (emptied d).length = ((List.range d.med.length).map (left d keeps)).length
    rw [hl]; simp [emptied]
  · have hi : i < ((List.range d.med.length).map (left d keeps)).length := hi
    rw [hl] at hi
    show (Gm.row ((List.range d.med.length).map (left d keeps)) i).length = 64
    rw [row_left d keeps hi]
    unfold left
    split
    · exact len_sec h.wf hi
    · exact h.wf.med i hi
  · have hs : cget (emptied d) j = some s := hs
    rw [emptied, cget_empty] at hs
    cases hs
  · show 1 ≤ ((List.range d.med.length).map (left d keeps)).length
    rw [hl]; exact h.wf.pos
  · show ((List.range d.med.length).map (left d keeps)).length ≤ _
    rw [hl]; exact h.wf.max
theorem Ok.arm {d : D} (h : Ok d) {n : Int} (hn : n < 2 ^ 63) : Ok (armD d n) := by
  unfold armD
  split
  · exact h
  · exact ⟨⟨h.wf.len, h.wf.med, h.wf.cac, by show (-1 : Int) ≤ max n 0; omega, h.wf.pos, h.wf.max⟩, by show max n 0 < _; omega⟩
theorem Ok.spoil {d : D} (h : Ok d) (i k : Int) (t : UInt8) : Ok (spoilD d i k t) := by
  unfold spoilD
  split
  · exact h
  · refine ⟨⟨by show d.cac.length = (d.med.set _ _).length; rw [List.length_set]; exact h.wf.len, fun j hj => ?_, h.wf.cac, h.wf.arm, by show 1 ≤ (d.med.set _ _).length; rw [List.length_set]; exact h.wf.pos, by show (d.med.set _ _).length ≤ _; rw [List.length_set]; exact h.wf.max⟩, h.top⟩
    have hj : j < (d.med.set i.toNat (turn (Gm.row d.med i.toNat) k.toNat t)).length := hj
    rw [List.length_set] at hj
    show (Gm.row (d.med.set i.toNat (turn (Gm.row d.med i.toNat) k.toNat t)) j).length = 64
    unfold Gm.row
    rw [List.getD_eq_getElem?_getD, List.getElem?_set]
    by_cases e : i.toNat = j
    · rw [if_pos e, if_pos (by omega)]
      show (turn (Gm.row d.med i.toNat) k.toNat t).length = 64
      unfold turn
      rw [List.length_set]
      exact h.wf.med _ (by omega)
    · rw [if_neg e]
      exact h.wf.med j hj
theorem Ok.new {n : Nat} (h1 : 1 ≤ n) (h2 : n ≤ 65536) : Ok (Disks.new n) := by
  have e : (Disks.new n).med.length = n := List.length_replicate ..
  refine ⟨⟨by rw [e]; exact List.length_replicate .., fun i hi => ?_, fun i s hs => ?_, by show (-1 : Int) ≤ -1; omega, by rw [e]; exact h1, by rw [e]; exact h2⟩, by show (-1 : Int) < _; omega⟩
  · have hi : i < (List.replicate n (List.replicate 64 (0 : UInt8))).length := hi
    rw [List.length_replicate] at hi
    show (Gm.row (List.replicate n (List.replicate 64 (0 : UInt8))) i).length = 64
    unfold Gm.row
    rw [List.getD_eq_getElem?_getD, List.getElem?_replicate, if_pos hi]
    exact List.length_replicate ..
  · have hs : cget (List.replicate n none) i = some s := hs
    rw [cget_empty] at hs
    cases hs
end Disks
namespace Go.Proofs.Ytbfbiofndipaaaa
open Go.RowKit Go.Maps Go.Sort Go.Shelf

/-- Box g, medium m, cache b (of at most N entries) hold the disk. -/
structure Ds (w : World) (g m b N : Nat) (d : Disks.D) : Prop where
  ex : ∃ n D, n ≤ N ∧ Dk w g m b n D d
  ok : Disks.Ok d
section
variable {w w' : World} {g m b N : Nat} {d : Disks.D}
theorem Ds.ext (h : Ds w g m b N d) (hx : Ext w w') : Ds w' g m b N d := by
  obtain ⟨n, D, hn, hd⟩ := h.ex
  exact ⟨⟨n, D, hn, hd.ext hx⟩, h.ok⟩
theorem Ds.lts (h : Ds w g m b N d) : g < w.heap.size ∧ m < w.heap.size ∧ b < w.heap.size := by
  obtain ⟨n, D, hn, hd⟩ := h.ex
  exact ⟨hd.lt, hd.md.lt, hd.ltb⟩
theorem Ds.mono (h : Ds w g m b N d) {N' : Nat} (hN : N ≤ N') : Ds w g m b N' d := by
  obtain ⟨n, D, hn, hd⟩ := h.ex
  exact ⟨⟨n, D, by omega, hd⟩, h.ok⟩
/-- Another disk's method leaves it alone. -/
theorem Ds.kp {g' m' b' : Nat} (h : Ds w g m b N d) (hk : Kp g' m' b' w w') (h1 : g ≠ g' ∧ g ≠ m' ∧ g ≠ b') (h2 : m ≠ g' ∧ m ≠ m' ∧ m ≠ b') (h3 : b ≠ g' ∧ b ≠ m' ∧ b ≠ b') : Ds w' g m b N d := by
  obtain ⟨n, D, hn, hd⟩ := h.ex
  exact ⟨⟨n, D, hn, hd.same hk.size (hk.block g hd.lt h1.1 h1.2.1 h1.2.2) (hk.block m hd.md.lt h2.1 h2.2.1 h2.2.2) (hk.block b hd.ltb h3.1 h3.2.1 h3.2.2)⟩, h.ok⟩
theorem Ds.none (h : Ds w g m b N d) : Calls Try.prog 39 #[dptr g] w fun e w' => e = .returned (.bool false) ∧ Ext w w' := by
  obtain ⟨n, D, hn, hd⟩ := h.ex
  exact dkNone_any w g m b n D d hd
theorem Ds.write (h : Ds w g m b N d) (hN : N < maxLen) (i : Int) (A : Option Addr) (c e : Nat) (l : List UInt8) (hl : Bs w A c e l) (ha : Awy g m b A) {er : Int} {d' : Disks.D} (hE : Disks.writeE d i l = er) (hD : Disks.writeD d i l = d') :
    Calls Try.prog 13 #[dptr g, .int .i64 i, .slice A c e] w fun e w' => e = .returned (.int .i64 er) ∧ Ds w' g m b (N + 1) d' ∧ Kp g m b w w' := by
  subst hE
  subst hD
  obtain ⟨n, D, hn, hd⟩ := h.ex
  refine (dkWrite_any w g m b n D d hd h.ok.wf h.ok.top (by omega) i A c e l hl ha).mono ?_
  rintro e w' ⟨rfl, ⟨n', D', hn', hd'⟩, hk⟩
  exact ⟨rfl, ⟨⟨n', D', by omega, hd'⟩, h.ok.write i l⟩, hk⟩
theorem Ds.flush (h : Ds w g m b N d) {er : Int} {d' : Disks.D} (hE : Disks.flushE d = er) (hD : Disks.flushD d = d') :
    Calls Try.prog 15 #[dptr g] w fun e w' => e = .returned (.int .i64 er) ∧ Ds w' g m b N d' ∧ Kp g m b w w' := by
  subst hE
  subst hD
  obtain ⟨n, D, hn, hd⟩ := h.ex
  by_cases h0 : Disks.flushE d = 0
  · refine (dkFlush_ok w g m b n D d hd h.ok.wf h.ok.top h0).mono ?_
    rintro e w' ⟨rfl, hd', hk⟩
    exact ⟨by rw [h0], ⟨⟨0, _, Nat.zero_le _, hd'⟩, h.ok.flush⟩, hk⟩
  · refine (dkFlush_no w g m b n D d hd h.ok.wf h.ok.top h0).mono ?_
    rintro e w' ⟨rfl, hd', hk⟩
    exact ⟨rfl, ⟨⟨n, D, hn, hd'⟩, h.ok.flush⟩, hk⟩
theorem Ds.readNo (h : Ds w g m b N d) (i : Int) {t : Int} (ht : Disks.there d i = t) (h0 : t ≠ 0) :
    Calls Try.prog 24 #[dptr g, .int .i64 i] w (GivesR0 t w) := by
  subst ht
  obtain ⟨n, D, hn, hd⟩ := h.ex
  exact dkRead_no w g m b n D d hd h.ok.wf i h0
theorem Ds.readOk (h : Ds w g m b N d) (i : Int) (h0 : Disks.there d i = 0) {s : List UInt8} (hs : Disks.sec d i.toNat = s) :
    Calls Try.prog 24 #[dptr g, .int .i64 i] w (GivesR1 s w) := by
  subst hs
  obtain ⟨n, D, hn, hd⟩ := h.ex
  exact dkRead_ok w g m b n D d hd h.ok.wf i h0
theorem Ds.spoil (h : Ds w g m b N d) (i k : Int) (t : UInt8) {er : Int} {d' : Disks.D} (hE : Disks.spoilE d i k = er) (hD : Disks.spoilD d i k t = d') :
    Calls Try.prog 23 #[dptr g, .int .i64 i, .int .i64 k, .int .u8 (t.toNat : Int)] w fun e w' => e = .returned (.int .i64 er) ∧ Ds w' g m b N d' ∧ Kp g m b w w' := by
  subst hE
  subst hD
  obtain ⟨n, D, hn, hd⟩ := h.ex
  by_cases h0 : Disks.spoilE d i k = 0
  · have hi : ¬ (i < 0 ∨ (d.med.length : Int) ≤ i) := fun q => by unfold Disks.spoilE at h0; rw [if_pos q] at h0; cases h0
    have hk : ¬ (k < 0 ∨ 64 ≤ k) := fun q => by unfold Disks.spoilE at h0; rw [if_neg hi, if_pos q] at h0; cases h0
    obtain ⟨j, rfl⟩ : ∃ j : Nat, i = j := ⟨i.toNat, by omega⟩
    obtain ⟨p, rfl⟩ : ∃ j : Nat, k = j := ⟨k.toNat, by omega⟩
    refine (dkSpoil_ok w g m b n D d hd h.ok.wf.max j p (by omega) (by omega) t).mono ?_
    rintro e w' ⟨rfl, hd', hk⟩
    have e1 : Disks.spoilD d j p t = { d with med := d.med.set j (Disks.turn (Gm.row d.med j) p t) } := by
      unfold Disks.spoilD
      rw [if_neg (by omega), show ((j : Int)).toNat = j by omega, show ((p : Int)).toNat = p by omega]
    exact ⟨by rw [h0], ⟨⟨n, D, hn, by rw [e1]; exact hd'⟩, h.ok.spoil j p t⟩, hk⟩
  · refine (dkSpoil_no w g m b n D d hd h.ok.wf.max i k t h0).mono ?_
    rintro e w' ⟨rfl, hx⟩
    have e1 : Disks.spoilD d i k t = d := by unfold Disks.spoilD; rw [if_pos h0]
    rw [e1]
    exact ⟨rfl, h.ext hx, Kp.of hx ..⟩
theorem Ds.arm (h : Ds w g m b N d) (x : Int) (hx : x < 2 ^ 63) {d' : Disks.D} (hD : Disks.armD d x = d') :
    Calls Try.prog 16 #[dptr g, .int .i64 x] w fun e w' => e = .returned (.tuple #[]) ∧ Ds w' g m b N d' ∧ Kp g m b w w' := by
  subst hD
  obtain ⟨n, D, hn, hd⟩ := h.ex
  refine (dkArm_any w g m b n D d hd x).mono ?_
  rintro e w' ⟨rfl, hd', hk⟩
  exact ⟨rfl, ⟨⟨n, D, hn, hd'⟩, h.ok.arm hx⟩, hk⟩
theorem Ds.down (h : Ds w g m b N d) {z : Bool} (hz : d.down = z) : Calls Try.prog 19 #[dptr g] w fun e w' => e = .returned (.bool z) ∧ Ext w w' := by
  subst hz
  obtain ⟨n, D, hn, hd⟩ := h.ex
  exact dkDown_any w g m b n D d hd
theorem Ds.size (h : Ds w g m b N d) {z : Nat} (hz : d.med.length = z) : Calls Try.prog 26 #[dptr g] w fun e w' => e = .returned (.int .i64 (z : Int)) ∧ Ext w w' := by
  subst hz
  obtain ⟨n, D, hn, hd⟩ := h.ex
  exact dkSize_any w g m b n D d hd
theorem Ds.crash (h : Ds w g m b N d) (Ak : Option Addr) (nk ck : Nat) (keeps : List Bool) (hk : Bls w Ak nk ck keeps) (ha : Awy g m b Ak) {d' : Disks.D} (hD : Disks.crashD d keeps = d') :
    Calls Try.prog 17 #[dptr g, .slice Ak nk ck] w fun e w' => e = .returned (.tuple #[]) ∧ Ds w' g m b N d' ∧ Kp g m b w w' := by
  subst hD
  obtain ⟨n, D, hn, hd⟩ := h.ex
  refine (dkCrash_any w g m b n D d hd h.ok.wf Ak nk ck keeps hk (fun _ => ha)).mono ?_
  rintro e w' ⟨rfl, hd', hk⟩
  exact ⟨rfl, ⟨⟨0, _, Nat.zero_le _, hd'⟩, h.ok.crash keeps⟩, hk⟩
theorem Ds.crash' (h : Ds w g m b N d) (Ak : Option Addr) (nk ck : Nat) (keeps : List Bool) (hk : Bls w Ak nk ck keeps) (ha : 0 < nk → Awy g m b Ak) {d' : Disks.D} (hD : Disks.crashD d keeps = d') :
    Calls Try.prog 17 #[dptr g, .slice Ak nk ck] w fun e w' => e = .returned (.tuple #[]) ∧ Ds w' g m b N d' ∧ Kp g m b w w' := by
  subst hD
  obtain ⟨n, D, hn, hd⟩ := h.ex
  refine (dkCrash_any w g m b n D d hd h.ok.wf Ak nk ck keeps hk ha).mono ?_
  rintro e w' ⟨rfl, hd', hk⟩
  exact ⟨rfl, ⟨⟨0, _, Nat.zero_le _, hd'⟩, h.ok.crash keeps⟩, hk⟩
theorem Ds.cached (h : Ds w g m b N d) {L : List Int} (hL : Disks.cached d = L) : Calls Try.prog 22 #[dptr g] w fun e w' => ∃ A c, e = .returned (.slice A L.length c) ∧ Is w' A L.length c L ∧ Ext w w' := by
  subst hL
  obtain ⟨n, D, hn, hd⟩ := h.ex
  refine (dkCached_any w g m b n D d hd h.ok.wf).mono ?_
  rintro e w' ⟨v, rfl, ho, hx⟩
  obtain ⟨A, c, rfl, hi, _⟩ := own_is ho
  exact ⟨A, c, rfl, hi, hx⟩
end
theorem dsNew (w : World) (n : Nat) (h1 : 1 ≤ n) (h2 : n ≤ 65536) :
    Calls Try.prog 11 #[.int .i64 (n : Int)] w fun e w' => ∃ g, e = .returned (.tuple #[dptr g, .int .i64 0]) ∧ ∃ m b, Ds w' g m b 0 (Disks.new n) ∧ Ext w w' ∧ w.heap.size ≤ g ∧ w.heap.size ≤ m ∧ w.heap.size ≤ b := by
  refine (dkNew_ok w n h1 h2).mono ?_
  rintro e w' ⟨g, rfl, m, b, hd, hx, a1, a2, a3⟩
  exact ⟨g, rfl, m, b, ⟨⟨0, _, Nat.le_refl _, hd⟩, Disks.Ok.new h1 h2⟩, hx, a1, a2, a3⟩
end Go.Proofs.Ytbfbiofndipaaaa
