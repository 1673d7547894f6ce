/- Several texts in one: Boxes of finds, written: what else stays. No statement of the seat is proved here. The document's find and the program's agree, in plain words. No program in sight. The laws' small (find): its contract; small finds stay small. -/
import Derived.Test.YtfpglkacjecoeaaGreatCt25
import Derived.Test.YtfpglkacjecoeaaGreatCt26
import Derived.Test.YtfpglkacjecoeaaGreatCt14
namespace Go.Proofs.YtfpglkacjecoeaaGreat
open Go.RowKit

theorem cell_lt {w : World} {b o : Nat} {u : Value} (h : w.cell? ⟨b, o, none⟩ = some u) : b < w.heap.size := by
  rcases Nat.lt_or_ge b w.heap.size with hl | hl
  · exact hl
  · simp [World.cell?, Array.getElem?_eq_none hl] at h
theorem Aw.cell {Z : Nat → Prop} {w w2 : World} (ha : Aw Z w w2) {b o : Nat} {u : Value} (hc : w.cell? ⟨b, o, none⟩ = some u) (hn : ¬ Z b) : w2.cell? ⟨b, o, none⟩ = some u := by
  rw [World.cell?_of_block (a := ⟨b, o, none⟩) (ha.block b (cell_lt hc) hn)]; exact hc
theorem Aw.sub {Z Y : Nat → Prop} {w w2 : World} (ha : Aw Y w w2) (hz : ∀ q, Y q → Z q) : Aw Z w w2 := ⟨ha.os, ha.tape, ha.output, ha.size, fun i hi hn => ha.block i hi (fun y => hn (hz i y))⟩
/-- A box of a find holds numbers and slices alone. -/
theorem Fb.kinds {w : World} {x : Nat} {st ve ne ph : Int} {A : Option Addr} {n c : Nat} {B : Option Addr} {m d : Nat} {C : Option Addr} {k e : Nat} (h : Fb w x st ve ne ph (.slice A n c) (.slice B m d) (.slice C k e)) {o : Nat} {u : Value} (hc : w.cell? ⟨x, o, none⟩ = some u) : (∃ i, u = .int .i64 i) ∨ u = .slice A n c ∨ u = .slice B m d ∨ u = .slice C k e := by
  rw [cell_of_row w _ _ _ _ _ h.blk] at hc
  match o, hc with
  | 0, hc => injection hc with hc; exact .inl ⟨_, hc.symm⟩
  | 1, hc => injection hc with hc; exact .inl ⟨_, hc.symm⟩
  | 2, hc => injection hc with hc; exact .inl ⟨_, hc.symm⟩
  | 3, hc => injection hc with hc; exact .inl ⟨_, hc.symm⟩
  | 4, hc => injection hc with hc; exact .inr (.inl hc.symm)
  | 5, hc => injection hc with hc; exact .inr (.inr (.inl hc.symm))
  | 6, hc => injection hc with hc; exact .inr (.inr (.inr hc.symm))
  | q + 7, hc => simp at hc
section
variable {w w2 : World} {x : Nat} {f : Finds.F} {A : Option Addr} {n c : Nat} {B : Option Addr} {m d : Nat} {C : Option Addr} {k e : Nat}
theorem Bs.put (hb : Fb w x f.stripe f.version f.need f.phase (.slice A n c) (.slice B m d) (.slice C k e)) (ha : Aw (fun q => q = x) w w2) {A' : Option Addr} {n' c' : Nat} {l : List UInt8} (h : Bs w A' n' c' l) : Bs w2 A' n' c' l := by
  refine ⟨h.len, h.le, h.max, h.rd.1, fun hn => ?_⟩
  obtain ⟨b, off, e1, hc⟩ := h.rd.2 hn
  have hl : 0 < l.length := by rw [h.len]; exact hn
  have h0 : (bcells l)[0]? = some (.int .u8 ((l[0]'hl).toNat : Int)) := by simp [bcells, hl]
  have hbx : b ≠ x := fun e2 => by
    subst e2
    rcases hb.kinds (hc 0 _ h0) with ⟨i, e⟩ | e | e | e <;> cases e
  exact ⟨b, off, e1, fun j u hu => ha.cell (hc j u hu) hbx⟩
theorem Mx.put (hb : Fb w x f.stripe f.version f.need f.phase (.slice A n c) (.slice B m d) (.slice C k e)) (hf : Fd w f A n c B m d C k e) (ha : Aw (fun q => q = x) w w2) {A' : Option Addr} {n' c' : Nat} {M : Gm.L} (h : Mx w A' n' c' M) (hr : ∀ i, i < n' → 0 < (Gm.row M i).length) : Mx w2 A' n' c' M := by
  obtain ⟨cs, h1, h2⟩ := h.rd
  refine ⟨h.len, h.le, h.max, cs, ⟨h1.1, fun hn => ?_⟩, ⟨h2.len, fun i hi => by
    obtain ⟨Ai, ni, ci, e1, h3⟩ := h2.at_ i hi
    exact ⟨Ai, ni, ci, e1, h3.put hb ha⟩⟩⟩
  obtain ⟨b, off, e1, hc⟩ := h1.2 hn
  obtain ⟨A0, n0, c0, e0, hb0⟩ := h2.at_ 0 (by rw [h.len]; exact hn)
  have hrow := hr 0 hn
  have hn0 : 0 < n0 := by rw [← hb0.len]; exact hrow
  obtain ⟨bb, ob, e3, hcb⟩ := hb0.rd.2 hn0
  have hu0 : (bcells (Gm.row M 0))[0]? = some (.int .u8 (((Gm.row M 0)[0]'hrow).toNat : Int)) := by simp [bcells, hrow]
  have hbyte := hcb 0 _ hu0
  have hbx : b ≠ x := fun e2 => by
    subst e2
    rcases hb.kinds (hc 0 _ e0) with ⟨i, e⟩ | e | e | e
    · cases e
    · injection e with a1 a2 a3
      subst a1 a2 a3
      obtain ⟨b9, o9, e9, h9⟩ := hf.u.rd.intAt hn0
      rw [e3] at e9
      injection e9 with e9
      injection e9 with e9 e10
      subst e9 e10
      rw [h9] at hbyte
      simp at hbyte
    · injection e with a1 a2 a3
      subst a1 a2 a3
      obtain ⟨b9, o9, e9, h9⟩ := hf.v.rd.intAt hn0
      rw [e3] at e9
      injection e9 with e9
      injection e9 with e9 e10
      subst e9 e10
      rw [h9] at hbyte
      simp at hbyte
    · injection e with a1 a2 a3
      subst a1 a2 a3
      obtain ⟨b9, o9, A9, n9, c9, e9, h9, _⟩ := hf.s.at_ (i := 0) hn0
      rw [e3] at e9
      injection e9 with e9
      injection e9 with e9 e10
      subst e9 e10
      rw [h9] at hbyte
      simp at hbyte
  exact ⟨b, off, e1, fun j u hu => ha.cell (hc j u hu) hbx⟩
theorem FieldAt.put (hb : Fb w x f.stripe f.version f.need f.phase (.slice A n c) (.slice B m d) (.slice C k e)) (ha : Aw (fun q => q = x) w w2) {fb : Nat} (h : FieldAt w fb) : FieldAt w2 fb := by
  have hx : fb ≠ x := fun e2 => by
    subst e2
    rcases hb.kinds h.made with ⟨i, e⟩ | e | e | e <;> cases e
  exact ⟨ha.cell h.made hx, fun i hi => ha.cell (h.exp i hi) hx, fun y => ha.cell (h.log y) hx⟩
theorem Cd.put (hb : Fb w x f.stripe f.version f.need f.phase (.slice A n c) (.slice B m d) (.slice C k e)) (hf : Fd w f A n c B m d C k e) (ha : Aw (fun q => q = x) w w2) {b fb K N : Nat} (h : Cd w b fb K N) : Cd w2 b fb K N := by
  obtain ⟨A2, c2, h1, h2⟩ := h.mx
  have hx : b ≠ x := fun e2 => by
    subst e2
    rcases hb.kinds h.c0 with ⟨i, e⟩ | e | e | e <;> cases e
  exact ⟨h.f.put hb ha, ha.cell h.c0 hx, ha.cell h.c1 hx, ⟨A2, c2, ha.cell h1 hx, h2.put hb hf ha (fun i hi => by rw [(Gm.gen_rect h.kn).wid i hi]; exact h.k1)⟩, h.k1, h.kn, h.n2⟩
end
/-- A variable at block g that holds a find whose lists lie in none of some blocks. -/
def Fz (Z : Nat → Prop) (w : World) (g : Nat) (f : Finds.F) : Prop := ∃ A n c B m d C k e, Fb w g f.stripe f.version f.need f.phase (.slice A n c) (.slice B m d) (.slice C k e) ∧ FdZ Z w f A n c B m d C k e
section
variable {Z Y : Nat → Prop} {w w2 : World} {g x : Nat} {f f' : Finds.F}
theorem Fz.lt (h : Fz Z w g f) : g < w.heap.size := by obtain ⟨_, _, _, _, _, _, _, _, _, h, _⟩ := h; exact h.lt
theorem Fz.fv (h : Fz Z w g f) : Fv w g f := by
  obtain ⟨A, n, c, B, m, d, C, k, e, h1, h2⟩ := h
  exact ⟨A, n, c, B, m, d, C, k, e, h1, h2.fd⟩
theorem Fz.ext (h : Fz Z w g f) (hx : Ext w w2) : Fz Z w2 g f := by
  obtain ⟨A, n, c, B, m, d, C, k, e, h1, h2⟩ := h
  exact ⟨A, n, c, B, m, d, C, k, e, h1.ext hx, h2.ext hx⟩
theorem Fz.less (h : Fz Z w g f) (hz : ∀ q, Y q → Z q) : Fz Y w g f := by
  obtain ⟨A, n, c, B, m, d, C, k, e, h1, h2⟩ := h
  exact ⟨A, n, c, B, m, d, C, k, e, h1, h2.less hz⟩
theorem Fz.aw (h : Fz Z w g f) (ha : Aw (fun q => q = x) w w2) (hz : Z x) (hg : g ≠ x) : Fz Z w2 g f := by
  obtain ⟨A, n, c, B, m, d, C, k, e, h1, h2⟩ := h
  exact ⟨A, n, c, B, m, d, C, k, e, h1.aw ha hg, h2.aw (ha.sub (fun q hq => by rw [hq]; exact hz))⟩
theorem Fz.newer (h : Fz Z w g f) (hx : Ext w w2) (hg : w.heap.size ≤ x) : Fz (fun q => Z q ∨ q = x) w2 g f := by
  obtain ⟨A, n, c, B, m, d, C, k, e, h1, h2⟩ := h
  exact ⟨A, n, c, B, m, d, C, k, e, h1.ext hx, h2.newer hx hg⟩
theorem Fz.cd (h : Fz Z w g f) (ha : Aw (fun q => q = g) w w2) {b fb K N : Nat} (hc : Cd w b fb K N) : Cd w2 b fb K N := by
  obtain ⟨A, n, c, B, m, d, C, k, e, h1, h2⟩ := h
  exact hc.put h1 h2.fd ha
theorem Fz.mx (h : Fz Z w g f) (ha : Aw (fun q => q = g) w w2) {A : Option Addr} {c K N : Nat} (hc : Mx w A N c (Gm.gen K N)) (h1 : 1 ≤ K) (h2 : K ≤ N) : Mx w2 A N c (Gm.gen K N) := by
  obtain ⟨_, _, _, _, _, _, _, _, _, hb, hf⟩ := h
  exact hc.put hb hf.fd ha (fun i hi => by rw [(Gm.gen_rect h2).wid i hi]; exact h1)
/-- A find is stored into a box of a find. -/
theorem fz_store {st ve ne ph : Int} {U V S : Value} (hb : Fb w x st ve ne ph U V S) {A : Option Addr} {n c : Nat} {B : Option Addr} {m d : Nat} {C : Option Addr} {k e : Nat} (hd : FdZ Z w f A n c B m d C k e) (hz : Z x) :
    ∃ w2, (Instr.storeAt 25 (.pointer (some ⟨x, 0, none⟩)) (fval f.stripe f.version f.need f.phase (.slice A n c) (.slice B m d) (.slice C k e))).run Tryz.prog w = .ok () w2 ∧ Fz Z w2 x f ∧ Aw (fun q => q = x) w w2 := by
  have hth : w.there x 0 7 := fun j hj => ⟨by
    rw [cell_of_row _ _ _ _ _ _ hb.blk]
    have hl : 0 + j < (#[.int .i64 st, .int .i64 ve, .int .i64 ne, .int .i64 ph, U, V, S] : Array Value).size := by show 0 + j < 7; omega
    rw [Array.getElem?_eq_getElem hl]; rfl, frozen_of_row _ _ _ _ _ hb.blk⟩
  have hall : (fcells13 f (.slice A n c) (.slice B m d) (.slice C k e)).toArray.all (·.oneCell') = true := all_oneCell_toArray (fun v hv => by
    simp only [fcells13, List.mem_cons, List.not_mem_nil, or_false] at hv
    rcases hv with rfl | rfl | rfl | rfl | rfl | rfl | rfl <;> rfl)
  have hr := run_storeVar_mid (P := Tryz.prog) w x 0 25 (fcells13 f (.slice A n c) (.slice B m d) (.slice C k e)).toArray hth find_info hall
  have h0 := setCells_far x 0 (fcells13 f (.slice A n c) (.slice B m d) (.slice C k e)) 0 w w ⟨rfl, rfl, rfl, Nat.le_refl _, fun _ _ => rfl⟩ (Nat.zero_le _)
  have ha : Aw (fun q => q = x) w (w.setCells x 0 (fcells13 f (.slice A n c) (.slice B m d) (.slice C k e))) := ⟨h0.os, h0.tape, h0.output, h0.size, fun i _ hn => setCells_other x _ _ _ i hn⟩
  exact ⟨w.setCells x 0 (fcells13 f (.slice A n c) (.slice B m d) (.slice C k e)), by simp only [Instr.storeAt, Instr.sureAddr, Sem.run_bind, Sem.run_pure, Result.andThen_ok, hr],
    ⟨A, n, c, B, m, d, C, k, e, ⟨setCells_seven hb.blk _ rfl⟩, hd.aw (ha.sub (fun q hq => by rw [hq]; exact hz))⟩, ha⟩
/-- A new variable of a find. -/
theorem fz_new {A : Option Addr} {n c : Nat} {B : Option Addr} {m d : Nat} {C : Option Addr} {k e : Nat} (hd : FdZ Z w f A n c B m d C k e) :
    ∃ x w1 w2, w.heap.size = x ∧ (Instr.alloc 25 true (.tuple #[])).run Tryz.prog w = .ok (.pointer (some ⟨x, 0, none⟩)) w1 ∧ (Instr.storeAt 25 (.pointer (some ⟨x, 0, none⟩)) (fval f.stripe f.version f.need f.phase (.slice A n c) (.slice B m d) (.slice C k e))).run Tryz.prog w1 = .ok () w2 ∧ Fz (fun q => Z q ∨ q = x) w2 x f ∧ Ext w w2 := by
  obtain ⟨x, w1, w2, h1, h2, h3, h4, h5⟩ := find_var w f.stripe f.version f.need f.phase A n c B m d C k e
  exact ⟨x, w1, w2, h1, h2, h3, ⟨A, n, c, B, m, d, C, k, e, h4, hd.newer h5 (by omega)⟩, h5⟩
end
end Go.Proofs.YtfpglkacjecoeaaGreat
namespace Finds
open Il

/-- A rising list whose members are all in another rising one lies in it. -/
theorem rising_sub : ∀ {a b : List Int}, a.Pairwise (· < ·) → b.Pairwise (· < ·) → (∀ x ∈ a, x ∈ b) → a.Sublist b
  | [], b, _, _, _ => List.nil_sublist b
  | x :: a, [], _, _, h => by have := h x List.mem_cons_self; cases this
  | x :: a, y :: b, ha, hb, h => by
    obtain ⟨ha1, ha2⟩ := List.pairwise_cons.1 ha
    obtain ⟨hb1, hb2⟩ := List.pairwise_cons.1 hb
    by_cases e : x = y
    · subst e
      refine (rising_sub ha2 hb2 (fun z hz => ?_)).cons_cons x
      rcases List.mem_cons.1 (h z (List.mem_cons_of_mem _ hz)) with e | e
      · have := ha1 _ hz; omega
      · exact e
    · refine (rising_sub ha hb2 (fun z hz => ?_)).cons y
      have hx : y < x := by
        rcases List.mem_cons.1 (h x List.mem_cons_self) with e' | e'
        · exact absurd e' e
        · exact hb1 _ e'
      rcases List.mem_cons.1 (h z hz) with e' | e'
      · rcases List.mem_cons.1 hz with e2 | e2
        · omega
        · have := ha1 _ e2; omega
      · exact e'
theorem which_ok {l which : List Int} (hn : which.Nodup) (hm : ∀ x ∈ which, x ∈ ofL l 1) (hc : which.length = cnt l 1) : srt which = ofL l 1 := by
  have h1 := srt_pairwise which
  have h2 : (srt which).Nodup := srt_nodup.2 hn
  rw [List.Nodup] at h2
  have h3 : (srt which).Pairwise (· < ·) := (h1.and h2).imp (fun h => by have := h.1; have := h.2; omega)
  exact (rising_sub h3 (ofL_pairwise l 1) (fun x hx => hm x (srt_mem.1 hx))).eq_of_length (by rw [srt_length, hc]; rfl)
/-- What the document asks of each shard that is there. -/
def spot (f : F) (i : Nat) : Prop := (0 ≤ get f.which i ∧ get f.which i < f.marks.length) ∧ get f.marks (get f.which i).toNat = 1 ∧ (f.shards.getD i []).length = (f.shards.getD 0 []).length ∧ (f.shards.getD i []).length ≤ 65536 ∧ ∀ j, j < i → get f.which j ≠ get f.which i
def counted (f : F) : Prop := cnt f.marks 0 + cnt f.marks 1 + cnt f.marks 2 = f.marks.length ∧ f.which.length = cnt f.marks 1 ∧ f.shards.length = f.which.length
theorem getD_mem {l : List (List UInt8)} {i : Nat} (h : i < l.length) : l.getD i [] ∈ l := by
  rw [List.getD_eq_getElem?_getD, List.getElem?_eq_getElem h]
  exact List.getElem_mem h
theorem right_ref (f : F) : right f ↔ named f.stripe f.version f.marks.length f.need ∧ counted f ∧ (∀ i, i < f.which.length → spot f i) ∧ phaseOk f.phase (cnt f.marks 1) (cnt f.marks 2) f.marks.length f.need := by
  constructor
  · intro h
    have hw := which_len h
    refine ⟨h.1, ⟨h.2.1, hw, by rw [hw]; exact h.2.2.2.1⟩, fun i hi => ?_, h.2.2.2.2.2⟩
    have hmem : get f.which i ∈ f.which := get_mem hi
    obtain ⟨j, j1, j2, j3⟩ := ofL_mem.1 ((which_mem h).1 hmem)
    have hs : i < f.shards.length := by rw [h.2.2.2.1, ← hw]; exact hi
    have hf := h.2.2.2.2.1 _ (getD_mem hs)
    unfold fitsL at hf
    rw [Bool.and_eq_true, Bool.or_eq_true, decide_eq_true_eq, decide_eq_true_eq, decide_eq_true_eq] at hf
    refine ⟨⟨by omega, by omega⟩, by rw [j2]; exact j3, ?_, hf.1, fun k hk e => ?_⟩
    · rcases hf.2 with e | e
      · omega
      · exact e
    · have hd := which_nodup h
      rw [List.Nodup, List.pairwise_iff_getElem] at hd
      have := hd k i (by omega) hi hk
      rw [get_of_lt (by omega), get_of_lt hi] at e
      exact this e
  · rintro ⟨h1, ⟨h2, h3, h4⟩, h5, h6⟩
    refine ⟨h1, h2, which_ok ?_ (fun x hx => ?_) h3, by omega, fun b hb => ?_, h6⟩
    · rw [List.Nodup, List.pairwise_iff_getElem]
      intro k i hk hi hki
      have := (h5 i hi).2.2.2.2 k hki
      rw [get_of_lt hk, get_of_lt hi] at this
      exact this
    · obtain ⟨i, hi, e⟩ := mem_get hx
      obtain ⟨⟨a0, a1⟩, a2, _⟩ := h5 i hi
      rw [e] at a0 a1 a2
      exact ofL_mem.2 ⟨x.toNat, by omega, by omega, a2⟩
    · obtain ⟨i, hi, e⟩ := List.getElem_of_mem hb
      have hd : f.shards.getD i [] = b := by rw [List.getD_eq_getElem?_getD, List.getElem?_eq_getElem hi, ← e]; rfl
      obtain ⟨_, _, a3, a4, _⟩ := h5 i (by omega)
      rw [hd] at a3 a4
      unfold fitsL
      rw [decide_eq_true a4, decide_eq_true a3]
      simp
/-- The phase, as the document says it. -/
theorem ref_phased {f : F} {i : Nat} (h : right f) (hi : i < f.marks.length) (hp : f.phase = 1) (hm : get f.marks i = 0) (e : Int) (b : List UInt8) :
    phased (told0 f i e b) = { told0 f i e b with phase := if (cnt (told0 f i e b).marks 1 : Int) = f.need then 2 else if (f.marks.length : Int) - f.need < cnt (told0 f i e b).marks 2 then 3 else 1 } := by
  have hw := which_len h
  have hlt : (cnt f.marks 1 : Int) < f.need := by
    rcases h.2.2.2.2.2 with ⟨a, b, c⟩ | ⟨a, b⟩ | ⟨a, b, c⟩
    · exact b
    · omega
    · omega
  unfold told0
  split
  · have hc := cnt_set hi hm (b := 1) (m := 1) (by decide)
    rw [if_neg (by decide), if_pos rfl] at hc
    unfold phased
    simp only [List.length_set, List.length_append, List.length_singleton]
    rw [hp]
    by_cases h1 : f.need ≤ ((f.which.length + 1 : Nat) : Int)
    · rw [if_pos h1, if_pos (show ((cnt (f.marks.set i 1) 1 : Nat) : Int) = f.need by omega)]
    · rw [if_neg h1, if_neg (show ¬ ((cnt (f.marks.set i 1) 1 : Nat) : Int) = f.need by omega)]
  · have hc := cnt_set hi hm (b := 2) (m := 1) (by decide)
    rw [if_neg (by decide), if_neg (by decide)] at hc
    unfold phased
    simp only [List.length_set]
    rw [hp, if_neg (show ¬ f.need ≤ (f.which.length : Nat) by omega), if_neg (show ¬ ((cnt (f.marks.set i 2) 1 : Nat) : Int) = f.need by omega)]
end Finds
namespace Go.Proofs.YtfpglkacjecoeaaGreat
open Go.RowKit

/-- A small find. -/
structure Sm13 (f : Finds.F) : Prop where
  u : f.marks.length ≤ 30
  v : f.which.length ≤ 40
  s : f.shards.length ≤ 40
  r : ∀ i, i < f.shards.length → (Gm.row f.shards i).length ≤ 40
theorem Sm13.told {f : Finds.F} (h : Sm13 f) (i e : Int) {b : List UInt8} (hb : b.length ≤ 40) : Sm13 (Finds.toldF f i e b) := by
  unfold Finds.toldF
  split
  · rename_i hc
    have hr := hc.1.1
    have h1 := Finds.which_len hr
    have h2 := Finds.cnt_le f.marks 1
    have h3 := hr.2.2.2.1
    have h0 := h.u
    unfold Finds.told0
    split
    · refine ⟨?_, ?_, ?_, ?_⟩
      · show (f.marks.set _ _).length ≤ 30
        rw [List.length_set]; exact h.u
      · show (f.which ++ [_]).length ≤ 40
        rw [List.length_append]; simp; omega
      · show (f.shards ++ [b]).length ≤ 40
        rw [List.length_append]; simp; omega
      · intro j hj
        show (Gm.row (f.shards ++ [b]) j).length ≤ 40
        have hj2 : j < (f.shards ++ [b]).length := hj
        rw [List.length_append] at hj2
        by_cases e : j < f.shards.length
        · rw [row_append_lt _ e]; exact h.r j e
        · have e2 : j = f.shards.length := by simp at hj2; omega
          rw [e2, row_append_last]; exact hb
    · refine ⟨?_, h.v, h.s, h.r⟩
      show (f.marks.set _ _).length ≤ 30
      rw [List.length_set]; exact h.u
  · exact h
theorem Sm13.lose {f : Finds.F} (h : Sm13 f) (i : Int) : Sm13 (Finds.loseF f i) := by
  unfold Finds.loseF
  split
  · refine ⟨?_, h.v, h.s, h.r⟩
    show (f.marks.set _ _).length ≤ 30
    rw [List.length_set]; exact h.u
  · exact h
/-- What small tells. -/
def GivesSm (f : Finds.F) (w : World) (r : Ending) (w' : World) : Prop := ∃ b, r = .returned (.bool b) ∧ (b = true → Sm13 f) ∧ Ext w w'
set_option maxRecDepth 100000 in
set_option maxHeartbeats 4000000 in
theorem small13_any (w : World) (f : Finds.F) (A : Option Addr) (n c : Nat) (B : Option Addr) (m d : Nat) (C : Option Addr) (k e : Nat) (h : Fd w f A n c B m d C k e) :
    Calls Tryz.prog 4 #[fval f.stripe f.version f.need f.phase (.slice A n c) (.slice B m d) (.slice C k e)] w (GivesSm f w) := by
  have q1 := h.u.max
  have q2 := h.u.le
  have q3 := h.v.max
  have q4 := h.v.le
  have q5 := h.s.max
  have q6 := h.s.le
  have LU := Lib.hid h.u.len
  have LV := Lib.hid h.v.len
  have LS := Lib.hid h.s.len
  obtain ⟨g, hg⟩ : ∃ g, w.heap.size = g := ⟨_, rfl⟩
  have s1 := Fb.new w f.stripe f.version f.need f.phase (.slice A n c) (.slice B m d) (.slice C k e) hg
  have xA := Ext.alloc w (.cells #[.int .i64 f.stripe, .int .i64 f.version, .int .i64 f.need, .int .i64 f.phase, .slice A n c, .slice B m d, .slice C k e] 25)
  obtain ⟨W1, hW1⟩ : ∃ W1, w.alloc (.cells #[.int .i64 f.stripe, .int .i64 f.version, .int .i64 f.need, .int .i64 f.phase, .slice A n c, .slice B m d, .slice C k e] 25) = W1 := ⟨_, rfl⟩
  rw [hW1] at s1 xA
  have XA := Lib.hid xA
  have HW1 := Lib.hid hW1
  have HS := Lib.hid (h.s.ext xA)
  have k4 := s1.c4
  have k5 := s1.c5
  have k6 := s1.c6
  clear h xA hW1 s1
  have no : GivesSm f w (.returned (.bool false)) W1 := ⟨false, rfl, (fun q => by cases q), XA.out⟩
  have NO := Lib.hid no
  clear no
  by_cases h1 : n ≤ 30
  · by_cases h2 : m ≤ 40
    · by_cases h3 : k ≤ 40
      · have f1 : ¬ (30 : Int) < n := by omega
        have f2 : ¬ (40 : Int) < m := by omega
        have f3 : ¬ (40 : Int) < k := by omega
        have f1n : decide ((30 : Int) < n) = false := decide_eq_false f1
        have f2n : decide ((40 : Int) < m) = false := decide_eq_false f2
        go_enter Tryz.func4, Tryz.ntmps4
        go_upto_region 1 with (fail)
        rw [HW1.out]
        try rw [hg]
        go_wp2_with (fail)
        go_loop [3] (fun s => ∃ j : Nat, j ≤ k ∧ s = .int .i64 (j : Int) ∧ RowKit.Hid (∀ i, i < j → (Gm.row f.shards i).length ≤ 40)) (fun s => k - (intOf s).toNat)
        case atStart => exact ⟨0, by omega, rfl, Lib.hid fun i hi => absurd hi (Nat.not_lt_zero _)⟩
        case round =>
          obtain ⟨j, hj, rfl, HJ⟩ := hrel
          by_cases hlt : j < k
          · have r1 : (j : Int) < k := by omega
            obtain ⟨bs, os, A9, n9, c9, rfl, ci, hb9⟩ := HS.out.at_ (i := j) hlt
            have p1 := hb9.max
            have p2 := hb9.le
            have HL9 := Lib.hid hb9.len
            clear hb9
            by_cases h9 : n9 ≤ 40
            · have f9 : ¬ (40 : Int) < n9 := by omega
              go_wp2_with (fail)
              go_round
              case rel => exact ⟨j + 1, by omega, by go_num, Lib.hid fun i hi => by
                  by_cases e : i = j
                  · rw [e, HL9.out]; exact h9
                  · exact HJ.out i (by omega)⟩
              case measure => simp [intOf]; omega
            · have f9 : (40 : Int) < n9 := by omega
              go_wp2_with (fail)
              go_ret
              exact NO.out
          · have r1 : ¬ (j : Int) < k := by omega
            go_wp2_with (fail)
            go_ret
            exact (⟨true, rfl, fun _ => ⟨by rw [LU.out]; exact h1, by rw [LV.out]; exact h2, by rw [LS.out]; exact h3, fun i hi => HJ.out i (by rw [LS.out] at hi; omega)⟩, XA.out⟩ : GivesSm f w (.returned (.bool true)) W1)
      · have f1 : ¬ (30 : Int) < n := by omega
        have f2 : ¬ (40 : Int) < m := by omega
        have f3 : (40 : Int) < k := by omega
        have f1n : decide ((30 : Int) < n) = false := decide_eq_false f1
        have f2n : decide ((40 : Int) < m) = false := decide_eq_false f2
        go_enter Tryz.func4, Tryz.ntmps4
        go_upto_region 1 with (fail)
        rw [HW1.out]
        try rw [hg]
        go_wp2_with (fail)
        go_ret
        exact NO.out
    · have f1 : ¬ (30 : Int) < n := by omega
      have f2 : (40 : Int) < m := by omega
      have f1n : decide ((30 : Int) < n) = false := decide_eq_false f1
      have f2n : decide ((40 : Int) < m) = true := decide_eq_true f2
      go_enter Tryz.func4, Tryz.ntmps4
      go_upto_region 1 with (fail)
      rw [HW1.out]
      try rw [hg]
      go_wp2_with (fail)
      go_ret
      exact NO.out
  · have f1 : (30 : Int) < n := by omega
    have f1n : decide ((30 : Int) < n) = true := decide_eq_true f1
    go_enter Tryz.func4, Tryz.ntmps4
    go_upto_region 1 with (fail)
    rw [HW1.out]
    try rw [hg]
    go_wp2_with (fail)
    go_ret
    exact NO.out
end Go.Proofs.YtfpglkacjecoeaaGreat
