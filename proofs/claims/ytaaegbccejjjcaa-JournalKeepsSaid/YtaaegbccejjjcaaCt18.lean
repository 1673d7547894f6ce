/- Several texts in one: What a journal has in memory: its box, its base, its records; what its methods leave alone. No statement of the seat is proved here. The contracts of journal's need and sector. -/
import Derived.Test.YtaaegbccejjjcaaCt16
import Derived.Test.YtaaegbccejjjcaaCt17
namespace Go.Proofs.Ytaaegbccejjjcaa
open Go.RowKit Go.Maps Go.Sort Go.Shelf

/-- All but the blocks of a kind is as it was. -/
structure Ch (Z : Nat → Prop) (w w' : World) : Prop where
  os : w'.os = w.os
  tape : w'.tape = w.tape
  output : w'.output = w.output
  size : w.heap.size ≤ w'.heap.size
  block : ∀ q, q < w.heap.size → ¬ Z q → w'.heap[q]? = w.heap[q]?
section
variable {Z Y : Nat → Prop} {w w' w'' : World}
theorem Ch.refl (Z : Nat → Prop) (w : World) : Ch Z w w := ⟨rfl, rfl, rfl, Nat.le_refl _, fun _ _ _ => rfl⟩
theorem Ch.of (h : Ext w w') (Z : Nat → Prop) : Ch Z w w' := ⟨h.os, h.tape, h.output, h.size, fun q hq _ => h.block q hq⟩
theorem Ch.trans (h : Ch Z w w') (k : Ch Z w' w'') : Ch Z w w'' :=
  ⟨k.os.trans h.os, k.tape.trans h.tape, k.output.trans h.output, Nat.le_trans h.size k.size, fun q hq hz => (k.block q (Nat.lt_of_lt_of_le hq h.size) hz).trans (h.block q hq hz)⟩
theorem Ch.mono (h : Ch Y w w') (hy : ∀ q, q < w.heap.size → Y q → Z q) : Ch Z w w' := ⟨h.os, h.tape, h.output, h.size, fun q hq hz => h.block q hq (fun y => hz (hy q hq y))⟩
theorem Ch.kp {g m b : Nat} (h : Kp g m b w w') (hz : Z g ∧ Z m ∧ Z b) : Ch Z w w' :=
  ⟨h.os, h.tape, h.output, h.size, fun q hq hn => h.block q hq (fun e => hn (e ▸ hz.1)) (fun e => hn (e ▸ hz.2.1)) (fun e => hn (e ▸ hz.2.2))⟩
theorem Ch.set (h : Ch Z w w') {p : Addr} (hp : Z p.block ∨ w.heap.size ≤ p.block) (u : Value) : Ch Z w (w'.setCell p u) :=
  have q := Below.setCell (Below.refl 0 w') (Nat.zero_le p.block) u
  ⟨q.os.trans h.os, q.tape.trans h.tape, q.output.trans h.output, Nat.le_trans h.size q.size, fun i hi hz => (heap_setCell_other w' p i u (fun e => by subst e; rcases hp with e | e; exact hz e; omega)).trans (h.block i hi hz)⟩
theorem Ch.grown (h : Ch Z w w') {row : Option Nat} (hg : w'.grownBy w'' row) (hr : ∀ q, row = some q → Z q ∨ w.heap.size ≤ q) : Ch Z w w'' :=
  ⟨hg.os.trans h.os, hg.tape.trans h.tape, hg.output.trans h.output, Nat.le_trans h.size hg.size, fun q hq hz => (hg.block q (Nat.lt_of_lt_of_le hq h.size) (fun e => by rcases hr q e.symm with e | e; exact hz e; omega)).trans (h.block q hq hz)⟩
theorem Ch.ext {w0 : World} (h : Ch Z w w') (hx : Ext w0 w) (hz : ∀ q, Z q → w0.heap.size ≤ q) : Ext w0 w' :=
  ⟨h.os.trans hx.os, h.tape.trans hx.tape, h.output.trans hx.output, Nat.le_trans hx.size h.size, fun q hq => (h.block q (Nat.lt_of_lt_of_le hq hx.size) (fun z => by have := hz q z; omega)).trans (hx.block q hq)⟩
theorem Ch.thenExt (h : Ch Z w w') (k : Ext w' w'') : Ch Z w w'' := h.trans (Ch.of k Z)
/-- What a slice leads to is there, and in no block of a kind. -/
def Cold (Z : Nat → Prop) (w : World) (A : Option Addr) (n : Nat) : Prop := 0 < n → ∀ q, (A.map (·.block)) = some q → q < w.heap.size ∧ ¬ Z q
theorem Cold.ch {A : Option Addr} {n : Nat} (h : Cold Z w A n) (k : w.heap.size ≤ w'.heap.size) : Cold Z w' A n := fun hn q hq => ⟨Nat.lt_of_lt_of_le (h hn q hq).1 k, (h hn q hq).2⟩
theorem Cold.mono {A : Option Addr} {n : Nat} (h : Cold Z w A n) (hy : ∀ q, q < w.heap.size → Y q → Z q) : Cold Y w A n := fun hn q hq => ⟨(h hn q hq).1, fun y => (h hn q hq).2 (hy q (h hn q hq).1 y)⟩
theorem Cold.none (Z : Nat → Prop) (w : World) (n : Nat) : Cold Z w none n := fun _ q hq => by cases hq
theorem Cold.zero (Z : Nat → Prop) (w : World) (A : Option Addr) : Cold Z w A 0 := fun h => absurd h (Nat.lt_irrefl 0)
theorem Bs.block {A : Option Addr} {n c : Nat} {l : List UInt8} (h : Bs w A n c l) (hn : 0 < n) {q : Nat} (hq : (A.map (·.block)) = some q) : q < w.heap.size := by
  obtain ⟨b, off, e, hc⟩ := h.rd.2 hn
  have h0 := World.block_lt_of_cell? _ _ (hc 0 _ (by rw [dk_bcells_get (by rw [h.len]; exact hn)]))
  rw [e] at hq
  injection hq with hq
  have hq : b = q := hq
  rw [← hq]
  exact h0
/-- What came in lies ahead of all that is hot. -/
theorem Cold.old {A : Option Addr} {n c : Nat} {l : List UInt8} {w0 : World} (h : Bs w0 A n c l) (hx : Ext w0 w) (hz : ∀ q, Z q → w0.heap.size ≤ q) : Cold Z w A n := fun hn q hq => by
  have := h.block hn hq
  exact ⟨Nat.lt_of_lt_of_le this hx.size, fun z => by have := hz q z; omega⟩
/-- What is newer than all that is hot. -/
theorem Cold.fresh {g o n : Nat} {w0 : World} (hg : w0.heap.size ≤ g) (hl : g < w.heap.size) (hz : ∀ q, Z q → q < w0.heap.size) : Cold Z w (some ⟨g, o, .none⟩) n := fun _ q hq => by
  injection hq with hq
  have hq : g = q := hq
  exact ⟨by omega, fun z => by have := hz q z; omega⟩
theorem Bs.ch {A : Option Addr} {n c : Nat} {l : List UInt8} (h : Bs w A n c l) (k : Ch Z w w') (hc : Cold Z w A n) : Bs w' A n c l := by
  refine ⟨h.len, h.le, h.max, h.rd.1, fun hn => ?_⟩
  obtain ⟨b, off, e, hcc⟩ := h.rd.2 hn
  obtain ⟨h1, h2⟩ := hc hn b (by rw [e]; rfl)
  refine ⟨b, off, e, fun j u hu => ?_⟩
  rw [World.cell?_of_block (a := ⟨b, off + j, .none⟩) (k.block b h1 h2)]
  exact hcc j u hu
theorem own_ch {base size n : Nat} {e : TypeId} {v : Value} {xs : List Value} (h : w.ownsRow base e size v n xs) (k : Ch Z w w') (hv : ∀ q, v.ownBlock = some q → ¬ Z q) : w'.ownsRow base e size v n xs := by
  refine ⟨h.1, ?_⟩
  rcases h.2 with h1 | ⟨b, cap, cur, h1, h2, h3, h4⟩
  · exact .inl h1
  · refine .inr ⟨b, cap, cur, h1, h2, ?_, h4⟩
    have hb : b < w.heap.size := (Array.getElem?_eq_some_iff.1 h3).1
    rw [k.block b hb (hv b (by rw [h1]; rfl))]
    exact h3
/-- Records: a row of one's own; what it leads to is in no block of a kind. -/
def Rw (Z : Nat → Prop) (w : World) (v : Value) (l : List (List UInt8)) : Prop :=
  ∃ cs, w.ownsRow 0 32 1 v l.length cs ∧ ∀ i, i < l.length → ∃ A n c, cs[i]? = some (.slice A n c) ∧ Bs w A n c (Gm.row l i) ∧ Cold Z w A n
theorem Rw.nil (Z : Nat → Prop) (w : World) : Rw Z w (.slice none 0 0) [] := ⟨[], World.ownsRow_nil _ _ _ _, fun i hi => absurd hi (Nat.not_lt_zero _)⟩
theorem Rw.ch {v : Value} {l : List (List UInt8)} (h : Rw Z w v l) (k : Ch Y w w') (hy : ∀ q, Y q → Z q) (hv : ∀ q, v.ownBlock = some q → ¬ Y q) : Rw Z w' v l := by
  obtain ⟨cs, h1, h2⟩ := h
  refine ⟨cs, own_ch h1 k hv, fun i hi => ?_⟩
  obtain ⟨A, n, c, e, hb, hc⟩ := h2 i hi
  exact ⟨A, n, c, e, hb.ch k (hc.mono fun q _ => hy q), hc.ch k.size⟩
theorem Rw.mono {v : Value} {l : List (List UInt8)} (h : Rw Z w v l) (hy : ∀ q, q < w.heap.size → Y q → Z q) : Rw Y w v l := by
  obtain ⟨cs, h1, h2⟩ := h
  refine ⟨cs, h1, fun i hi => ?_⟩
  obtain ⟨A, n, c, e, hb, hc⟩ := h2 i hi
  exact ⟨A, n, c, e, hb, hc.mono hy⟩
theorem Rw.mx {v : Value} {l : List (List UInt8)} (h : Rw Z w v l) : ∃ A c, v = .slice A l.length c ∧ Mx w A l.length c l := by
  obtain ⟨cs, h1, h2⟩ := h
  obtain ⟨A, c, rfl, q1, q2⟩ := ownsRow_slice h1
  have hlen : cs.length = l.length := by have := h1.1; omega
  refine ⟨A, c, rfl, rfl, q1, q2, cs, Rd.of_own h1, hlen, fun i hi => ?_⟩
  obtain ⟨B, n, d, e, hb, _⟩ := h2 i hi
  exact ⟨B, n, d, e, hb⟩
end

/-- The blocks that a journal's methods may turn. -/
def Hot (p g m b : Nat) (o : Option Nat) (q : Nat) : Prop := q = p ∨ q = g ∨ q = m ∨ q = b ∨ o = some q
theorem Hot.mono {p g m b : Nat} {o o' : Option Nat} {k : Nat} (h : o' = o ∨ ∀ q, o' = some q → k ≤ q) : ∀ q, q < k → Hot p g m b o' q → Hot p g m b o q := fun q hq z => by
  rcases z with z | z | z | z | z
  · exact .inl z
  · exact .inr (.inl z)
  · exact .inr (.inr (.inl z))
  · exact .inr (.inr (.inr (.inl z)))
  · rcases h with h | h
    · rw [h] at z; exact .inr (.inr (.inr (.inr z)))
    · have := h q z; omega
theorem Hot.disk (p g m b : Nat) (o : Option Nat) : Hot p g m b o g ∧ Hot p g m b o m ∧ Hot p g m b o b := ⟨.inr (.inl rfl), .inr (.inr (.inl rfl)), .inr (.inr (.inr (.inl rfl)))⟩
/-- The cells of a journal's box. -/
abbrev jcells (g : Nat) (j : Jo.J) (A : Option Addr) (c : Nat) (v : Value) (over : Bool) : Array Value :=
  #[dptr g, .int .i64 (j.half : Int), .int .i64 (j.from_ : Int), .int .i64 (j.next : Int), .int .i64 (j.life : Int), .slice A j.base.length c, v, .bool over]
/-- Box p holds the journal of the disk in box g. -/
structure Jn (w : World) (p g m b N : Nat) (o : Option Nat) (j : Jo.J) (over : Bool) (d : Disks.D) : Prop where
  ds : Ds w g m b N d
  mem : ∃ A c v, w.heap[p]? = some (.cells (jcells g j A c v over) 50 (0, 0)) ∧ Bs w A j.base.length c j.base ∧ Cold (Hot p g m b o) w A j.base.length ∧ v.ownBlock = o ∧ Rw (Hot p g m b o) w v j.recs
  sep : p ≠ g ∧ p ≠ m ∧ p ≠ b ∧ ∀ q, o = some q → q ≠ g ∧ q ≠ m ∧ q ≠ b ∧ q ≠ p
section
variable {w w' : World} {p g m b N : Nat} {o : Option Nat} {j : Jo.J} {over : Bool} {d : Disks.D}
theorem Jn.lt (h : Jn w p g m b N o j over d) : ∀ q, Hot p g m b o q → q < w.heap.size := fun q z => by
  obtain ⟨A, c, v, hb, _, _, ho, cs, hown, _⟩ := h.mem
  obtain ⟨l1, l2, l3⟩ := h.ds.lts
  rcases z with z | z | z | z | z
  · rw [z]; exact (Array.getElem?_eq_some_iff.1 hb).1
  · rw [z]; exact l1
  · rw [z]; exact l2
  · rw [z]; exact l3
  · exact (hown.lt q (ho.trans z)).2
theorem Jn.ext (h : Jn w p g m b N o j over d) (hx : Ext w w') : Jn w' p g m b N o j over d := by
  obtain ⟨A, c, v, hb, hbs, hc, ho, hr⟩ := h.mem
  exact ⟨h.ds.ext hx, ⟨A, c, v, (hx.block p (Array.getElem?_eq_some_iff.1 hb).1).trans hb, hbs.ext hx, hc.ch hx.size, ho, hr.ch (Ch.of hx (fun _ => False)) (fun _ f => f.elim) (fun _ _ f => f)⟩, h.sep⟩
theorem Jn.more (h : Jn w p g m b N o j over d) {N' : Nat} (hN : N ≤ N') : Jn w p g m b N' o j over d := ⟨h.ds.mono hN, h.mem, h.sep⟩
/-- The disk's methods leave the rest alone. -/
theorem Jn.disk {d' : Disks.D} {N' : Nat} (h : Jn w p g m b N o j over d) (k : Kp g m b w w') (hd : Ds w' g m b N' d') : Jn w' p g m b N' o j over d' := by
  obtain ⟨A, c, v, hb, hbs, hc, ho, hr⟩ := h.mem
  have hch : Ch (Hot p g m b o) w w' := Ch.kp k (Hot.disk ..)
  have hch2 : Ch (fun q => q = g ∨ q = m ∨ q = b) w w' := Ch.kp k ⟨.inl rfl, .inr (.inl rfl), .inr (.inr rfl)⟩
  refine ⟨hd, ⟨A, c, v, (k.block p (Array.getElem?_eq_some_iff.1 hb).1 h.sep.1 h.sep.2.1 h.sep.2.2.1).trans hb, hbs.ch hch hc, hc.ch k.size, ho, hr.ch hch2 (fun q z => ?_) (fun q hq z => ?_)⟩, h.sep⟩
  · rcases z with z | z | z
    · exact .inr (.inl z)
    · exact .inr (.inr (.inl z))
    · exact .inr (.inr (.inr (.inl z)))
  · obtain ⟨s1, s2, s3, _⟩ := h.sep.2.2.2 q (ho ▸ hq)
    rcases z with z | z | z
    · exact s1 z
    · exact s2 z
    · exact s3 z
end
end Go.Proofs.Ytaaegbccejjjcaa
namespace Jo
/-- A number's bytes put into a list, one by one. -/
def putTo (L : List UInt8) (k n : Nat) : Nat → List UInt8
  | 0 => L
  | i + 1 => (putTo L k n i).set (1 + 8 * k + i) ((be n).getD i 0)
theorem putTo_length (L : List UInt8) (k n i : Nat) : (putTo L k n i).length = L.length := by
  induction i with
  | zero => rfl
  | succ i ih => rw [putTo, List.length_set, ih]
theorem putTo_all (A : List UInt8) (k n m : Nat) (h : A.length = 1 + 8 * k) : putTo (A ++ List.replicate (m + 8) 0) k n 8 = A ++ be n ++ List.replicate m 0 := by
  have st : ∀ (B : List UInt8) (i : Nat) (x : UInt8), (A ++ B).set (1 + 8 * k + i) x = A ++ B.set i x := fun B i x => by
    rw [List.set_append_right _ _ (by omega), h, show 1 + 8 * k + i - (1 + 8 * k) = i by omega]
  simp only [putTo, st]
  rw [List.append_assoc]
  rfl
/-- The sector with the first numbers. -/
def sectTo (kd : UInt8) (l : List Nat) (k : Nat) : List UInt8 := (kd :: (l.take k).flatMap be) ++ List.replicate (63 - 8 * k) 0
theorem sectTo_step (kd : UInt8) (l : List Nat) (k : Nat) (hk : k < l.length) (h7 : l.length ≤ 7) : putTo (sectTo kd l k) k (l.getD k 0) 8 = sectTo kd l (k + 1) := by
  unfold sectTo
  rw [show 63 - 8 * k = (63 - 8 * (k + 1)) + 8 by omega, putTo_all _ _ _ _ (by rw [List.length_cons, flat_length, List.length_take, Nat.min_eq_left (by omega)]; omega), List.take_add_one, List.getElem?_eq_getElem hk, List.flatMap_append]
  have : l.getD k 0 = l[k] := by simp [hk]
  rw [this]
  simp [List.append_assoc]
theorem sectTo_length (kd : UInt8) (l : List Nat) (k : Nat) (hk : k ≤ l.length) (h7 : l.length ≤ 7) : (sectTo kd l k).length = 64 := by
  unfold sectTo
  rw [List.length_append, List.length_cons, flat_length, List.length_take, Nat.min_eq_left hk, List.length_replicate]
  omega
theorem sectTo_all (kd : UInt8) (l : List Nat) : sectTo kd l l.length = sect kd l := by
  unfold sectTo sect
  rw [List.take_length]
  rfl
theorem be_get (n : Nat) : ∀ i, i < 8 → (be n).getD i 0 = UInt8.ofNat (n / 2 ^ (8 * (7 - i))) := fun i hi => by
  unfold be
  rw [List.getD_eq_getElem?_getD, List.getElem?_map, List.getElem?_range hi]
  rfl
end Jo
namespace Go.Proofs.Ytaaegbccejjjcaa
open Go.RowKit Go.Maps Go.Sort Go.Shelf

theorem need_any (w : World) (n : Nat) (hn : n < 2 ^ 62) : Calls Try.prog 33 #[.int .i64 (n : Int)] w fun e w' => e = .returned (.int .i64 (Jo.need n : Int)) ∧ w = w' := by
  have h1 : ((n : Int) + 63 - 1).tdiv 63 = (Jo.need n : Int) := by
    rw [Int.tdiv_eq_ediv_of_nonneg (by omega)]
    unfold Jo.need
    omega
  have h2 : ((n : Int) + 63 - 1) / 63 = (Jo.need n : Int) := by unfold Jo.need; omega
  have h3 : ((n : Int) + 62) / 63 = (Jo.need n : Int) := by unfold Jo.need; omega
  go_enter Try.func33, Try.ntmps33
  go_wp2
  go_ret
  exact ⟨ret_int (by first | exact h1 | exact h2 | exact h3 | (unfold Jo.need; omega)), rfl⟩

/-- An array of bytes in a block of one's own. -/
structure Oa (T : TypeId) (w w' : World) (p : Nat) (l : List UInt8) : Prop where
  ext : Ext w w'
  le : w.heap.size ≤ p
  blk : w'.heap[p]? = some (.cells (bcells l).toArray T (0, 0))
section
variable {T : TypeId} {w w' w'' : World} {p : Nat} {l : List UInt8}
theorem Oa.lt (h : Oa T w w' p l) : p < w'.heap.size := (Array.getElem?_eq_some_iff.1 h.blk).1
theorem Oa.then (h : Oa T w w' p l) (hx : Ext w' w'') : Oa T w w'' p l := ⟨h.ext.trans hx, h.le, (hx.block p h.lt).trans h.blk⟩
theorem Oa.set (h : Oa T w w' p l) (k : Nat) (x : UInt8) : Oa T w (w'.setCell ⟨p, k, none⟩ (.int .u8 (x.toNat : Int))) p (l.set k x) := by
  refine ⟨h.ext.set_ h.le _, h.le, ?_⟩
  have := heap_setCell_same w' p k _ _ (.int .u8 (x.toNat : Int)) h.blk
  rw [this, dk_bcells_set]
  simp
theorem Oa.cell (h : Oa T w w' p l) {k : Nat} (hk : k < l.length) : w'.cell? ⟨p, k, none⟩ = some (.int .u8 ((Gf.get l k).toNat : Int)) := by
  rw [cell_of_row w' _ _ _ _ _ h.blk]
  simpa using dk_bcells_get hk
theorem Oa.fz (h : Oa T w w' p l) (k : Nat) : w'.frozen? ⟨p, k, none⟩ = false := frozen_of_row w' _ _ _ _ h.blk
theorem Oa.bs (h : Oa T w w' p l) (hl : l.length < 2 ^ 62) {n : Nat} (hn : l.length = n) : Bs w' (some ⟨p, 0, none⟩) n n l := by
  subst hn
  refine ⟨rfl, Nat.le_refl _, by omega, by rw [bcells_len]; omega, fun _ => ⟨p, 0, rfl, fun j u hu => ?_⟩⟩
  rw [cell_of_row w' _ _ _ _ _ h.blk, Nat.zero_add]
  simpa using hu
end
theorem u8w (n : Nat) : IntKind.u8.wrap (n : Int) = ((UInt8.ofNat n).toNat : Int) := wrap_u8_nat n

set_option maxRecDepth 100000 in
set_option maxHeartbeats 1000000 in
theorem put_any (w0 W : World) (q : Nat) (L : List UInt8) (h : Oa 80 w0 W q L) (hl : L.length = 64) (k n : Nat) (hk : k ≤ 6) (hn : n < 2 ^ 62) :
    Calls Try.prog 48 #[.int .i64 (k : Int), .int .i64 (n : Int), .pointer (some ⟨q, 0, none⟩)] W fun e w' => e = .returned (.tuple #[]) ∧ Oa 80 w0 w' q (Jo.putTo L k n 8) := by
  have hwn : IntKind.u64.wrap (n : Int) = (n : Int) := IntWalk.u64_in _ (by omega)
  have HO := Lib.hid h
  have HL := Lib.hid hl
  clear h hl
  go_enter Try.func48, Try.ntmps48
  go_wp2_with (fail)
  go_loopw [6] (fun s6 wr => ∃ i : Nat, i ≤ 8 ∧ s6 = .int .i64 (i : Int) ∧ RowKit.Hid (Oa 80 w0 wr q (Jo.putTo L k n i))) (fun s6 _ => 8 - (intOf s6).toNat)
  case atStart => exact ⟨0, by omega, rfl, HO⟩
  case round =>
    obtain ⟨i, hi, rfl, H⟩ := hrel
    by_cases hlt : i < 8
    · have hset := fun (y : Nat) (hy : (Jo.be n).getD i 0 = UInt8.ofNat y) => (show Oa 80 w0 (wr.setCell ⟨q, 1 + 8 * k + i, none⟩ (.int .u8 ((UInt8.ofNat y).toNat : Int))) q (Jo.putTo L k n (i + 1)) from by rw [Jo.putTo, hy]; exact H.out.set (1 + 8 * k + i) (UInt8.ofNat y))
      have hc := H.out.cell (k := 1 + 8 * k + i) (by rw [Jo.putTo_length, HL.out]; omega)
      have hf := H.out.fz (1 + 8 * k + i)
      have hg := Jo.be_get n i hlt
      obtain ⟨z, hz⟩ : ∃ z, ((Gf.get (Jo.putTo L k n i) (1 + 8 * k + i)).toNat : Int) = z := ⟨_, rfl⟩
      rw [hz] at hc
      clear hz
      rcases (show i = 0 ∨ i = 1 ∨ i = 2 ∨ i = 3 ∨ i = 4 ∨ i = 5 ∨ i = 6 ∨ i = 7 by omega) with rfl | rfl | rfl | rfl | rfl | rfl | rfl | rfl
      · obtain ⟨y, hy⟩ : ∃ y, n / 72057594037927936 = y := ⟨_, rfl⟩
        have hgy : (Jo.be n).getD 0 0 = UInt8.ofNat y := by rw [hg, ← hy]
        have HS := Lib.hid (hset y hgy)
        have hq : (n : Int) / 72057594037927936 = (y : Int) := by omega
        have hw := u8w y
        try simp only [Nat.add_zero] at hc hf HS
        clear hy hgy hg hset
        go_wp2_with (fail)
        exact ⟨⟨1, by omega, rfl, HS⟩, by simp [intOf]⟩
      · obtain ⟨y, hy⟩ : ∃ y, n / 281474976710656 = y := ⟨_, rfl⟩
        have hgy : (Jo.be n).getD 1 0 = UInt8.ofNat y := by rw [hg, ← hy]
        have HS := Lib.hid (hset y hgy)
        have hq : (n : Int) / 281474976710656 = (y : Int) := by omega
        have hw := u8w y
        try simp only [Nat.add_zero] at hc hf HS
        clear hy hgy hg hset
        go_wp2_with (fail)
        exact ⟨⟨2, by omega, rfl, HS⟩, by simp [intOf]⟩
      · obtain ⟨y, hy⟩ : ∃ y, n / 1099511627776 = y := ⟨_, rfl⟩
        have hgy : (Jo.be n).getD 2 0 = UInt8.ofNat y := by rw [hg, ← hy]
        have HS := Lib.hid (hset y hgy)
        have hq : (n : Int) / 1099511627776 = (y : Int) := by omega
        have hw := u8w y
        try simp only [Nat.add_zero] at hc hf HS
        clear hy hgy hg hset
        go_wp2_with (fail)
        exact ⟨⟨3, by omega, rfl, HS⟩, by simp [intOf]⟩
      · obtain ⟨y, hy⟩ : ∃ y, n / 4294967296 = y := ⟨_, rfl⟩
        have hgy : (Jo.be n).getD 3 0 = UInt8.ofNat y := by rw [hg, ← hy]
        have HS := Lib.hid (hset y hgy)
        have hq : (n : Int) / 4294967296 = (y : Int) := by omega
        have hw := u8w y
        try simp only [Nat.add_zero] at hc hf HS
        clear hy hgy hg hset
        go_wp2_with (fail)
        exact ⟨⟨4, by omega, rfl, HS⟩, by simp [intOf]⟩
      · obtain ⟨y, hy⟩ : ∃ y, n / 16777216 = y := ⟨_, rfl⟩
        have hgy : (Jo.be n).getD 4 0 = UInt8.ofNat y := by rw [hg, ← hy]
        have HS := Lib.hid (hset y hgy)
        have hq : (n : Int) / 16777216 = (y : Int) := by omega
        have hw := u8w y
        try simp only [Nat.add_zero] at hc hf HS
        clear hy hgy hg hset
        go_wp2_with (fail)
        exact ⟨⟨5, by omega, rfl, HS⟩, by simp [intOf]⟩
      · obtain ⟨y, hy⟩ : ∃ y, n / 65536 = y := ⟨_, rfl⟩
        have hgy : (Jo.be n).getD 5 0 = UInt8.ofNat y := by rw [hg, ← hy]
        have HS := Lib.hid (hset y hgy)
        have hq : (n : Int) / 65536 = (y : Int) := by omega
        have hw := u8w y
        try simp only [Nat.add_zero] at hc hf HS
        clear hy hgy hg hset
        go_wp2_with (fail)
        exact ⟨⟨6, by omega, rfl, HS⟩, by simp [intOf]⟩
      · obtain ⟨y, hy⟩ : ∃ y, n / 256 = y := ⟨_, rfl⟩
        have hgy : (Jo.be n).getD 6 0 = UInt8.ofNat y := by rw [hg, ← hy]
        have HS := Lib.hid (hset y hgy)
        have hq : (n : Int) / 256 = (y : Int) := by omega
        have hw := u8w y
        try simp only [Nat.add_zero] at hc hf HS
        clear hy hgy hg hset
        go_wp2_with (fail)
        exact ⟨⟨7, by omega, rfl, HS⟩, by simp [intOf]⟩
      · obtain ⟨y, hy⟩ : ∃ y, n / 1 = y := ⟨_, rfl⟩
        have hgy : (Jo.be n).getD 7 0 = UInt8.ofNat y := by rw [hg, ← hy]
        have HS := Lib.hid (hset y hgy)
        have hq : (n : Int) / 1 = (y : Int) := by omega
        have hw := u8w y
        try simp only [Nat.add_zero] at hc hf HS
        obtain rfl : n = y := by rw [← hy]; omega
        clear hq
        clear hy hgy hg hset
        go_wp2_with (fail)
        exact ⟨⟨8, by omega, rfl, HS⟩, by simp [intOf]⟩
    · have i1 : ¬ (i : Int) < 8 := by omega
      obtain rfl : i = 8 := by omega
      go_wp2_with (fail)
      refine bodyPost_end (results_none rfl _ _ _) rfl ?_
      exact ⟨rfl, H.out⟩

def zarr : Obj := .cells (bcells (List.replicate 64 0)).toArray 80 (0, 0)
theorem run_alloc_arr (w : World) : (Instr.alloc 80 true (.tuple #[])).run Try.prog w = .ok (.pointer (some ⟨w.heap.size, 0, none⟩)) (w.alloc zarr) := by kernel_rfl
/-- A row of numbers, whole. -/
def nints (l : List Nat) : List Int := l.map fun (x : Nat) => (x : Int)
theorem nints_get {l : List Nat} {k : Nat} (h : k < l.length) : Il.get (nints l) k = ((l.getD k 0 : Nat) : Int) := by
  unfold Il.get nints
  simp [h]
set_option maxRecDepth 100000 in
set_option maxHeartbeats 1000000 in
theorem sector_any (w : World) (kd : UInt8) (A : Option Addr) (n c : Nat) (l : List Nat) (hl : Is w A n c (nints l)) (h7 : n ≤ 7) (hs : ∀ x ∈ l, x < 2 ^ 62) :
    Calls Try.prog 30 #[.int .u8 (kd.toNat : Int), .slice A n c] w fun e w' => ∃ q, e = .returned (.slice (some ⟨q, 0, none⟩) 64 64) ∧ Oa 80 w w' q (Jo.sect kd l) := by
  have hlen : l.length = n := by have := hl.len; unfold nints at this; rw [List.length_map] at this; exact this
  have HI := Lib.hid hl
  have HN := Lib.hid hlen
  have hm := hl.max
  have hle := hl.le
  clear hl
  obtain ⟨q, hq⟩ : ∃ q, w.heap.size = q := ⟨_, rfl⟩
  have h0 : Oa 80 w (w.alloc zarr) q (List.replicate 64 0) := ⟨Ext.alloc _ _, by omega, by rw [← hq]; exact heap_alloc_new w zarr⟩
  have HQ := Lib.hid hq
  have hc := h0.cell (k := 0) (by simp)
  have hf := h0.fz 0
  have h1 := h0.set 0 kd
  have e1 : (List.replicate 64 (0 : UInt8)).set 0 kd = Jo.sectTo kd l 0 := rfl
  rw [e1] at h1
  have H1 := Lib.hid h1
  obtain ⟨z, hz⟩ : ∃ z, ((Gf.get (List.replicate 64 (0 : UInt8)) 0).toNat : Int) = z := ⟨_, rfl⟩
  rw [hz] at hc
  obtain ⟨W, hW⟩ : ∃ W, w.alloc zarr = W := ⟨_, rfl⟩
  have hr := run_alloc_arr w
  rw [hW, hq] at hr
  rw [hW] at hc hf H1
  have HR := Lib.hid hr
  clear h0 h1 e1 hz hW hr hq
  go_enter Try.func30, Try.ntmps30
  go_wp2_with (
    (with_reducible refine opIs ⟨some 5, .alloc 80, _, _, _, _⟩ ?_); refine wpList_allocR rfl 80 rfl _ HR.out ?_)
  clear hc hf
  go_loopw [14] (fun s14 wr => ∃ k : Nat, k ≤ n ∧ s14 = .int .i64 (k : Int) ∧ RowKit.Hid (Oa 80 w wr q (Jo.sectTo kd l k))) (fun s14 _ => n - (intOf s14).toNat)
  case atStart => exact ⟨0, Nat.zero_le _, rfl, H1⟩
  case round =>
    obtain ⟨k, hk, rfl, H⟩ := hrel
    by_cases hlt : k < n
    · have t1 : (k : Int) < n := by omega
      obtain ⟨b, o, rfl, hc⟩ := (HI.out.ext H.out.ext).rd.intAt hlt
      rw [nints_get (by rw [HN.out]; exact hlt)] at hc
      have hlx : l.getD k 0 < 2 ^ 62 := hs _ (by rw [List.getD_eq_getElem?_getD, List.getElem?_eq_getElem (by rw [HN.out]; exact hlt)]; exact List.getElem_mem _)
      have hp := put_any w wr q _ H.out (Jo.sectTo_length kd l k (by rw [HN.out]; omega) (by rw [HN.out]; exact h7)) k (l.getD k 0) (by omega) hlx
      rw [Jo.sectTo_step kd l k (by rw [HN.out]; exact hlt) (by rw [HN.out]; exact h7)] at hp
      obtain ⟨x, hx⟩ : ∃ x, l.getD k 0 = x := ⟨_, rfl⟩
      rw [hx] at hp hc
      clear hx hlx
      go_wp2_with (fail)
      with_reducible refine hp.mono ?_
      rintro e w1 ⟨rfl, h1⟩
      have H1 := Lib.hid h1
      clear hp h1
      go_wp2_with (fail)
      exact ⟨⟨k + 1, by omega, by go_num, H1⟩, by simp [intOf]; omega⟩
    · have t1 : ¬ (k : Int) < n := by omega
      obtain rfl : k = n := by omega
      have e2 : Jo.sectTo kd l k = Jo.sect kd l := by rw [← HN.out]; exact Jo.sectTo_all kd l
      rw [e2] at H
      go_wp2_with (fail)
      go_ret
      exact ⟨_, rfl, H.out⟩
end Go.Proofs.Ytaaegbccejjjcaa
