/- Several texts in one: A journal in memory with a record more, or with a base in the records' stead. No statement of the seat is proved here. The contract of a journal's Append. -/
import Derived.Test.YtaaegbccejjjcaaCt23
namespace Go.Proofs.Ytaaegbccejjjcaa
open Go.RowKit Go.Maps Go.Sort Go.Shelf

section
variable {w w2 w3 : World} {p g m b N : Nat}
theorem Ds.blocks {w w' : World} {g m b N : Nat} {d : Disks.D} (h : Ds w g m b N d) (hs : w.heap.size ≤ w'.heap.size) (h1 : w'.heap[g]? = w.heap[g]?) (h2 : w'.heap[m]? = w.heap[m]?) (h3 : w'.heap[b]? = w.heap[b]?) : Ds w' g m b N d := by
  obtain ⟨nn, DD, hnn, hdd⟩ := h.ex
  exact ⟨⟨nn, DD, hnn, hdd.same hs h1 h2 h3⟩, h.ok⟩
theorem Cold.turn {Y Z : Nat → Prop} {w w' : World} {A : Option Addr} {n : Nat} (h : Cold Z w A n) (hs : w.heap.size ≤ w'.heap.size) (hy : ∀ q, q < w.heap.size → Y q → Z q) : Cold Y w' A n := fun hn q hq =>
  ⟨Nat.lt_of_lt_of_le (h hn q hq).1 hs, fun y => (h hn q hq).2 (hy q (h hn q hq).1 y)⟩
theorem jn_push {j : Jo.J} {d : Disks.D} {Ab A : Option Addr} {cb n c : Nat} {v v' : Value} {cs : List Value} {l : List UInt8}
    (hds : Ds w g m b N d) (hb : Bs w Ab j.base.length cb j.base) (hcb : Cold (Hot p g m b v.ownBlock) w Ab j.base.length)
    (hsep : p ≠ g ∧ p ≠ m ∧ p ≠ b ∧ ∀ q, v.ownBlock = some q → q ≠ g ∧ q ≠ m ∧ q ≠ b ∧ q ≠ p) (hp : p < w.heap.size)
    (hrows : ∀ i, i < j.recs.length → ∃ A n c, cs[i]? = some (.slice A n c) ∧ Bs w A n c (Gm.row j.recs i) ∧ Cold (Hot p g m b v.ownBlock) w A n) (hlen : cs.length = j.recs.length)
    (hl : Bs w A n c l) (hcl : Cold (Hot p g m b v.ownBlock) w A n)
    (ho : w2.ownsRow 0 32 1 v' (j.recs.length + 1) (cs ++ [.slice A n c])) (hg : w.grownBy w2 v.ownBlock) (hat : v'.ownBlock = v.ownBlock ∨ v'.ownBlock = some w.heap.size)
    (k : Ch (fun q => q = p) w2 w3) (jv : Jv w3 p g j.half j.from_ ((j.next + 1 + Jo.need l.length : Nat) : Int) j.life (.slice Ab j.base.length cb) v' false) :
    Jn w3 p g m b N v'.ownBlock (j.append l) false d := by
  obtain ⟨s1, s2, s3, s4⟩ := hsep
  have hch : Ch (Hot p g m b v.ownBlock) w w3 := ((Ch.refl _ w).grown hg (fun q hq => .inl (.inr (.inr (.inr (.inr hq)))))).trans (k.mono fun q _ z => .inl z)
  have hot' : ∀ q, q < w.heap.size → Hot p g m b v'.ownBlock q → Hot p g m b v.ownBlock q := Hot.mono (by
    rcases hat with e | e
    · exact .inl e
    · exact .inr fun q hq => by rw [e] at hq; injection hq with hq; omega)
  obtain ⟨l1, l2, l3⟩ := hds.lts
  have blk : ∀ q, q < w.heap.size → q ≠ p → v.ownBlock ≠ some q → w3.heap[q]? = w.heap[q]? := fun q hq h1 h2 =>
    (k.block q (Nat.lt_of_lt_of_le hq hg.size) h1).trans (hg.block q hq (fun e => h2 e.symm))
  have hsz : w.heap.size ≤ w3.heap.size := hch.size
  have hv' : ∀ q, v'.ownBlock = some q → q ≠ g ∧ q ≠ m ∧ q ≠ b ∧ q ≠ p := fun q hq => by
    rcases hat with e | e
    · exact s4 q (e ▸ hq)
    · rw [e] at hq
      injection hq with hq
      omega
  refine ⟨hds.blocks hsz (blk g l1 (fun e => s1 e.symm) (fun e => (s4 g e).1 rfl)) (blk m l2 (fun e => s2 e.symm) (fun e => (s4 m e).2.1 rfl)) (blk b l3 (fun e => s3 e.symm) (fun e => (s4 b e).2.2.1 rfl)), ⟨Ab, cb, v', jv.blk, hb.ch hch hcb, hcb.turn hsz hot', rfl, cs ++ [.slice A n c], ?_, fun i hi => ?_⟩, s1, s2, s3, hv'⟩
  · show w3.ownsRow 0 _ 1 v' (j.recs ++ [l]).length _
    rw [List.length_append, List.length_singleton]
    exact own_ch ho k (fun q hq z => (hv' q hq).2.2.2 z)
  · have hi : i < (j.recs ++ [l]).length := hi
    rw [List.length_append, List.length_singleton] at hi
    show ∃ A n c, _ ∧ Bs w3 A n c (Gm.row (j.recs ++ [l]) i) ∧ _
    by_cases hlt : i < j.recs.length
    · obtain ⟨A1, n1, c1, e, hb1, hc1⟩ := hrows i hlt
      have er : Gm.row (j.recs ++ [l]) i = Gm.row j.recs i := by simp [Gm.row, List.getElem?_append, hlt]
      rw [er]
      exact ⟨A1, n1, c1, by rw [List.getElem?_append_left (by omega)]; exact e, hb1.ch hch hc1, hc1.turn hsz hot'⟩
    · obtain rfl : i = j.recs.length := by omega
      have er : Gm.row (j.recs ++ [l]) j.recs.length = l := by simp [Gm.row]
      rw [er]
      exact ⟨A, n, c, by rw [List.getElem?_append_right (by omega), hlen, Nat.sub_self]; rfl, hl.ch hch hcl, hcl.turn hsz hot'⟩
theorem jn_point {j j' : Jo.J} {o : Option Nat} {d : Disks.D} {A : Option Addr} {c : Nat} {ov ov' : Bool} (h : Jn w p g m b N o j ov d) (hr : j'.recs = []) (hl : Bs w A j'.base.length c j'.base) (hcl : Cold (Hot p g m b o) w A j'.base.length)
    (k : Ch (fun q => q = p) w w3) (jv : Jv w3 p g j'.half j'.from_ j'.next j'.life (.slice A j'.base.length c) (.slice none 0 0) ov') : Jn w3 p g m b N none j' ov' d := by
  obtain ⟨s1, s2, s3, s4⟩ := h.sep
  obtain ⟨l1, l2, l3⟩ := h.ds.lts
  have hot' : ∀ q, q < w.heap.size → Hot p g m b none q → Hot p g m b o q := Hot.mono (.inr fun q hq => by cases hq)
  refine ⟨h.ds.blocks k.size (k.block g l1 (fun e => s1 e.symm)) (k.block m l2 (fun e => s2 e.symm)) (k.block b l3 (fun e => s3 e.symm)), ⟨A, c, _, jv.blk, hl.ch k (hcl.mono fun q _ z => .inl z), hcl.turn k.size hot', rfl, ?_⟩, s1, s2, s3, fun q hq => by cases hq⟩
  rw [hr]
  exact Rw.nil _ _
end
theorem sector_at (w : World) (kd : UInt8) (ki : Int) (hk : (kd.toNat : Int) = ki) (A : Option Addr) (n c : Nat) (l : List Nat) (hl : Is w A n c (nints l)) (h7 : n ≤ 7) (hs : ∀ x ∈ l, x < 2 ^ 62) :
    Calls Try.prog 30 #[.int .u8 ki, .slice A n c] w fun e w' => ∃ q, e = .returned (.slice (some ⟨q, 0, none⟩) 64 64) ∧ Oa 80 w w' q (Jo.sect kd l) := by
  subst hk
  exact sector_any w kd A n c l hl h7 hs
end Go.Proofs.Ytaaegbccejjjcaa
namespace Go.Proofs.Ytaaegbccejjjcaa
open Go.RowKit Go.Maps Go.Sort Go.Shelf
set_option linter.unusedSimpArgs false

theorem append_no (w : World) (v : Value) (h : NoJ w v) (A : Option Addr) (n c : Nat) :
    Calls Try.prog 12 #[v, .slice A n c] w fun e w' => e = .returned (.int .i64 1) ∧ w = w' := by
  have hr := may_no h
  clear h
  go_enter Try.func12, Try.ntmps12
  try dsimp only [List.append]
  go_wp2_with (fail)
  with_reducible refine hr.mono ?_
  rintro e w1 ⟨rfl, rfl⟩
  clear hr
  go_wp2_with (fail)
  go_ret
  exact ⟨rfl, rfl⟩
theorem append_over (w : World) (p g m b N : Nat) (o : Option Nat) (j : Jo.J) (d : Disks.D) (h : Jn w p g m b N o j true d) (A : Option Addr) (n c : Nat) :
    Calls Try.prog 12 #[.pointer (some ⟨p, 0, none⟩), .slice A n c] w fun e w' => e = .returned (.int .i64 17) ∧ w = w' := by
  have hr := may_over h
  clear h
  go_enter Try.func12, Try.ntmps12
  try dsimp only [List.append]
  go_wp2_with (fail)
  with_reducible refine hr.mono ?_
  rintro e w1 ⟨rfl, rfl⟩
  clear hr
  go_wp2_with (fail)
  go_ret
  exact ⟨rfl, rfl⟩
theorem append_full (w : World) (p g m b N : Nat) (o : Option Nat) (j : Jo.J) (d : Disks.D) (h : Jn w p g m b N o j false d) (hat : Jo.At d j) (A : Option Addr) (n c : Nat) (hn : n < 2 ^ 62) (hr : j.from_ + j.half < j.next + 1 + Jo.need n) :
    Calls Try.prog 12 #[.pointer (some ⟨p, 0, none⟩), .slice A n c] w fun e w' => e = .returned (.int .i64 5) ∧ Ext w w' := by
  have hm := may_any h
  have hnd := need_any w n hn
  have hs := hat.shows
  have hrm := room_any h (by have := hs.half; omega) (by have := hs.from_; have := hs.half; omega) hs.next
  obtain ⟨K, hK⟩ : ∃ K, Jo.need n = K := ⟨_, rfl⟩
  rw [hK] at hnd hr
  obtain ⟨R, hR⟩ : ∃ R, j.from_ + j.half - j.next = R := ⟨_, rfl⟩
  rw [hR] at hrm
  have t1 : (R : Int) < 1 + (K : Int) := by omega
  have hK2 : K < 2 ^ 60 := by rw [← hK]; unfold Jo.need; omega
  clear h hat hs hr hR hK
  go_enter Try.func12, Try.ntmps12
  try dsimp only [List.append]
  go_wp2_with (fail)
  with_reducible refine hm.mono ?_
  rintro e w1 ⟨rfl, rfl⟩
  clear hm
  go_wp2_with (fail)
  with_reducible refine hnd.mono ?_
  rintro e w1 ⟨rfl, rfl⟩
  clear hnd
  go_wp2_with (fail)
  with_reducible refine hrm.mono ?_
  rintro e w1 ⟨rfl, x1⟩
  have X1 := Lib.hid x1
  clear hrm x1
  go_wp2_with (fail)
  go_ret
  exact ⟨rfl, X1.out⟩

def GivesAp (w : World) (p g m b N : Nat) (o : Option Nat) (j : Jo.J) (l : List UInt8) (st : Disks.D × Int) (e : Ending) (w' : World) : Prop :=
  e = .returned (.int .i64 st.2) ∧ ∃ o', (o' = o ∨ ∀ q, o' = some q → w.heap.size ≤ q) ∧ Jn w' p g m b (N + Jo.need l.length + 1) o' (if st.2 = 0 then j.append l else j) (decide (st.2 ≠ 0)) st.1 ∧ Ch (Hot p g m b o) w w'
set_option maxRecDepth 100000 in
set_option maxHeartbeats 4000000 in
theorem append_any (w : World) (p g m b N : Nat) (o : Option Nat) (j : Jo.J) (d : Disks.D) (h : Jn w p g m b N o j false d) (hat : Jo.At d j) (A : Option Addr) (n c : Nat) (l : List UInt8) (hl : Bs w A n c l) (hc : Cold (Hot p g m b o) w A n)
    (hr : j.next + 1 + Jo.need n ≤ j.from_ + j.half) (hN : N + Jo.need n + 1 < maxLen) :
    Calls Try.prog 12 #[.pointer (some ⟨p, 0, none⟩), .slice A n c] w (GivesAp w p g m b N o j l (Jo.wrote d j.next l (Jo.sect 2 [j.life, j.recs.length + 1, l.length]))) := by
  obtain ⟨i1, hi1, hy0, hy1, hy2⟩ := info_parts bytes_info24
  have hlen := hl.len
  have hle := hl.le
  have hs := hat.shows
  obtain ⟨K, hK⟩ : ∃ K, Jo.need n = K := ⟨_, rfl⟩
  have hn2 : n ≤ 63 * K := by rw [← hK]; unfold Jo.need; omega
  rw [hK] at hr hN
  have hh := hs.half
  have hfr := hs.from_
  have hlf := hs.life
  have hrl : j.recs.length ≤ 65536 := by
    have h1 := hs.lays.room
    have h2 := Jo.room_len j.recs
    have := hs.next
    omega
  have hm := may_any h
  have hnd := need_any w n (by omega)
  have hrm := room_any h (by omega) (by omega) hs.next
  rw [hK] at hnd
  obtain ⟨R, hR⟩ : ∃ R, j.from_ + j.half - j.next = R := ⟨_, rfl⟩
  rw [hR] at hrm
  have t1 : ¬ (R : Int) < 1 + (K : Int) := by have := hs.next; omega
  have NB := Lib.hid (show j.half ≤ 32768 ∧ j.from_ ≤ 32768 ∧ j.next ≤ 65536 ∧ j.life ≤ 2 ^ 40 ∧ j.recs.length ≤ 65536 ∧ K ≤ 32768 ∧ n ≤ 63 * K ∧ j.next + 1 + K ≤ 65536 by have := hs.next; have := hs.lays.le; omega)
  have hK2 : K ≤ 32768 := by have := NB.out; omega
  have H := Lib.hid h
  have HL := Lib.hid hl
  have HC := Lib.hid hc
  have HK := Lib.hid hK
  have HNN := Lib.hid hN
  have LL := Lib.hid hlen
  clear h hat hs hr hR hK hl hc hN hlen hh hfr hlf hrl hn2 hle
  go_enter Try.func12, Try.ntmps12
  try dsimp only [List.append]
  go_wp2_with (fail)
  with_reducible refine hm.mono ?_
  rintro e w1 ⟨rfl, rfl⟩
  clear hm
  go_wp2_with (fail)
  with_reducible refine hnd.mono ?_
  rintro e w1 ⟨rfl, rfl⟩
  clear hnd
  go_wp2_with (fail)
  with_reducible refine hrm.mono ?_
  rintro e w1 ⟨rfl, x1⟩
  have X1 := Lib.hid x1
  have H1 := Lib.hid (H.out.ext x1)
  clear hrm x1
  go_wp2_with (fail)
  clear t1
  obtain ⟨Ab, cb, v, jv, hbb, hcb, hvo, hrw⟩ := H1.out.jv
  obtain ⟨cs, ow, rows⟩ := hrw
  obtain ⟨D, dd, rfl, _, _⟩ := ownsRow_slice ow
  have JV := Lib.hid jv
  have VO := Lib.hid hvo
  clear jv hvo ow rows cs hbb hcb
  have WR1 := Lib.hid (show IntKind.i64.wrap ((j.recs.length : Int) + 1) = (j.recs.length : Int) + 1 from IntWalk.i64_in _ (by have := NB.out; omega))
  have hS0 : (fun W : World => Hid (Jv W p g j.half j.from_ j.next j.life (.slice Ab j.base.length cb) (.slice D j.recs.length dd) false)) w1.drew := Lib.hid (JV.out.ext (Ext.drew w1))
  refine wp_region_T (S := (fun W : World => Hid (Jv W p g j.half j.from_ j.next j.life (.slice Ab j.base.length cb) (.slice D j.recs.length dd) false))) 20 rfl rfl ?_
  refine takeC [] (i := 0) (v := ?_) rfl (by kernel_rfl) (by kernel_rfl) (by kernel_rfl) (by kernel_rfl) (by decide) (fun _ _ _ h => h) (by kernel_rfl) (Or.inl ⟨by kernel_rfl, ?_⟩) (by assumption) ?_
  rotate_left
  · (intro W9 hSw; go_simp; (try with_reducible rfl))
  try simp only [Act.put, List.getElem_toArray, List.getElem_cons_succ, List.getElem_cons_zero, List.setIfInBounds_toArray, List.set_cons_zero, List.set_cons_succ]
  refine takeC [4,3,2] (i := 1) (v := ?_) rfl (by kernel_rfl) (by kernel_rfl) (by kernel_rfl) (by kernel_rfl) (by decide) (fun _ _ _ h => h) (by kernel_rfl) (Or.inl ⟨by kernel_rfl, ?_⟩) (by assumption) ?_
  rotate_left
  · (intro W9 hSw; go_simp; (try with_reducible rfl))
  try simp only [Act.put, List.getElem_toArray, List.getElem_cons_succ, List.getElem_cons_zero, List.setIfInBounds_toArray, List.set_cons_zero, List.set_cons_succ]
  refine takeC [4,3] (i := 2) (v := ?_) rfl (by kernel_rfl) (by kernel_rfl) (by kernel_rfl) (by kernel_rfl) (by decide) (fun _ _ _ h => h) (by kernel_rfl) (Or.inl ⟨by kernel_rfl, ?_⟩) (by assumption) ?_
  rotate_left
  · (intro W9 hSw; go_simp; (try with_reducible rfl))
  try simp only [Act.put, List.getElem_toArray, List.getElem_cons_succ, List.getElem_cons_zero, List.setIfInBounds_toArray, List.set_cons_zero, List.set_cons_succ]
  refine takeC [4] (i := 3) (v := ?_) rfl (by kernel_rfl) (by kernel_rfl) (by kernel_rfl) (by kernel_rfl) (by decide) (fun _ _ _ h => h) (by kernel_rfl) (Or.inl ⟨by kernel_rfl, ?_⟩) (by assumption) ?_
  rotate_left
  · (intro W9 hSw; go_simp; (try with_reducible rfl))
  try simp only [Act.put, List.getElem_toArray, List.getElem_cons_succ, List.getElem_cons_zero, List.setIfInBounds_toArray, List.set_cons_zero, List.set_cons_succ]
  refine takeC [] (i := 4) (v := ?_) rfl (by kernel_rfl) (by kernel_rfl) (by kernel_rfl) (by kernel_rfl) (by decide) (fun _ _ _ h => h) (by kernel_rfl) (Or.inl ⟨by kernel_rfl, ?_⟩) (by assumption) ?_
  rotate_left
  · (intro W9 hSw; (have k3 := hSw.out.c3; clear hSw; skip); go_simp; (try with_reducible rfl))
  try simp only [Act.put, List.getElem_toArray, List.getElem_cons_succ, List.getElem_cons_zero, List.setIfInBounds_toArray, List.set_cons_zero, List.set_cons_succ]
  refine takeC [] (i := 5) (v := ?_) rfl (by kernel_rfl) (by kernel_rfl) (by kernel_rfl) (by kernel_rfl) (by decide) (fun _ _ _ h => h) (by kernel_rfl) (Or.inl ⟨by kernel_rfl, ?_⟩) (by assumption) ?_
  rotate_left
  · (intro W9 hSw; go_simp; (try with_reducible rfl))
  try simp only [Act.put, List.getElem_toArray, List.getElem_cons_succ, List.getElem_cons_zero, List.setIfInBounds_toArray, List.set_cons_zero, List.set_cons_succ]
  refine takeC [19,18,9,8,7] (i := 6) (v := ?_) rfl (by kernel_rfl) (by kernel_rfl) (by kernel_rfl) (by kernel_rfl) (by decide) (fun _ _ _ h => h) (by kernel_rfl) (Or.inl ⟨by kernel_rfl, ?_⟩) (by assumption) ?_
  rotate_left
  · (intro W9 hSw; go_simp; (try with_reducible rfl))
  try simp only [Act.put, List.getElem_toArray, List.getElem_cons_succ, List.getElem_cons_zero, List.setIfInBounds_toArray, List.set_cons_zero, List.set_cons_succ]
  refine takeC [19,18,9,8] (i := 7) (v := ?_) rfl (by kernel_rfl) (by kernel_rfl) (by kernel_rfl) (by kernel_rfl) (by decide) (fun _ _ _ h => h) (by kernel_rfl) (Or.inl ⟨by kernel_rfl, ?_⟩) (by assumption) ?_
  rotate_left
  · (intro W9 hSw; go_simp; (try with_reducible rfl))
  try simp only [Act.put, List.getElem_toArray, List.getElem_cons_succ, List.getElem_cons_zero, List.setIfInBounds_toArray, List.set_cons_zero, List.set_cons_succ]
  refine takeC [19,18,9] (i := 8) (v := ?_) rfl (by kernel_rfl) (by kernel_rfl) (by kernel_rfl) (by kernel_rfl) (by decide) (fun _ _ _ h => h) (by kernel_rfl) (Or.inl ⟨by kernel_rfl, ?_⟩) (by assumption) ?_
  rotate_left
  · (intro W9 hSw; go_simp; (try with_reducible rfl))
  try simp only [Act.put, List.getElem_toArray, List.getElem_cons_succ, List.getElem_cons_zero, List.setIfInBounds_toArray, List.set_cons_zero, List.set_cons_succ]
  refine takeC [19,18] (i := 9) (v := ?_) rfl (by kernel_rfl) (by kernel_rfl) (by kernel_rfl) (by kernel_rfl) (by decide) (fun _ _ _ h => h) (by kernel_rfl) (Or.inl ⟨by kernel_rfl, ?_⟩) (by assumption) ?_
  rotate_left
  · (intro W9 hSw; (have k4 := hSw.out.c4; clear hSw; skip); go_simp; (try with_reducible rfl))
  try simp only [Act.put, List.getElem_toArray, List.getElem_cons_succ, List.getElem_cons_zero, List.setIfInBounds_toArray, List.set_cons_zero, List.set_cons_succ]
  refine takeC [19,18,15,14,13,12,11] (i := 10) (v := ?_) rfl (by kernel_rfl) (by kernel_rfl) (by kernel_rfl) (by kernel_rfl) (by decide) (fun _ _ _ h => h) (by kernel_rfl) (Or.inl ⟨by kernel_rfl, ?_⟩) (by assumption) ?_
  rotate_left
  · (intro W9 hSw; go_simp; (try with_reducible rfl))
  try simp only [Act.put, List.getElem_toArray, List.getElem_cons_succ, List.getElem_cons_zero, List.setIfInBounds_toArray, List.set_cons_zero, List.set_cons_succ]
  refine takeC [19,18,15,14,13,12] (i := 11) (v := ?_) rfl (by kernel_rfl) (by kernel_rfl) (by kernel_rfl) (by kernel_rfl) (by decide) (fun _ _ _ h => h) (by kernel_rfl) (Or.inl ⟨by kernel_rfl, ?_⟩) (by assumption) ?_
  rotate_left
  · (intro W9 hSw; go_simp; (try with_reducible rfl))
  try simp only [Act.put, List.getElem_toArray, List.getElem_cons_succ, List.getElem_cons_zero, List.setIfInBounds_toArray, List.set_cons_zero, List.set_cons_succ]
  refine takeC [19,18,15,14,13] (i := 12) (v := ?_) rfl (by kernel_rfl) (by kernel_rfl) (by kernel_rfl) (by kernel_rfl) (by decide) (fun _ _ _ h => h) (by kernel_rfl) (Or.inl ⟨by kernel_rfl, ?_⟩) (by assumption) ?_
  rotate_left
  · (intro W9 hSw; go_simp; (try with_reducible rfl))
  try simp only [Act.put, List.getElem_toArray, List.getElem_cons_succ, List.getElem_cons_zero, List.setIfInBounds_toArray, List.set_cons_zero, List.set_cons_succ]
  refine takeC [19,18,15,14] (i := 13) (v := ?_) rfl (by kernel_rfl) (by kernel_rfl) (by kernel_rfl) (by kernel_rfl) (by decide) (fun _ _ _ h => h) (by kernel_rfl) (Or.inl ⟨by kernel_rfl, ?_⟩) (by assumption) ?_
  rotate_left
  · (intro W9 hSw; (have k6 := hSw.out.c6; clear hSw; skip); go_simp; (try with_reducible rfl))
  try simp only [Act.put, List.getElem_toArray, List.getElem_cons_succ, List.getElem_cons_zero, List.setIfInBounds_toArray, List.set_cons_zero, List.set_cons_succ]
  refine takeC [19,18,15] (i := 14) (v := ?_) rfl (by kernel_rfl) (by kernel_rfl) (by kernel_rfl) (by kernel_rfl) (by decide) (fun _ _ _ h => h) (by kernel_rfl) (Or.inl ⟨by kernel_rfl, ?_⟩) (by assumption) ?_
  rotate_left
  · (intro W9 hSw; go_simp; (try with_reducible rfl))
  try simp only [Act.put, List.getElem_toArray, List.getElem_cons_succ, List.getElem_cons_zero, List.setIfInBounds_toArray, List.set_cons_zero, List.set_cons_succ]
  refine takeC [19,18] (i := 15) (v := ?_) rfl (by kernel_rfl) (by kernel_rfl) (by kernel_rfl) (by kernel_rfl) (by decide) (fun _ _ _ h => h) (by kernel_rfl) (Or.inl ⟨by kernel_rfl, ?_⟩) (by assumption) ?_
  rotate_left
  · (intro W9 hSw; (have a := WR1.out; skip); go_simp; (try with_reducible rfl))
  try simp only [Act.put, List.getElem_toArray, List.getElem_cons_succ, List.getElem_cons_zero, List.setIfInBounds_toArray, List.set_cons_zero, List.set_cons_succ]
  refine takeC [19,18,17] (i := 16) (v := ?_) rfl (by kernel_rfl) (by kernel_rfl) (by kernel_rfl) (by kernel_rfl) (by decide) (fun _ _ _ h => h) (by kernel_rfl) (Or.inl ⟨by kernel_rfl, ?_⟩) (by assumption) ?_
  rotate_left
  · (intro W9 hSw; go_simp; (try with_reducible rfl))
  try simp only [Act.put, List.getElem_toArray, List.getElem_cons_succ, List.getElem_cons_zero, List.setIfInBounds_toArray, List.set_cons_zero, List.set_cons_succ]
  refine takeC [19,18] (i := 17) (v := ?_) rfl (by kernel_rfl) (by kernel_rfl) (by kernel_rfl) (by kernel_rfl) (by decide) (fun _ _ _ h => h) (by kernel_rfl) (Or.inl ⟨by kernel_rfl, ?_⟩) (by assumption) ?_
  rotate_left
  · (intro W9 hSw; go_simp; (try with_reducible rfl))
  try simp only [Act.put, List.getElem_toArray, List.getElem_cons_succ, List.getElem_cons_zero, List.setIfInBounds_toArray, List.set_cons_zero, List.set_cons_succ]
  refine oneT (i := 18) rfl (by kernel_rfl) (fun K hK => ?_)
  rw [if_pos (by kernel_rfl)]
  have SZ3 := Lib.hid (show w1.drew.heap.size = w1.heap.size from rfl)
  go_wp2_with (fail)
  have hSa : (fun W : World => Hid (Jv W p g j.half j.from_ j.next j.life (.slice Ab j.base.length cb) (.slice D j.recs.length dd) false)) (w1.drew.alloc (.cells #[.int .i64 (j.life : Int), .int .i64 ((j.recs.length : Int) + 1), .int .i64 (n : Int)] 3)) := Lib.hid (hS0.out.ext (Ext.alloc _ _))
  have ISL := Lib.hid (Is.lit w1.drew w1.heap.size rfl (nints [j.life, j.recs.length + 1, l.length]) #[.int .i64 (j.life : Int), .int .i64 ((j.recs.length : Int) + 1), .int .i64 (n : Int)] 3 3 rfl (by rw [LL.out]; rfl) (by omega))
  obtain ⟨w3, hw3⟩ : ∃ w3, w1.drew.alloc (.cells #[.int .i64 (j.life : Int), .int .i64 ((j.recs.length : Int) + 1), .int .i64 (n : Int)] 3) = w3 := ⟨_, rfl⟩
  have X3 : RowKit.Hid (Ext w1 w3) := Lib.hid (by rw [← hw3]; exact (Ext.drew w1).thenAlloc _)
  have hw3' : (w1.alloc (.cells #[.int .i64 (j.life : Int), .int .i64 ((j.recs.length : Int) + 1), .int .i64 (n : Int)] 3)).drew = w3 := hw3
  rw [hw3] at hSa ISL
  rw [hw3']
  clear hw3 hw3'
  refine hK.out _ _ (fun _ => hSa) ?_
  clear hK K
  try simp only [Act.put, List.getElem_toArray, List.getElem_cons_succ, List.getElem_cons_zero, List.setIfInBounds_toArray, List.set_cons_zero, List.set_cons_succ]
  refine oneT (i := 19) rfl (by kernel_rfl) (fun K hK => ?_)
  rw [if_pos (by kernel_rfl)]
  have hsec := sector_at w3 2 2 rfl _ 3 3 [j.life, j.recs.length + 1, l.length] ISL.out (by omega) (fun x hx => by
    have h1 := NB.out
    have h2 := LL.out
    rcases List.mem_cons.1 hx with rfl | hx
    · omega
    · rcases List.mem_cons.1 hx with rfl | hx
      · omega
      · rcases List.mem_cons.1 hx with rfl | hx
        · omega
        · cases hx)
  have HSEC := Lib.hid hsec
  clear hsec
  go_wp2_with (fail)
  with_reducible refine HSEC.out.mono ?_
  rintro e w4 ⟨q4, rfl, oa4⟩
  have hSb : (fun W : World => Hid (Jv W p g j.half j.from_ j.next j.life (.slice Ab j.base.length cb) (.slice D j.recs.length dd) false)) w4 := Lib.hid (hSa.out.ext oa4.ext)
  have OA4 := Lib.hid oa4
  have X4 := Lib.hid ((X1.out.trans X3.out).trans oa4.ext)
  have J4 := Lib.hid (H.out.ext X4.out)
  clear oa4
  go_wp2_with (fail)
  refine hK.out _ _ (fun _ => hSb) ?_
  clear hK K
  try simp only [Act.put, List.getElem_toArray, List.getElem_cons_succ, List.getElem_cons_zero, List.setIfInBounds_toArray, List.set_cons_zero, List.set_cons_succ]
  refine oneT (i := 20) rfl (by kernel_rfl) (fun K hK => ?_)
  rw [if_pos (by kernel_rfl)]
  have hw := jwrite_any w4 p g m b N o j d J4.out j.next A n c l (HL.out.ext X4.out) (HC.out.ch X4.out.size) (some ⟨q4, 0, none⟩) 64 (Jo.sect 2 [j.life, j.recs.length + 1, l.length]) (OA4.out.bs (by rw [Jo.sect_length _ _ (by simp)]; omega) (Jo.sect_length _ _ (by simp))) (Cold.fresh (w0 := w3) OA4.out.le OA4.out.lt (fun q z => by have h1 := (H.out.ext (X1.out.trans X3.out)).lt q z; exact h1)) (by have := NB.out; omega) (by have := NB.out; omega) (by rw [HK.out]; exact HNN.out)
  have HW := Lib.hid hw
  clear hw
  go_wp2_with (fail)
  with_reducible refine HW.out.mono ?_
  rintro e w5 ⟨rfl, j5, c5⟩
  have J5 := Lib.hid j5
  have C5 := Lib.hid ((Ch.of X4.out _).trans c5)
  clear j5 c5 HW
  obtain ⟨st, hst⟩ : ∃ st, Jo.wrote d j.next l (Jo.sect 2 [j.life, j.recs.length + 1, l.length]) = st := ⟨_, rfl⟩
  rw [hst] at J5 ⊢
  have ST := Lib.hid hst
  clear hst
  go_wp2_with (fail)
  refine hK.out _ _ (fun h => absurd (show true = false from h) (by decide)) ?_
  clear hK K
  try simp only [Act.put, List.getElem_toArray, List.getElem_cons_succ, List.getElem_cons_zero, List.setIfInBounds_toArray, List.set_cons_zero, List.set_cons_succ]
  refine oneT (i := 21) rfl (by kernel_rfl) (fun K hK => ?_)
  rw [if_pos (by kernel_rfl)]
  go_wp2_with (fail)
  refine hK.out _ _ (fun h => absurd (show true = false from h) (by decide)) ?_
  clear hK K
  try simp only [Act.put, List.getElem_toArray, List.getElem_cons_succ, List.getElem_cons_zero, List.setIfInBounds_toArray, List.set_cons_zero, List.set_cons_succ]
  refine doneT (by kernel_rfl) ?_ _
  clear hS0 hSa hSb JV VO
  try clear k3
  by_cases hz : st.2 = 0
  · have HZ := Lib.hid hz
    rw [hz]
    clear hz
    go_wp2_with (fail)
    have hj5 : Jn w5 p g m b (N + Jo.need n + 1) o j false st.1 := by have := J5.out; rw [HZ.out] at this; exact this
    obtain ⟨Ab, cb, v, jv, hbb, hcb, hvo, hrw⟩ := hj5.jv
    obtain ⟨cs, ow, rows⟩ := hrw
    obtain ⟨D, dd, rfl, _, _⟩ := ownsRow_slice ow
    have JV := Lib.hid jv
    have VO := Lib.hid hvo
    have OW := Lib.hid ow
    have ROWS := Lib.hid rows
    have BB := Lib.hid hbb
    have CB := Lib.hid hcb
    have HJ5 := Lib.hid hj5
    clear jv hvo ow rows hbb hcb hj5
    have hcl := clone_any w5.drew A n c l ((HL.out.ch C5.out HC.out).ext (Ext.drew w5)) (by have := NB.out; omega)
    have HCL := Lib.hid hcl
    have CSL := Lib.hid (show cs.length = j.recs.length by have := OW.out.1; omega)
    clear hcl
    have hS0 : (fun W : World => Hid (Jv W p g j.half j.from_ j.next j.life (.slice Ab j.base.length cb) (.slice D j.recs.length dd) false)) w5.drew := Lib.hid (JV.out.ext (Ext.drew w5))
    refine wp_region_T (S := (fun W : World => Hid (Jv W p g j.half j.from_ j.next j.life (.slice Ab j.base.length cb) (.slice D j.recs.length dd) false))) 11 rfl rfl ?_
    refine takeC [] (i := 0) (v := ?_) rfl (by kernel_rfl) (by kernel_rfl) (by kernel_rfl) (by kernel_rfl) (by decide) (fun _ _ _ h => h) (by kernel_rfl) (Or.inl ⟨by kernel_rfl, ?_⟩) (by assumption) ?_
    rotate_left
    · (intro W9 hSw; go_simp; (try with_reducible rfl))
    try simp only [Act.put, List.getElem_toArray, List.getElem_cons_succ, List.getElem_cons_zero, List.setIfInBounds_toArray, List.set_cons_zero, List.set_cons_succ]
    refine takeC [] (i := 1) (v := ?_) rfl (by kernel_rfl) (by kernel_rfl) (by kernel_rfl) (by kernel_rfl) (by decide) (fun _ _ _ h => h) (by kernel_rfl) (Or.inl ⟨by kernel_rfl, ?_⟩) (by assumption) ?_
    rotate_left
    · (intro W9 hSw; go_simp; (try with_reducible rfl))
    try simp only [Act.put, List.getElem_toArray, List.getElem_cons_succ, List.getElem_cons_zero, List.setIfInBounds_toArray, List.set_cons_zero, List.set_cons_succ]
    refine takeC [] (i := 2) (v := ?_) rfl (by kernel_rfl) (by kernel_rfl) (by kernel_rfl) (by kernel_rfl) (by decide) (fun _ _ _ h => h) (by kernel_rfl) (Or.inl ⟨by kernel_rfl, ?_⟩) (by assumption) ?_
    rotate_left
    · (intro W9 hSw; go_simp; (try with_reducible rfl))
    try simp only [Act.put, List.getElem_toArray, List.getElem_cons_succ, List.getElem_cons_zero, List.setIfInBounds_toArray, List.set_cons_zero, List.set_cons_succ]
    refine takeC [] (i := 3) (v := ?_) rfl (by kernel_rfl) (by kernel_rfl) (by kernel_rfl) (by kernel_rfl) (by decide) (fun _ _ _ h => h) (by kernel_rfl) (Or.inl ⟨by kernel_rfl, ?_⟩) (by assumption) ?_
    rotate_left
    · (intro W9 hSw; go_simp; (try with_reducible rfl))
    try simp only [Act.put, List.getElem_toArray, List.getElem_cons_succ, List.getElem_cons_zero, List.setIfInBounds_toArray, List.set_cons_zero, List.set_cons_succ]
    refine takeC [] (i := 4) (v := ?_) rfl (by kernel_rfl) (by kernel_rfl) (by kernel_rfl) (by kernel_rfl) (by decide) (fun _ _ _ h => h) (by kernel_rfl) (Or.inl ⟨by kernel_rfl, ?_⟩) (by assumption) ?_
    rotate_left
    · (intro W9 hSw; (have k6 := hSw.out.c6; clear hSw; skip); go_simp; (try with_reducible rfl))
    try simp only [Act.put, List.getElem_toArray, List.getElem_cons_succ, List.getElem_cons_zero, List.setIfInBounds_toArray, List.set_cons_zero, List.set_cons_succ]
    refine takeC [] (i := 5) (v := ?_) rfl (by kernel_rfl) (by kernel_rfl) (by kernel_rfl) (by kernel_rfl) (by decide) (fun _ _ _ h => h) (by kernel_rfl) (Or.inl ⟨by kernel_rfl, ?_⟩) (by assumption) ?_
    rotate_left
    · (intro W9 hSw; go_simp; (try with_reducible rfl))
    try simp only [Act.put, List.getElem_toArray, List.getElem_cons_succ, List.getElem_cons_zero, List.setIfInBounds_toArray, List.set_cons_zero, List.set_cons_succ]
    refine oneT (i := 6) rfl (by kernel_rfl) (fun K hK => ?_)
    rw [if_pos (by kernel_rfl)]
    go_wp2_with (fail)
    with_reducible refine HCL.out.mono ?_
    rintro e w6 ⟨vn, rfl, hn⟩
    obtain ⟨An, cn, e2, _, _⟩ := ownsRow_slice hn.own
    subst e2
    have hSc : (fun W : World => Hid (Jv W p g j.half j.from_ j.next j.life (.slice Ab j.base.length cb) (.slice D j.recs.length dd) false)) w6 := Lib.hid (hS0.out.ext hn.ext)
    have HN := Lib.hid hn
    clear hn HCL
    go_wp2_with (fail)
    refine hK.out _ _ (fun _ => hSc) ?_
    clear hK K
    try simp only [Act.put, List.getElem_toArray, List.getElem_cons_succ, List.getElem_cons_zero, List.setIfInBounds_toArray, List.set_cons_zero, List.set_cons_succ]
    refine oneT (i := 7) rfl (by kernel_rfl) (fun K hK => ?_)
    rw [if_pos (by kernel_rfl)]
    go_wp2_with (fail)
    have hSd : (fun W : World => Hid (Jv W p g j.half j.from_ j.next j.life (.slice Ab j.base.length cb) (.slice D j.recs.length dd) false)) (w6.alloc (.cells #[.slice An l.length cn] 32)) := Lib.hid (hSc.out.ext (Ext.alloc _ _))
    have X7 := Lib.hid (show Ext w5 (w6.alloc (.cells #[.slice An l.length cn] 32)) from ((Ext.drew w5).trans HN.out.ext).thenAlloc _)
    have O7 := Lib.hid (ownsRow_ext OW.out X7.out)
    refine hK.out _ _ (fun _ => hSd) ?_
    clear hK K
    try simp only [Act.put, List.getElem_toArray, List.getElem_cons_succ, List.getElem_cons_zero, List.setIfInBounds_toArray, List.set_cons_zero, List.set_cons_succ]
    refine oneT (i := 8) rfl (by kernel_rfl) (fun K hK => ?_)
    refine step_append_rd _ rfl (.tmp 47) (.tmp 50) 41 rfl 0 32 i1 _ 1 24 Try.underlying41 hi1 hy0 hy1 hy2 rfl (by omega) (.slice D j.recs.length dd) j.recs.length cs (by simp [Act.eval]) O7.out (some ⟨w6.heap.size, 0, none⟩) 1 1 [.slice An l.length cn] (by simp [Act.eval]) (Rd.lit w6 _ _) (by simp [Value.oneCell']) (by have := NB.out; omega) (by have := NB.out; unfold maxLen; omega) (Nat.zero_le _) ?_
    intro vd wd od gd atd
    have hSe : (fun W : World => Hid (Jv W p g j.half j.from_ j.next j.life (.slice Ab j.base.length cb) (.slice D j.recs.length dd) false)) wd := Lib.hid ⟨(gd.block p hSd.out.lt (fun e => by have h1 := VO.out; rw [← e] at h1; exact (HJ5.out.sep.2.2.2 p h1.symm).2.2.2 rfl)).trans hSd.out.blk⟩
    have OD := Lib.hid od
    have GD := Lib.hid gd
    have ATD := Lib.hid atd
    obtain ⟨D2, dd2, rfl, _, _⟩ := ownsRow_slice od
    clear od gd atd
    refine hK.out _ _ (fun _ => hSe) ?_
    clear hK K
    try simp only [Act.put, List.getElem_toArray, List.getElem_cons_succ, List.getElem_cons_zero, List.setIfInBounds_toArray, List.set_cons_zero, List.set_cons_succ]
    refine takeC [10] (i := 9) (v := ?_) rfl (by kernel_rfl) (by kernel_rfl) (by kernel_rfl) (by kernel_rfl) (by decide) (fun _ _ _ h => h) (by kernel_rfl) (Or.inl ⟨by kernel_rfl, ?_⟩) (by assumption) ?_
    rotate_left
    · (intro W9 hSw; go_simp; (try with_reducible rfl))
    try simp only [Act.put, List.getElem_toArray, List.getElem_cons_succ, List.getElem_cons_zero, List.setIfInBounds_toArray, List.set_cons_zero, List.set_cons_succ]
    refine takeC [] (i := 10) (v := ?_) rfl (by kernel_rfl) (by kernel_rfl) (by kernel_rfl) (by kernel_rfl) (by decide) (fun _ _ _ h => h) (by kernel_rfl) (Or.inl ⟨by kernel_rfl, ?_⟩) (by assumption) ?_
    rotate_left
    · (intro W9 hSw; go_simp; (try with_reducible rfl))
    try simp only [Act.put, List.getElem_toArray, List.getElem_cons_succ, List.getElem_cons_zero, List.setIfInBounds_toArray, List.set_cons_zero, List.set_cons_succ]
    refine oneT (i := 11) rfl (by kernel_rfl) (fun K hK => ?_)
    rw [if_pos (by kernel_rfl)]
    have j6 := hSe.out.c6
    have z6 := hSe.out.fz 6
    go_wp2_with (fail)
    refine hK.out _ _ (fun h => absurd (show true = false from h) (by decide)) ?_
    clear hK K
    try simp only [Act.put, List.getElem_toArray, List.getElem_cons_succ, List.getElem_cons_zero, List.setIfInBounds_toArray, List.set_cons_zero, List.set_cons_succ]
    refine doneT (by kernel_rfl) ?_ _
    clear hS0 hSc hSd j6 z6
    have JE := Lib.hid (hSe.out.s6 (.slice D2 (j.recs.length + 1) dd2))
    have KE : RowKit.Hid (Ch (fun q => q = p) wd (wd.setCell ⟨p, 6, none⟩ (.slice D2 (j.recs.length + 1) dd2))) := Lib.hid (Ch.set (Z := fun q => q = p) (Ch.refl _ _) (p := ⟨p, 6, none⟩) (.inl rfl) _)
    obtain ⟨we, hwe⟩ : ∃ we, wd.setCell ⟨p, 6, none⟩ (.slice D2 (j.recs.length + 1) dd2) = we := ⟨_, rfl⟩
    rw [hwe] at JE KE ⊢
    clear hwe hSe
    have HND2 := Lib.hid (fun W : World => need_any W n (by have := NB.out; omega))
    rw [HK.out] at HND2
    go_wp2_with (fail)
    have WK := Lib.hid (show IntKind.i64.wrap (1 + (K : Int)) = 1 + (K : Int) ∧ IntKind.i64.wrap ((j.next : Int) + (1 + (K : Int))) = (j.next : Int) + (1 + (K : Int)) from ⟨IntWalk.i64_in _ (by have := NB.out; omega), IntWalk.i64_in _ (by have := NB.out; omega)⟩)
    have hS0 : (fun W : World => Hid (Jv W p g j.half j.from_ j.next j.life (.slice Ab j.base.length cb) (.slice D2 (j.recs.length + 1) dd2) false)) we.drew := Lib.hid (JE.out.ext (Ext.drew we))
    refine wp_region_T (S := (fun W : World => Hid (Jv W p g j.half j.from_ j.next j.life (.slice Ab j.base.length cb) (.slice D2 (j.recs.length + 1) dd2) false))) 11 rfl rfl ?_
    refine takeC [] (i := 0) (v := ?_) rfl (by kernel_rfl) (by kernel_rfl) (by kernel_rfl) (by kernel_rfl) (by decide) (fun _ _ _ h => h) (by kernel_rfl) (Or.inl ⟨by kernel_rfl, ?_⟩) (by assumption) ?_
    rotate_left
    · (intro W9 hSw; go_simp; (try with_reducible rfl))
    try simp only [Act.put, List.getElem_toArray, List.getElem_cons_succ, List.getElem_cons_zero, List.setIfInBounds_toArray, List.set_cons_zero, List.set_cons_succ]
    refine takeC [] (i := 1) (v := ?_) rfl (by kernel_rfl) (by kernel_rfl) (by kernel_rfl) (by kernel_rfl) (by decide) (fun _ _ _ h => h) (by kernel_rfl) (Or.inl ⟨by kernel_rfl, ?_⟩) (by assumption) ?_
    rotate_left
    · (intro W9 hSw; go_simp; (try with_reducible rfl))
    try simp only [Act.put, List.getElem_toArray, List.getElem_cons_succ, List.getElem_cons_zero, List.setIfInBounds_toArray, List.set_cons_zero, List.set_cons_succ]
    refine takeC [] (i := 2) (v := ?_) rfl (by kernel_rfl) (by kernel_rfl) (by kernel_rfl) (by kernel_rfl) (by decide) (fun _ _ _ h => h) (by kernel_rfl) (Or.inl ⟨by kernel_rfl, ?_⟩) (by assumption) ?_
    rotate_left
    · (intro W9 hSw; go_simp; (try with_reducible rfl))
    try simp only [Act.put, List.getElem_toArray, List.getElem_cons_succ, List.getElem_cons_zero, List.setIfInBounds_toArray, List.set_cons_zero, List.set_cons_succ]
    refine takeC [] (i := 3) (v := ?_) rfl (by kernel_rfl) (by kernel_rfl) (by kernel_rfl) (by kernel_rfl) (by decide) (fun _ _ _ h => h) (by kernel_rfl) (Or.inl ⟨by kernel_rfl, ?_⟩) (by assumption) ?_
    rotate_left
    · (intro W9 hSw; (have k3 := hSw.out.c3; clear hSw; skip); go_simp; (try with_reducible rfl))
    try simp only [Act.put, List.getElem_toArray, List.getElem_cons_succ, List.getElem_cons_zero, List.setIfInBounds_toArray, List.set_cons_zero, List.set_cons_succ]
    refine takeC [] (i := 4) (v := ?_) rfl (by kernel_rfl) (by kernel_rfl) (by kernel_rfl) (by kernel_rfl) (by decide) (fun _ _ _ h => h) (by kernel_rfl) (Or.inl ⟨by kernel_rfl, ?_⟩) (by assumption) ?_
    rotate_left
    · (intro W9 hSw; go_simp; (try with_reducible rfl))
    try simp only [Act.put, List.getElem_toArray, List.getElem_cons_succ, List.getElem_cons_zero, List.setIfInBounds_toArray, List.set_cons_zero, List.set_cons_succ]
    refine takeC [] (i := 5) (v := ?_) rfl (by kernel_rfl) (by kernel_rfl) (by kernel_rfl) (by kernel_rfl) (by decide) (fun _ _ _ h => h) (by kernel_rfl) (Or.inl ⟨by kernel_rfl, ?_⟩) (by assumption) ?_
    rotate_left
    · (intro W9 hSw; go_simp; (try with_reducible rfl))
    try simp only [Act.put, List.getElem_toArray, List.getElem_cons_succ, List.getElem_cons_zero, List.setIfInBounds_toArray, List.set_cons_zero, List.set_cons_succ]
    refine oneT (i := 6) rfl (by kernel_rfl) (fun K hK => ?_)
    rw [if_pos (by kernel_rfl)]
    go_wp2_with (fail)
    with_reducible refine (HND2.out we.drew).mono ?_
    rintro e wf ⟨rfl, rfl⟩
    go_wp2_with (fail)
    refine hK.out _ _ (fun _ => hS0) ?_
    clear hK K
    try simp only [Act.put, List.getElem_toArray, List.getElem_cons_succ, List.getElem_cons_zero, List.setIfInBounds_toArray, List.set_cons_zero, List.set_cons_succ]
    refine takeC [] (i := 7) (v := ?_) rfl (by kernel_rfl) (by kernel_rfl) (by kernel_rfl) (by kernel_rfl) (by decide) (fun _ _ _ h => h) (by kernel_rfl) (Or.inl ⟨by kernel_rfl, ?_⟩) (by assumption) ?_
    rotate_left
    · (intro W9 hSw; (have a := WK.out.1; skip); go_simp; (try with_reducible rfl))
    try simp only [Act.put, List.getElem_toArray, List.getElem_cons_succ, List.getElem_cons_zero, List.setIfInBounds_toArray, List.set_cons_zero, List.set_cons_succ]
    refine takeC [] (i := 8) (v := ?_) rfl (by kernel_rfl) (by kernel_rfl) (by kernel_rfl) (by kernel_rfl) (by decide) (fun _ _ _ h => h) (by kernel_rfl) (Or.inl ⟨by kernel_rfl, ?_⟩) (by assumption) ?_
    rotate_left
    · (intro W9 hSw; (have a := WK.out.2; skip); go_simp; (try with_reducible rfl))
    try simp only [Act.put, List.getElem_toArray, List.getElem_cons_succ, List.getElem_cons_zero, List.setIfInBounds_toArray, List.set_cons_zero, List.set_cons_succ]
    refine takeC [10] (i := 9) (v := ?_) rfl (by kernel_rfl) (by kernel_rfl) (by kernel_rfl) (by kernel_rfl) (by decide) (fun _ _ _ h => h) (by kernel_rfl) (Or.inl ⟨by kernel_rfl, ?_⟩) (by assumption) ?_
    rotate_left
    · (intro W9 hSw; go_simp; (try with_reducible rfl))
    try simp only [Act.put, List.getElem_toArray, List.getElem_cons_succ, List.getElem_cons_zero, List.setIfInBounds_toArray, List.set_cons_zero, List.set_cons_succ]
    refine takeC [] (i := 10) (v := ?_) rfl (by kernel_rfl) (by kernel_rfl) (by kernel_rfl) (by kernel_rfl) (by decide) (fun _ _ _ h => h) (by kernel_rfl) (Or.inl ⟨by kernel_rfl, ?_⟩) (by assumption) ?_
    rotate_left
    · (intro W9 hSw; go_simp; (try with_reducible rfl))
    try simp only [Act.put, List.getElem_toArray, List.getElem_cons_succ, List.getElem_cons_zero, List.setIfInBounds_toArray, List.set_cons_zero, List.set_cons_succ]
    refine oneT (i := 11) rfl (by kernel_rfl) (fun K hK => ?_)
    rw [if_pos (by kernel_rfl)]
    have j3 := hS0.out.c3
    have z3 := hS0.out.fz 3
    go_wp2_with (fail)
    refine hK.out _ _ (fun h => absurd (show true = false from h) (by decide)) ?_
    clear hK K
    try simp only [Act.put, List.getElem_toArray, List.getElem_cons_succ, List.getElem_cons_zero, List.setIfInBounds_toArray, List.set_cons_zero, List.set_cons_succ]
    refine doneT (by kernel_rfl) ?_ _
    clear j3 z3 hS0
    have JF := Lib.hid ((JE.out.ext (Ext.drew we)).s3 ((j.next : Int) + (1 + (K : Int))))
    have KF : RowKit.Hid (Ch (fun q => q = p) wd (we.drew.setCell ⟨p, 3, none⟩ (.int .i64 ((j.next : Int) + (1 + (K : Int)))))) := Lib.hid ((KE.out.thenExt (Ext.drew we)).set (p := ⟨p, 3, none⟩) (.inl rfl) _)
    obtain ⟨wz, hwz⟩ : ∃ wz, we.drew.setCell ⟨p, 3, none⟩ (.int .i64 ((j.next : Int) + (1 + (K : Int)))) = wz := ⟨_, rfl⟩
    have hwz2 : (we.setCell ⟨p, 3, none⟩ (.int .i64 ((j.next : Int) + (1 + (K : Int))))).drew = wz := hwz
    go_wp2_with (fail)
    rw [hwz] at JF KF
    try rw [hwz]
    try rw [hwz2]
    clear hwz hwz2
    go_ret
    have hll := LL.out
    have hkk := HK.out
    unfold GivesAp
    rw [ST.out, if_pos HZ.out, HZ.out]
    have hsv : (Value.slice D j.recs.length dd).ownBlock = o := VO.out
    have hfin := jn_push (w := w6.alloc (.cells #[.slice An l.length cn] 32)) (w2 := wd) (w3 := wz) (p := p) (g := g) (m := m) (b := b) (N := N + Jo.need n + 1) (j := j) (d := st.1) (Ab := Ab) (A := An) (cb := cb) (n := l.length) (c := cn) (v := .slice D j.recs.length dd) (v' := .slice D2 (j.recs.length + 1) dd2) (cs := cs) (l := l)
      (HJ5.out.ds.ext X7.out) (BB.out.ext X7.out) (by rw [hsv]; exact CB.out.ch X7.out.size) (by rw [hsv]; exact HJ5.out.sep) (Nat.lt_of_lt_of_le JV.out.lt X7.out.size)
      (fun i hi => by
        obtain ⟨A1, n1, c1, e1, e2, e3⟩ := ROWS.out i hi
        exact ⟨A1, n1, c1, e1, e2.ext X7.out, by rw [hsv]; exact e3.ch X7.out.size⟩) CSL.out
      ((Own.mk (base := w5.drew.heap.size) (e := 5) HN.out.own).bs.ext (Ext.alloc _ _)) (by
        rw [hsv]
        intro hn0 q hq
        have h1 := own_row HN.out.own q (own_of_map hq)
        have h2 := (Own.mk (base := w5.drew.heap.size) (e := 5) HN.out.own).bs.block hn0 hq
        have h3 : w5.drew.heap.size = w5.heap.size := rfl
        have h4 := (Ext.alloc w6 (.cells #[.slice An l.length cn] 32)).size
        exact ⟨by omega, fun z => by have := HJ5.out.lt q z; omega⟩)
      OD.out GD.out ATD.out KF.out (by
        have e : ((j.next + 1 + Jo.need l.length : Nat) : Int) = (j.next : Int) + (1 + (K : Int)) := by rw [hll, hkk]; omega
        rw [e]
        exact JF.out)
    refine ⟨rfl, (Value.slice D2 (j.recs.length + 1) dd2).ownBlock, ?_, ?_, ?_⟩
    · rcases ATD.out with e | e
      · exact .inl (e.trans hsv)
      · refine .inr fun q hq => ?_
        rw [e] at hq
        injection hq with hq
        have h1 := X7.out.size
        have h2 := C5.out.size
        omega
    · rw [hll]
      exact hfin
    · refine ((C5.out.trans (Ch.of X7.out _)).grown GD.out (fun q hq => .inl ?_)).trans (KF.out.mono fun q _ z => .inl z)
      exact .inr (.inr (.inr (.inr (hsv.symm.trans hq))))
  · have hz' : (st.2 != 0) = true := by simpa using hz
    have HZ := Lib.hid hz
    clear hz
    go_wp2_with (fail)
    go_ret
    unfold GivesAp
    rw [ST.out, if_neg HZ.out]
    refine ⟨rfl, o, .inl rfl, ?_, C5.out⟩
    rw [LL.out]
    exact J5.out
end Go.Proofs.Ytaaegbccejjjcaa
