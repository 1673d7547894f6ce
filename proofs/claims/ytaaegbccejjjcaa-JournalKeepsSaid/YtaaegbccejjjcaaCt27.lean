/- Several texts in one: The contract of Pick. What an op of a journal comes to, as the laws need it: it does not fit, it is done, or the disk failed. -/
import Derived.Test.YtaaegbccejjjcaaCt1
import Derived.Test.YtaaegbccejjjcaaCt24
import Derived.Test.YtaaegbccejjjcaaCt25
import Derived.Test.YtaaegbccejjjcaaCt26
namespace Go.Proofs.Ytaaegbccejjjcaa
open Go.RowKit

theorem tmod_nat (n m : Nat) : (n : Int).tmod (m : Int) = ((n % m : Nat) : Int) := by
  rw [Int.tmod_eq_emod_of_nonneg (by omega)]; simp
/-- A number from 0 to n - 1. -/
def pick (x : Int) (n : Nat) : Int := if n = 0 then 0 else if x.tmod n < 0 then x.tmod n + n else x.tmod n
theorem pick_range (x : Int) (n : Nat) (h : 0 < n) : 0 ≤ pick x n ∧ pick x n < n := by
  unfold pick
  rw [if_neg (by omega)]
  have h1 := Int.tmod_lt_of_pos x (show (0 : Int) < n by omega)
  have h2 : -(n : Int) < x.tmod n := by
    have := Int.lt_tmod_of_pos x (show (0 : Int) < n by omega)
    omega
  split <;> omega
set_option maxHeartbeats 1000000 in
theorem pick_any (w : World) (x : Int) (n : Nat) (hn : n ≤ 1000000) :
    Calls Try.prog 14 #[.int .i64 x, .int .i64 (n : Int)] w fun r w' => r = .returned (.int .i64 (pick x n)) ∧ w = w' := by
  by_cases h0 : n = 0
  · subst h0
    go_enter Try.func14, Try.ntmps14
    go_wp2
    go_ret
    exact ⟨rfl, rfl⟩
  · have hb : -(n : Int) < x.tmod n ∧ x.tmod n < n := by
      have h1 := Int.tmod_lt_of_pos x (show (0 : Int) < n by omega)
      have := Int.lt_tmod_of_pos x (show (0 : Int) < n by omega)
      omega
    have hp : pick x n = if x.tmod n < 0 then x.tmod n + n else x.tmod n := by unfold pick; rw [if_neg h0]
    rw [hp]
    have hn0 : ¬ (n : Int) ≤ 0 := by omega
    generalize ht : x.tmod (n : Int) = t at *
    by_cases hneg : t < 0
    · rw [if_pos hneg]
      clear hp
      go_enter Try.func14, Try.ntmps14
      go_wp2
      go_ret
      exact ⟨rfl, rfl⟩
    · rw [if_neg hneg]
      clear hp
      go_enter Try.func14, Try.ntmps14
      go_wp2
      go_ret
      exact ⟨rfl, rfl⟩
end Go.Proofs.Ytaaegbccejjjcaa
namespace Jo
open Disks
/-- Does an op fit (kind 2: a checkpoint)? -/
def fits (j : J) (k : Int) (l : List UInt8) : Prop := if k = 2 then 1 + need l.length ≤ j.half else j.next + 1 + need l.length ≤ j.from_ + j.half
instance (j : J) (k : Int) (l : List UInt8) : Decidable (fits j k l) := by unfold fits; infer_instance
/-- The journal behind an op. -/
def doJ (j : J) (k : Int) (l : List UInt8) : J := if k = 2 then j.point l else j.append l
/-- How an op ends. -/
def Ends (d : D) (j : J) (k : Int) (l : List UInt8) (d' : D) (f : Int) : Prop :=
  (f = 5 ∧ ¬ fits j k l ∧ d' = d) ∨ (f = 0 ∧ fits j k l ∧ At d' (doJ j k l)) ∨ (f = 15 ∧ fits j k l ∧ d.arm ≠ -1 ∧ Broken d' j (doJ j k l))
theorem Ends.f {d d' : D} {j : J} {k : Int} {l : List UInt8} {f : Int} (h : Ends d j k l d' f) : f = 5 ∨ f = 0 ∨ f = 15 := by
  rcases h with h | h | h
  · exact .inl h.1
  · exact .inr (.inl h.1)
  · exact .inr (.inr h.1)
/-- What was written is done, or it broke. -/
theorem ends_wrote {d : D} {j j' : J} {at_ : Nat} {b first : List UInt8} (hs : Step j at_ b first j') (h : At d j) :
    ((wrote d at_ b first).2 = 0 ∧ At (wrote d at_ b first).1 j' ∨ (wrote d at_ b first).2 = 15 ∧ d.arm ≠ -1 ∧ Broken (wrote d at_ b first).1 j j') ∧ (d.arm = -1 → (wrote d at_ b first).1.arm = -1) := by
  have hl := h.len
  have ho := out h.ok h.flat at_ b first (by have := hs.top; omega) hs.len
  refine ⟨?_, fun a => (ho.free a).2⟩
  rcases ho.err with e | e
  · exact .inl ⟨e, hs.done h e⟩
  · exact .inr ⟨e, fun a => by have := (ho.free a).1; omega, hs.broken h (by omega)⟩
theorem room_row (l : List (List UInt8)) (i : Nat) (h : i < l.length) : 1 + need (Gm.row l i).length ≤ room l := by
  induction l generalizing i with
  | nil => cases h
  | cons r t ih =>
    simp only [room, List.map_cons, List.sum_cons] at ih ⊢
    cases i with
    | zero =>
      have e : Gm.row (r :: t) 0 = r := by simp [Gm.row]
      rw [e]
      omega
    | succ i =>
      have := ih i (by simpa using h)
      have e : Gm.row (r :: t) (i + 1) = Gm.row t i := by simp [Gm.row]
      rw [e]
      omega
/-- A journal that a disk shows is small. -/
theorem At.small {d : D} {j : J} (h : At d j) : j.base.length ≤ 2097152 ∧ j.recs.length ≤ 65536 ∧ (∀ i, i < j.recs.length → (Gm.row j.recs i).length ≤ 2097152) ∧ j.half ≤ 32768 ∧ 4 ≤ j.half ∧ j.from_ ≤ 32768 ∧ j.from_ + 1 + need j.base.length + room j.recs = j.next ∧ j.next ≤ j.from_ + j.half := by
  have hs := h.shows
  have hh := hs.half
  have hf := hs.from_
  have hn := hs.next
  have hr := hs.lays.room
  have hl := room_len j.recs
  have hb : j.base.length ≤ 63 * j.half := need_mul (by omega)
  refine ⟨by omega, by omega, fun i hi => ?_, by omega, by omega, by omega, by omega, hn⟩
  have hle : 1 + need (Gm.row j.recs i).length ≤ room j.recs := by
    exact room_row _ i hi
  have : (Gm.row j.recs i).length ≤ 63 * j.half := need_mul (by omega)
  omega
end Jo
namespace Go.Proofs.Ytaaegbccejjjcaa
open Go.RowKit Go.Maps Go.Sort Go.Shelf
set_option linter.unusedSimpArgs false

/-- What an op hands back. -/
def GivesDo (w : World) (p g m b N : Nat) (o : Option Nat) (j : Jo.J) (d : Disks.D) (k : Int) (l : List UInt8) (e : Ending) (w' : World) : Prop :=
  ∃ f d' o', e = .returned (.int .i64 f) ∧ Jo.Ends d j k l d' f ∧ (d.arm = -1 → d'.arm = -1) ∧ (o' = o ∨ ∀ q, o' = some q → w.heap.size ≤ q) ∧ Jn w' p g m b N o' (if f = 0 then Jo.doJ j k l else j) (decide (f = 15)) d' ∧ Ch (Hot p g m b o) w w'
theorem app_any (w : World) (p g m b N : Nat) (o : Option Nat) (j : Jo.J) (d : Disks.D) (h : Jn w p g m b N o j false d) (hat : Jo.At d j) (k : Int) (hk : k ≠ 2) (A : Option Addr) (n c : Nat) (l : List UInt8) (hl : Bs w A n c l) (hc : Cold (Hot p g m b o) w A n) (hn : n < 2 ^ 30) (N' : Nat) (hN : N + Jo.need n + 1 ≤ N') (hN' : N' < maxLen) :
    Calls Try.prog 12 #[.pointer (some ⟨p, 0, none⟩), .slice A n c] w (GivesDo w p g m b N' o j d k l) := by
  have hlen := hl.len
  by_cases hf : Jo.fits j k l
  · have hf2 : j.next + 1 + Jo.need l.length ≤ j.from_ + j.half := by unfold Jo.fits at hf; rwa [if_neg hk] at hf
    obtain ⟨he, ha⟩ := Jo.ends_wrote (Jo.Step.append hat.shows l hf2) hat
    refine (append_any w p g m b N o j d h hat A n c l hl hc (by rw [← hlen]; exact hf2) (by omega)).mono ?_
    rintro e w' ⟨rfl, o', ho, hj, hch⟩
    rcases he with ⟨e0, hA⟩ | ⟨e0, harm, hB⟩
    · rw [e0, if_pos rfl] at hj
      refine ⟨0, _, o', by rw [e0], .inr (.inl ⟨rfl, hf, ?_⟩), ha, ho, ?_, hch⟩
      · unfold Jo.doJ; rw [if_neg hk]; exact hA
      · rw [if_pos rfl]; unfold Jo.doJ; rw [if_neg hk]; exact hj.more (by rw [hlen]; exact hN)
    · rw [e0, if_neg (show ¬ ((15 : Int) = 0) by omega)] at hj
      refine ⟨15, _, o', by rw [e0], .inr (.inr ⟨rfl, hf, harm, ?_⟩), ha, ho, ?_, hch⟩
      · unfold Jo.doJ; rw [if_neg hk]; exact hB
      · rw [if_neg (show ¬ ((15 : Int) = 0) by omega)]; exact hj.more (by rw [hlen]; exact hN)
  · have hf2 : j.from_ + j.half < j.next + 1 + Jo.need n := by unfold Jo.fits at hf; rw [if_neg hk, hlen] at hf; omega
    refine (append_full w p g m b N o j d h hat A n c (by omega) hf2).mono ?_
    rintro e w' ⟨rfl, hx⟩
    exact ⟨5, d, o, rfl, .inl ⟨rfl, hf, rfl⟩, fun a => a, .inl rfl, (by rw [if_neg (show ¬ ((5 : Int) = 0) by omega)]; exact (h.ext hx).more (by omega)), Ch.of hx _⟩
theorem cp_any (w : World) (p g m b N : Nat) (o : Option Nat) (j : Jo.J) (d : Disks.D) (h : Jn w p g m b N o j false d) (hat : Jo.At d j) (k : Int) (hk : k = 2) (A : Option Addr) (n c : Nat) (l : List UInt8) (hl : Bs w A n c l) (hc : Cold (Hot p g m b o) w A n) (hn : n < 2 ^ 30) (N' : Nat) (hN : N + Jo.need n + 1 ≤ N') (hN' : N' < maxLen) (hlf : j.life < 2 ^ 40) :
    Calls Try.prog 16 #[.pointer (some ⟨p, 0, none⟩), .slice A n c] w (GivesDo w p g m b N' o j d k l) := by
  have hlen := hl.len
  have hs := hat.shows
  have hh := hs.half
  by_cases hf : Jo.fits j k l
  · have hf2 : 1 + Jo.need l.length ≤ j.half := by unfold Jo.fits at hf; rwa [if_pos hk] at hf
    obtain ⟨he, ha⟩ := Jo.ends_wrote (Jo.Step.point hat.shows l hf2 hlf) hat
    refine (point_any w p g m b N o j d h ⟨hh.2, hs.from_⟩ A n c l hl hc (by rw [← hlen]; exact hf2) hlf (by omega) _ rfl).mono ?_
    rintro e w' ⟨rfl, o', ho, hj, hch⟩
    rcases he with ⟨e0, hA⟩ | ⟨e0, harm, hB⟩
    · rw [e0, if_pos rfl] at hj
      refine ⟨0, _, o', by rw [e0], .inr (.inl ⟨rfl, hf, ?_⟩), ha, ho, ?_, hch⟩
      · unfold Jo.doJ; rw [if_pos hk]; exact hA
      · rw [if_pos rfl]; unfold Jo.doJ; rw [if_pos hk]; exact hj.more (by rw [hlen]; exact hN)
    · rw [e0, if_neg (show ¬ ((15 : Int) = 0) by omega)] at hj
      refine ⟨15, _, o', by rw [e0], .inr (.inr ⟨rfl, hf, harm, ?_⟩), ha, ho, ?_, hch⟩
      · unfold Jo.doJ; rw [if_pos hk]; exact hB
      · rw [if_neg (show ¬ ((15 : Int) = 0) by omega)]; exact hj.more (by rw [hlen]; exact hN)
  · have hf2 : j.half < 1 + Jo.need n := by unfold Jo.fits at hf; rw [if_pos hk, hlen] at hf; omega
    refine (point_full w p g m b N o j d h A n c (by omega) hf2 hlf (by omega)).mono ?_
    rintro e w' ⟨rfl, hx⟩
    exact ⟨5, d, o, rfl, .inl ⟨rfl, hf, rfl⟩, fun a => a, .inl rfl, (by rw [if_neg (show ¬ ((5 : Int) = 0) by omega)]; exact (h.ext hx).more (by omega)), Ch.of hx _⟩
/-- The first 400 bytes. -/
theorem short_size (w : World) (A : Option Addr) (n c : Nat) (h1 : n ≤ c) (h2 : c ≤ 9223372036854775807) :
    Calls Try.prog 15 #[.slice A n c] w fun e w' => e = .returned (.slice A (min n 400) c) ∧ w = w' := by
  go_enter Try.func15, Try.ntmps15
  go_wp2_with (fail)
  go_ret
  refine ⟨?_, rfl⟩
  show Ending.returned (Value.slice A (min (n : Int) 400).toNat c) = _
  rw [show (min (n : Int) 400).toNat = min n 400 by omega]
theorem short_any (w : World) (A : Option Addr) (n c : Nat) (l : List UInt8) (hl : Bs w A n c l) :
    Calls Try.prog 15 #[.slice A n c] w fun e w' => e = .returned (.slice A (min n 400) c) ∧ w = w' := short_size w A n c hl.le hl.max
theorem Bs.short {w : World} {A : Option Addr} {n c : Nat} {l : List UInt8} (h : Bs w A n c l) : Bs w A (min n 400) c (l.take 400) := by
  have h1 := h.len
  have h2 := h.le
  refine ⟨by rw [List.length_take]; omega, by omega, h.max, ?_, fun hn => ?_⟩
  · rw [bcells_len, List.length_take]; omega
  · obtain ⟨b, off, e, hc⟩ := h.rd.2 (by omega)
    refine ⟨b, off, e, fun k v hv => hc k v ?_⟩
    rw [show bcells (l.take 400) = (bcells l).take 400 by simp [bcells, List.map_take]] at hv
    rw [List.getElem?_take] at hv
    split at hv
    · exact hv
    · cases hv
theorem Cold.less {Z : Nat → Prop} {w : World} {A : Option Addr} {n k : Nat} (h : Cold Z w A n) (hk : k ≤ n) : Cold Z w A k := fun hk0 q hq => h (by omega) q hq
/-- Has a journal that base, and those records? -/
theorem same_any24 (w : World) (p g m b N : Nat) (o : Option Nat) (j : Jo.J) (over : Bool) (d d0 : Disks.D) (h : Jn w p g m b N o j over d) (hat : Jo.At d0 j) (A : Option Addr) (n c : Nat) (bs : List UInt8) (hb : Bs w A n c bs) (B : Option Addr) (k e : Nat) (rs : Gm.L) (hr : Mx w B k e rs) :
    Calls Try.prog 18 #[.pointer (some ⟨p, 0, none⟩), .slice A n c, .slice B k e] w fun e w' => e = .returned (.bool (decide (j.base = bs ∧ j.recs = rs))) ∧ Ext w w' := by
  obtain ⟨s1, s2, s3, _⟩ := hat.small
  have H := Lib.hid h
  have HB := Lib.hid hb
  have HR := Lib.hid hr
  have S3 := Lib.hid s3
  clear h hb hr hat s3
  go_enter Try.func18, Try.ntmps18
  go_wp2_with (fail)
  with_reducible refine (base_any H.out (by omega)).mono ?_
  rintro e w1 ⟨A1, c1, rfl, b1, _, x1⟩
  have HS := Lib.hid (sameBytes5 w1 A1 A _ c1 n c j.base bs b1 (HB.out.ext x1))
  have X1 := Lib.hid x1
  clear b1 x1
  by_cases h1 : j.base = bs
  · have e1 : (j.base == bs) = true := by rw [beq_iff_eq]; exact h1
    rw [e1] at HS
    have H1 := Lib.hid h1
    clear h1 e1
    go_wp2_with (fail)
    with_reducible refine HS.out.mono ?_
    rintro e w2 ⟨rfl, rfl⟩
    clear HS
    go_wp2_with (fail)
    with_reducible refine (records_any w1 p g m b N o j over d (H.out.ext X1.out) s2 (fun i hi => by have := S3.out i hi; omega)).mono ?_
    rintro e w3 ⟨v3, rfl, r3, x3⟩
    obtain ⟨A3, c3, rfl, hm3⟩ := rwn_mx r3
    have HS := Lib.hid (sameLists24 w3 A3 B _ c3 k e j.recs rs hm3 (HR.out.ext (X1.out.trans x3)))
    have X3 := Lib.hid (X1.out.trans x3)
    clear r3 x3 hm3
    go_wp2_with (fail)
    with_reducible refine HS.out.mono ?_
    rintro e w4 ⟨rfl, x4⟩
    have X4 := Lib.hid (X3.out.trans x4)
    clear x4 HS
    go_wp2_with (fail)
    go_ret
    exact ⟨ret_bool (by simp [H1.out]), X4.out⟩
  · have e1 : (j.base == bs) = false := by rw [beq_eq_false_iff_ne]; exact h1
    rw [e1] at HS
    have H1 := Lib.hid h1
    clear h1 e1
    go_wp2_with (fail)
    with_reducible refine HS.out.mono ?_
    rintro e w2 ⟨rfl, rfl⟩
    clear HS
    go_wp2_with (fail)
    go_ret
    exact ⟨ret_bool (by simp [H1.out]), X1.out⟩
end Go.Proofs.Ytaaegbccejjjcaa
