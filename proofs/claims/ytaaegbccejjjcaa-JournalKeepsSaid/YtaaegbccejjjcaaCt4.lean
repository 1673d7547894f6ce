/- Several texts in one: A journal, in plain words (chapter 24): sectors that tell numbers, what a half has, and what an op makes of it. No program in sight. Lists of whole numbers, in plain words. No program in sight. -/
import Derived.Test.YtaaegbccejjjcaaCt3
namespace Jo

/-- How many sectors so many bytes need. -/
def need (n : Nat) : Nat := (n + 62) / 63
/-- Eight bytes of a number, and the number of bytes. -/
def be (n : Nat) : List UInt8 := (List.range 8).map fun i => UInt8.ofNat (n / 2 ^ (8 * (7 - i)))
def val (b : List UInt8) : Nat := b.foldl (fun v x => v * 256 + x.toNat) 0
theorem be_length (n : Nat) : (be n).length = 8 := by simp [be]
theorem be_eq (n : Nat) : be n = [UInt8.ofNat (n / 2 ^ 56), UInt8.ofNat (n / 2 ^ 48), UInt8.ofNat (n / 2 ^ 40), UInt8.ofNat (n / 2 ^ 32), UInt8.ofNat (n / 2 ^ 24), UInt8.ofNat (n / 2 ^ 16), UInt8.ofNat (n / 2 ^ 8), UInt8.ofNat (n / 2 ^ 0)] := rfl
theorem val_be (n : Nat) (h : n < 2 ^ 64) : val (be n) = n := by
  rw [be_eq]
  simp only [val, List.foldl_cons, List.foldl_nil, UInt8.toNat_ofNat']
  omega
/-- A sector of a kind, with numbers; one of data. -/
def sect (k : UInt8) (l : List Nat) : List UInt8 := k :: (l.flatMap be ++ List.replicate (63 - 8 * l.length) 0)
def dsec (c : List UInt8) : List UInt8 := 3 :: (c ++ List.replicate (63 - c.length) 0)
def chunk (b : List UInt8) (i : Nat) : List UInt8 := (b.drop (63 * i)).take 63
/-- The numbers of a sector; does it tell so many, and is it of that kind? -/
def fld (b : List UInt8) (k : Nat) : Nat := val ((b.drop (1 + 8 * k)).take 8)
def tells (b : List UInt8) (kind : UInt8) (n : Nat) : Prop := b.length = 64 ∧ Gf.get b 0 = kind ∧ (∀ k, k < n → fld b k ≤ 2 ^ 60) ∧ ∀ x ∈ b.drop (1 + 8 * n), x = 0
instance (b : List UInt8) (kind : UInt8) (n : Nat) : Decidable (tells b kind n) := by unfold tells; infer_instance
theorem flat_length (l : List Nat) : (l.flatMap be).length = 8 * l.length := by
  induction l with
  | nil => rfl
  | cons x l ih => rw [List.flatMap_cons, List.length_append, be_length, ih, List.length_cons]; omega
theorem sect_length (k : UInt8) (l : List Nat) (h : l.length ≤ 7) : (sect k l).length = 64 := by
  unfold sect
  rw [List.length_cons, List.length_append, flat_length, List.length_replicate]
  omega
theorem dsec_length (c : List UInt8) (h : c.length ≤ 63) : (dsec c).length = 64 := by
  unfold dsec
  rw [List.length_cons, List.length_append, List.length_replicate]
  omega
theorem flat_fld (l : List Nat) (t : List UInt8) (i : Nat) (h : i < l.length) : ((l.flatMap be ++ t).drop (8 * i)).take 8 = be (l.getD i 0) := by
  induction l generalizing i with
  | nil => cases h
  | cons x l ih =>
    rw [List.flatMap_cons, List.append_assoc]
    cases i with
    | zero => rw [Nat.mul_zero, List.drop_zero, List.take_left' (be_length x)]; rfl
    | succ i =>
      have h : i < l.length := by simpa using h
      rw [show 8 * (i + 1) = (be x).length + 8 * i by rw [be_length]; omega, ← List.drop_drop, List.drop_left' rfl, ih i h]
      rfl
theorem fld_sect (k : UInt8) (l : List Nat) (i : Nat) (h : i < l.length) (hv : ∀ x ∈ l, x ≤ 2 ^ 60) : fld (sect k l) i = l.getD i 0 := by
  unfold fld sect
  rw [show 1 + 8 * i = 8 * i + 1 by omega, List.drop_succ_cons, flat_fld l _ i h]
  refine val_be _ ?_
  have := hv (l.getD i 0) (by rw [List.getD_eq_getElem?_getD, List.getElem?_eq_getElem h]; exact List.getElem_mem h)
  omega
theorem tells_sect (k : UInt8) (l : List Nat) (h : l.length ≤ 7) (hv : ∀ x ∈ l, x ≤ 2 ^ 60) : tells (sect k l) k l.length := by
  refine ⟨sect_length k l h, rfl, fun i hi => ?_, fun x hx => ?_⟩
  · rw [fld_sect k l i hi hv]
    exact hv _ (by rw [List.getD_eq_getElem?_getD, List.getElem?_eq_getElem hi]; exact List.getElem_mem hi)
  · unfold sect at hx
    rw [show 1 + 8 * l.length = 8 * l.length + 1 by omega, List.drop_succ_cons, List.drop_left' (flat_length l)] at hx
    exact List.eq_of_mem_replicate hx

/-- So many bytes of the data from a sector on, where 'S' tells what each sector has. -/
def bytesTo (S : Nat → List UInt8) (at_ k : Nat) : List UInt8 := (List.range k).flatMap fun i => (S (at_ + i)).drop 1
def bytesR (S : Nat → List UInt8) (at_ n : Nat) : List UInt8 := (bytesTo S at_ (need n)).take n
theorem bytesTo_succ (S : Nat → List UInt8) (at_ k : Nat) : bytesTo S at_ (k + 1) = bytesTo S at_ k ++ (S (at_ + k)).drop 1 := by
  unfold bytesTo
  rw [List.range_succ, List.flatMap_append]
  simp
def Holds (S : Nat → List UInt8) (at_ : Nat) (b : List UInt8) : Prop := ∀ i, i < need b.length → S (at_ + i) = dsec (chunk b i)
theorem chunk_length (b : List UInt8) (i : Nat) : (chunk b i).length = min 63 (b.length - 63 * i) := by simp [chunk]
theorem bytesTo_chunks (S : Nat → List UInt8) (at_ : Nat) (b : List UInt8) (h : Holds S at_ b) (k : Nat) (hk : 63 * k ≤ b.length) : bytesTo S at_ k = b.take (63 * k) := by
  induction k with
  | zero => simp [bytesTo]
  | succ k ih =>
    rw [bytesTo_succ, ih (by omega), h k (by unfold need; omega)]
    show _ ++ (chunk b k ++ List.replicate (63 - (chunk b k).length) 0) = _
    rw [chunk_length, show 63 - min 63 (b.length - 63 * k) = 0 by omega, List.replicate_zero, List.append_nil, show 63 * (k + 1) = 63 * k + 63 by omega, List.take_add]
    rfl
theorem bytesR_holds (S : Nat → List UInt8) (at_ : Nat) (b : List UInt8) (h : Holds S at_ b) : bytesR S at_ b.length = b := by
  unfold bytesR
  by_cases hd : b.length % 63 = 0
  · rw [show need b.length = b.length / 63 by unfold need; omega, bytesTo_chunks S at_ b h _ (by omega), List.take_take, show min b.length (63 * (b.length / 63)) = b.length by omega, List.take_length]
  · have e : need b.length = b.length / 63 + 1 := by unfold need; omega
    rw [e, bytesTo_succ, bytesTo_chunks S at_ b h _ (by omega), h _ (by omega)]
    show List.take b.length (_ ++ (chunk b (b.length / 63) ++ _)) = b
    rw [← List.append_assoc]
    have hc : List.take (63 * (b.length / 63)) b ++ chunk b (b.length / 63) = b := by
      unfold chunk
      rw [List.take_of_length_le (i := 63) (by rw [List.length_drop]; omega), List.take_append_drop]
    rw [hc, List.take_left' rfl]

/-- Is there a record? -/
def hit (S : Nat → List UInt8) (half stop life pos cnt : Nat) : Prop := pos < stop ∧ tells (S pos) 2 3 ∧ fld (S pos) 0 = life ∧ fld (S pos) 1 = cnt + 1 ∧ fld (S pos) 2 ≤ 63 * half ∧ pos + 1 + need (fld (S pos) 2) ≤ stop
instance (S : Nat → List UInt8) (half stop life pos cnt : Nat) : Decidable (hit S half stop life pos cnt) := by unfold hit; infer_instance
/-- The records from a place on; where the next one goes. -/
def recs (S : Nat → List UInt8) (half stop life pos cnt : Nat) : List (List UInt8) :=
  if h : hit S half stop life pos cnt then bytesR S (pos + 1) (fld (S pos) 2) :: recs S half stop life (pos + 1 + need (fld (S pos) 2)) (cnt + 1) else []
  termination_by stop - pos
  decreasing_by have := h.1; omega
def recE (S : Nat → List UInt8) (half stop life pos cnt : Nat) : Nat :=
  if h : hit S half stop life pos cnt then recE S half stop life (pos + 1 + need (fld (S pos) 2)) (cnt + 1) else pos
  termination_by stop - pos
  decreasing_by have := h.1; omega
theorem recs_hit {S : Nat → List UInt8} {half stop life pos cnt : Nat} (h : hit S half stop life pos cnt) : recs S half stop life pos cnt = bytesR S (pos + 1) (fld (S pos) 2) :: recs S half stop life (pos + 1 + need (fld (S pos) 2)) (cnt + 1) := by rw [recs, dif_pos h]
theorem recs_no {S : Nat → List UInt8} {half stop life pos cnt : Nat} (h : ¬ hit S half stop life pos cnt) : recs S half stop life pos cnt = [] := by rw [recs, dif_neg h]
theorem recE_hit {S : Nat → List UInt8} {half stop life pos cnt : Nat} (h : hit S half stop life pos cnt) : recE S half stop life pos cnt = recE S half stop life (pos + 1 + need (fld (S pos) 2)) (cnt + 1) := by rw [recE, dif_pos h]
theorem recE_no {S : Nat → List UInt8} {half stop life pos cnt : Nat} (h : ¬ hit S half stop life pos cnt) : recE S half stop life pos cnt = pos := by rw [recE, dif_neg h]
/-- What a half has. -/
structure H where
  life : Nat
  base : List UInt8
  recs : List (List UInt8)
  next : Nat
def baseOk (S : Nat → List UInt8) (from_ half : Nat) : Prop := tells (S from_) 1 2 ∧ 1 ≤ fld (S from_) 0 ∧ fld (S from_) 0 ≤ 2 ^ 40 ∧ fld (S from_) 1 ≤ 63 * half ∧ from_ + 1 + need (fld (S from_) 1) ≤ from_ + half
instance (S : Nat → List UInt8) (from_ half : Nat) : Decidable (baseOk S from_ half) := by unfold baseOk; infer_instance
def halfH (S : Nat → List UInt8) (from_ half : Nat) : H :=
  if baseOk S from_ half then
    ⟨fld (S from_) 0, bytesR S (from_ + 1) (fld (S from_) 1), recs S half (from_ + half) (fld (S from_) 0) (from_ + 1 + need (fld (S from_) 1)) 0, recE S half (from_ + half) (fld (S from_) 0) (from_ + 1 + need (fld (S from_) 1)) 0⟩
  else ⟨0, [], [], 0⟩

/-- What a gateway keeps. -/
structure J where
  half : Nat
  from_ : Nat
  next : Nat
  life : Nat
  base : List UInt8
  recs : List (List UInt8)
/-- Records stand behind one another, up to 'next'. -/
def Lays (S : Nat → List UInt8) (life next : Nat) : List (List UInt8) → Nat → Nat → Prop
  | [], pos, _ => next = pos
  | r :: t, pos, cnt => S pos = sect 2 [life, cnt + 1, r.length] ∧ Holds S (pos + 1) r ∧ Lays S life next t (pos + 1 + need r.length) (cnt + 1)
theorem Lays.le {S : Nat → List UInt8} {life next : Nat} {l : List (List UInt8)} {pos cnt : Nat} (h : Lays S life next l pos cnt) : pos ≤ next := by
  induction l generalizing pos cnt with
  | nil => exact Nat.le_of_eq h.symm
  | cons r t ih => have := ih h.2.2; omega
theorem Holds.congr {S S' : Nat → List UInt8} {at_ : Nat} {b : List UInt8} (h : Holds S at_ b) (hc : ∀ q, at_ ≤ q → q < at_ + need b.length → S' q = S q) : Holds S' at_ b := fun i hi => by
  rw [hc _ (by omega) (by omega), h i hi]
theorem Lays.congr {S S' : Nat → List UInt8} {life next : Nat} {l : List (List UInt8)} {pos cnt : Nat} (h : Lays S life next l pos cnt) (hc : ∀ q, pos ≤ q → q < next → S' q = S q) : Lays S' life next l pos cnt := by
  induction l generalizing pos cnt with
  | nil => exact h
  | cons r t ih =>
    have hle := Lays.le h.2.2
    refine ⟨by rw [hc pos (by omega) (by omega)]; exact h.1, h.2.1.congr (fun q h1 h2 => hc q (by omega) (by omega)), ih h.2.2 (fun q h1 h2 => hc q (by omega) h2)⟩
theorem Lays.snoc {S : Nat → List UInt8} {life next : Nat} {l : List (List UInt8)} {pos cnt : Nat} {r : List UInt8} (h : Lays S life next l pos cnt) (h1 : S next = sect 2 [life, cnt + l.length + 1, r.length]) (h2 : Holds S (next + 1) r) : Lays S life (next + 1 + need r.length) (l ++ [r]) pos cnt := by
  induction l generalizing pos cnt with
  | nil =>
    have h : next = pos := h
    subst h
    exact ⟨h1, h2, rfl⟩
  | cons x t ih =>
    refine ⟨h.1, h.2.1, ih h.2.2 ?_⟩
    rw [h1, List.length_cons, show cnt + (t.length + 1) + 1 = cnt + 1 + t.length + 1 by omega]
/-- How many sectors records need. -/
def room (l : List (List UInt8)) : Nat := (l.map fun r => 1 + need r.length).sum
theorem Lays.room {S : Nat → List UInt8} {life next : Nat} {l : List (List UInt8)} {pos cnt : Nat} (h : Lays S life next l pos cnt) : next = pos + room l := by
  induction l generalizing pos cnt with
  | nil => exact h
  | cons r t ih =>
    have := ih h.2.2
    simp only [Jo.room, List.map_cons, List.sum_cons] at this ⊢
    omega
theorem room_len (l : List (List UInt8)) : l.length ≤ room l := by
  induction l with
  | nil => exact Nat.le_refl _
  | cons r t ih => simp only [room, List.map_cons, List.sum_cons, List.length_cons] at ih ⊢; omega
/-- A disk shows a journal. -/
structure Shows (S : Nat → List UInt8) (j : J) : Prop where
  half : 4 ≤ j.half ∧ j.half ≤ 32768
  from_ : j.from_ = 0 ∨ j.from_ = j.half
  life : 1 ≤ j.life ∧ j.life ≤ 2 ^ 40
  base : S j.from_ = sect 1 [j.life, j.base.length]
  data : Holds S (j.from_ + 1) j.base
  lays : Lays S j.life j.next j.recs (j.from_ + 1 + need j.base.length) 0
  next : j.next ≤ j.from_ + j.half
  free : ∀ q, j.next ≤ q → q < j.from_ + j.half → ¬ (tells (S q) 2 3 ∧ fld (S q) 0 = j.life)
  other : ¬ (tells (S (j.half - j.from_)) 1 2 ∧ j.life ≤ fld (S (j.half - j.from_)) 0)
  heads : ∀ q, q < 2 * j.half → tells (S q) 2 3 → fld (S q) 0 ≤ j.life
theorem need_mul {n k : Nat} (h : need n ≤ k) : n ≤ 63 * k := by unfold need at h; omega
theorem two_small {a b : Nat} (ha : a ≤ 2 ^ 60) (hb : b ≤ 2 ^ 60) : ∀ x ∈ [a, b], x ≤ 2 ^ 60 := fun x hx => by
  rcases List.mem_cons.1 hx with rfl | hx
  · exact ha
  · rcases List.mem_cons.1 hx with rfl | hx
    · exact hb
    · cases hx
theorem three_small {a b c : Nat} (ha : a ≤ 2 ^ 60) (hb : b ≤ 2 ^ 60) (hc : c ≤ 2 ^ 60) : ∀ x ∈ [a, b, c], x ≤ 2 ^ 60 := fun x hx => by
  rcases List.mem_cons.1 hx with rfl | hx
  · exact ha
  · exact two_small hb hc x hx
theorem recs_lays {S : Nat → List UInt8} {half stop life next : Nat} {l : List (List UInt8)} {pos cnt : Nat} (h : Lays S life next l pos cnt) (hl : life ≤ 2 ^ 40) (hh : half ≤ 32768) (hs : stop ≤ 65536) (hp : stop ≤ pos + half) (hn : next ≤ stop) (hc : cnt ≤ pos) (hf : ∀ q, next ≤ q → q < stop → ¬ (tells (S q) 2 3 ∧ fld (S q) 0 = life)) :
    recs S half stop life pos cnt = l ∧ recE S half stop life pos cnt = next := by
  induction l generalizing pos cnt with
  | nil =>
    have h : next = pos := h
    subst h
    have hno : ¬ hit S half stop life next cnt := fun q => hf next (Nat.le_refl _) q.1 ⟨q.2.1, q.2.2.1⟩
    exact ⟨recs_no hno, recE_no hno⟩
  | cons r t ih =>
    obtain ⟨h1, h2, h3⟩ := h
    have hle := h3.le
    have hr : r.length ≤ 63 * half := need_mul (by omega)
    have hsm : ∀ x ∈ [life, cnt + 1, r.length], x ≤ 2 ^ 60 := three_small (by omega) (by omega) (by omega)
    have ht : tells (S pos) 2 3 := by rw [h1]; exact tells_sect 2 [life, cnt + 1, r.length] (by simp) hsm
    have f0 : fld (S pos) 0 = life := by rw [h1]; exact fld_sect 2 _ 0 (by simp) hsm
    have f1 : fld (S pos) 1 = cnt + 1 := by rw [h1]; exact fld_sect 2 _ 1 (by simp) hsm
    have f2 : fld (S pos) 2 = r.length := by rw [h1]; exact fld_sect 2 _ 2 (by simp) hsm
    have hh' : hit S half stop life pos cnt := ⟨by omega, ht, f0, f1, by omega, by rw [f2]; omega⟩
    rw [recs_hit hh', recE_hit hh', f2, bytesR_holds S _ r h2]
    obtain ⟨i1, i2⟩ := ih h3 (by omega) (by omega)
    exact ⟨by rw [i1], i2⟩
/-- What is shown is opened. -/
theorem Shows.opened {S : Nat → List UInt8} {j : J} (h : Shows S j) : halfH S j.from_ j.half = ⟨j.life, j.base, j.recs, j.next⟩ ∧ (halfH S (j.half - j.from_) j.half).life < j.life := by
  have hh := h.half
  have hf := h.from_
  have hl := h.life
  have hn := h.next
  have hle := h.lays.le
  have hb : j.base.length ≤ 63 * j.half := need_mul (by omega)
  have hsm : ∀ x ∈ [j.life, j.base.length], x ≤ 2 ^ 60 := two_small (by omega) (by omega)
  have f0 : fld (S j.from_) 0 = j.life := by rw [h.base]; exact fld_sect 1 _ 0 (by simp) hsm
  have f1 : fld (S j.from_) 1 = j.base.length := by rw [h.base]; exact fld_sect 1 _ 1 (by simp) hsm
  constructor
  · have ho : baseOk S j.from_ j.half := ⟨by rw [h.base]; exact tells_sect 1 [j.life, j.base.length] (by simp) hsm, by omega, by omega, by omega, by rw [f1]; omega⟩
    unfold halfH
    rw [if_pos ho, f0, f1, bytesR_holds S _ j.base h.data]
    obtain ⟨e1, e2⟩ := recs_lays h.lays hl.2 hh.2 (by omega) (by omega) hn (by omega) h.free
    rw [e1, e2]
  · by_cases ho : baseOk S (j.half - j.from_) j.half
    · unfold halfH
      rw [if_pos ho]
      exact Nat.lt_of_not_le fun q => h.other ⟨ho.1, q⟩
    · unfold halfH
      rw [if_neg ho]
      show 0 < j.life
      omega
theorem dsec_no (c : List UInt8) (k : UInt8) (n : Nat) (hk : k ≠ 3) : ¬ tells (dsec c) k n := fun h => hk (h.2.1.symm.trans rfl)
theorem sect1_no (l : List Nat) (n : Nat) : ¬ tells (sect 1 l) 2 n := fun h => by
  have := h.2.1
  have e : Gf.get (sect 1 l) 0 = 1 := rfl
  rw [e] at this
  exact absurd this (by decide)
/-- Data behind what counts change nothing. -/
theorem Shows.junk {S S' : Nat → List UInt8} {j : J} (h : Shows S j) (hc : ∀ q, S' q = S q ∨ ((j.next ≤ q ∧ q < j.from_ + j.half ∨ j.half - j.from_ < q ∧ q < j.half - j.from_ + j.half) ∧ ∃ c, S' q = dsec c)) : Shows S' j := by
  have hh := h.half
  have hf := h.from_
  have hn := h.next
  have hle := h.lays.le
  have same : ∀ q, j.from_ ≤ q → q < j.next → S' q = S q := fun q h1 h2 => by
    rcases hc q with e | ⟨e, _⟩
    · exact e
    · omega
  refine ⟨hh, hf, h.life, ?_, ?_, ?_, hn, fun q h1 h2 => ?_, ?_, fun q h1 h2 => ?_⟩
  · rw [same _ (Nat.le_refl _) (by omega)]; exact h.base
  · exact h.data.congr fun q h1 h2 => same q (by omega) (by omega)
  · exact h.lays.congr fun q h1 h2 => same q (by omega) h2
  · rcases hc q with e | ⟨_, c, e⟩
    · rw [e]; exact h.free q h1 h2
    · rw [e]; exact fun z => dsec_no c 2 3 (by decide) z.1
  · rcases hc (j.half - j.from_) with e | ⟨e, _⟩
    · rw [e]; exact h.other
    · omega
  · rcases hc q with e | ⟨_, c, e⟩
    · rw [e] at h2 ⊢; exact h.heads q h1 h2
    · rw [e] at h2; exact absurd h2 (dsec_no c 2 3 (by decide))
/-- A record more. -/
def J.append (j : J) (b : List UInt8) : J := { j with recs := j.recs ++ [b], next := j.next + 1 + need b.length }
theorem Shows.append {S S' : Nat → List UInt8} {j : J} (h : Shows S j) (b : List UInt8) (hb : j.next + 1 + need b.length ≤ j.from_ + j.half) (h1 : S' j.next = sect 2 [j.life, j.recs.length + 1, b.length]) (h2 : Holds S' (j.next + 1) b) (h3 : ∀ q, q < j.next ∨ j.next + 1 + need b.length ≤ q → S' q = S q) : Shows S' (j.append b) := by
  have hh := h.half
  have hf := h.from_
  have hl := h.life
  have hn := h.next
  have hle := h.lays.le
  have hrl := room_len j.recs
  have hro := h.lays.room
  have hbl : b.length ≤ 63 * j.half := need_mul (by omega)
  have hsm : ∀ x ∈ [j.life, j.recs.length + 1, b.length], x ≤ 2 ^ 60 := three_small (by omega) (by omega) (by omega)
  have f0 : fld (S' j.next) 0 = j.life := by rw [h1]; exact fld_sect 2 _ 0 (by simp) hsm
  refine ⟨hh, hf, hl, ?_, ?_, ?_, hb, fun q g1 g2 => ?_, ?_, fun q g1 g2 => ?_⟩
  · show S' j.from_ = _
    rw [h3 _ (by omega)]; exact h.base
  · exact h.data.congr fun q g1 g2 => h3 q (.inl (by omega))
  · refine Lays.snoc (h.lays.congr fun q g1 g2 => h3 q (.inl g2)) ?_ h2
    rw [h1, Nat.zero_add]
    rfl
  · have g1 : j.next + 1 + need b.length ≤ q := g1
    have g2 : q < j.from_ + j.half := g2
    rw [h3 q (.inr g1)]
    exact h.free q (by omega) g2
  · show ¬ (tells (S' (j.half - j.from_)) 1 2 ∧ j.life ≤ fld (S' (j.half - j.from_)) 0)
    rw [h3 _ (by omega)]
    exact h.other
  · show fld (S' q) 0 ≤ j.life
    have g1 : q < 2 * j.half := g1
    by_cases e : q < j.next ∨ j.next + 1 + need b.length ≤ q
    · rw [h3 q e] at g2 ⊢
      exact h.heads q g1 g2
    · by_cases e2 : q = j.next
      · rw [e2, f0]
        exact Nat.le_refl _
      · have := h2 (q - (j.next + 1)) (by omega)
        rw [show j.next + 1 + (q - (j.next + 1)) = q by omega] at this
        rw [this] at g2
        exact absurd g2 (dsec_no _ 2 3 (by decide))
/-- A base in the records' stead. -/
def J.point (j : J) (b : List UInt8) : J := ⟨j.half, j.half - j.from_, j.half - j.from_ + 1 + need b.length, j.life + 1, b, []⟩
theorem Shows.point {S S' : Nat → List UInt8} {j : J} (h : Shows S j) (b : List UInt8) (hb : 1 + need b.length ≤ j.half) (hlv : j.life < 2 ^ 40) (h1 : S' (j.half - j.from_) = sect 1 [j.life + 1, b.length]) (h2 : Holds S' (j.half - j.from_ + 1) b) (h3 : ∀ q, q < j.half - j.from_ ∨ j.half - j.from_ + 1 + need b.length ≤ q → S' q = S q) : Shows S' (j.point b) := by
  have hh := h.half
  have hf := h.from_
  have hl := h.life
  have hn := h.next
  have hle := h.lays.le
  have hbl : b.length ≤ 63 * j.half := need_mul (by omega)
  have hsm : ∀ x ∈ [j.life, j.base.length], x ≤ 2 ^ 60 := two_small (by omega) (by have := need_mul (n := j.base.length) (k := j.half) (by omega); omega)
  have f0 : fld (S j.from_) 0 = j.life := by rw [h.base]; exact fld_sect 1 _ 0 (by simp) hsm
  have eo : j.half - (j.half - j.from_) = j.from_ := by omega
  refine ⟨hh, ?_, ?_, h1, h2, rfl, ?_, fun q g1 g2 => ?_, ?_, fun q g1 g2 => ?_⟩
  · show j.half - j.from_ = 0 ∨ j.half - j.from_ = j.half
    omega
  · show 1 ≤ j.life + 1 ∧ j.life + 1 ≤ 2 ^ 40
    omega
  · show j.half - j.from_ + 1 + need b.length ≤ j.half - j.from_ + j.half
    omega
  · have g1 : j.half - j.from_ + 1 + need b.length ≤ q := g1
    have g2 : q < j.half - j.from_ + j.half := g2
    show ¬ (tells (S' q) 2 3 ∧ fld (S' q) 0 = j.life + 1)
    rw [h3 q (.inr g1)]
    exact fun z => by have := h.heads q (by omega) z.1; omega
  · show ¬ (tells (S' (j.half - (j.half - j.from_))) 1 2 ∧ j.life + 1 ≤ fld (S' (j.half - (j.half - j.from_))) 0)
    rw [eo, h3 _ (by omega), f0]
    exact fun z => by omega
  · have g1 : q < 2 * j.half := g1
    show fld (S' q) 0 ≤ j.life + 1
    by_cases e : q < j.half - j.from_ ∨ j.half - j.from_ + 1 + need b.length ≤ q
    · rw [h3 q e] at g2 ⊢
      have := h.heads q g1 g2
      omega
    · by_cases e2 : q = j.half - j.from_
      · rw [e2, h1] at g2
        exact absurd g2 (sect1_no _ _)
      · have := h2 (q - (j.half - j.from_ + 1)) (by omega)
        rw [show j.half - j.from_ + 1 + (q - (j.half - j.from_ + 1)) = q by omega] at this
        rw [this] at g2
        exact absurd g2 (dsec_no _ 2 3 (by decide))
/-- A disk of no bytes: its first base is written. -/
def J.first (half : Nat) : J := ⟨half, 0, 1, 1, [], []⟩
theorem zero_no (k : UInt8) (n : Nat) (hk : k ≠ 0) : ¬ tells (List.replicate 64 0) k n := fun h => hk (h.2.1.symm.trans rfl)
theorem halfH_zero {S : Nat → List UInt8} {from_ half : Nat} (h : S from_ = List.replicate 64 0) : halfH S from_ half = ⟨0, [], [], 0⟩ := by
  unfold halfH
  refine if_neg fun q => ?_
  have := q.1
  rw [h] at this
  exact zero_no 1 2 (by decide) this
theorem Shows.first {S : Nat → List UInt8} {half : Nat} (hh : 4 ≤ half ∧ half ≤ 32768) (h0 : S 0 = sect 1 [1, 0]) (h1 : ∀ q, 0 < q → q < 2 * half → S q = List.replicate 64 0) : Shows S (J.first half) := by
  refine ⟨hh, .inl rfl, by show 1 ≤ 1 ∧ 1 ≤ 2 ^ 40; omega, h0, fun i hi => absurd hi (by show ¬ i < (0 + 62) / 63; omega), (show (1 : Nat) = 0 + 1 + need ([] : List UInt8).length from rfl), by show 1 ≤ 0 + half; omega, fun q g1 g2 => ?_, ?_, fun q g1 g2 => ?_⟩
  · have g1 : 1 ≤ q := g1
    have g2 : q < 0 + half := g2
    rw [h1 q (by omega) (by omega)]
    exact fun z => zero_no 2 3 (by decide) z.1
  · show ¬ (tells (S (half - 0)) 1 2 ∧ _)
    rw [h1 (half - 0) (by omega) (by omega)]
    exact fun z => zero_no 1 2 (by decide) z.1
  · have g1 : q < 2 * half := g1
    rcases Nat.eq_zero_or_pos q with e | e
    · rw [e, h0] at g2
      exact absurd g2 (sect1_no _ _)
    · rw [h1 q e g1] at g2
      exact absurd g2 (zero_no 2 3 (by decide))
end Jo
namespace Il

/-- The number at a place; nought where there is none. -/
def get (l : List Int) (k : Nat) : Int := l.getD k 0
theorem get_of_lt {l : List Int} {k : Nat} (h : k < l.length) : get l k = l[k] := by simp [get, h]
theorem get_of_ge {l : List Int} {k : Nat} (h : l.length ≤ k) : get l k = 0 := by simp [get, h]
theorem ext_get {l m : List Int} (hl : l.length = m.length) (h : ∀ k, k < l.length → get l k = get m k) : l = m := by
  apply List.ext_getElem hl
  intro i h1 h2
  have := h i h1
  rwa [get_of_lt h1, get_of_lt h2] at this
theorem get_map_range {n k : Nat} (f : Nat → Int) (h : k < n) : get ((List.range n).map f) k = f k := by simp [get, h]
theorem get_set {l : List Int} {k i : Nat} (v : Int) (hk : k < l.length) : get (l.set k v) i = if k = i then v else get l i := by
  unfold get
  rw [List.getD_eq_getElem?_getD, List.getD_eq_getElem?_getD, List.getElem?_set]
  by_cases e : k = i
  · rw [if_pos e, if_pos e, if_pos hk]; rfl
  · rw [if_neg e, if_neg e]
theorem get_mem {l : List Int} {k : Nat} (h : k < l.length) : get l k ∈ l := by rw [get_of_lt h]; exact List.getElem_mem h
theorem mem_get {l : List Int} {x : Int} (h : x ∈ l) : ∃ k, k < l.length ∧ get l k = x := by
  obtain ⟨k, hk, e⟩ := List.mem_iff_getElem.1 h
  exact ⟨k, hk, by rw [get_of_lt hk, e]⟩
theorem get_take {l : List Int} {n k : Nat} (h : k < n) : get (l.take n) k = get l k := by
  unfold get
  rw [List.getD_eq_getElem?_getD, List.getD_eq_getElem?_getD, List.getElem?_take, if_pos h]

/-- Where a number first is; less than nought where it is not. -/
def idx (l : List Int) (v : Int) : Int := if l.findIdx (· == v) < l.length then (l.findIdx (· == v) : Int) else -1
theorem idx_found {l : List Int} {v : Int} {k : Nat} (hk : k < l.length) (he : get l k = v) (hno : ∀ j, j < k → get l j ≠ v) : idx l v = (k : Int) := by
  have h : l.findIdx (· == v) = k := by
    rw [List.findIdx_eq hk]
    refine ⟨?_, fun j hj => ?_⟩
    · rw [← get_of_lt hk, he]; simp
    · have := hno j hj
      rw [get_of_lt (by omega)] at this
      simpa using this
  unfold idx
  rw [h, if_pos hk]
theorem idx_none {l : List Int} {v : Int} (hno : ∀ j, j < l.length → get l j ≠ v) : idx l v = -1 := by
  unfold idx
  rw [if_neg]
  intro h
  have h1 := List.findIdx_getElem (w := h)
  have h2 := hno _ h
  rw [get_of_lt h] at h2
  simp only [beq_iff_eq] at h1
  exact h2 h1
theorem idx_cases (l : List Int) (v : Int) : (∃ k, k < l.length ∧ idx l v = (k : Int) ∧ get l k = v ∧ ∀ j, j < k → get l j ≠ v) ∨ (idx l v = -1 ∧ ∀ j, j < l.length → get l j ≠ v) := by
  by_cases h : l.findIdx (· == v) < l.length
  · refine .inl ⟨_, h, ?_, ?_, fun j hj e => ?_⟩
    · unfold idx; rw [if_pos h]
    · have h1 := List.findIdx_getElem (w := h)
      rw [get_of_lt h]
      simpa using h1
    · have h2 := List.not_of_lt_findIdx hj
      rw [get_of_lt (by omega)] at e
      rw [e] at h2
      simp at h2
  · refine .inr ⟨?_, fun j hj e => ?_⟩
    · unfold idx; rw [if_neg h]
    · apply h
      have hm : ∃ x ∈ l, (x == v) = true := ⟨get l j, get_mem hj, by rw [e]; simp⟩
      exact List.findIdx_lt_length.2 hm
theorem idx_lt (l : List Int) (v : Int) : idx l v < l.length := by
  rcases idx_cases l v with ⟨k, hk, h, _⟩ | ⟨h, _⟩ <;> rw [h] <;> omega
theorem idx_ge (l : List Int) (v : Int) : -1 ≤ idx l v := by
  rcases idx_cases l v with ⟨k, hk, h, _⟩ | ⟨h, _⟩ <;> rw [h] <;> omega
theorem idx_mem (l : List Int) (v : Int) : (0 ≤ idx l v) ↔ v ∈ l := by
  rcases idx_cases l v with ⟨k, hk, h, e, _⟩ | ⟨h, e⟩
  · rw [h]
    exact ⟨fun _ => by rw [← e]; exact get_mem hk, fun _ => by omega⟩
  · rw [h]
    refine ⟨fun h => by omega, fun hm => ?_⟩
    obtain ⟨k, hk, e'⟩ := mem_get hm
    exact absurd e' (e k hk)
end Il
