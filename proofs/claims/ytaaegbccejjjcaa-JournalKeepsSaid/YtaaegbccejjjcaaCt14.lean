/- Several texts in one: The contract of a disk's Cached. Arguments that came in, opened: arrays of integers, slices of whatever. -/
import Derived.Test.YtaaegbccejjjcaaCt13
import Derived.Test.YtaaegbccejjjcaaCt2
import Derived.Deep.Slices
namespace Disks
theorem upto_mem {l : List (Option (List UInt8))} {k : Nat} {x : Int} : x ∈ upto l k ↔ 0 ≤ x ∧ x < k ∧ (cget l x.toNat).isSome = true := by
  induction k with
  | zero =>
    constructor
    · intro h; cases h
    · rintro ⟨h1, h2, _⟩; omega
  | succ k ih =>
    unfold upto
    by_cases h : (cget l k).isSome = true
    · rw [if_pos h, List.mem_append, ih, List.mem_singleton]
      constructor
      · rintro (⟨a, b, c⟩ | rfl)
        · exact ⟨a, by omega, c⟩
        · exact ⟨by omega, by omega, by rw [show ((k : Int)).toNat = k by omega]; exact h⟩
      · rintro ⟨a, b, c⟩
        by_cases e : x = (k : Int)
        · exact .inr e
        · exact .inl ⟨a, by omega, c⟩
    · rw [if_neg h, ih]
      constructor
      · rintro ⟨a, b, c⟩; exact ⟨a, by omega, c⟩
      · rintro ⟨a, b, c⟩
        refine ⟨a, ?_, c⟩
        have : x ≠ (k : Int) := fun e => by rw [e, show ((k : Int)).toNat = k by omega] at c; exact h c
        omega
theorem upto_rising (l : List (Option (List UInt8))) (k : Nat) : (upto l k).Pairwise (· < ·) := by
  induction k with
  | zero => exact List.Pairwise.nil
  | succ k ih =>
    unfold upto
    split
    · refine List.pairwise_append.2 ⟨ih, List.pairwise_singleton .., fun a ha b hb => ?_⟩
      rw [List.mem_singleton] at hb
      have := (upto_mem.1 ha).2.1
      omega
    · exact ih
theorem upto_len (l : List (Option (List UInt8))) (k : Nat) : (upto l k).length ≤ k := by
  induction k with
  | zero => exact Nat.le_refl _
  | succ k ih =>
    unfold upto
    split
    · rw [List.length_append, List.length_singleton]; omega
    · omega
end Disks
namespace Go.Proofs.Ytaaegbccejjjcaa
open Go.RowKit Go.Maps Go.Sort Go.Shelf

theorem Dk.keys {w : World} {g m b n : Nat} {D : DataW Nat} {d : Disks.D} (h : Dk w g m b n D d) : (Disks.cached d).Perm (intKeys D) := by
  obtain ⟨es, hD, hpw, _⟩ := h.mp.entries int_key5
  obtain ⟨es', hD', hko⟩ := h.mp.keysOf
  obtain rfl : es = es' := by rw [hD] at hD'; simpa using hD'
  subst hD
  refine perm_intKeys hpw (fun p hp => by obtain ⟨v, hv⟩ := hko p hp; obtain ⟨x, _, hx, _⟩ := Maps.keyOf_i64 int_under5 hv; exact ⟨x, hx⟩) ((Disks.upto_rising _ _).imp (fun q => by omega)) (fun x => ?_)
  rw [Disks.cached, Disks.upto_mem]
  have := h.tie.has x
  rw [show Lit.int .i64 x = lk x from rfl, this]
  constructor
  · rintro ⟨a, _, c⟩; exact ⟨a, c⟩
  · rintro ⟨a, c⟩
    refine ⟨a, ?_, c⟩
    rcases Nat.lt_or_ge x.toNat d.cac.length with q | q
    · omega
    · rw [Disks.cget_ge q] at c; cases c
theorem sorted_cached {d : Disks.D} {ss : List Int} (h : ss.Perm (Disks.cached d)) : ss.mergeSort (fun x y => decide (x ≤ y)) = Disks.cached d := by
  have h1 : (ss.mergeSort (fun x y => decide (x ≤ y))).Pairwise (· ≤ ·) :=
    (List.pairwise_mergeSort (le := fun x y : Int => decide (x ≤ y)) (fun a b c h1 h2 => by simp at *; omega) (fun a b => by simp; omega) ss).imp (fun h => by simpa using h)
  have h2 : (Disks.cached d).Pairwise (· ≤ ·) := (Disks.upto_rising _ _).imp (fun q => by omega)
  exact List.Perm.eq_of_pairwise (le := (· ≤ ·)) (fun a b _ _ p q => by omega) h1 h2 ((List.mergeSort_perm _ _).trans h)
theorem size_keys {D : DataW Nat} {d : Disks.D} (h : (Disks.cached d).Perm (intKeys D)) (hm : IsMap D) : Maps.size D = (Disks.cached d).length := by
  rw [h.length_eq]
  obtain ⟨es, rfl⟩ := hm
  show _ = List.length (List.map _ _)
  rw [List.length_map]
  rfl
set_option maxRecDepth 100000 in
set_option maxHeartbeats 1000000 in
theorem dkCached_any (w : World) (g m b n : Nat) (D : DataW Nat) (d : Disks.D) (h : Dk w g m b n D d) (hf : Disks.Wf d) :
    Calls Try.prog 41 #[dptr g] w fun e w' => ∃ v, e = .returned v ∧ w'.ownsRow w.heap.size 3 1 v (Disks.cached d).length (icells (Disks.cached d)) ∧ Ext w w' := by
  have hN := dkNone_any w g m b n D d h
  have hl : (Disks.cached d).length ≤ 65536 := Nat.le_trans (Disks.upto_len _ _) (by rw [hf.len]; exact hf.max)
  have hp := h.keys
  have hz := size_keys hp h.mp.isMap
  have H := Lib.hid h
  have hk := fun (W : World) (hW : Ext w W) => keys_any W b n D (h.ext hW).mp (by unfold maxLen; omega) (by omega)
  have HK := Lib.hid hk
  have HP := Lib.hid hp
  have HF := Lib.hid hf
  clear h hf hl hp hz hk
  go_enter Try.func41, Try.ntmps41
  go_wp2_with (fail)
  with_reducible refine hN.mono ?_
  rintro e w1 ⟨rfl, x1⟩
  have k1 := (H.out.ext x1).c1
  have X1 := Lib.hid x1
  clear x1 hN
  go_wp2_with (fail)
  with_reducible refine (HK.out _ X1.out).mono ?_
  rintro e w2 ⟨v2, rfl, x2, hS⟩
  have X2 := Lib.hid x2
  have HS := Lib.hid hS
  clear x2 hS
  go_wp2_with (fail)
  with_reducible refine HS.out.mono ?_
  rintro e w3 ⟨v3, ss, rfl, hp3, ho3, x3⟩
  have HP3 := Lib.hid hp3
  have HO3 := Lib.hid ho3
  have X3 := Lib.hid x3
  clear hp3 ho3 x3 HS
  go_wp2_with (fail)
  refine bodyPost_ret (results_tmp rfl _ _ _) rfl ?_
  have hpp := HP3.out.trans HP.out.symm
  have ho := HO3.out
  rw [sorted_cached hpp, hpp.length_eq] at ho
  exact ⟨_, rfl, ownsRow_base_a ho X1.out.size, X1.out.trans X3.out⟩
end Go.Proofs.Ytaaegbccejjjcaa
namespace Go.Proofs.Ytaaegbccejjjcaa
open Go.ChangeShapes Go.WideShapes Go.ChangeAt Go.RowKit
section
variable {H : Type} {enc : TypeId × Value → H} {P : Program} {w : World} {base : Nat} {spare : Nat → Bool} {held : Bool}

theorem okWide_array {r : Reach} {b0 n : Nat} {t e : TypeId} {v : Value} (ht : P.underlying t = some (.array n e)) (h : Value.okWide P w r b0 t v) : ∃ cs, v = .agg cs ∧ cs.size = P.cellsOf t := by
  simp only [Value.okWide, ht] at h
  obtain ⟨cs, h1, h2, _⟩ := h
  exact ⟨cs, h1, h2⟩
theorem cells_spot {a : Addr} {v : Value} (h : w.cell? (a.add 0) = some v) : a = ⟨a.block, a.off, none⟩ := by
  obtain ⟨b, off, sp⟩ := a
  cases sp with
  | none => rfl
  | some s =>
    exfalso
    have e : (⟨b, off, some s⟩ : Addr).add 0 = ⟨b, off, some s⟩ := by unfold Addr.add; split <;> simp_all
    rw [e] at h
    unfold World.cell? at h
    split at h <;> simp at h
/-- An array of integers. -/
theorem trod_int_array {t e : TypeId} {k : IntKind} {n fuel : Nat} {cs : List Value} {x : DataW H × List MemPlace} (ht : P.underlying t = some (.array n e)) (he : P.underlying e = some (.int k)) (hc : P.cellsOf e = 1) (hct : P.cellsOf t = n)
    (h : DataW.trod enc P w base spare held fuel t cs = some x) : ∃ zs : List Int, zs.length = n ∧ cs = zs.map (Value.int k) ∧ ∀ z ∈ zs, (Lit.int k z).wf = true := by
  obtain ⟨xs, m, _, _, hl, hxl, hel⟩ := DataW.trod_array ht h
  rw [hct] at hl
  have each : ∀ i, i < n → ∃ z : Int, cs[i]? = some (.int k z) ∧ (Lit.int k z).wf = true := by
    intro i hi
    have h1 := hel i hi
    rw [hc, Nat.mul_one] at h1
    have hxi : i < xs.length := by omega
    rw [List.getElem?_eq_getElem hxi] at h1
    obtain ⟨z, hz, _, hw⟩ := DataW.trod_int he h1
    refine ⟨z, ?_, hw⟩
    have hci : i < cs.length := by omega
    have h2 : (cs.drop i).take 1 = [cs[i]] := by rw [List.drop_eq_getElem_cons hci]; rfl
    rw [h2] at hz
    injection hz with hz
    rw [List.getElem?_eq_getElem hci, hz]
  obtain ⟨f, hf⟩ := Go.Deep.choose_lt each
  refine ⟨(List.range n).map f, by simp, ?_, ?_⟩
  · apply List.ext_getElem (by simp [hl])
    intro i h1 h2
    have := (hf i (by omega)).1
    rw [List.getElem?_eq_getElem h1] at this
    injection this with this
    rw [this]
    simp
  · intro z hz
    simp only [List.mem_map, List.mem_range] at hz
    obtain ⟨i, hi, rfl⟩ := hz
    exact (hf i hi).2
end
set_option maxRecDepth 100000 in
theorem open_u8x3 {H : Type} {enc : TypeId × Value → H} {W : World} {r : Reach} {b0 : Nat} {t e : TypeId} {v : Value} {d : DataW H} {p : List MemPlace} (ht : Try.prog.underlying t = some (.array 3 e)) (he : Try.prog.underlying e = some (.int .u8)) (hc : Try.prog.cellsOf e = 1) (hct : Try.prog.cellsOf t = 3)
    (hv : Value.okWide Try.prog W r b0 t v) (h : DataW.Trod enc Try.prog W 0 (fun _ => true) true t v d p) : ∃ x y z : UInt8, v = .agg #[.int .u8 (x.toNat : Int), .int .u8 (y.toNat : Int), .int .u8 (z.toNat : Int)] := by
  obtain ⟨cs, rfl, _⟩ := okWide_array ht hv
  obtain ⟨fuel, hf⟩ := h
  obtain ⟨zs, hl, hcs, hw⟩ := trod_int_array ht he hc hct hf
  match zs, hl with
  | [a, b, c], _ =>
    obtain ⟨x, rfl⟩ := wf_u8 (hw a (by simp))
    obtain ⟨y, rfl⟩ := wf_u8 (hw b (by simp))
    obtain ⟨z, rfl⟩ := wf_u8 (hw c (by simp))
    refine ⟨x, y, z, ?_⟩
    have : cs = ([Value.int .u8 (x.toNat : Int), .int .u8 (y.toNat : Int), .int .u8 (z.toNat : Int)]).toArray := by
      rw [← Array.toList_inj]
      exact hcs
    rw [this]
end Go.Proofs.Ytaaegbccejjjcaa
