/- Several texts in one: The contract of journal's numbers. The contracts of a journal's reader: one sector; so many bytes. -/
import Derived.Test.YtaaegbccejjjcaaCt18
import Derived.Laws.MakeOwn
namespace Jo
theorem val_snoc (b : List UInt8) (x : UInt8) : val (b ++ [x]) = val b * 256 + x.toNat := by unfold val; rw [List.foldl_append]; rfl
theorem fold_lt (b : List UInt8) (v : Nat) : b.foldl (fun v x => v * 256 + x.toNat) v < (v + 1) * 256 ^ b.length := by
  induction b generalizing v with
  | nil => simp
  | cons x b ih =>
    rw [List.foldl_cons, List.length_cons, Nat.pow_succ]
    refine Nat.lt_of_lt_of_le (ih _) ?_
    have := x.toNat_lt
    have h : v * 256 + x.toNat + 1 ≤ (v + 1) * 256 := by omega
    calc (v * 256 + x.toNat + 1) * 256 ^ b.length ≤ ((v + 1) * 256) * 256 ^ b.length := Nat.mul_le_mul_right _ h
      _ = (v + 1) * (256 ^ b.length * 256) := by rw [Nat.mul_assoc, Nat.mul_comm 256]
theorem val_lt (b : List UInt8) : val b < 256 ^ b.length := by
  have := fold_lt b 0
  rw [Nat.zero_add, Nat.one_mul] at this
  exact this
theorem take_snoc (b : List UInt8) (k i : Nat) (h : k + i < b.length) : (b.drop k).take (i + 1) = (b.drop k).take i ++ [Gf.get b (k + i)] := by
  rw [List.take_add_one, List.getElem?_drop, List.getElem?_eq_getElem h]
  have : Gf.get b (k + i) = b[k + i] := by simp [Gf.get, h]
  rw [this]
  rfl
/-- The numbers of a sector. -/
def flds (b : List UInt8) (n : Nat) : List Nat := (List.range n).map (fld b)
/-- As they come to be. -/
def fldsTo (b : List UInt8) (n k : Nat) : List Int := (List.range n).map fun i => if i < k then ((fld b i : Nat) : Int) else 0
theorem fldsTo_length (b : List UInt8) (n k : Nat) : (fldsTo b n k).length = n := by simp [fldsTo]
theorem fldsTo_zero (b : List UInt8) (n : Nat) : fldsTo b n 0 = List.replicate n 0 := by
  unfold fldsTo
  rw [List.eq_replicate_iff]
  refine ⟨by simp, fun x hx => ?_⟩
  simp at hx
  exact hx.2.symm
theorem fldsTo_succ (b : List UInt8) (n k : Nat) (hk : k < n) : fldsTo b n (k + 1) = (fldsTo b n k).set k ((fld b k : Nat) : Int) := by
  unfold fldsTo
  apply List.ext_getElem (by simp)
  intro i h1 h2
  rw [List.getElem_set]
  simp only [List.getElem_map, List.getElem_range]
  by_cases e : k = i
  · subst e
    rw [if_pos rfl, if_pos (by omega)]
  · rw [if_neg e]
    by_cases h : i < k
    · rw [if_pos (by omega), if_pos h]
    · rw [if_neg (by omega), if_neg h]
theorem fldsTo_all (b : List UInt8) (n : Nat) : fldsTo b n n = (flds b n).map fun (x : Nat) => (x : Int) := by
  unfold fldsTo flds
  rw [List.map_map]
  apply List.map_congr_left
  intro i hi
  rw [if_pos (List.mem_range.1 hi)]
  rfl
end Jo
namespace Go.Proofs.Ytaaegbccejjjcaa
open Go.RowKit Go.Maps Go.Sort Go.Shelf

/-- A row of numbers in a block of one's own, whole. -/
structure Oi (w w' : World) (p : Nat) (l : List Int) : Prop where
  ext : Ext w w'
  le : w.heap.size ≤ p
  blk : w'.heap[p]? = some (.cells (icells l).toArray 3 (0, 0))
section
variable {w w' w'' : World} {p : Nat} {l : List Int}
theorem Oi.lt (h : Oi w w' p l) : p < w'.heap.size := (Array.getElem?_eq_some_iff.1 h.blk).1
theorem Oi.then (h : Oi w w' p l) (hx : Ext w' w'') : Oi w w'' p l := ⟨h.ext.trans hx, h.le, (hx.block p h.lt).trans h.blk⟩
theorem Oi.set (h : Oi w w' p l) (k : Nat) (x : Int) : Oi w (w'.setCell ⟨p, k, none⟩ (.int .i64 x)) p (l.set k x) := by
  refine ⟨h.ext.set_ h.le _, h.le, ?_⟩
  have := heap_setCell_same w' p k _ _ (.int .i64 x) h.blk
  rw [this, icells_set]
  simp
theorem Oi.cell (h : Oi w w' p l) {k : Nat} (hk : k < l.length) : w'.cell? ⟨p, k, none⟩ = some (.int .i64 (Il.get l k)) := by
  rw [cell_of_row w' _ _ _ _ _ h.blk]
  simpa using icells_get hk
theorem Oi.fz (h : Oi w w' p l) (k : Nat) : w'.frozen? ⟨p, k, none⟩ = false := frozen_of_row w' _ _ _ _ h.blk
theorem Oi.is (h : Oi w w' p l) (hl : l.length < 2 ^ 62) {n : Nat} (hn : l.length = n) : Is w' (some ⟨p, 0, none⟩) n n l := by
  subst hn
  refine ⟨rfl, Nat.le_refl _, by omega, by rw [icells_length]; omega, fun _ => ⟨p, 0, rfl, fun j u hu => ?_⟩⟩
  rw [cell_of_row w' _ _ _ _ _ h.blk, Nat.zero_add]
  simpa using hu
end
theorem run_make_ints (W : World) (c : Nat) (hc : c ≤ 7) : ∃ q W', (Instr.makeSlice 78 (.int .i64 (c : Int)) (.int .i64 (c : Int))).run Try.prog W = .ok (.slice (some ⟨q, 0, none⟩) c c) W' ∧ Oi W W' q (List.replicate c 0) := by
  obtain ⟨i, hi, hz, h1, h2⟩ := info_parts int_info
  have h := run_make (P := Try.prog) W 78 3 i _ Try.underlying78 hi hz .i64 .i64 (c : Int) (c : Int) (by omega) (Int.le_refl _) (by rw [h2]; omega) (by omega)
  rw [h1] at h
  refine ⟨_, _, h, Ext.alloc _ _, Nat.le_refl _, ?_⟩
  rw [heap_alloc_new]
  have e : madeCells (Value.int .i64 0).cells ((c : Int).toNat * 1) = (icells (List.replicate c 0)).toArray := by
    apply Array.ext'
    rw [Nat.mul_one]
    show (made5 (c : Int).toNat (.int .i64 0)).toList = _
    rw [made5_toList, Int.toNat_natCast]
    simp [icells]
  rw [e]
theorem or_u64 (v x : Nat) (hv : v < 256 ^ 7) (hx : x < 256) : bits .or .u64 ((v : Int) * 256) (x : Int) = ((v * 256 + x : Nat) : Int) := by
  have e : ((v : Int) * 256) = ((v * 256 : Nat) : Int) := by omega
  have hv' : v < 72057594037927936 := hv
  rw [e]
  show IntKind.u64.wrap ((BitVec.ofInt 64 ((v * 256 : Nat) : Int) ||| BitVec.ofInt 64 (x : Int)).toNat : Int) = _
  rw [BitVec.toNat_or, ofInt_u64 (v * 256) (by omega), ofInt_u64 x (by omega)]
  have h := Nat.shiftLeft_add_eq_or_of_lt (i := 8) (b := x) (by omega) v
  rw [Nat.shiftLeft_eq] at h
  have h' : v * 256 ||| x = v * 256 + x := h.symm
  rw [h', IntWalk.u64_in _ (by omega)]
/-- What numbers hands back. -/
def GivesN (w : World) (lb : List UInt8) (kd : UInt8) (n : Nat) (e : Ending) (w' : World) : Prop :=
  (Jo.tells lb kd n ∧ ∃ q, e = .returned (.tuple #[.slice (some ⟨q, 0, none⟩) n n, .bool true]) ∧ Is w' (some ⟨q, 0, none⟩) n n (nints (Jo.flds lb n)) ∧ Ext w w' ∧ w.heap.size ≤ q) ∨ (¬ Jo.tells lb kd n ∧ e = .returned (.tuple #[.slice none 0 0, .bool false]) ∧ Ext w w')

set_option maxRecDepth 100000 in
set_option maxHeartbeats 2000000 in
theorem numbers_any (w : World) (A : Option Addr) (n c : Nat) (lb : List UInt8) (hl : Bs w A n c lb) (kd : UInt8) (cnt : Nat) (hcnt : cnt ≤ 7) :
    Calls Try.prog 42 #[.slice A n c, .int .u8 (kd.toNat : Int), .int .i64 (cnt : Int)] w (GivesN w lb kd cnt) := by
  have hm := hl.max
  have hle := hl.le
  have L := Lib.hid hl.len
  have HL := Lib.hid hl
  clear hl
  by_cases h64 : n = 64
  · subst h64
    have e64 : ((64 : Int) != 64) = false := rfl
    obtain ⟨b, o, rfl, hc0⟩ := HL.out.rd.byte (k := 0) (by omega)
    simp only [Nat.add_zero] at hc0
    by_cases hk : Gf.get lb 0 = kd
    · have ek : (((Gf.get lb 0).toNat : Int) != (kd.toNat : Int)) = false := by rw [ne_u8, hk]; simp
      obtain ⟨q, W, hmk, ho⟩ := run_make_ints w cnt hcnt
      have HK := Lib.hid hk
      have HO := Lib.hid ho
      clear hk ho
      go_enter Try.func42, Try.ntmps42
      go_wp2_with (fail)
      clear ek hc0 hmk
      go_loopw [27] (fun s27 wr => ∃ k : Nat, k ≤ cnt ∧ s27 = .int .i64 (k : Int) ∧ RowKit.Hid (Oi w wr q (Jo.fldsTo lb cnt k)) ∧ RowKit.Hid (∀ j, j < k → Jo.fld lb j ≤ 2 ^ 60)) (fun s27 _ => cnt - (intOf s27).toNat)
      case atStart => exact ⟨0, Nat.zero_le _, rfl, by rw [Jo.fldsTo_zero]; exact HO, Lib.hid fun j hj => absurd hj (Nat.not_lt_zero _)⟩
      case round =>
        obtain ⟨k, hk, rfl, H, HF⟩ := hrel
        obtain ⟨wo, hwo⟩ : ∃ wo, wo = wr := ⟨_, rfl⟩
        subst hwo
        by_cases hlt : k < cnt
        · have t1 : (k : Int) < cnt := by omega
          go_wp2_with (fail)
          go_loopw [10, 30] (fun s10 s30 wr => ∃ i v : Nat, i ≤ 8 ∧ s10 = .int .u64 (v : Int) ∧ s30 = .int .i64 (i : Int) ∧ RowKit.Hid (v = Jo.val ((lb.drop (1 + 8 * k)).take i)) ∧ wr = wo) (fun _ s30 _ => 8 - (intOf s30).toNat)
          case atStart => exact ⟨0, 0, by omega, rfl, rfl, Lib.hid rfl, rfl⟩
          case round =>
            obtain ⟨i, v, hi, rfl, rfl, HV, rfl⟩ := hrel
            by_cases hlt2 : i < 8
            · have t2 : (i : Int) < 8 := by omega
              have hvl : v < 256 ^ 7 := by
                have h1 := Jo.val_lt ((lb.drop (1 + 8 * k)).take i)
                rw [← HV.out, List.length_take] at h1
                exact Nat.lt_of_lt_of_le h1 (Nat.pow_le_pow_right (by omega) (by omega))
              obtain ⟨b', o', ebo, hc⟩ := (HL.out.ext H.out.ext).rd.byte (k := 1 + 8 * k + i) (by omega)
              injection ebo with ebo
              injection ebo with eb1 eb2
              subst eb1 eb2
              have hx := (Gf.get lb (1 + 8 * k + i)).toNat_lt
              obtain ⟨x, hx'⟩ : ∃ x, (Gf.get lb (1 + 8 * k + i)).toNat = x := ⟨_, rfl⟩
              rw [hx'] at hc hx
              have HX := Lib.hid hx'
              clear hx'
              have hor := or_u64 v x hvl (by omega)
              have hvn : v * 256 + x = Jo.val ((lb.drop (1 + 8 * k)).take (i + 1)) := by
                rw [Jo.take_snoc _ _ _ (by rw [L.out]; omega), Jo.val_snoc, HX.out, ← HV.out]
              have HVN := Lib.hid hvn
              clear hvn
              go_wp2_with (fail)
              exact ⟨⟨i + 1, v * 256 + x, by omega, rfl, by go_num, HVN, trivial⟩, by simp [intOf]; omega⟩
            · have t2 : ¬ (i : Int) < 8 := by omega
              obtain rfl : i = 8 := by omega
              have hv : v = Jo.fld lb k := HV.out
              have HVF := Lib.hid hv
              clear hv
              by_cases hbig : 1152921504606846976 < v
              · have t3 : (1152921504606846976 : Int) < (v : Int) := by omega
                have HB := Lib.hid (show ¬ Jo.tells lb kd cnt from fun h => by have := h.2.2.1 k hlt; rw [← HVF.out] at this; omega)
                clear hbig
                go_wp2_with (fail)
                refine bodyPost_ret (results_tmp2 rfl _ _ _) rfl ?_
                exact .inr ⟨HB.out, rfl, H.out.ext⟩
              · have t3 : ¬ (1152921504606846976 : Int) < (v : Int) := by omega
                have hwi : IntKind.i64.wrap (v : Int) = (v : Int) := IntWalk.i64_in _ (by omega)
                have hc := H.out.cell (k := k) (by rw [Jo.fldsTo_length]; exact hlt)
                have hf := H.out.fz k
                have hs := H.out.set k (v : Int)
                rw [HVF.out, ← Jo.fldsTo_succ lb cnt k hlt, ← HVF.out] at hs
                have HS := Lib.hid hs
                have HFN := Lib.hid (show ∀ j, j < k + 1 → Jo.fld lb j ≤ 2 ^ 60 from fun j hj => by
                  by_cases e : j = k
                  · rw [e, ← HVF.out]; omega
                  · exact HF.out j (by omega))
                obtain ⟨z, hz⟩ : ∃ z, Il.get (Jo.fldsTo lb cnt k) k = z := ⟨_, rfl⟩
                rw [hz] at hc
                clear hz hs hbig
                go_wp2_with (fail)
                exact ⟨⟨k + 1, by omega, by go_num, HS, HFN⟩, by simp [intOf]; omega⟩
        · have t1 : ¬ (k : Int) < cnt := by omega
          obtain rfl : k = cnt := by omega
          have H' := H.out.is (by rw [Jo.fldsTo_length]; omega) (n := k) (by rw [Jo.fldsTo_length])
          rw [Jo.fldsTo_all] at H'
          have HLE := Lib.hid H.out.le
          replace H : RowKit.Hid (True ∧ Is wo (some ⟨q, 0, none⟩) k k (nints (Jo.flds lb k)) ∧ Ext w wo) := Lib.hid ⟨trivial, H', H.out.ext⟩
          clear H'
          go_wp2_with (fail)
          go_loopw [60] (fun s60 wr => ∃ j : Nat, j ≤ 63 - 8 * k ∧ s60 = .int .i64 (j : Int) ∧ RowKit.Hid (∀ t, t < j → Gf.get lb (1 + 8 * k + t) = 0) ∧ wr = wo) (fun s60 _ => (63 - 8 * k) - (intOf s60).toNat)
          case atStart => exact ⟨0, by omega, rfl, Lib.hid fun t ht => absurd ht (Nat.not_lt_zero _), rfl⟩
          case round =>
            obtain ⟨j, hj, rfl, HZ, rfl⟩ := hrel
            have hnum : ((64 - (1 + 8 * k) : Nat) : Int) = 64 - (1 + 8 * (k : Int)) := by omega
            by_cases hlt3 : j < 63 - 8 * k
            · have t3 : (j : Int) < 64 - (1 + 8 * (k : Int)) := by omega
              have t4 : j < 64 - (1 + 8 * k) := by omega
              have t5 : (j : Int) < ((64 - (1 + 8 * k) : Nat) : Int) := by omega
              obtain ⟨b', o', ebo, hc⟩ := (HL.out.ext H.out.2.2).rd.byte (k := 1 + 8 * k + j) (by omega)
              injection ebo with ebo
              injection ebo with eb1 eb2
              subst eb1 eb2
              have hc2 : wr.cell? ⟨b, o + (1 + 8 * k) + j, none⟩ = some (.int .u8 ((Gf.get lb (1 + 8 * k + j)).toNat : Int)) := by rw [Nat.add_assoc]; exact hc
              by_cases hz : Gf.get lb (1 + 8 * k + j) = 0
              · have ez := u8_zero' _ hz
                have HZZ := Lib.hid hz
                clear hz
                go_wp2_with (fail)
                refine ⟨⟨j + 1, by omega, by go_num, Lib.hid fun t ht => ?_, trivial⟩, by simp [intOf]; omega⟩
                by_cases e : t = j
                · rw [e]; exact HZZ.out
                · exact HZ.out t (by omega)
              · have ez := u8_nonzero' _ hz
                have HB := Lib.hid (show ¬ Jo.tells lb kd k from fun h => hz (h.2.2.2 _ (by
                  have hi : 1 + 8 * k + j < lb.length := by rw [L.out]; omega
                  have : Gf.get lb (1 + 8 * k + j) = lb[1 + 8 * k + j] := by simp [Gf.get, hi]
                  rw [this, List.mem_drop_iff_getElem]
                  exact ⟨j, by omega, rfl⟩)))
                clear hz
                go_wp2_with (fail)
                refine bodyPost_ret (results_tmp2 rfl _ _ _) rfl ?_
                exact .inr ⟨HB.out, rfl, H.out.2.2⟩
            · have t3 : ¬ (j : Int) < 64 - (1 + 8 * (k : Int)) := by omega
              have t4 : ¬ j < 64 - (1 + 8 * k) := by omega
              have t5 : ¬ (j : Int) < ((64 - (1 + 8 * k) : Nat) : Int) := by omega
              have hT : Jo.tells lb kd k := ⟨L.out, HK.out, HF.out, fun x hx => by
                obtain ⟨t, ht, e⟩ := List.mem_drop_iff_getElem.1 hx
                have h1 := HZ.out t (by rw [L.out] at ht; omega)
                have ht' : 1 + 8 * k + t < lb.length := by omega
                have : Gf.get lb (1 + 8 * k + t) = lb[1 + 8 * k + t] := by simp [Gf.get, ht']
                rw [← e, ← this]
                exact h1⟩
              have HT := Lib.hid hT
              clear hT
              go_wp2_with (fail)
              refine bodyPost_ret (results_tmp2 rfl _ _ _) rfl ?_
              exact .inl ⟨HT.out, q, rfl, H.out.2.1, H.out.2.2, HLE.out⟩
    · have ek : (((Gf.get lb 0).toNat : Int) != (kd.toNat : Int)) = true := by rw [ne_u8]; simpa using hk
      have HK := Lib.hid hk
      clear hk
      go_enter Try.func42, Try.ntmps42
      go_wp2_with (fail)
      refine bodyPost_ret (results_tmp2 rfl _ _ _) rfl ?_
      exact .inr ⟨fun h => HK.out h.2.1, rfl, Ext.refl w⟩
  · have e64 : ((n : Int) != 64) = true := by simp; omega
    have H64 := Lib.hid h64
    clear h64
    go_enter Try.func42, Try.ntmps42
    go_wp2_with (fail)
    refine bodyPost_ret (results_tmp2 rfl _ _ _) rfl ?_
    exact .inr ⟨fun h => H64.out (by rw [← L.out]; exact h.1), rfl, Ext.refl w⟩
end Go.Proofs.Ytaaegbccejjjcaa
namespace Go.Proofs.Ytaaegbccejjjcaa
open Go.RowKit Go.Maps Go.Sort Go.Shelf

/-- What a slice leads to is newer than a world. -/
def Newer (w : World) (A : Option Addr) : Prop := ∀ q, (A.map (·.block)) = some q → w.heap.size ≤ q
/-- A reader in its box, of a disk that has power. -/
structure Rb (w : World) (r g m b N : Nat) (d : Disks.D) : Prop where
  ds : Ds w g m b N d
  blk : w.heap[r]? = some (.cells #[dptr g, .int .i64 0] 68 (0, 0))
  sep : r ≠ g ∧ r ≠ m ∧ r ≠ b
  up : d.down = false
section
variable {w w' : World} {r g m b N : Nat} {d : Disks.D}
theorem Rb.ext (h : Rb w r g m b N d) (hx : Ext w w') : Rb w' r g m b N d := ⟨h.ds.ext hx, (hx.block r (Array.getElem?_eq_some_iff.1 h.blk).1).trans h.blk, h.sep, h.up⟩
theorem Rb.c0 (h : Rb w r g m b N d) : w.cell? ⟨r, 0, none⟩ = some (dptr g) := by rw [cell_of_row w _ _ _ _ _ h.blk]; rfl
theorem Rb.c1 (h : Rb w r g m b N d) : w.cell? ⟨r, 1, none⟩ = some (.int .i64 0) := by rw [cell_of_row w _ _ _ _ _ h.blk]; rfl
theorem Rb.fz (h : Rb w r g m b N d) (k : Nat) : w.frozen? ⟨r, k, none⟩ = false := frozen_of_row w _ _ _ _ h.blk
theorem Rb.set (h : Rb w r g m b N d) : Rb (w.setCell ⟨r, 1, none⟩ (.int .i64 0)) r g m b N d :=
  ⟨h.ds.farC h.sep.1 h.sep.2.1 h.sep.2.2 _, heap_setCell_same w r 1 _ _ (.int .i64 0) h.blk, h.sep, h.up⟩
end
theorem bs_tail {w : World} {q : Nat} {s : List UInt8} (h : Bs w (some ⟨q, 0, none⟩) 64 64 s) : Rd w 1 (some ⟨q, 1, none⟩) 63 (bcells (s.drop 1)) := by
  refine ⟨by rw [bcells_len, List.length_drop, h.len], fun _ => ⟨q, 1, rfl, fun j u hu => ?_⟩⟩
  obtain ⟨b, off, e, hc⟩ := h.rd.2 (by omega)
  injection e with e
  injection e with e1 e2
  subst e1 e2
  have := hc (1 + j) u (by
    have h1 : bcells s = (bcells s).take 1 ++ bcells (s.drop 1) := by
      have : bcells (s.drop 1) = (bcells s).drop 1 := by simp [bcells]
      rw [this, List.take_append_drop]
    rw [h1, List.getElem?_append_right (by rw [List.length_take, bcells_len, h.len]; omega)]
    rw [List.length_take, bcells_len, h.len]
    show (bcells (s.drop 1))[1 + j - min 1 64]? = _
    rw [show 1 + j - min 1 64 = j by omega]
    exact hu)
  simpa using this
set_option maxRecDepth 100000 in
theorem rdSector_any (w : World) (r g m b N : Nat) (d : Disks.D) (h : Rb w r g m b N d) (i : Nat) (hi : i < d.med.length) :
    Calls Try.prog 43 #[.pointer (some ⟨r, 0, none⟩), .int .i64 (i : Int)] w fun e w' => ∃ q, e = .returned (.slice (some ⟨q, 0, none⟩) 64 64) ∧ Bs w' (some ⟨q, 0, none⟩) 64 64 (Disks.sec d i) ∧ Rb w' r g m b N d ∧ Ch (fun q => q = r) w w' := by
  have hrd := h.ds.readOk (i : Int) (Jo.there_up h.up hi) (s := Disks.sec d i) (by rw [Int.toNat_natCast])
  have k0 := h.c0
  have k1 := h.c1
  have H := Lib.hid h
  clear h
  go_enter Try.func43, Try.ntmps43
  go_wp2_with (fail)
  with_reducible refine hrd.mono ?_
  rintro e w1 ⟨q, rfl, hs⟩
  have H1 := Lib.hid (H.out.ext hs.ext)
  have HS := Lib.hid hs
  have hne : q ≠ r := fun e => by
    have h1 := (Array.getElem?_eq_some_iff.1 H.out.blk).1
    have h2 := hs.le
    omega
  have NE := Lib.hid hne
  clear k0 k1 hrd hs hne
  have k1 := H1.out.c1
  have f1 := H1.out.fz 1
  go_wp2_with (fail)
  go_ret
  have hch : Ch (fun q => q = r) w (w1.setCell ⟨r, 1, none⟩ (.int .i64 0)) := Ch.set (Z := fun q => q = r) (Ch.of HS.out.ext _) (p := ⟨r, 1, none⟩) (.inl rfl) _
  have hch1 : Ch (fun q => q = r) w1 (w1.setCell ⟨r, 1, none⟩ (.int .i64 0)) := Ch.set (Z := fun q => q = r) (Ch.refl _ _) (p := ⟨r, 1, none⟩) (.inl rfl) _
  exact ⟨q, rfl, HS.out.bs.ch hch1 (fun _ p hp => by injection hp with hp; have hp : q = p := hp; subst hp; exact ⟨HS.out.bs.block (by omega) rfl, NE.out⟩), H1.out.set, hch⟩

set_option maxRecDepth 100000 in
set_option maxHeartbeats 1000000 in
theorem rdBytes_any (w : World) (r g m b N : Nat) (d : Disks.D) (h : Rb w r g m b N d) (at_ n : Nat) (hi : at_ + Jo.need n ≤ d.med.length) :
    Calls Try.prog 44 #[.pointer (some ⟨r, 0, none⟩), .int .i64 (at_ : Int), .int .i64 (n : Int)] w fun e w' => ∃ A c, e = .returned (.slice A n c) ∧ Bs w' A n c (Jo.bytesR (Disks.sec d) at_ n) ∧ Newer w A ∧ Rb w' r g m b N d ∧ Ch (fun q => q = r) w w' := by
  obtain ⟨i0, hi0, hz0, hz1, hz2⟩ := info_parts u8_info5
  have hmax := h.ds.ok.wf.max
  have hwf := Lib.hid h.ds.ok.wf
  have hn1 : n ≤ 63 * Jo.need n := by unfold Jo.need; omega
  have hnd := need_any w n (by omega)
  obtain ⟨K, hK⟩ : ∃ K, Jo.need n = K := ⟨_, rfl⟩
  rw [hK] at hnd hi hn1
  have HK := Lib.hid hK
  have H := Lib.hid h
  have hrl := (Array.getElem?_eq_some_iff.1 h.blk).1
  clear h hK
  go_enter Try.func44, Try.ntmps44
  go_wp2_with (fail)
  with_reducible refine hnd.mono ?_
  rintro e w1 ⟨rfl, rfl⟩
  clear hnd
  go_wp2_with (fail)
  go_loopw [7, 12] (fun s7 s12 wr => ∃ k : Nat, k ≤ K ∧ s12 = .int .i64 (k : Int) ∧ RowKit.Hid (Rb wr r g m b N d) ∧ RowKit.Hid (Ch (fun q => q = r) w wr) ∧ RowKit.Hid (wr.ownsRow w.heap.size 5 1 s7 (63 * k) (bcells (Jo.bytesTo (Disks.sec d) at_ k)))) (fun _ s12 _ => K - (intOf s12).toNat)
  case atStart => exact ⟨0, Nat.zero_le _, rfl, H, Lib.hid (Ch.refl _ _), Lib.hid (World.ownsRow_nil _ _ _ _)⟩
  case round =>
    obtain ⟨k, hk, rfl, HR, HC, HO⟩ := hrel
    by_cases hlt : k < K
    · have t1 : (k : Int) < K := by omega
      have hs := rdSector_any wr r g m b N d HR.out (at_ + k) (by omega)
      have hcast : ((at_ + k : Nat) : Int) = (at_ : Int) + (k : Int) := by omega
      rw [hcast] at hs
      have HSS := Lib.hid hs
      clear hs hcast
      go_wp2_with (fail)
      with_reducible refine HSS.out.mono ?_
      rintro e w2 ⟨q, rfl, bs, rb, ch⟩
      have R2 := Lib.hid rb
      have C2 := Lib.hid (HC.out.trans ch)
      have O2 := Lib.hid (own_ch HO.out ch (fun q hq e => by have := own_row HO.out q hq; subst e; omega))
      have T2 := Lib.hid (bs_tail bs)
      have k1 := rb.c1
      have SL := Lib.hid (show (bcells ((Disks.sec d (at_ + k)).drop 1)).length = 63 from (bs_tail bs).1)
      have sz := C2.out.size
      clear bs rb ch HSS
      go_wp2_with (
        at_builtin
        refine wpList_append_rd _ rfl (.tmp 25) (.tmp 27) 32 rfl w.heap.size 5 i0 _ 1 1 Try.underlying32 hi0 hz0 hz1 hz2 rfl (by omega) u7 (63 * k) (bcells (Jo.bytesTo (Disks.sec d) at_ k)) rfl O2.out (some ⟨q, 1, none⟩) 63 63 (bcells ((Disks.sec d (at_ + k)).drop 1)) rfl T2.out (bcells_one _) (by omega) (by unfold maxLen; omega) sz ?_
        intro v3 w3 o3 g3 at3)
      have C3 := C2.out.grown g3 (fun q hq => .inr (own_row O2.out q hq))
      refine ⟨⟨k + 1, by omega, by go_num, Lib.hid ?_, Lib.hid C3, Lib.hid ?_⟩, by simp [intOf]; omega⟩
      · have rlt := Nat.lt_of_lt_of_le hrl sz
        have nr : ∀ q, q < w.heap.size → some q ≠ Value.ownBlock u7 := fun q hq e => by have := own_row O2.out q e.symm; omega
        obtain ⟨l1, l2, l3⟩ := H.out.ds.lts
        obtain ⟨nn, DD, hnn, hdd⟩ := R2.out.ds.ex
        exact ⟨⟨⟨nn, DD, hnn, hdd.same g3.size (g3.block g (Nat.lt_of_lt_of_le l1 sz) (nr g l1)) (g3.block m (Nat.lt_of_lt_of_le l2 sz) (nr m l2)) (g3.block b (Nat.lt_of_lt_of_le l3 sz) (nr b l3))⟩, R2.out.ds.ok⟩, (g3.block r rlt (nr r hrl)).trans R2.out.blk, R2.out.sep, R2.out.up⟩
      · rw [Jo.bytesTo_succ, bcells_append, show 63 * (k + 1) = 63 * k + 63 by omega]
        exact o3
    · have t1 : ¬ (k : Int) < K := by omega
      obtain rfl : k = K := by omega
      obtain ⟨D, dd, rfl, q1, q2⟩ := ownsRow_slice HO.out
      have t2 : (n : Int) ≤ ((63 * k : Nat) : Int) := by omega
      have t3 : (n : Int) ≤ 63 * (k : Int) := by omega
      have t4 : n ≤ dd := by omega
      have hbs : Bs wr D (63 * k) dd (Jo.bytesTo (Disks.sec d) at_ k) := (Own.mk (base := w.heap.size) (e := 5) HO.out).bs
      have BB := Lib.hid (hbs.take (k := n) (by omega))
      have FR := Lib.hid (show Newer w D from fun q hq => by
        rcases HO.out.2 with h1 | ⟨z, cap, cur, h1, h2, _⟩
        · injection h1.1 with h1
          rw [h1] at hq
          cases hq
        · injection h1 with h1
          rw [h1] at hq
          injection hq with hq
          have hq : z = q := hq
          omega)
      have hmin : min (n : Int) (63 * (k : Int)) = (n : Int) := by omega
      have e1 : (Jo.bytesTo (Disks.sec d) at_ k).take n = Jo.bytesR (Disks.sec d) at_ n := by unfold Jo.bytesR; rw [HK.out]
      rw [e1] at BB
      clear hbs e1
      go_wp2_with (fail)
      go_ret
      exact ⟨D, dd, rfl, BB.out, FR.out, HR.out, HC.out⟩
end Go.Proofs.Ytaaegbccejjjcaa
