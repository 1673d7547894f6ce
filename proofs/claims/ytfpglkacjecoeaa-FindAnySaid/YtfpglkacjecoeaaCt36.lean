/- Several texts in one: Shards cut out of bytes. No statement of the seat is proved here. What the laws of chapter 13 use of a code. A stripe that came in, opened. -/
import Derived.Test.YtfpglkacjecoeaaCt25
import Derived.Test.YtfpglkacjecoeaaCt15
import Derived.Laws.CopyOwn
import Derived.Test.YtfpglkacjecoeaaCt35
import Derived.Test.YtfpglkacjecoeaaCt30
import Derived.Test.YtfpglkacjecoeaaCt19
namespace Go.Proofs.Ytfpglkacjecoeaa
open Go.RowKit

/-- So many bytes from a place on, noughts behind the end. -/
def shardAt (l : List UInt8) (size «from» : Nat) : List UInt8 := (l.drop «from»).take size ++ List.replicate (size - (l.drop «from»).length) 0
theorem shardAt_length (l : List UInt8) (size «from» : Nat) : (shardAt l size «from»).length = size := by
  unfold shardAt
  rw [List.length_append, List.length_take, List.length_replicate]
  omega
def stripeAt (l : List UInt8) (k size at_ : Nat) : Gm.L := (List.range k).map fun i => shardAt l size (at_ + i * size)
theorem stripeAt_length (l : List UInt8) (k size a : Nat) : (stripeAt l k size a).length = k := by simp [stripeAt]
theorem row_stripeAt {l : List UInt8} {k size a i : Nat} (h : i < k) : Gm.row (stripeAt l k size a) i = shardAt l size (a + i * size) := by unfold stripeAt; rw [Gm.row_range _ h]
theorem own_of_block {w : World} {g : Nat} {arr : Array Value} {t : TypeId} {r : List UInt8} {base : Nat} (h : w.heap[g]? = some (.cells arr t (0, 0))) (ha : arr.toList = bcells r) (hb : base ≤ g) (hl : r.length ≤ 65536) : w.ownsRow base t 1 (.slice (some ⟨g, 0, none⟩) r.length r.length) r.length (bcells r) := by
  have hs : arr.size = r.length := by rw [← Array.length_toList, ha, bcells_length]
  exact ⟨by simp [bcells], .inr ⟨g, r.length, arr, rfl, hb, h, Nat.le_refl _, by unfold maxLen; omega, by simp [hs], by rw [ha]; exact List.take_of_length_le (by rw [bcells_length]; omega)⟩⟩
theorem splice_zeros (l : List UInt8) (size «from» : Nat) : splice (List.replicate size (Value.int .u8 0)) 0 (bcells ((l.drop «from»).take size)) = bcells (shardAt l size «from») := by
  unfold splice shardAt
  rw [bcells_append, bcells_zeros, List.take_zero, List.nil_append, Nat.zero_add, List.drop_replicate, bcells_length, List.length_take]
  congr 2
  omega
theorem rd_lit_at (w : World) {g : Nat} (hg : w.heap.size = g) (cs : Array Value) (t : TypeId) : Rd (w.alloc (.cells cs t)) 1 (some ⟨g, 0, .none⟩) cs.size cs.toList := by
  subst hg
  exact Rd.lit w cs t
end Go.Proofs.Ytfpglkacjecoeaa
namespace Go.Proofs.Ytfpglkacjecoeaa
open Go.ChangeShapes Go.WideShapes Go.ChangeAt Go.RowKit

theorem row_picked {m : Gm.L} {l : List Int} {i : Nat} (h : i < l.length) : Gm.row (picked m l) i = Gm.row m (Il.get l i).toNat := by
  unfold picked
  rw [Gm.row_of_lt (by simpa using h), List.getElem_map, Il.get_of_lt h]
theorem dec_back {k n c q : Nat} {d s : Gm.L} {l : List Int} (hk : 1 ≤ k) (hkn : k ≤ n) (hn : n ≤ 255) (hd : Gm.Rect k c d) (hc : c ≤ 65536) (hl : l.length = q) (hs : s.length = q) (hq : k ≤ q) (hr : ∀ t, t < q → 0 ≤ Il.get l t ∧ Il.get l t < n)
    (ha : ∀ i j, i < q → j < q → i ≠ j → Il.get l i ≠ Il.get l j) (hw : ∀ i, i < q → (Gm.row s i).length = c) (hrow : ∀ i, i < k → Gm.row s i = Gm.row (Gm.mulL (Gm.gen k n) d) (Il.get l i).toNat) : decOk k n l s ∧ decM k n l s = d := by
  have hev : Gm.even s q := (⟨hs, hw⟩ : Gm.Rect q c s).even (by omega) hc
  have ht : toldOk k n l s := ⟨⟨by rw [hl, hs], by omega, by rw [hl]; exact hev⟩, fun i hi => ⟨(hr i (by omega)).1, (hr i (by omega)).2, fun j hj => ha j i (by omega) (by omega) (by omega)⟩⟩
  have hlk : (l.take k).length = k := by rw [List.length_take]; omega
  have hrows := told_rows hk hn hkn ht
  have hp : partOf k n l = picked (Gm.gen k n) (l.take k) := by
    unfold partOf pickM
    rw [if_pos ⟨Gm.gen_right hk hkn hn, by rw [Gm.gen_length hkn]; exact hrows⟩]
  have hpr : ∀ i, i < k → Gm.row (partOf k n l) i = Gm.row (Gm.gen k n) (Il.get l i).toNat := fun i hi => by
    rw [hp, row_picked (by omega), take_get_int hi]
  have hpl : (partOf k n l).length = k := part_length hk hn hkn ht
  have hf : ∀ i, i < k → (Il.get l i).toNat < n := fun i hi => by have := hr i (by omega); omega
  have hpR : Gm.Rect k k (partOf k n l) := ⟨hpl, fun i hi => by rw [hpr i hi]; exact (Gm.gen_rect hkn).wid _ (hf i hi)⟩
  have hff : ∀ i j, i < k → j < k → i ≠ j → (Il.get l i).toNat ≠ (Il.get l j).toNat := fun i j hi hj hij e => ha i j (by omega) (by omega) hij (by have := hr i (by omega); have := hr j (by omega); omega)
  have hrank := Gm.any_full (fun i => (Il.get l i).toNat) hk hkn (by omega) hf hff hpR hpr
  have hsq : square (partOf k n l) := ⟨hpR.right hk (by omega) hk (by omega), by rw [hpR.cols hk, hpl]⟩
  have hinv : invE (partOf k n l) = 0 := by
    unfold invE
    rw [if_pos hsq, if_neg (by rw [hrank, hpl]; omega)]
  have hok : decOk k n l s := ⟨ht, hinv⟩
  refine ⟨hok, ?_⟩
  unfold decM
  rw [if_pos hok, (invE_zero hinv).2.2]
  have hdc : Gm.Rect k (Gm.cols d) d := by rw [hd.cols hk]; exact hd
  exact Gm.told_back (fun i => (Il.get l i).toNat) hk hkn (by omega) hf hff hpR hpr hdc (by rw [List.length_take]; omega) (fun i hi => by rw [row_take hi]; exact hrow i hi)
theorem stripe_rect (l : List UInt8) (k size a : Nat) : Gm.Rect k size (stripeAt l k size a) := ⟨stripeAt_length l k size a, fun i hi => by rw [row_stripeAt hi, shardAt_length]⟩
theorem enc_r (w : World) (b fb k n c : Nat) (hC : Cd w b fb k n) (A : Option Addr) (cs : Nat) (d : Gm.L) (hm : Mx w A k cs d) (hd : Gm.Rect k c d) (hc : c ≤ 65536) :
    Calls Try.prog 44 #[cptr b, .slice A k cs] w fun e w' => ∃ A' c', e = .returned (.tuple #[.slice A' n c', .int .i64 0]) ∧ Mx w' A' n c' (Gm.mulL (Gm.gen k n) d) ∧ Ext w w' := by
  refine (encode_any w b fb k n hC A k cs d hm).mono ?_
  intro e w' hg
  obtain ⟨A', c', rfl, h1, h2⟩ := gives_mx hg
  have hev := hd.even hC.k1 hc
  have e1 : encM k n d = Gm.mulL (Gm.gen k n) d := by unfold encM; rw [if_pos hev]
  have e2 : encE k d = 0 := by unfold encE; rw [if_pos hev]
  have e3 : (Gm.mulL (Gm.gen k n) d).length = n := by rw [Gm.mulL_length, Gm.gen_length hC.kn]
  rw [e1, e3] at h1
  exact ⟨A', c', by rw [e1, e2, e3], h1, h2⟩
theorem dec_r (w : World) (b fb k n q : Nat) (hC : Cd w b fb k n) (B : Option Addr) (dd : Nat) (l : List Int) (hl : Is w B q dd l) (A : Option Addr) (cs : Nat) (s d : Gm.L) (hm : Mx w A q cs s) (hd : d.length = k) (h : decOk k n l s ∧ decM k n l s = d) :
    Calls Try.prog 42 #[cptr b, .slice B q dd, .slice A q cs] w fun e w' => ∃ A' c', e = .returned (.tuple #[.slice A' k c', .int .i64 0]) ∧ Mx w' A' k c' d ∧ Ext w w' := by
  refine (decode_any w b fb k n hC B q dd l hl A q cs s hm).mono ?_
  intro e w' hg
  obtain ⟨A', c', rfl, h1, h2⟩ := gives_mx hg
  have e2 : decE k n l s = 0 := by unfold decE; rw [if_pos h.1]
  rw [h.2, hd] at h1
  exact ⟨A', c', by rw [e2, h.2, hd], h1, h2⟩
set_option maxRecDepth 100000 in
theorem stripe_open {H : Type} {enc : TypeId × Value → H} {W : World} {r : Reach} {b0 : Nat} {v : Value} {d : DataW H} {p : List MemPlace} (hv : Value.okWide Try.prog W r b0 67 v) (h : DataW.Trod enc Try.prog W 0 (fun _ => true) true 67 v d p) :
    ∃ (x y z : UInt8) (A : Option Addr) (n c : Nat) (l : List UInt8), v = .agg #[.int .u8 (x.toNat : Int), .int .u8 (y.toNat : Int), .int .u8 (z.toNat : Int), .slice A n c] ∧ Bs W A n c l := by
  obtain ⟨cs, rfl, hsz⟩ := okWide_struct Try.underlying67 hv
  obtain ⟨l⟩ := cs
  match l, hsz.trans (show Try.prog.cellsOf 67 = 4 by kernel_rfl) with
  | [c0, c1, c2, c3], _ =>
    obtain ⟨fuel, hf⟩ := h
    obtain ⟨xs, n, _, hx, _, hlen, hg⟩ := DataW.trod_struct Try.underlying67 hf
    have fld : ∀ (i : Nat) (f : Field) (c : Value), f.offset = i → Try.prog.cellsOf f.type = 1 → ([c0, c1, c2, c3] : List Value)[i]? = some c → DataW.trod enc Try.prog W 0 (fun _ => true) true n f.type ((([c0, c1, c2, c3] : List Value).drop f.offset).take (Try.prog.cellsOf f.type)) = xs[i]? → i < 4 → ∃ y, DataW.trod enc Try.prog W 0 (fun _ => true) true n f.type [c] = some y := by
      intro i f c ho hc hi hy h5
      have hx5 : xs.length = 4 := hlen
      rw [List.getElem?_eq_getElem (by omega), ho, hc] at hy
      have hl : i < ([c0, c1, c2, c3] : List Value).length := h5
      rw [List.drop_eq_getElem_cons hl] at hy
      rw [List.getElem?_eq_getElem hl] at hi
      injection hi with hi
      rw [hi] at hy
      exact ⟨_, hy⟩
    obtain ⟨y0, k0⟩ := fld 0 _ c0 rfl (by kernel_rfl) rfl (hg 0 _ rfl) (by omega)
    obtain ⟨y1, k1⟩ := fld 1 _ c1 rfl (by kernel_rfl) rfl (hg 1 _ rfl) (by omega)
    obtain ⟨y2, k2⟩ := fld 2 _ c2 rfl (by kernel_rfl) rfl (hg 2 _ rfl) (by omega)
    obtain ⟨y3, k3⟩ := fld 3 _ c3 rfl (by kernel_rfl) rfl (hg 3 _ rfl) (by omega)
    obtain ⟨z0, e0, _, w0⟩ := DataW.trod_int Try.underlying5 k0
    obtain ⟨z1, e1, _, w1⟩ := DataW.trod_int Try.underlying5 k1
    obtain ⟨z2, e2, _, w2⟩ := DataW.trod_int Try.underlying5 k2
    injection e0 with e0
    injection e1 with e1
    injection e2 with e2
    subst e0 e1 e2
    obtain ⟨x0, rfl⟩ := wf_u8 w0
    obtain ⟨x1, rfl⟩ := wf_u8 w1
    obtain ⟨x2, rfl⟩ := wf_u8 w2
    have hs : ∃ A n c, c3 = .slice A n c := by
      rcases Go.Deep.open_slice Try.underlying35 k3 with ⟨hcs, _⟩ | ⟨x, l, c, _, _, _, _, hcs, _⟩
      · injection hcs with hcs; exact ⟨_, _, _, hcs⟩
      · injection hcs with hcs; exact ⟨_, _, _, hcs⟩
    obtain ⟨A, m, c, rfl⟩ := hs
    obtain ⟨zs, hz⟩ := IsRow.of_trod (k := .u8) (e := 5) Try.underlying35 Try.underlying5 (by kernel_rfl) (show DataW.Trod enc Try.prog W 0 (fun _ => true) true 35 (.slice A m c) y3.1 y3.2 from ⟨n, by simpa [Value.cells] using k3⟩)
    obtain ⟨l, hl⟩ := hz.bytes
    exact ⟨x0, x1, x2, A, m, c, l, rfl, hl⟩
end Go.Proofs.Ytfpglkacjecoeaa
