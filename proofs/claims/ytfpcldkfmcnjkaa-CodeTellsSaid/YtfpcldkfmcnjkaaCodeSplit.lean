/- The contract of code's Split. -/
import Derived.Test.YtfpcldkfmcnjkaaCodeRow
import Derived.Test.YtfpcldkfmcnjkaaCt8
import Derived.Laws.CopyOwn
namespace Go.Proofs.Ytfpcldkfmcnjkaa
open Go.RowKit

/-- So many bytes from a place on, noughts behind the end. -/
def shardAt (l : List UInt8) (size «from» : Nat) : List UInt8 := (l.drop «from»).take size ++ List.replicate (size - (l.drop «from»).length) 0
theorem shardAt_length (l : List UInt8) (size «from» : Nat) : (shardAt l size «from»).length = size := by
  unfold shardAt
  rw [List.length_append, List.length_take, List.length_replicate]
  omega
def stripeAt (l : List UInt8) (k size at_ : Nat) : Gm.L := (List.range k).map fun i => shardAt l size (at_ + i * size)
theorem stripeAt_length (l : List UInt8) (k size a : Nat) : (stripeAt l k size a).length = k := by simp [stripeAt]
theorem row_stripeAt {l : List UInt8} {k size a i : Nat} (h : i < k) : Gm.row (stripeAt l k size a) i = shardAt l size (a + i * size) := by unfold stripeAt; rw [Gm.row_range _ h]
/-- How many stripes. -/
def manyOf (n whole : Nat) : Nat := (n + whole - 1) / whole
theorem many_lt {n whole t : Nat} (hw : 0 < whole) : t < manyOf n whole ↔ t * whole < n := by
  unfold manyOf
  rw [Nat.lt_iff_add_one_le, Nat.le_div_iff_mul_le hw, Nat.add_mul]
  omega
def stripesOf (l : List UInt8) (k size : Nat) : List Gm.L := (List.range (manyOf l.length (k * size))).map fun t => stripeAt l k size (t * (k * size))
theorem stripesOf_length (l : List UInt8) (k size : Nat) : (stripesOf l k size).length = manyOf l.length (k * size) := by simp [stripesOf]
theorem sget_stripes {l : List UInt8} {k size t : Nat} (h : t < manyOf l.length (k * size)) : sget (stripesOf l k size) t = stripeAt l k size (t * (k * size)) := by simp [sget, stripesOf, h]
theorem take_sget {ss : List Gm.L} {j : Nat} (h : j < ss.length) : ss.take (j + 1) = ss.take j ++ [sget ss j] := by
  rw [List.take_succ_eq_append_getElem h, sget_of_lt h]
theorem own_of_block {w : World} {g : Nat} {arr : Array Value} {t : TypeId} {r : List UInt8} {base : Nat} (h : w.heap[g]? = some (.cells arr t (0, 0))) (ha : arr.toList = bcells r) (hb : base ≤ g) (hl : r.length ≤ 65536) : w.ownsRow base t 1 (.slice (some ⟨g, 0, none⟩) r.length r.length) r.length (bcells r) := by
  have hs : arr.size = r.length := by rw [← Array.length_toList, ha, bcells_length]
  exact ⟨by simp [bcells], .inr ⟨g, r.length, arr, rfl, hb, h, Nat.le_refl _, by unfold maxLen; omega, by simp [hs], by rw [ha]; exact List.take_of_length_le (by rw [bcells_length]; omega)⟩⟩
theorem splice_zeros (l : List UInt8) (size «from» : Nat) : splice (List.replicate size (Value.int .u8 0)) 0 (bcells ((l.drop «from»).take size)) = bcells (shardAt l size «from») := by
  unfold splice shardAt
  rw [bcells_append, bcells_zeros, List.take_zero, List.nil_append, Nat.zero_add, List.drop_replicate, bcells_length, List.length_take]
  congr 2
  omega
theorem take_row {m : Gm.L} {j : Nat} (h : j < m.length) : m.take (j + 1) = m.take j ++ [Gm.row m j] := by
  rw [List.take_succ_eq_append_getElem h, Gm.row_of_lt h]
theorem rd_lit_at (w : World) {g : Nat} (hg : w.heap.size = g) (cs : Array Value) (t : TypeId) : Rd (w.alloc (.cells cs t)) 1 (some ⟨g, 0, .none⟩) cs.size cs.toList := by
  subst hg
  exact Rd.lit w cs t
/-- Stripes are handed back, with an error. -/
def GivesSE (ss : List Gm.L) (er : Int) (w : World) (e : Ending) (w' : World) : Prop := ∃ A c, e = .returned (.tuple #[.slice A ss.length c, .int .i64 er]) ∧ Mxs w' A ss.length c ss ∧ Ext w w'
theorem GivesSE.none (er : Int) {w w' : World} (hx : Ext w w') : GivesSE [] er w (.returned (.tuple #[.slice none 0 0, .int .i64 er])) w' := ⟨_, _, rfl, Mxs.none _, hx⟩
set_option maxRecDepth 100000 in
theorem split_arg (w : World) (b fb k n : Nat) (hC : Cd w b fb k n) (A : Option Addr) (q c : Nat) (size : Int) (h : size < 1 ∨ 65536 < size) :
    Calls Try.prog 27 #[cptr b, .slice A q c, .int .i64 size] w (GivesSE [] 2 w) := by
  have HM := Lib.hid (made_any w b fb k n hC)
  clear hC
  by_cases h1 : size < 1
  · go_enter Try.func27, Try.ntmps27
    try dsimp only [List.append]
    go_wp2_with (fail)
    refine HM.out.mono ?_
    rintro e w' ⟨rfl, rfl⟩
    go_wp2_with (fail)
    go_ret2
    exact GivesSE.none 2 (Ext.refl w)
  · have h2 : 65536 < size := by omega
    go_enter Try.func27, Try.ntmps27
    try dsimp only [List.append]
    go_wp2_with (fail)
    refine HM.out.mono ?_
    rintro e w' ⟨rfl, rfl⟩
    go_wp2_with (fail)
    go_ret2
    exact GivesSE.none 2 (Ext.refl w)
set_option maxRecDepth 100000 in
set_option maxHeartbeats 4000000 in
theorem split_ok (w : World) (b fb k n : Nat) (hC : Cd w b fb k n) (A : Option Addr) (q c : Nat) (l : List UInt8) (hl : Bs w A q c l) (size : Nat) (h1 : 1 ≤ size) (h2 : size ≤ 65536) (hq : q ≤ 100000) :
    Calls Try.prog 27 #[cptr b, .slice A q c, .int .i64 (size : Int)] w (GivesSE (stripesOf l k size) 0 w) := by
  obtain ⟨i0, hi0, hz0, hz1, hz2⟩ := info_parts bytes_info
  obtain ⟨j0, hj0, hy0, hy1, hy2⟩ := info_parts lists_info
  have HM := Lib.hid (made_any w b fb k n hC)
  have hmk := fun W => run_make_shard W size h2
  have q1 := hl.max
  have q2 := hl.le
  have hk1 := hC.k1
  have hk2 : k ≤ 255 := by have := hC.kn; have := hC.n2; omega
  have g1 : ¬ (size : Int) < 1 := by omega
  have g2 : ¬ (65536 : Int) < size := by omega
  have hW : 0 < k * size := Nat.mul_pos (by omega) (by omega)
  have hW2 : k * size ≤ 255 * 65536 := Nat.mul_le_mul hk2 h2
  obtain ⟨whole, hwh⟩ : ∃ whole, k * size = whole := ⟨_, rfl⟩
  have HWH := Lib.hid hwh
  have LL := Lib.hid hl.len
  have HL := Lib.hid hl
  have HC := Lib.hid hC
  have hN := stripesOf_length l k size
  rw [LL.out, hwh] at hN
  have hsg : ∀ t, t < manyOf q whole → sget (stripesOf l k size) t = stripeAt l k size (t * whole) := fun t ht => by rw [sget_stripes (by rw [LL.out, hwh]; exact ht), hwh]
  have HN := Lib.hid hN
  have HSG := Lib.hid hsg
  rw [hwh] at hW hW2
  obtain ⟨N2, hN2⟩ : ∃ N2, w.heap.size = N2 := ⟨_, rfl⟩
  have HN2 := Lib.hid hN2
  have hsz0 : N2 ≤ w.heap.size := by omega
  clear hN2 hwh hl hC hN hsg
  generalize stripesOf l k size = SS at *
  go_enter Try.func27, Try.ntmps27
  try dsimp only [List.append]
  go_wp2_with (fail)
  refine HM.out.mono ?_
  rintro e w' ⟨rfl, rfl⟩
  go_wp2_with (fail)
  go_loopw [8, 9, 10, 11, 12, 13, 41] (fun v a _ _ _ _ _ wr => ∃ (t : Nat) (cs : List Value) (z : Nat), t ≤ manyOf q whole ∧ a = .int .i64 (z : Int) ∧ RowKit.Hid (t * whole = z) ∧ Sq wr N2 v t cs (SS.take t) ∧ Ext w wr ∧ N2 ≤ wr.heap.size) (fun _ a _ _ _ _ _ _ => q + whole - (intOf a).toNat)
  case atStart => exact ⟨0, [], 0, by omega, rfl, Lib.hid (Nat.zero_mul _), by rw [List.take_zero]; exact Sq.nil _ _, Ext.refl w, hsz0⟩
  case round =>
    obtain ⟨t, cs, z, ht, rfl, HZ, hS, hx, hsz⟩ := hrel
    clear hsz0
    by_cases hlt : t < manyOf q whole
    · have hlt2 := (many_lt hW).1 hlt
      rw [HZ.out] at hlt2
      have r1 : (z : Int) < q := by omega
      have hsn := take_sget (ss := SS) (j := t) (by rw [HN.out]; exact hlt)
      rw [HSG.out t hlt, HZ.out] at hsn
      have hml := stripeAt_length l k size z
      have hmr := fun i (hi : i < k) => row_stripeAt (l := l) (k := k) (size := size) (a := z) hi
      have HSN := Lib.hid hsn
      have HLT := Lib.hid (show t + 1 ≤ manyOf q whole from hlt)
      have HML := Lib.hid hml
      have HMR := Lib.hid hmr
      have HSQ := Lib.hid hS
      clear hsn hml hmr hS hlt
      generalize stripeAt l k size z = M at *
      obtain ⟨wo, rfl⟩ : ∃ wo : World, wo = wr := ⟨_, rfl⟩
      obtain ⟨NB, hNB⟩ : ∃ NB, wo.heap.size = NB := ⟨_, rfl⟩
      have HNB := Lib.hid hNB
      have hsb0 : NB ≤ wo.heap.size := by omega
      have c1 := (HC.out.ext hx).c1
      clear hNB
      go_wp2_with (fail)
      go_loopw [10, 11, 12, 13, 41] (fun v _ _ _ s wr => ∃ (i : Nat) (cs' : List Value), i ≤ k ∧ s = .int .i64 (i : Int) ∧ Mq wr NB (Hot NB v) v i cs' (M.take i) ∧ Ext wo wr ∧ NB ≤ wr.heap.size) (fun _ _ _ _ s _ => k - (intOf s).toNat)
      case atStart => exact ⟨0, [], by omega, rfl, by rw [List.take_zero]; exact Mq.nil _ _ _, Ext.refl wo, hsb0⟩
      case round =>
        obtain ⟨i, cs', hi, rfl, hQ, hxi, hsi⟩ := hrel
        clear hsb0
        by_cases hik : i < k
        · have r2 : (i : Int) < k := by omega
          have HQ := Lib.hid hQ
          have hm1 : i * size ≤ 255 * 65536 := Nat.mul_le_mul (by omega) h2
          obtain ⟨p, hp⟩ : ∃ p, i * size = p := ⟨_, rfl⟩
          have hp2 : (i : Int) * (size : Int) = (p : Int) := by rw [← hp]; simp
          have hrow := HMR.out i hik
          rw [hp] at hrow
          have hsr := take_row (m := M) (j := i) (by rw [HML.out]; exact hik)
          rw [hrow] at hsr
          have hsl := shardAt_length l size (z + p)
          have HSR := Lib.hid hsr
          have HSL := Lib.hid hsl
          clear hQ hrow hsr hsl hp
          by_cases hzp : z + p < q
          · have r3 : (z : Int) + (p : Int) < q := by omega
            obtain ⟨bb, oo, rfl, hcc⟩ := ((HL.out.ext hx).ext hxi).rd.2 (by omega)
            have hsrc : ∀ (j : Nat) (u : Value), (bcells ((l.drop (z + p)).take size))[j]? = some u → wr.cell? ⟨bb, oo + (z + p) + j, none⟩ = some u := fun j u hu => by
              rw [Nat.add_assoc]
              refine hcc _ u ?_
              have hj := (List.getElem?_eq_some_iff.1 hu).1
              rw [bcells_length, List.length_take, List.length_drop] at hj
              rw [← hu]
              simp only [bcells, List.getElem?_map, List.getElem?_take, List.getElem?_drop]
              rw [if_pos (by omega)]
            have hcl : (bcells ((l.drop (z + p)).take size)).length = Nat.min (q - (z + p)) size := by
              rw [bcells_length, List.length_take, List.length_drop, LL.out]
              exact Nat.min_comm _ _
            have hspl := splice_zeros l size (z + p)
            obtain ⟨X, hX⟩ : ∃ X, bcells ((l.drop (z + p)).take size) = X := ⟨_, rfl⟩
            have hX1 : ∀ u ∈ X, u.oneCell' = true := by rw [← hX]; exact bcells_one _
            rw [hX] at hsrc hcl hspl
            have HSRC := Lib.hid (fun (W : World) (hW : Ext wr W) (j : Nat) (u : Value) (hu : X[j]? = some u) => hW.cell (hsrc j u hu))
            have HCL := Lib.hid hcl
            have HSPL := Lib.hid hspl
            have HX1 := Lib.hid hX1
            have hmd : made size (Value.int .u8 0) = (List.replicate size (Value.int .u8 0)).toArray := by rw [← made_toList]
            have HBK := Lib.hid (heap_alloc_new wr (.cells (made size (.int .u8 0)) 5))
            rw [hmd] at HBK
            have HMD := Lib.hid hmd
            generalize shardAt l size (z + p) = R at *
            clear hsrc hcl hspl hX hX1 hcc hmd
            go_wp2_with (first
              | (with_reducible refine wpList_copy_splice rfl (.tmp 55) (.tmp 58) 22 22 rfl 5 Try.underlying22 (by kernel_rfl) (some ⟨wr.heap.size, 0, none⟩) (some ⟨bb, oo + (z + p), none⟩) size size (q - (z + p)) (c - (z + p)) rfl rfl wr.heap.size 0 (List.replicate size (.int .u8 0)) 5 (by rw [HMD.out]; exact HBK.out) X HCL.out (fun _ => ⟨rfl, ⟨bb, oo + (z + p), none⟩, rfl, fun j u hu => by rw [addr_add]; exact HSRC.out _ (Ext.alloc _ _) j u hu⟩) (by rw [HCL.out, List.length_replicate, Nat.zero_add]; exact Nat.min_le_right _ _) HX1.out wr.heap.size wr (Ext.alloc _ _) (Nat.le_refl _) ?_
                 intro w2 HG2 hB2
                 have HB2 := Lib.hid (show Ext wr w2 from hB2)
                 have HO4 := Lib.hid (ownsRow_ext (ownsRow_ext HQ.out.own hB2) (Ext.alloc w2 (.cells #[.slice (some ⟨wr.heap.size, 0, none⟩) size size] 22)))
                 have hs2 := hB2.size
                 clear hB2)
              | (at_builtin; refine wpList_append_rd _ rfl (.tmp 60) (.tmp 62) 28 rfl NB 22 i0 _ 1 24 Try.underlying28 hi0 hz0 hz1 hz2 rfl (by omega) u10 i cs' rfl HO4.out (some ⟨w2.heap.size, 0, none⟩) 1 1 [.slice (some ⟨wr.heap.size, 0, none⟩) size size] rfl (Rd.lit w2 #[.slice (some ⟨wr.heap.size, 0, none⟩) size size] _) (by simp [Value.oneCell']) (by omega) (by unfold maxLen; omega) (by simp; omega) ?_; intro v5 w5 hown hgr hat))
            all_goals
              have hro : w2.ownsRow wr.heap.size 5 1 (.slice (some ⟨wr.heap.size, 0, none⟩) R.length size) R.length (bcells R) := by
                have h := own_of_block HG2.out (r := R) (by rw [List.toList_toArray]; exact HSPL.out) (Nat.le_refl _) (by rw [HSL.out]; exact h2)
                rw [HSL.out] at h ⊢
                exact h
              have hsn2 := HQ.out.snoc HB2.out (r := R) hro (Nat.le_refl _) hsi (Ext.alloc w2 (.cells #[.slice (some ⟨wr.heap.size, 0, none⟩) size size] 22)) (by rw [HSL.out]; exact hown) hgr hat
              rw [HSL.out] at hsn2
              have hne : ∀ q, u10.ownBlock = some q → NB ≤ q := own_row HQ.out.own
              refine ⟨⟨i + 1, cs' ++ [.slice (some ⟨wr.heap.size, 0, none⟩) size size], by omega, by go_num, ?_, ?_, ?_⟩, by simp [intOf]; omega⟩
              · rw [HSR.out]; exact hsn2
              · exact ((hxi.trans HB2.out).thenAlloc _).ofGrown hgr (fun q hq => by have := hne q hq; have := HNB.out; omega)
              · have := hgr.size; simp at this; omega
          · have r3 : ¬ (z : Int) + (p : Int) < q := by omega
            have hR : shardAt l size (z + p) = List.replicate size 0 := by
              unfold shardAt
              rw [List.drop_eq_nil_of_le (by rw [LL.out]; omega)]
              simp
            have HR := Lib.hid hR
            generalize shardAt l size (z + p) = R at *
            have hro := ownsRow_shard wr size h2 (Nat.le_refl _)
            rw [← hR] at hro
            have HRO := Lib.hid hro
            have HO4 := Lib.hid (ownsRow_ext (ownsRow_ext HQ.out.own (Ext.alloc wr (.cells (made size (.int .u8 0)) 5))) (Ext.alloc _ (.cells #[.slice (some ⟨wr.heap.size, 0, none⟩) size size] 22)))
            clear hR hro
            go_wp2_with (at_builtin; refine wpList_append_rd _ rfl (.tmp 60) (.tmp 62) 28 rfl NB 22 i0 _ 1 24 Try.underlying28 hi0 hz0 hz1 hz2 rfl (by omega) u10 i cs' rfl HO4.out (some ⟨wr.heap.size + 1, 0, none⟩) 1 1 [.slice (some ⟨wr.heap.size, 0, none⟩) size size] rfl (rd_lit_at _ (by simp) #[.slice (some ⟨wr.heap.size, 0, none⟩) size size] _) (by simp [Value.oneCell']) (by omega) (by unfold maxLen; omega) (by simp; omega) ?_; intro v5 w5 hown hgr hat)
            have hsn2 := HQ.out.snoc (Ext.alloc wr (.cells (made size (.int .u8 0)) 5)) (r := R) (A := some ⟨wr.heap.size, 0, none⟩) (c := size) (by rw [HSL.out]; exact HRO.out) (Nat.le_refl _) hsi (Ext.alloc _ (.cells #[.slice (some ⟨wr.heap.size, 0, none⟩) size size] 22)) (by rw [HSL.out]; exact hown) hgr hat
            rw [HSL.out] at hsn2
            have hne : ∀ q, u10.ownBlock = some q → NB ≤ q := own_row HQ.out.own
            refine ⟨⟨i + 1, cs' ++ [.slice (some ⟨wr.heap.size, 0, none⟩) size size], by omega, by go_num, ?_, ?_, ?_⟩, by simp [intOf]; omega⟩
            · rw [HSR.out]; exact hsn2
            · exact ((hxi.thenAlloc _).thenAlloc _).ofGrown hgr (fun q hq => by have := hne q hq; have := HNB.out; omega)
            · have := hgr.size; simp at this; omega
        · have r2 : ¬ (i : Int) < k := by omega
          obtain rfl : k = i := by omega
          rw [List.take_of_length_le (by rw [HML.out]; exact Nat.le_refl _)] at hQ
          obtain ⟨A1, c1', rfl, _⟩ := hQ.mx
          have HQ := Lib.hid hQ
          have HO4 := Lib.hid (ownsRow_ext (ownsRow_ext HSQ.out.own hxi) (Ext.alloc wr (.cells #[.slice A1 k c1'] 28)))
          have hsi2 := hxi.size
          have htz : t ≤ z := by rw [← HZ.out]; exact Nat.le_mul_of_pos_right t hW
          have hks : (k : Int) * (size : Int) = (whole : Int) := by rw [← HWH.out]; simp
          clear hQ c1
          go_wp2_with (at_builtin; refine wpList_append_rd _ rfl (.tmp 65) (.tmp 67) 51 rfl N2 28 j0 _ 1 24 Try.underlying51 hj0 hy0 hy1 hy2 rfl (by omega) u8 t cs rfl HO4.out (some ⟨wr.heap.size, 0, none⟩) 1 1 [.slice A1 k c1'] rfl (Rd.lit wr #[.slice A1 k c1'] _) (by simp [Value.oneCell']) (by omega) (by unfold maxLen; omega) (by simp; omega) ?_; intro v5 w5 hown hgr hat; have hne : ∀ q, u8.ownBlock = some q → N2 ≤ q := own_row HSQ.out.own; have x5 : Ext w w5 := (hx.trans (hxi.thenAlloc _)).ofGrown hgr (fun q hq => by have := hne q hq; have := HN2.out; omega); have c5 := (HC.out.ext x5).c1)
          have hsn2 := HSQ.out.snoc hxi HQ.out (by have := HNB.out; omega) hsz (Ext.alloc wr (.cells #[.slice A1 k c1'] 28)) hown hgr hat
          refine ⟨⟨t + 1, cs ++ [.slice A1 k c1'], z + whole, HLT.out, ?_, Lib.hid (by rw [Nat.add_mul, HZ.out, Nat.one_mul]), ?_, ?_, ?_⟩, ?_⟩
          · go_num
          · rw [HSN.out]; exact hsn2
          · exact x5
          · have h8 := hgr.size; simp at h8; omega
          · simp [intOf]; omega
    · have hlt2 : ¬ t * whole < q := fun h => hlt ((many_lt hW).2 h)
      rw [HZ.out] at hlt2
      have r1 : ¬ (z : Int) < q := by omega
      obtain rfl : manyOf q whole = t := by omega
      have hS' := hS
      rw [List.take_of_length_le (by rw [HN.out]; exact Nat.le_refl _)] at hS
      obtain ⟨A1, c1, rfl, hm⟩ := hS.mxs
      have HMX := Lib.hid hm
      clear hm hS
      go_wp2_with (fail)
      go_ret2
      refine ⟨A1, c1, ?_, ?_, hx⟩
      · rw [HN.out]; rfl
      · rw [HN.out]; exact HMX.out
end Go.Proofs.Ytfpcldkfmcnjkaa
