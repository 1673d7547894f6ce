/- Several texts in one: What every statement's last step uses: how arguments that came in are opened. The contract of code's Fits. The contracts of what compares matrices. Arguments that came in, opened: arrays of integers, slices of whatever. Lists of bytes' lists that came in as arguments, opened. No statement of the seat is proved here. -/
import Derived.Test.YtfpcldkfmcnjkaaRows
import Derived.Test.YtfpcldkfmcnjkaaCt2
import Derived.ProofKit
import Derived.OpenShut
import Derived.ShutString
import Derived.ChangeOld
import Derived.Test.YtfpcldkfmcnjkaaCodeReb
import Derived.Test.YtfpcldkfmcnjkaaCt4
import Derived.Deep.DrawnRows
import Derived.Deep.Slices
namespace Go.Proofs.Ytfpcldkfmcnjkaa
open Go.ChangeShapes Go.WideShapes Go.ChangeAt Go.RowKit

/-- A slice of integers that came in: nil, or a row of 'cap' cells, the numbers 'zs' (the first 'len' are its elements). -/
def IsRow (k : IntKind) (w : World) (a : Option Addr) (len cap : Nat) (zs : List Int) : Prop :=
  (a = none ∧ len = 0 ∧ cap = 0 ∧ zs = []) ∨
  ∃ x, a = some x ∧ len ≤ cap ∧ cap ≤ maxLen ∧ zs.length = cap ∧ (∀ i, i < zs.length → w.cell? (x.add i) = some (.int k (zs.getD i 0))) ∧ ∀ n ∈ zs, (Lit.int k n).wf = true
theorem IsRow.of_trod {H : Type} {enc : TypeId × Value → H} {W : World} {t e : TypeId} {k : IntKind} {a : Option Addr} {len cap : Nat} {d : DataW H} {p : List MemPlace} (ht : Try.prog.underlying t = some (.slice e)) (he : Try.prog.underlying e = some (.int k)) (hc : Try.prog.cellsOf e = 1)
    (h : DataW.Trod enc Try.prog W 0 (fun _ => true) true t (.slice a len cap) d p) : ∃ zs, IsRow k W a len cap zs := by
  obtain ⟨fuel, hf⟩ := h
  rcases open_ints ht he hc hf with ⟨hcs, _⟩ | ⟨x, l, c, zs, hcs, _, hl, hm, hz, _, hcell, hwz⟩
  · simp [Value.cells] at hcs
    obtain ⟨rfl, rfl, rfl⟩ := hcs
    exact ⟨[], .inl ⟨rfl, rfl, rfl, rfl⟩⟩
  · simp [Value.cells] at hcs
    obtain ⟨rfl, rfl, rfl⟩ := hcs
    exact ⟨zs, .inr ⟨_, rfl, hl, hm, by simpa using hz, hcell, hwz⟩⟩
theorem wf_u8 {a : Int} (h : (Lit.int .u8 a).wf = true) : ∃ x : UInt8, a = (x.toNat : Int) := by
  have hb := bounds_u8 h
  refine ⟨UInt8.ofNat a.toNat, ?_⟩
  rw [UInt8.toNat_ofNat']
  omega
theorem IsRow.bytes {w : World} {a : Option Addr} {len cap : Nat} {zs : List Int} (h : IsRow .u8 w a len cap zs) : ∃ l, Bs w a len cap l := by
  rcases h with ⟨rfl, rfl, rfl, rfl⟩ | ⟨x, rfl, hl, hm, hz, hc, hw⟩
  · exact ⟨[], rfl, Nat.le_refl _, by omega, Rd.nil _ _ _⟩
  · refine ⟨(zs.take len).map fun n => UInt8.ofNat n.toNat, by simp; omega, hl, by unfold maxLen at hm; omega, by simp [bcells]; omega, fun hn => ?_⟩
    have h0 := hc 0 (by omega)
    obtain ⟨b, off, sp⟩ := x
    have hsp : sp = none := by
      cases sp with
      | none => rfl
      | some s =>
        have : (⟨b, off, some s⟩ : Addr).add 0 = ⟨b, off, some s⟩ := by unfold Addr.add; split <;> simp_all
        rw [this] at h0
        unfold World.cell? at h0
        split at h0 <;> simp at h0
    subst hsp
    refine ⟨b, off, rfl, fun j u hu => ?_⟩
    simp only [bcells, List.getElem?_map, Option.map_eq_some_iff] at hu
    obtain ⟨v, ⟨n, hn', rfl⟩, rfl⟩ := hu
    have hj : j < zs.length := by
      rcases Nat.lt_or_ge j zs.length with h | h
      · exact h
      · rw [List.getElem?_take] at hn'
        split at hn'
        · rw [List.getElem?_eq_none h] at hn'; cases hn'
        · cases hn'
    have hj' : zs[j]? = some n := by
      rw [List.getElem?_take] at hn'
      split at hn'
      · exact hn'
      · cases hn'
    have hcj := hc j hj
    rw [addr_add] at hcj
    rw [hcj]
    have hd : zs.getD j 0 = n := by simp [hj']
    have hwn := bounds_u8 (hw n (List.mem_of_getElem? hj'))
    rw [hd, UInt8.toNat_ofNat']
    congr 2
    omega
end Go.Proofs.Ytfpcldkfmcnjkaa
namespace Go.Proofs.Ytfpcldkfmcnjkaa
open Go.RowKit

/-- Are they all shards of a stripe? -/
def fitsB (k n : Nat) (s : Gm.L) : Bool := decide (Gm.even s n ∧ Gm.mulL (Gm.gen k n) (s.take k) = s)
theorem even_take {s : Gm.L} {k n : Nat} (h : Gm.even s n) (hk : 0 < k) (hkn : k ≤ n) : Gm.even (s.take k) k :=
  ⟨by rw [List.length_take, h.1]; omega, hk, by rw [cols_take hk]; exact h.2.2.1, fun i hi => by rw [row_take hi, cols_take hk]; exact h.2.2.2 i (by omega)⟩
set_option maxRecDepth 100000 in
set_option maxHeartbeats 2000000 in
theorem fits_any (w : World) (b fb k n : Nat) (hC : Cd w b fb k n) (As : Option Addr) (m cs : Nat) (s : Gm.L) (hs : Mx w As m cs s) :
    Calls Try.prog 23 #[cptr b, .slice As m cs] w fun e w' => e = .returned (.bool (fitsB k n s)) ∧ Ext w w' := by
  have HM := Lib.hid (made_any w b fb k n hC)
  have hE := even_any w As m cs s n hs
  have q3 := hs.max
  have q4 := hs.le
  obtain ⟨Ag, cg, c2, hmg⟩ := hC.mx
  have q5 := hmg.max
  have q6 := hmg.le
  by_cases h : Gm.even s n
  · rw [decide_eq_true h] at hE
    obtain rfl : m = n := by rw [← hs.len]; exact h.1
    have hkn := hC.kn
    have hEN := fun (W : World) (hW : Ext w W) => encode_any W b fb k m (hC.ext hW) As k cs (s.take k) ((hs.ext hW).take hkn)
    have e1 : encM k m (s.take k) = Gm.mulL (Gm.gen k m) (s.take k) := by unfold encM; rw [if_pos (even_take h hC.k1 hkn)]
    have e2 : encE k (s.take k) = 0 := by unfold encE; rw [if_pos (even_take h hC.k1 hkn)]
    rw [e1, e2] at hEN
    have hf : fitsB k m s = decide (Gm.mulL (Gm.gen k m) (s.take k) = s) := by
      unfold fitsB
      rw [Bool.eq_iff_iff, decide_eq_true_eq, decide_eq_true_eq]
      exact ⟨fun q => q.2, fun q => ⟨h, q⟩⟩
    rw [hf]
    have g1 : (k : Int) ≤ m := by omega
    have g2 : (k : Int) ≤ cs := by omega
    have g3 : (0 : Int) ≤ k := by omega
    have hml : (Gm.mulL (Gm.gen k m) (s.take k)).length = m := by rw [Gm.mulL_length, Gm.gen_length hkn]
    have HML := Lib.hid hml
    have HE := Lib.hid hE
    have HEN := Lib.hid hEN
    have HS := Lib.hid hs
    have HC := Lib.hid hC
    clear hE h hs hC hEN e1 e2 hf hml hmg
    generalize Gm.mulL (Gm.gen k m) (s.take k) = M at *
    go_enter Try.func23, Try.ntmps23
    go_wp2_with (fail)
    refine HM.out.mono ?_
    rintro e w' ⟨rfl, rfl⟩
    go_wp2_with (fail)
    refine HE.out.mono ?_
    rintro e w1 ⟨rfl, x1⟩
    have c1 := (HC.out.ext x1).c1
    go_wp2_with (fail)
    refine (HEN.out w1 x1).mono ?_
    intro e w2 hg
    obtain ⟨A2, c2', rfl, m2, x2⟩ := gives_mx hg
    clear hg
    rw [HML.out] at m2
    rw [HML.out]
    have HF := Lib.hid (equalFunc_any w2 A2 As m c2' m cs M s m2 (HS.out.ext (x1.trans x2)))
    clear m2
    go_wp2_with (fail)
    refine HF.out.mono ?_
    rintro e w3 ⟨rfl, x3⟩
    go_wp2_with (fail)
    go_ret
    exact ⟨rfl, (x1.trans x2).trans x3⟩
  · rw [decide_eq_false h] at hE
    have hf : fitsB k n s = false := by
      unfold fitsB
      exact decide_eq_false (fun q => h q.1)
    rw [hf]
    have HE := Lib.hid hE
    clear hE h hs hC hf hmg
    go_enter Try.func23, Try.ntmps23
    go_wp2_with (fail)
    refine HM.out.mono ?_
    rintro e w' ⟨rfl, rfl⟩
    go_wp2_with (fail)
    refine HE.out.mono ?_
    rintro e w1 ⟨rfl, x1⟩
    go_wp2_with (fail)
    go_ret
    exact ⟨rfl, x1⟩
end Go.Proofs.Ytfpcldkfmcnjkaa
namespace Go.Proofs.Ytfpcldkfmcnjkaa
open Go.RowKit
attribute [local go_sem ↓] Go.wp_at_zero Go.wp_at_succ

set_option maxRecDepth 100000 in
set_option maxHeartbeats 2000000 in
theorem sameLists_any (w : World) (A A' : Option Addr) (n c m c' : Nat) (a b : Gm.L) (ha : Mx w A n c a) (hb : Mx w A' m c' b) :
    Calls Try.prog 22 #[.slice A n c, .slice A' m c'] w fun e w' => e = .returned (.bool (decide (a = b))) ∧ Ext w w' := by
  have hm1 := ha.max
  have hm2 := ha.le
  have hm3 := hb.max
  have hm4 := hb.le
  have LA := Lib.hid ha.len
  have LB := Lib.hid hb.len
  by_cases hnm : n = m
  · subst hnm
    have e0 : ((n : Int) != (n : Int)) = false := by rw [bne_eq_false_iff_eq]
    go_enter Try.func22, Try.ntmps22
    go_wp2_with (fail)
    go_loopw [5] (fun s wr => ∃ k : Nat, k ≤ n ∧ s = .int .i64 k ∧ Ext w wr ∧ RowKit.Hid (∀ i, i < k → Gm.row a i = Gm.row b i)) (fun s _ => n - (intOf s).toNat)
    case atStart => exact ⟨0, Nat.zero_le _, rfl, Ext.refl w, Lib.hid fun j hj => absurd hj (Nat.not_lt_zero _)⟩
    case round =>
      obtain ⟨k, hk, rfl, hx, H⟩ := hrel
      by_cases hlt : k < n
      · have i1 : (k : Int) < n := by omega
        obtain ⟨b1, o1, A1, n1, c1, rfl, hc1, hr1⟩ := (ha.ext hx).at_ hlt
        obtain ⟨b2, o2, A2, n2, c2, rfl, hc2, hr2⟩ := (hb.ext hx).at_ hlt
        have hcall := sameBytes_any wr.drew A1 A2 n1 c1 n2 c2 (Gm.row a k) (Gm.row b k) (hr1.ext (Ext.drew _)) (hr2.ext (Ext.drew _))
        have HC := Lib.hid hcall
        have hS : wr.drew.cell? ⟨b1, o1 + k, none⟩ = some (.slice A1 n1 c1) ∧ wr.drew.cell? ⟨b2, o2 + k, none⟩ = some (.slice A2 n2 c2) := ⟨(Ext.drew wr).cell hc1, (Ext.drew wr).cell hc2⟩
        have HX := Lib.hid (hx.thenDrew)
        clear hcall hr1 hr2 ha hb hx
        by_cases e : Gm.row a k = Gm.row b k
        · have hv : (Gm.row a k == Gm.row b k) = true := by rw [beq_iff_eq]; exact e
          rw [hv] at HC
          have HE := Lib.hid e
          clear e hv
          go_wp2_with (fail)
          go_region_held3 (fun W => W.cell? ⟨b1, o1 + k, none⟩ = some (.slice A1 n1 c1) ∧ W.cell? ⟨b2, o2 + k, none⟩ = some (.slice A2 n2 c2)) (exact hS) (((with_reducible refine HC.out.mono ?_); (rintro e w4 ⟨rfl, rfl⟩)))
          all_goals
            go_wp2_with (fail)
            refine ⟨⟨k + 1, by omega, by go_num, HX.out, Lib.hid fun i hi => ?_⟩, by simp [intOf]; omega⟩
            by_cases e2 : i = k
            · rw [e2]; exact HE.out
            · exact H.out i (by omega)
        · have hv : (Gm.row a k == Gm.row b k) = false := by rw [beq_eq_false_iff_ne]; exact e
          rw [hv] at HC
          have HE := Lib.hid e
          clear e hv
          go_wp2_with (fail)
          go_region_held3 (fun W => W.cell? ⟨b1, o1 + k, none⟩ = some (.slice A1 n1 c1) ∧ W.cell? ⟨b2, o2 + k, none⟩ = some (.slice A2 n2 c2)) (exact hS) (((with_reducible refine HC.out.mono ?_); (rintro e w4 ⟨rfl, rfl⟩)))
          all_goals
            go_wp2_with (fail)
            go_ret
            exact ⟨ret_bool (decide_eq_false (fun h => HE.out (by rw [h]))).symm, HX.out⟩
      · have i1 : ¬ (k : Int) < n := by omega
        have hkn : k = n := by omega
        rw [hkn] at H
        go_wp2_with (fail)
        go_ret
        exact ⟨ret_bool (decide_eq_true (Gm.rows_ext (by rw [LA.out, LB.out]) (fun i hi => H.out i (by have := LA.out; omega)))).symm, hx⟩
  · have e0 : ((n : Int) != (m : Int)) = true := by rw [bne_iff_ne]; omega
    go_enter Try.func22, Try.ntmps22
    go_wp2_with (fail)
    go_ret
    exact ⟨ret_bool (decide_eq_false (fun h => hnm (by have := LA.out; have := LB.out; rw [h] at *; omega))).symm, Ext.refl w⟩
theorem sameMatrix_any (w : World) (A A' : Option Addr) (n c m c' : Nat) (a b : Gm.L) (ha : Mx w A n c a) (hb : Mx w A' m c' b) :
    Calls Try.prog 34 #[.slice A n c, .slice A' m c'] w fun e w' => e = .returned (.bool (decide (a = b))) ∧ Ext w w' := by
  go_enter Try.func34, Try.ntmps34
  go_wp2_with (fail)
  refine (sameLists_any w A A' n c m c' a b ha hb).mono ?_
  rintro e w1 ⟨rfl, x1⟩
  go_wp2_with (fail)
  go_ret
  exact ⟨rfl, x1⟩
end Go.Proofs.Ytfpcldkfmcnjkaa
namespace Go.Proofs.Ytfpcldkfmcnjkaa
open Go.ChangeShapes Go.WideShapes Go.ChangeAt Go.RowKit
section
variable {H : Type} {enc : TypeId × Value → H} {P : Program} {w : World} {base : Nat} {spare : Nat → Bool} {held : Bool}

theorem okWide_array {r : Reach} {b0 n : Nat} {t e : TypeId} {v : Value} (ht : P.underlying t = some (.array n e)) (h : Value.okWide P w r b0 t v) : ∃ cs, v = .agg cs ∧ cs.size = P.cellsOf t := by
  simp only [Value.okWide, ht] at h
  obtain ⟨cs, h1, h2, _⟩ := h
  exact ⟨cs, h1, h2⟩
theorem cells_spot {a : Addr} {v : Value} (h : w.cell? (a.add 0) = some v) : a = ⟨a.block, a.off, none⟩ := by
  obtain ⟨b, off, sp⟩ := a
  cases sp with
  | none => rfl
  | some s =>
    exfalso
    have e : (⟨b, off, some s⟩ : Addr).add 0 = ⟨b, off, some s⟩ := by unfold Addr.add; split <;> simp_all
    rw [e] at h
    unfold World.cell? at h
    split at h <;> simp at h
/-- An array of integers. -/
theorem trod_int_array {t e : TypeId} {k : IntKind} {n fuel : Nat} {cs : List Value} {x : DataW H × List MemPlace} (ht : P.underlying t = some (.array n e)) (he : P.underlying e = some (.int k)) (hc : P.cellsOf e = 1) (hct : P.cellsOf t = n)
    (h : DataW.trod enc P w base spare held fuel t cs = some x) : ∃ zs : List Int, zs.length = n ∧ cs = zs.map (Value.int k) ∧ ∀ z ∈ zs, (Lit.int k z).wf = true := by
  obtain ⟨xs, m, _, _, hl, hxl, hel⟩ := DataW.trod_array ht h
  rw [hct] at hl
  have each : ∀ i, i < n → ∃ z : Int, cs[i]? = some (.int k z) ∧ (Lit.int k z).wf = true := by
    intro i hi
    have h1 := hel i hi
    rw [hc, Nat.mul_one] at h1
    have hxi : i < xs.length := by omega
    rw [List.getElem?_eq_getElem hxi] at h1
    obtain ⟨z, hz, _, hw⟩ := DataW.trod_int he h1
    refine ⟨z, ?_, hw⟩
    have hci : i < cs.length := by omega
    have h2 : (cs.drop i).take 1 = [cs[i]] := by rw [List.drop_eq_getElem_cons hci]; rfl
    rw [h2] at hz
    injection hz with hz
    rw [List.getElem?_eq_getElem hci, hz]
  obtain ⟨f, hf⟩ := Go.Deep.choose_lt each
  refine ⟨(List.range n).map f, by simp, ?_, ?_⟩
  · apply List.ext_getElem (by simp [hl])
    intro i h1 h2
    have := (hf i (by omega)).1
    rw [List.getElem?_eq_getElem h1] at this
    injection this with this
    rw [this]
    simp
  · intro z hz
    simp only [List.mem_map, List.mem_range] at hz
    obtain ⟨i, hi, rfl⟩ := hz
    exact (hf i hi).2
end
set_option maxRecDepth 100000 in
theorem open_u8x3 {H : Type} {enc : TypeId × Value → H} {W : World} {r : Reach} {b0 : Nat} {t e : TypeId} {v : Value} {d : DataW H} {p : List MemPlace} (ht : Try.prog.underlying t = some (.array 3 e)) (he : Try.prog.underlying e = some (.int .u8)) (hc : Try.prog.cellsOf e = 1) (hct : Try.prog.cellsOf t = 3)
    (hv : Value.okWide Try.prog W r b0 t v) (h : DataW.Trod enc Try.prog W 0 (fun _ => true) true t v d p) : ∃ x y z : UInt8, v = .agg #[.int .u8 (x.toNat : Int), .int .u8 (y.toNat : Int), .int .u8 (z.toNat : Int)] := by
  obtain ⟨cs, rfl, _⟩ := okWide_array ht hv
  obtain ⟨fuel, hf⟩ := h
  obtain ⟨zs, hl, hcs, hw⟩ := trod_int_array ht he hc hct hf
  match zs, hl with
  | [a, b, c], _ =>
    obtain ⟨x, rfl⟩ := wf_u8 (hw a (by simp))
    obtain ⟨y, rfl⟩ := wf_u8 (hw b (by simp))
    obtain ⟨z, rfl⟩ := wf_u8 (hw c (by simp))
    refine ⟨x, y, z, ?_⟩
    have : cs = ([Value.int .u8 (x.toNat : Int), .int .u8 (y.toNat : Int), .int .u8 (z.toNat : Int)]).toArray := by
      rw [← Array.toList_inj]
      exact hcs
    rw [this]
end Go.Proofs.Ytfpcldkfmcnjkaa
namespace Go.Proofs.Ytfpcldkfmcnjkaa
open Go.ChangeShapes Go.WideShapes Go.ChangeAt Go.RowKit

theorem bs_of_trod {H : Type} {enc : TypeId × Value → H} {W : World} {e u : TypeId} {fuel : Nat} {v : Value} {x : DataW H × List MemPlace} (he : Try.prog.underlying e = some (.slice u)) (hu : Try.prog.underlying u = some (.int .u8)) (hcu : Try.prog.cellsOf u = 1)
    (h : DataW.trod enc Try.prog W 0 (fun _ => true) true fuel e [v] = some x) : ∃ A n c l, v = .slice A n c ∧ Bs W A n c l := by
  have hs : ∃ A n c, v = .slice A n c := by
    rcases Go.Deep.open_slice he h with ⟨hcs, _⟩ | ⟨_, _, _, _, _, _, _, hcs, _⟩
    · injection hcs with hcs; exact ⟨_, _, _, hcs⟩
    · injection hcs with hcs; exact ⟨_, _, _, hcs⟩
  obtain ⟨A, n, c, rfl⟩ := hs
  obtain ⟨zs, hz⟩ := IsRow.of_trod (k := .u8) he hu hcu (show DataW.Trod enc Try.prog W 0 (fun _ => true) true e (.slice A n c) x.1 x.2 from ⟨fuel, by simpa [Value.cells] using h⟩)
  obtain ⟨l, hl⟩ := hz.bytes
  exact ⟨A, n, c, l, rfl, hl⟩
theorem mx_of_trod {H : Type} {enc : TypeId × Value → H} {W : World} {t e u : TypeId} {fuel : Nat} {v : Value} {x : DataW H × List MemPlace} (ht : Try.prog.underlying t = some (.slice e)) (hce : Try.prog.cellsOf e = 1) (he : Try.prog.underlying e = some (.slice u)) (hu : Try.prog.underlying u = some (.int .u8)) (hcu : Try.prog.cellsOf u = 1)
    (h : DataW.trod enc Try.prog W 0 (fun _ => true) true fuel t [v] = some x) : ∃ A n c m, v = .slice A n c ∧ Mx W A n c m := by
  rcases Go.Deep.open_slice1 ht hce h with ⟨hcs, _⟩ | ⟨a, len, cap, m, nf, V, D, Pl, hcs, hb, hl, hm, hmm, _, hV⟩
  · injection hcs with hcs
    exact ⟨none, 0, 0, [], hcs, Mx.none W⟩
  · injection hcs with hcs
    have hmc : m = cap := by rw [hmm]; rfl
    have each : ∀ i, i < len → ∃ q : Option Addr × Nat × Nat × List UInt8, V i = .slice q.1 q.2.1 q.2.2.1 ∧ Bs W q.1 q.2.1 q.2.2.1 q.2.2.2 := fun i hi => by
      obtain ⟨A, n, c, l, e1, e2⟩ := bs_of_trod he hu hcu (hV i (by omega)).2
      exact ⟨(A, n, c, l), e1, e2⟩
    obtain ⟨f, hf⟩ := Go.Deep.choose_lt each
    refine ⟨some a, len, cap, (List.range len).map fun i => (f i).2.2.2, hcs, by simp, hl, by unfold maxLen at hm; omega, (List.range len).map V, ⟨by simp, fun hn => ?_⟩, ⟨by simp, fun i hi => ?_⟩⟩
    · have hsp := cells_spot (hV 0 (by omega)).1
      refine ⟨a.block, a.off, by rw [← hsp], fun j w hw => ?_⟩
      have hj : j < len := by have := (List.getElem?_eq_some_iff.1 hw).1; simpa using this
      have hc := (hV j (by omega)).1
      rw [hsp, addr_add] at hc
      rw [hc, ← hw]
      simp [hj]
    · simp only [List.length_map, List.length_range] at hi
      obtain ⟨e1, e2⟩ := hf i hi
      refine ⟨(f i).1, (f i).2.1, (f i).2.2.1, by simp [hi, e1], ?_⟩
      rw [Gm.row_range _ hi]
      exact e2
set_option maxRecDepth 100000 in
theorem mx_open {H : Type} {enc : TypeId × Value → H} {W : World} {t e u : TypeId} {v : Value} {d : DataW H} {p : List MemPlace} (ht : Try.prog.underlying t = some (.slice e)) (hce : Try.prog.cellsOf e = 1) (he : Try.prog.underlying e = some (.slice u)) (hu : Try.prog.underlying u = some (.int .u8)) (hcu : Try.prog.cellsOf u = 1)
    {r : Reach} {b0 : Nat} (hv : Value.okWide Try.prog W r b0 t v) (h : DataW.Trod enc Try.prog W 0 (fun _ => true) true t v d p) : ∃ A n c m, v = .slice A n c ∧ Mx W A n c m := by
  obtain ⟨A, n, c, rfl⟩ := okWide_slice ht hv
  obtain ⟨fuel, hf⟩ := h
  exact mx_of_trod ht hce he hu hcu (by simpa [Value.cells] using hf)
end Go.Proofs.Ytfpcldkfmcnjkaa
