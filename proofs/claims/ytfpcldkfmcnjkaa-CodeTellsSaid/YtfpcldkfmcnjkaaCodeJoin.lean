/- The contract of code's Join; of slices.ContainsFunc at lists of stripes. -/
import Derived.Test.YtfpcldkfmcnjkaaCodeFunc
import Derived.Test.YtfpcldkfmcnjkaaCodeBox
import Derived.Test.YtfpcldkfmcnjkaaCt8
namespace Go.Proofs.Ytfpcldkfmcnjkaa
open Go.RowKit

/-- Is there such a matrix? -/
def anyMx (n : Nat) (ss : List Gm.L) (q : Gm.L → Bool) : Bool := decide (∃ k, k < n ∧ q (sget ss k) = true)
/-- What is asked of a predicate: at every matrix, in every world that has grown, it answers as 'q' does. -/
def AsksMx (w : World) (g : Nat) (lb : Array Value) (q : Gm.L → Bool) : Prop :=
  ∀ (W : World) (A : Option Addr) (n c : Nat) (m : Gm.L), Ext w W → Mx W A n c m → Calls Try.prog g (#[.slice A n c] ++ lb) W fun e w' => e = .returned (.bool (q m)) ∧ Ext W w'
set_option maxRecDepth 100000 in
set_option maxHeartbeats 1000000 in
theorem indexMx_any (w : World) (A : Option Addr) (n c : Nat) (ss : List Gm.L) (hm : Mxs w A n c ss) (g : Nat) (lb : Array Value) (q : Gm.L → Bool)
    (eg : ∀ args w, (callFunc g args).run Try.prog w = .ok (.enter g args) w) (hq : AsksMx w g lb q) :
    Calls Try.prog 74 #[.slice A n c, .func (.func g) #[] lb] w fun r w' =>
      ∃ i : Int, r = .returned (.int .i64 i) ∧ decide (0 ≤ i) = anyMx n ss q ∧ Ext w w' := by
  have hmax := hm.max
  have hle := hm.le
  have HQ := Lib.hid hq
  have HM := Lib.hid hm
  clear hq hm
  go_enter Try.func74, Try.ntmps74
  go_wp2
  go_loopw [5, 8] (fun _ s8 wr => ∃ k : Nat, k ≤ n ∧ s8 = .int .i64 k ∧ Ext w wr ∧ RowKit.Hid (∀ j, j < k → q (sget ss j) = false)) (fun _ s8 _ => n - (intOf s8).toNat)
  case atStart => exact ⟨0, Nat.zero_le _, rfl, Ext.refl w, Lib.hid fun j hj => absurd hj (Nat.not_lt_zero _)⟩
  case round =>
    obtain ⟨k, hk, rfl, hx, H⟩ := hrel
    by_cases hlt : k < n
    · have i1 : (k : Int) < n := by omega
      obtain ⟨b, off, A', n', c', rfl, q1, hb⟩ := (HM.out.ext hx).at_ _ hlt
      have hcall := HQ.out wr A' n' c' (sget ss k) hx hb
      generalize hy : q (sget ss k) = y at hcall
      have Y := Lib.hid hy
      clear hy hb
      cases y with
      | true =>
        go_wp2_with (fail)
        refine hcall.mono ?_
        rintro r w' ⟨rfl, hx'⟩
        go_wp2_with (fail)
        go_ret
        refine ⟨_, rfl, ?_, hx.trans hx'⟩
        unfold anyMx
        rw [decide_eq_true (by omega), eq_comm, decide_eq_true_eq]
        exact ⟨k, hlt, Y.out⟩
      | false =>
        go_wp2_with (fail)
        refine hcall.mono ?_
        rintro r w' ⟨rfl, hx'⟩
        go_wp2_with (fail)
        refine ⟨⟨k + 1, by omega, by go_num, hx.trans hx', Lib.hid fun j hj => ?_⟩, by simp [intOf]; omega⟩
        by_cases e : j = k
        · subst e; exact Y.out
        · exact H.out j (by omega)
    · have i1 : ¬ (k : Int) < n := by omega
      obtain rfl : k = n := by omega
      go_wp2
      go_ret
      refine ⟨_, rfl, show decide ((0 : Int) ≤ -1) = anyMx k ss q from ?_, hx⟩
      unfold anyMx
      rw [decide_eq_false (by omega), eq_comm, decide_eq_false_iff_not]
      rintro ⟨j, hj, e⟩
      rw [H.out j hj] at e
      cases e
theorem containsMx_any (w : World) (A : Option Addr) (n c : Nat) (ss : List Gm.L) (hm : Mxs w A n c ss) (g : Nat) (lb : Array Value) (q : Gm.L → Bool)
    (eg : ∀ args w, (callFunc g args).run Try.prog w = .ok (.enter g args) w) (hq : AsksMx w g lb q) :
    Calls Try.prog 56 #[.slice A n c, .func (.func g) #[] lb] w fun r w' =>
      r = .returned (.bool (anyMx n ss q)) ∧ Ext w w' := by
  go_enter Try.func56, Try.ntmps56
  go_wp2_with (fail)
  refine (indexMx_any w A n c ss hm g lb q eg hq).mono ?_
  rintro r w' ⟨i, rfl, e, hx⟩
  have E := Lib.hid e
  clear e
  go_wp2_with (fail)
  go_ret
  exact ⟨ret_bool E.out, hx⟩
theorem join1_asks (w : World) (g b fb k n : Nat) (hc : w.cell? ⟨g, 0, none⟩ = some (cptr b)) (hC : Cd w b fb k n) :
    AsksMx w 57 #[.pointer (some ⟨g, 0, none⟩)] (fun s => !decide (Gm.even s k)) := by
  intro W A n' c' m hx hb
  have k0 := hx.cell hc
  have c1 := (hC.ext hx).c1
  have H := Lib.hid (even_any W A n' c' m k hb)
  have h1 := hb.le
  have h2 := hb.max
  show Calls Try.prog 57 #[.slice A n' c', .pointer (some ⟨g, 0, none⟩)] W (fun e w' => e = .returned (.bool (!decide (Gm.even m k))) ∧ Ext W w')
  clear hb hC hc
  generalize decide (Gm.even m k) = y at *
  go_enter Try.func57, Try.ntmps57
  go_wp2_with (fail)
  refine H.out.mono ?_
  rintro e w' ⟨rfl, hx'⟩
  go_wp2_with (fail)
  go_ret
  exact ⟨rfl, hx'⟩
/-- All bytes of stripes. -/
def joinAll (ss : List Gm.L) : List UInt8 := (ss.map List.flatten).flatten
def joinOk (k : Nat) (ss : List Gm.L) : Prop := ∀ i, i < ss.length → Gm.even (sget ss i) k
instance (k : Nat) (ss : List Gm.L) : Decidable (joinOk k ss) := by unfold joinOk; infer_instance
def joinE (k : Nat) (ss : List Gm.L) (n : Int) : Int := if joinOk k ss then (if 0 ≤ n ∧ n ≤ (joinAll ss).length then 0 else 11) else 40
def joinL (k : Nat) (ss : List Gm.L) (n : Int) : List UInt8 := if joinOk k ss ∧ 0 ≤ n ∧ n ≤ (joinAll ss).length then (joinAll ss).take n.toNat else []
theorem joinAll_succ {ss : List Gm.L} {i : Nat} (h : i < ss.length) : joinAll (ss.take (i + 1)) = joinAll (ss.take i) ++ (sget ss i).flatten := by
  unfold joinAll
  rw [List.take_succ_eq_append_getElem h, ← sget_of_lt h, List.map_append, List.flatten_append, List.map_singleton, List.flatten_singleton]
theorem flat_succ {s : Gm.L} {j : Nat} (h : j < s.length) : (s.take (j + 1)).flatten = (s.take j).flatten ++ Gm.row s j := by
  rw [List.take_succ_eq_append_getElem h, ← Gm.row_of_lt h, List.flatten_append, List.flatten_singleton]
theorem flat_le {s : Gm.L} {k : Nat} (h : Gm.even s k) : ∀ j, j ≤ k → (s.take j).flatten.length ≤ j * 65536
  | 0, _ => by simp
  | j + 1, hj => by
    have ih := flat_le h j (by omega)
    rw [flat_succ (by rw [h.1]; omega), List.length_append, h.2.2.2 j (by omega)]
    have := h.2.2.1
    omega
theorem joinAll_le {k : Nat} {ss : List Gm.L} (h : joinOk k ss) (hk : k ≤ 255) : ∀ i, i ≤ ss.length → (joinAll (ss.take i)).length ≤ i * 16711680
  | 0, _ => by simp [joinAll]
  | i + 1, hi => by
    have ih := joinAll_le h hk i (by omega)
    have h1 := h i (by omega)
    have h2 := flat_le h1 k (Nat.le_refl _)
    rw [List.take_of_length_le (by rw [h1.1]; exact Nat.le_refl _)] at h2
    rw [joinAll_succ (by omega), List.length_append]
    omega
theorem any_joinOk {n k : Nat} {ss : List Gm.L} (h : ss.length = n) : anyMx n ss (fun s => !decide (Gm.even s k)) = !decide (joinOk k ss) := by
  rw [Bool.eq_iff_iff, Bool.not_eq_true', decide_eq_false_iff_not]
  unfold anyMx
  rw [decide_eq_true_eq]
  constructor
  · rintro ⟨t, ht, e⟩ q
    have := q t (by omega)
    simp [this] at e
  · intro q
    rcases Classical.em (∃ t, t < n ∧ ¬ Gm.even (sget ss t) k) with ⟨t, ht, e⟩ | h0
    · exact ⟨t, ht, by simp [e]⟩
    · exact absurd (fun t ht => Classical.byContradiction fun e => h0 ⟨t, by omega, e⟩) q
/-- Bytes are handed back, to be read, with an error. -/
def GivesR (l : List UInt8) (er : Int) (w : World) (e : Ending) (w' : World) : Prop := ∃ A c, e = .returned (.tuple #[.slice A l.length c, .int .i64 er]) ∧ Bs w' A l.length c l ∧ Ext w w'
theorem Bs.none (w : World) : Bs w none 0 0 [] := ⟨rfl, Nat.le_refl _, by omega, Rd.nil _ _ _⟩
theorem GivesR.none (er : Int) {w w' : World} (hx : Ext w w') : GivesR [] er w (.returned (.tuple #[.slice none 0 0, .int .i64 er])) w' := ⟨_, _, rfl, Bs.none _, hx⟩
set_option maxRecDepth 100000 in
set_option maxHeartbeats 4000000 in
theorem join_any (w : World) (b fb k n : Nat) (hC : Cd w b fb k n) (A : Option Addr) (q c : Nat) (ss : List Gm.L) (hs : Mxs w A q c ss) (hq : q ≤ 1000) (i : Int) :
    Calls Try.prog 28 #[cptr b, .slice A q c, .int .i64 i] w (GivesR (joinL k ss i) (joinE k ss i) w) := by
  obtain ⟨j1, hj1, hy0, hy1, hy2⟩ := info_parts u8_info
  have x0 : Ext w (w.alloc (.cells #[cptr b] 27)) := Ext.alloc _ _
  have hcb : (w.alloc (.cells #[cptr b] 27)).cell? ⟨w.heap.size, 0, none⟩ = some (cptr b) := by rw [World.cell?_alloc_new]; rfl
  have HM := Lib.hid (made_any (w.alloc (.cells #[cptr b] 27)) b fb k n (hC.ext x0))
  have hE := containsMx_any (w.alloc (.cells #[cptr b] 27)) A q c ss (hs.ext x0) 57 #[.pointer (some ⟨w.heap.size, 0, none⟩)] _ (enters_of Try.func57 (by kernel_rfl) rfl) (join1_asks _ _ b fb k n hcb (hC.ext x0))
  rw [any_joinOk hs.len] at hE
  have q1 := hs.max
  have q2 := hs.le
  have LS := Lib.hid hs.len
  have hk1 := hC.k1
  have hk2 : k ≤ 255 := by have := hC.kn; have := hC.n2; omega
  have HX := Lib.hid x0
  have HS := Lib.hid hs
  have hno : ¬ joinOk k ss → joinL k ss i = [] ∧ joinE k ss i = 40 := fun h => ⟨by unfold joinL; rw [if_neg (fun q => h q.1)], by unfold joinE; rw [if_neg h]⟩
  have hin : joinOk k ss → 0 ≤ i → i ≤ (joinAll ss).length → joinL k ss i = (joinAll ss).take i.toNat ∧ joinE k ss i = 0 := fun h h1 h2 => ⟨by unfold joinL; rw [if_pos ⟨h, h1, h2⟩], by unfold joinE; rw [if_pos h, if_pos ⟨h1, h2⟩]⟩
  have hout : joinOk k ss → ¬ (0 ≤ i ∧ i ≤ (joinAll ss).length) → joinL k ss i = [] ∧ joinE k ss i = 11 := fun h h1 => ⟨by unfold joinL; rw [if_neg (fun q => h1 q.2)], by unfold joinE; rw [if_pos h, if_neg h1]⟩
  have HNO := Lib.hid hno
  have HIN := Lib.hid hin
  have HOUT := Lib.hid hout
  clear hno hin hout
  generalize joinL k ss i = JL at *
  generalize joinE k ss i = JE at *
  by_cases h : joinOk k ss
  · rw [decide_eq_true h] at hE
    have HE := Lib.hid hE
    have HO := Lib.hid h
    have hjl := joinAll_le h hk2 q (by rw [LS.out]; exact Nat.le_refl _)
    rw [List.take_of_length_le (by rw [LS.out]; exact Nat.le_refl _)] at hjl
    clear hE h hs hC x0 HNO
    go_enter Try.func28, Try.ntmps28
    go_wp2_with (fail)
    refine HM.out.mono ?_
    rintro e w' ⟨rfl, rfl⟩
    go_wp2_with (fail)
    refine HE.out.mono ?_
    rintro e w1 ⟨rfl, x1⟩
    obtain ⟨N2, hN2⟩ : ∃ N2, w.heap.size = N2 := ⟨_, rfl⟩
    have HN2 := Lib.hid hN2
    have hx1 := HX.out.trans x1
    have hsz0 : N2 ≤ w1.heap.size := by have := hx1.size; omega
    clear HX HM HE hcb hN2 x1
    go_wp2_with (fail)
    go_loopw [8, 10, 12, 21, 27] (fun v _ _ t _ wr => ∃ i : Nat, i ≤ q ∧ t = .int .i64 (i : Int) ∧ wr.ownsRow N2 5 1 v (joinAll (ss.take i)).length (bcells (joinAll (ss.take i))) ∧ Ext w wr) (fun _ _ _ t _ _ => q - (intOf t).toNat)
    case atStart => exact ⟨0, by omega, rfl, World.ownsRow_nil _ _ _ _, hx1⟩
    case round =>
      obtain ⟨t, ht, rfl, hown, hx⟩ := hrel
      by_cases htq : t < q
      · have r1 : (t : Int) < q := by omega
        obtain ⟨bm, om, Ai, ni, ci, rfl, hce0, hmi⟩ := HS.out.at_ _ htq
        have hce := hx.cell hce0
        clear hce0
        have hev := HO.out t (by rw [LS.out]; exact htq)
        obtain rfl : ni = k := by rw [← hmi.len]; exact hev.1
        have hle1 := joinAll_le HO.out hk2 t (by rw [LS.out]; exact ht)
        have hle2 := flat_le hev
        have hjs := joinAll_succ (ss := ss) (i := t) (by rw [LS.out]; exact htq)
        rw [← List.take_of_length_le (show (sget ss t).length ≤ ni by rw [hev.1]; exact Nat.le_refl _)] at hjs
        have hmx := hmi.max
        have hml := hmi.le
        obtain ⟨J, hJ⟩ : ∃ J, joinAll (ss.take t) = J := ⟨_, rfl⟩
        rw [hJ] at hown hle1 hjs
        generalize sget ss t = S at *
        have HMI := Lib.hid hmi
        have HEV := Lib.hid hev
        have HL2 := Lib.hid hle2
        have HJS := Lib.hid hjs
        have HOW := Lib.hid hown
        have hsx := hx.size
        obtain ⟨wo, rfl⟩ : ∃ wo : World, wo = wr := ⟨_, rfl⟩
        clear hmi hev hle2 hjs hown hJ
        go_wp2_with (fail)
        go_loopw [8, 12, 27] (fun v _ s wr => ∃ j : Nat, j ≤ ni ∧ s = .int .i64 (j : Int) ∧ wr.ownsRow N2 5 1 v (J ++ (S.take j).flatten).length (bcells (J ++ (S.take j).flatten)) ∧ Ext w wr) (fun _ _ s _ => ni - (intOf s).toNat)
        case atStart => exact ⟨0, by omega, rfl, by rw [List.take_zero, List.flatten_nil, List.append_nil]; exact HOW.out, hx⟩
        case round =>
          obtain ⟨j, hj, rfl, hown, hxj⟩ := hrel
          by_cases hjk : j < ni
          · have r2 : (j : Int) < ni := by omega
            obtain ⟨b2, o2, A2, n2, c2, rfl, hc2, hb2⟩ := (HMI.out.ext hxj).at_ hjk
            have hfs := flat_succ (s := S) (j := j) (by rw [HEV.out.1]; exact hjk)
            have hl2 := HL2.out j hj
            have hn2 : n2 ≤ 65536 := by rw [← hb2.len, HEV.out.2.2.2 j hjk]; exact HEV.out.2.2.1
            have hmx2 := hb2.max
            have hml2 := hb2.le
            have hln := hb2.len
            have HFS := Lib.hid hfs
            have HLN := Lib.hid hln
            have hll : (J ++ (S.take j).flatten).length ≤ 1000 * 16711680 + 255 * 65536 := by rw [List.length_append]; omega
            have HB1 := Lib.hid (bcells_one (Gm.row S j))
            have HRD := Lib.hid hb2.rd
            have HOW2 := Lib.hid hown
            have hsj := hxj.size
            obtain ⟨n9, hn9⟩ : ∃ n9, (J ++ (S.take j).flatten).length = n9 := ⟨_, rfl⟩
            have HN9 := Lib.hid hn9
            rw [hn9] at hll
            clear hfs hln hb2 hown hn9
            go_wp2_with (at_builtin; refine wpList_append_rd _ rfl (.tmp 31) (.tmp 32) 22 rfl N2 5 j1 _ 1 1 Try.underlying22 hj1 hy0 hy1 hy2 rfl (by omega) u8 n9 (bcells (J ++ (S.take j).flatten)) rfl (by rw [← HN9.out]; exact HOW2.out) A2 n2 c2 (bcells (Gm.row S j)) rfl HRD.out HB1.out (by omega) (by unfold maxLen; omega) (by have := HN2.out; omega) ?_; intro v5 w5 hown hgr hat)
            have hne : ∀ q, u8.ownBlock = some q → N2 ≤ q := own_row HOW2.out
            refine ⟨⟨j + 1, by omega, by go_num, ?_, ?_⟩, by simp [intOf]; omega⟩
            · rw [HFS.out, ← List.append_assoc, List.length_append, HN9.out, HLN.out, bcells_append]
              exact hown
            · exact hxj.ofGrown hgr (fun q hq => by have := hne q hq; have := HN2.out; omega)
          · have r2 : ¬ (j : Int) < ni := by omega
            obtain rfl : ni = j := by omega
            rw [← HJS.out] at hown
            have HOW3 := Lib.hid hown
            clear hown
            go_wp2_with (fail)
            exact ⟨⟨t + 1, by omega, by go_num, HOW3.out, hxj⟩, by simp [intOf]; omega⟩
      · have r1 : ¬ (t : Int) < q := by omega
        obtain rfl : q = t := by omega
        rw [List.take_of_length_le (by rw [LS.out]; exact Nat.le_refl _)] at hown
        obtain ⟨A5, c5, rfl, hc5, hc6⟩ := ownsRow_slice hown
        have hbs : Bs wr A5 (joinAll ss).length c5 (joinAll ss) := (Own.mk (base := N2) (e := 5) hown).bs
        have HBS := Lib.hid hbs
        clear hown hbs
        by_cases h1 : i < 0
        · obtain ⟨rfl, rfl⟩ := HOUT.out HO.out (fun q => by omega)
          go_wp2_with (fail)
          go_ret2
          exact GivesR.none 11 hx
        · by_cases h2 : ((joinAll ss).length : Int) < i
          · obtain ⟨rfl, rfl⟩ := HOUT.out HO.out (fun q => by omega)
            go_wp2_with (fail)
            go_ret2
            exact GivesR.none 11 hx
          · obtain ⟨rfl, rfl⟩ := HIN.out HO.out (by omega) (by omega)
            obtain ⟨t, rfl⟩ := Int.eq_ofNat_of_zero_le (show 0 ≤ i by omega)
            have g1 : t ≤ (joinAll ss).length := by omega
            have HT := Lib.hid (HBS.out.take g1)
            generalize (joinAll ss).length = LJ at *
            clear HOUT HIN HBS
            go_wp2_with (fail)
            go_ret2
            have hb := HT.out
            have hb1 := hb.max
            have hb2 := hb.le
            refine ⟨A5, t, by rw [hb.len]; rfl, ?_, hx⟩
            rw [hb.len]
            exact ⟨hb.len, Nat.le_refl _, by omega, hb.rd⟩
  · rw [decide_eq_false h] at hE
    have HE := Lib.hid hE
    obtain ⟨rfl, rfl⟩ := HNO.out h
    clear hE h hs hC x0
    go_enter Try.func28, Try.ntmps28
    go_wp2_with (fail)
    refine HM.out.mono ?_
    rintro e w' ⟨rfl, rfl⟩
    go_wp2_with (fail)
    refine HE.out.mono ?_
    rintro e w1 ⟨rfl, x1⟩
    go_wp2_with (fail)
    go_ret2
    exact GivesR.none 40 (HX.out.trans x1)
end Go.Proofs.Ytfpcldkfmcnjkaa
