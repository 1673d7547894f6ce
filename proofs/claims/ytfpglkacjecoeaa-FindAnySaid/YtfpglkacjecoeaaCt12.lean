/- Several texts in one: The contracts of Lay, and of what clones and compares bytes. The contracts of slices.ContainsFunc at matrices, for whatever predicate; of matrix.none, matrix.Right, and of the document's Right. -/
import Derived.Test.YtfpglkacjecoeaaCt11
import Derived.Deep.RegionHeld3
import Derived.Test.YtfpglkacjecoeaaCt6
import Derived.Test.YtfpglkacjecoeaaCt9
import Derived.Shelf.Abstract
namespace Go.Proofs.Ytfpglkacjecoeaa
open Go.RowKit

theorem u8_info : (Try.prog.info? 5).map (fun i => (i.zero, i.size, i.bytes)) = some (some (.int .u8 0), 1, 1) := by kernel_rfl

/-- A list of bytes handed back in memory of the call's own. -/
structure NewBytes (w w' : World) (v : Value) (l : List UInt8) : Prop where
  own : w'.ownsRow w.heap.size 5 1 v l.length (bcells l)
  ext : Ext w w'
theorem NewBytes.bs {w w' : World} {v : Value} {l : List UInt8} (h : NewBytes w w' v l) : ∃ A c, v = .slice A l.length c ∧ Bs w' A l.length c l := by
  obtain ⟨A, c, rfl, _, _⟩ := ownsRow_slice h.own
  exact ⟨A, c, rfl, (Own.mk (base := w.heap.size) (e := 5) h.own).bs⟩

theorem copyBytes_any (w : World) (A : Option Addr) (n c : Nat) (l : List UInt8) (hl : Bs w A n c l) (hn : n ≤ 140737488355328) :
    Calls Try.prog 24 #[.slice A n c] w fun e w' => ∃ v, e = .returned v ∧ NewBytes w w' v l := by
  obtain ⟨i0, hi0, hz0, hz1, hz2⟩ := info_parts u8_info
  have hm := hl.max
  have hle := hl.le
  go_enter Try.func24, Try.ntmps24
  go_wp2_with (
    at_builtin
    refine wpList_append_rd _ rfl (.tmp 4) (.tmp 5) 35 rfl w.heap.size 5 i0 _ 1 1 Try.underlying35 hi0 hz0 hz1 hz2 rfl (by omega) (.slice none 0 0) 0 [] rfl (World.ownsRow_nil _ _ _ _) A n c (bcells l) rfl hl.rd (bcells_one l) (by omega) (by unfold maxLen; omega) (Nat.le_refl _) ?_
    intro v1 w1 hown hg hat)
  go_ret
  refine ⟨v1, rfl, ?_, ?_⟩
  · rw [hl.len]; simpa using hown
  · exact (Ext.refl w).ofGrown hg (by simp [Value.ownBlock])

theorem clone_none (w : World) (n c : Nat) :
    Calls Try.prog 38 #[.slice none n c] w fun e w' => e = .returned (.slice none 0 0) ∧ w = w' := by
  have hnil := fun wx => Lib.run_eql_slice_nil (P := Try.prog) wx 35 5 none n c 0 0 Try.underlying35
  go_enter Try.func38, Try.ntmps38
  go_wp2
  go_ret
  exact ⟨rfl, rfl⟩
theorem clone_some (w : World) (ad : Addr) (n c : Nat) (l : List UInt8) (hl : Bs w (some ad) n c l) (hn : n ≤ 140737488355328) :
    Calls Try.prog 38 #[.slice (some ad) n c] w fun e w' => ∃ v, e = .returned v ∧ NewBytes w w' v l := by
  obtain ⟨i0, hi0, hz0, hz1, hz2⟩ := info_parts u8_info
  have hm := hl.max
  have hle := hl.le
  have hnil : ∀ wx, (binOp .eql 35 (.slice (some ad) n c) (.slice none 0 0)).run Try.prog wx = .ok (.bool false) wx := fun wx => Lib.run_eql_slice_nil (P := Try.prog) wx 35 5 (some ad) n c 0 0 Try.underlying35
  go_enter Try.func38, Try.ntmps38
  go_wp2_with (
    at_builtin
    refine wpList_append_rd _ rfl (.tmp 5) (.tmp 6) 35 rfl w.heap.size 5 i0 _ 1 1 Try.underlying35 hi0 hz0 hz1 hz2 rfl (by omega) (.slice (some ⟨w.heap.size, 0, none⟩) 0 0) 0 [] rfl
      (World.ownsRow_lit w #[] 0 (Nat.le_refl _) (by unfold maxLen; omega) rfl) (some ad) n c (bcells l) rfl (hl.rd.ext (Ext.alloc _ _)) (bcells_one l) (by omega) (by unfold maxLen; omega) (by simp) ?_
    intro v1 w1 hown hg hat)
  go_ret
  refine ⟨v1, rfl, ?_, ?_⟩
  · rw [hl.len]; simpa using hown
  · exact (Ext.alloc w _).ofGrown hg (by simp [Value.ownBlock])
theorem clone_any (w : World) (A : Option Addr) (n c : Nat) (l : List UInt8) (hl : Bs w A n c l) (hn : n ≤ 140737488355328) :
    Calls Try.prog 38 #[.slice A n c] w fun e w' => ∃ v, e = .returned v ∧ NewBytes w w' v l := by
  rcases A with _ | ad
  · refine (clone_none w n c).mono ?_
    rintro e w' ⟨rfl, rfl⟩
    have h0 : l = [] := by
      rcases Nat.eq_zero_or_pos n with h0 | h0
      · exact List.eq_nil_of_length_eq_zero (by rw [hl.len]; exact h0)
      · obtain ⟨b, off, h, _⟩ := hl.rd.2 h0
        cases h
    subst h0
    exact ⟨_, rfl, World.ownsRow_nil _ _ _ _, Ext.refl w⟩
  · exact clone_some w ad n c l hl hn

theorem sameBytes_any (w : World) (A A' : Option Addr) (n c m c' : Nat) (x y : List UInt8) (hx : Bs w A n c x) (hy : Bs w A' m c' y) :
    Calls Try.prog 25 #[.slice A n c, .slice A' m c'] w fun e w' => e = .returned (.bool (x == y)) ∧ w = w' := by
  have h1 := run_text (P := Try.prog) w 35 9 5 Try.underlying35 Try.underlying5 Try.underlying9 A n c x hx
  have h2 := run_text (P := Try.prog) w 35 9 5 Try.underlying35 Try.underlying5 Try.underlying9 A' m c' y hy
  go_enter Try.func25, Try.ntmps25
  go_wp2
  go_ret
  exact ⟨ret_bool (text_eq x y), rfl⟩

theorem bcells_set (l : List UInt8) (k : Nat) (x : UInt8) : bcells (l.set k x) = (bcells l).set k (.int .u8 (x.toNat : Int)) := by simp [bcells, List.map_set]
theorem bcells_get {l : List UInt8} {k : Nat} (h : k < l.length) : (bcells l)[k]? = some (.int .u8 ((Gf.get l k).toNat : Int)) := by simp [bcells, Gf.get, h]

set_option maxHeartbeats 2000000 in
theorem lay_any (b : Nat) (w : World) (A A' : Option Addr) (n c m c' : Nat) (out x : List UInt8) (f : UInt8) (hf : FieldAt w b) (ho : Bs w A n c out) (hx : Bs w A' m c' x) (hn : n ≤ 140737488355328) :
    Calls Try.prog 77 #[.pointer (some ⟨b, 0, none⟩), .slice A n c, .int .u8 (f.toNat : Int), .slice A' m c'] w fun e w' => ∃ v, e = .returned v ∧ NewBytes w w' v (Gf.lay out f x) := by
  have h0 := hf.made
  have hm1 := ho.max
  have hm2 := ho.le
  have hm3 := hx.max
  have hm4 := hx.le
  have L1 := Lib.hid ho.len
  have L2 := Lib.hid hx.len
  go_enter Try.func77, Try.ntmps77
  go_wp2_with (first
    | (go_at_call 50; refine (is_yes _ _ h0).mono ?_; rintro e w' ⟨rfl, rfl⟩)
    | (go_at_call 38; refine (clone_any _ A n c out ho hn).mono ?_; rintro e w1 ⟨v, rfl, hv⟩; have hown := hv.own; rw [L1.out] at hown; obtain ⟨A1, c1, rfl, q1, q2⟩ := ownsRow_slice hown))
  all_goals
    go_loopw [20] (fun i wr => ∃ k : Nat, k ≤ n ∧ k ≤ m ∧ i = .int .i64 k ∧ wr.ownsRow w.heap.size 5 1 (.slice A1 n c1) n (bcells (Gf.layTo out f x k)) ∧ Ext w wr) (fun i _ => n - (intOf i).toNat)
    case atStart => exact ⟨0, by omega, by omega, rfl, by rw [Gf.layTo_zero]; exact hown, hv.ext⟩
    case round =>
      obtain ⟨k, hk1, hk2, rfl, hw, hd⟩ := hrel
      clear hown hv
      by_cases hlt : k < n ∧ k < m
      · obtain ⟨hlt1, hlt2⟩ := hlt
        obtain ⟨g, rfl, hg1, hg2⟩ := own_addr hw (by omega)
        obtain ⟨b2, o2, rfl, hc2⟩ := (hx.ext hd).rd.byte hlt2
        have hll : k < (Gf.layTo out f x k).length := by rw [Gf.layTo_length, L1.out]; exact hlt1
        have hc1 : wr.cell? ⟨g, k, none⟩ = some (.int .u8 ((Gf.get out k).toNat : Int)) := by
          rw [hw.cellAt k (by omega), bcells_get hll, Gf.layTo_get _ _ _ (by rw [L1.out]; exact hlt1) (Nat.le_refl _)]
        have hz1 : wr.frozen? ⟨g, k, none⟩ = false := hw.frozenAt k
        have i1 : (k : Int) < n := by omega
        have i2 : (k : Int) < m := by omega
        have hf1 := hf.ext hd
        clear h0
        go_wp2
        go_region_with ((go_at_call 91; refine (mul_any b _ f (Gf.get x k) (hf1.ext (Ext.drewN _ 1))).mono ?_; rintro e w' ⟨rfl, q, rfl⟩))
        all_goals
          go_wp2
          refine ⟨⟨k + 1, by omega, by omega, by go_num, ?_, ?_⟩, by simp [intOf]; omega⟩
          · rw [xor_u8, Gf.layTo_step _ _ _ (by rw [L1.out]; exact hlt1) (by rw [L2.out]; exact hlt2), bcells_set]
            exact ((ownsRow_ext hw (Ext.drewN _ _)).stored k _).1
          · exact Below.setCell (hd.thenDrewN _) hg1 _
      · go_wp2
        go_ret
        refine ⟨_, rfl, ?_, hd⟩
        rw [Gf.lay_length, L1.out, ← Gf.layTo_full (k := k) out f x (by rw [L1.out, L2.out]; omega)]
        exact hw
end Go.Proofs.Ytfpglkacjecoeaa
namespace Go.Proofs.Ytfpglkacjecoeaa
open Go.RowKit

/-- Is there such a row? -/
def anyRow (n : Nat) (m : Gm.L) (q : List UInt8 → Bool) : Bool := decide (∃ k, k < n ∧ q (Gm.row m k) = true)
/-- What is asked of a predicate: at every row, in every world that has grown, it answers as 'q' does. -/
def AsksRow (w : World) (g : Nat) (lb : Array Value) (q : List UInt8 → Bool) : Prop :=
  ∀ (W : World) (A : Option Addr) (n c : Nat) (r : List UInt8), Ext w W → Bs W A n c r → Calls Try.prog g (#[.slice A n c] ++ lb) W fun e w' => e = .returned (.bool (q r)) ∧ Ext W w'

set_option maxRecDepth 100000 in
set_option maxHeartbeats 1000000 in
theorem indexRow_any (w : World) (A : Option Addr) (n c : Nat) (m : Gm.L) (hm : Mx w A n c m) (g : Nat) (lb : Array Value) (q : List UInt8 → Bool)
    (eg : ∀ args w, (callFunc g args).run Try.prog w = .ok (.enter g args) w) (hq : AsksRow w g lb q) :
    Calls Try.prog 93 #[.slice A n c, .func (.func g) #[] lb] w fun r w' =>
      ∃ i : Int, r = .returned (.int .i64 i) ∧ decide (0 ≤ i) = anyRow n m q ∧ Ext w w' := by
  have hmax := hm.max
  have hle := hm.le
  have HQ := Lib.hid hq
  have HM := Lib.hid hm
  clear hq hm
  go_enter Try.func93, Try.ntmps93
  go_wp2
  go_loopw [5, 8] (fun _ s8 wr => ∃ k : Nat, k ≤ n ∧ s8 = .int .i64 k ∧ Ext w wr ∧ RowKit.Hid (∀ j, j < k → q (Gm.row m j) = false)) (fun _ s8 _ => n - (intOf s8).toNat)
  case atStart => exact ⟨0, Nat.zero_le _, rfl, Ext.refl w, Lib.hid fun j hj => absurd hj (Nat.not_lt_zero _)⟩
  case round =>
    obtain ⟨k, hk, rfl, hx, H⟩ := hrel
    by_cases hlt : k < n
    · have i1 : (k : Int) < n := by omega
      obtain ⟨b, off, A', n', c', rfl, q1, hb⟩ := (HM.out.ext hx).at_ hlt
      have hcall := HQ.out wr A' n' c' (Gm.row m k) hx hb
      generalize hy : q (Gm.row m k) = y at hcall
      have Y := Lib.hid hy
      clear hy hb
      cases y with
      | true =>
        go_wp2_with (fail)
        refine hcall.mono ?_
        rintro r w' ⟨rfl, hx'⟩
        go_wp2_with (fail)
        go_ret
        refine ⟨_, rfl, ?_, hx.trans hx'⟩
        unfold anyRow
        rw [decide_eq_true (by omega), eq_comm, decide_eq_true_eq]
        exact ⟨k, hlt, Y.out⟩
      | false =>
        go_wp2_with (fail)
        refine hcall.mono ?_
        rintro r w' ⟨rfl, hx'⟩
        go_wp2_with (fail)
        refine ⟨⟨k + 1, by omega, by go_num, hx.trans hx', Lib.hid fun j hj => ?_⟩, by simp [intOf]; omega⟩
        by_cases e : j = k
        · subst e; exact Y.out
        · exact H.out j (by omega)
    · have i1 : ¬ (k : Int) < n := by omega
      obtain rfl : k = n := by omega
      go_wp2
      go_ret
      refine ⟨_, rfl, show decide ((0 : Int) ≤ -1) = anyRow k m q from ?_, hx⟩
      unfold anyRow
      rw [decide_eq_false (by omega), eq_comm, decide_eq_false_iff_not]
      rintro ⟨j, hj, e⟩
      rw [H.out j hj] at e
      cases e
theorem containsRow_any (w : World) (A : Option Addr) (n c : Nat) (m : Gm.L) (hm : Mx w A n c m) (g : Nat) (lb : Array Value) (q : List UInt8 → Bool)
    (eg : ∀ args w, (callFunc g args).run Try.prog w = .ok (.enter g args) w) (hq : AsksRow w g lb q) :
    Calls Try.prog 85 #[.slice A n c, .func (.func g) #[] lb] w fun r w' =>
      r = .returned (.bool (anyRow n m q)) ∧ Ext w w' := by
  go_enter Try.func85, Try.ntmps85
  go_wp2_with (fail)
  refine (indexRow_any w A n c m hm g lb q eg hq).mono ?_
  rintro r w' ⟨i, rfl, e, hx⟩
  have E := Lib.hid e
  clear e
  go_wp2_with (fail)
  go_ret
  exact ⟨ret_bool E.out, hx⟩

theorem none_any (b : Nat) (w : World) (hf : FieldAt w b) :
    Calls Try.prog 52 #[.pointer (some ⟨b, 0, none⟩)] w fun e w' => e = .returned (.bool false) ∧ w = w' := by
  have hA : Calls Try.prog 39 #[.pointer (some ⟨b, 0, none⟩), .int .u8 0, .int .u8 1] w fun e w' => e = .returned (.int .u8 1) ∧ w = w' := add_any b w 0 1 hf
  have HA := Lib.hid hA
  clear hA
  go_enter Try.func52, Try.ntmps52
  go_wp2_with (fail)
  refine HA.out.mono ?_
  rintro e w' ⟨rfl, rfl⟩
  go_wp2_with (fail)
  go_ret
  exact ⟨rfl, rfl⟩

theorem right1_asks (w : World) (g k : Nat) (hc : w.cell? ⟨g, 0, none⟩ = some (.int .i64 (k : Int))) : AsksRow w 86 #[.pointer (some ⟨g, 0, none⟩)] (fun r => r.length != k) := by
  intro W A n c r hx hb
  have c0 := hx.cell hc
  have h1 := hb.len
  show Calls Try.prog 86 #[.slice A n c, .pointer (some ⟨g, 0, none⟩)] W _
  have H1 := Lib.hid h1
  clear h1 hb
  go_enter Try.func86, Try.ntmps86
  go_wp2_with (fail)
  go_ret
  refine ⟨ret_bool ?_, Ext.refl _⟩
  rw [H1.out, Bool.eq_iff_iff, bne_iff_ne, bne_iff_ne]
  omega
theorem right_iff {m : Gm.L} {n : Nat} (hl : m.length = n) (h1 : 1 ≤ n) (h2 : n ≤ 255) : Gm.right m ↔ (1 ≤ (Gm.row m 0).length ∧ (Gm.row m 0).length ≤ 255) ∧ ¬ ∃ k, k < n ∧ ((Gm.row m k).length != (Gm.row m 0).length) = true := by
  unfold Gm.right Gm.cols
  rw [hl]
  constructor
  · rintro ⟨_, _, h3, h4, h5⟩
    refine ⟨⟨h3, h4⟩, ?_⟩
    rintro ⟨k, hk, e⟩
    rw [h5 k hk] at e
    simp at e
  · rintro ⟨⟨h3, h4⟩, h5⟩
    refine ⟨h1, h2, h3, h4, fun i hi => ?_⟩
    rcases Classical.em ((Gm.row m i).length = (Gm.row m 0).length) with h | h
    · exact h
    · exact absurd ⟨i, hi, by rw [bne_iff_ne]; exact h⟩ h5
set_option maxRecDepth 100000 in
set_option maxHeartbeats 1000000 in
theorem matRight_any (w : World) (A : Option Addr) (n c : Nat) (m : Gm.L) (hm : Mx w A n c m) :
    Calls Try.prog 73 #[.slice A n c] w fun e w' => e = .returned (.bool (decide (Gm.right m))) ∧ Ext w w' := by
  have hmax := hm.max
  have hle := hm.le
  have L := Lib.hid hm.len
  by_cases h1 : 1 ≤ n
  · have g1 : ¬ (n : Int) < 1 := by omega
    by_cases h2 : n ≤ 255
    · have g2 : ¬ (255 : Int) < (n : Int) := by omega
      obtain ⟨b, off, A0, n0, c0, rfl, hc0, hb0⟩ := hm.at_ (show 0 < n by omega)
      rw [Nat.add_zero] at hc0
      have hx : Ext w (w.alloc (.cells #[.int .i64 (n0 : Int)] 3)) := Ext.alloc _ _
      have hcn : (w.alloc (.cells #[.int .i64 (n0 : Int)] 3)).cell? ⟨w.heap.size, 0, none⟩ = some (.int .i64 (n0 : Int)) := by rw [World.cell?_alloc_new]; rfl
      have hC := containsRow_any _ (some ⟨b, off, none⟩) n c m (hm.ext hx) 86 #[.pointer (some ⟨w.heap.size, 0, none⟩)] _ (enters_of Try.func86 (by kernel_rfl) rfl) (right1_asks _ _ n0 hcn)
      have hri := right_iff L.out h1 h2
      rw [hb0.len] at hri
      have HC := Lib.hid hC
      have HX := Lib.hid hx
      have HRI := Lib.hid hri
      have hm0 := hb0.max
      have hl0 := hb0.le
      clear hC hx hcn hri hb0 hm
      have q0 : (0 : Int) < (n : Int) := by omega
      by_cases h3 : 1 ≤ n0
      · have g3 : 1 ≤ (n0 : Int) := by omega
        by_cases h4 : n0 ≤ 255
        · have g4 : (n0 : Int) ≤ 255 := by omega
          go_enter Try.func73, Try.ntmps73
          go_wp2_with (fail)
          refine HC.out.mono ?_
          rintro r w' ⟨rfl, hx'⟩
          go_wp2_with (fail)
          go_ret
          refine ⟨ret_bool ?_, HX.out.trans hx'⟩
          unfold anyRow
          rw [Bool.eq_iff_iff, decide_eq_true_eq, HRI.out, Bool.not_eq_true', decide_eq_false_iff_not]
          exact ⟨fun h => ⟨⟨h3, h4⟩, h⟩, fun h => h.2⟩
        · have g4 : ¬ (n0 : Int) ≤ 255 := by omega
          go_enter Try.func73, Try.ntmps73
          go_wp2_with (fail)
          go_ret
          refine ⟨ret_bool ?_, HX.out⟩
          rw [eq_comm, decide_eq_false_iff_not, HRI.out]
          exact fun h => h4 h.1.2
      · have g3 : ¬ 1 ≤ (n0 : Int) := by omega
        go_enter Try.func73, Try.ntmps73
        go_wp2_with (fail)
        go_ret
        refine ⟨ret_bool ?_, HX.out⟩
        rw [eq_comm, decide_eq_false_iff_not, HRI.out]
        exact fun h => h3 h.1.1
    · have g2 : (255 : Int) < (n : Int) := by omega
      clear hm
      go_enter Try.func73, Try.ntmps73
      go_wp2_with (fail)
      go_ret
      refine ⟨ret_bool ?_, Ext.refl _⟩
      rw [eq_comm, decide_eq_false_iff_not]
      exact fun h => h2 (by have := h.2.1; rwa [L.out] at this)
  · have g1 : (n : Int) < 1 := by omega
    clear hm
    go_enter Try.func73, Try.ntmps73
    go_wp2_with (fail)
    go_ret
    refine ⟨ret_bool ?_, Ext.refl _⟩
    rw [eq_comm, decide_eq_false_iff_not]
    exact fun h => h1 (by have := h.1; rwa [L.out] at this)
end Go.Proofs.Ytfpglkacjecoeaa
