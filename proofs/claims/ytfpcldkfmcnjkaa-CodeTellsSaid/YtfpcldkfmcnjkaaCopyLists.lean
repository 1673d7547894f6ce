/- The contract of CopyLists. -/
import Derived.Test.YtfpcldkfmcnjkaaCt4
namespace Go.Proofs.Ytfpcldkfmcnjkaa
open Go.RowKit

set_option maxRecDepth 100000 in
set_option maxHeartbeats 2000000 in
theorem copyLists_any (w : World) (A : Option Addr) (n c : Nat) (m : Gm.L) (hm : Mx w A n c m) (hn : n ≤ 1000) (hw : ∀ i, i < n → (Gm.row m i).length ≤ 1000) :
    Calls Try.prog 18 #[.slice A n c] w (GivesQ m w) := by
  obtain ⟨i0, hi0, hz0, hz1, hz2⟩ := info_parts bytes_info
  have hmx := hm.max
  have hml := hm.le
  have LM := Lib.hid hm.len
  obtain ⟨N2, hN2⟩ : ∃ N2, w.heap.size = N2 := ⟨_, rfl⟩
  have HN2 := Lib.hid hN2
  have HW := Lib.hid hw
  have hsz0 : N2 ≤ w.heap.size := by omega
  clear hN2 hw
  go_enter Try.func18, Try.ntmps18
  go_wp2_with (fail)
  go_loopw [3, 4] (fun v s wr => ∃ (t : Nat) (cs : List Value), t ≤ n ∧ s = .int .i64 t ∧ Mq wr N2 (Hot N2 v) v t cs (m.take t) ∧ Ext w wr ∧ N2 ≤ wr.heap.size) (fun _ s _ => n - (intOf s).toNat)
  case atStart => exact ⟨0, [], by omega, rfl, by rw [List.take_zero]; exact Mq.nil _ _ _, Ext.refl w, hsz0⟩
  case round =>
    obtain ⟨t, cs, ht, rfl, hQ, hx, hsz⟩ := hrel
    clear hsz0
    by_cases hlt : t < n
    · have i1 : (t : Int) < n := by omega
      obtain ⟨bm, om, Ai, ni, ci, rfl, hce, hbi⟩ := (hm.ext hx).at_ hlt
      have hni := hbi.len
      have hsn : m.take (t + 1) = m.take t ++ [Gm.row m t] := by
        rw [List.take_add_one, List.getElem?_eq_getElem (by rw [LM.out]; exact hlt), Gm.row_of_lt (by rw [LM.out]; exact hlt)]; rfl
      subst hni
      have hcp := copyBytes_any wr Ai _ ci _ hbi (by have := HW.out t hlt; omega)
      have hrl := HW.out t hlt
      generalize Gm.row m t = r at *
      have HSN := Lib.hid hsn
      have HQ := Lib.hid hQ
      have HCP := Lib.hid hcp
      clear hsn hQ hcp
      go_wp2_with (fail)
      refine HCP.out.mono ?_
      rintro e w4 ⟨v4, rfl, hv⟩
      obtain ⟨A4, c4, rfl, _⟩ := hv.bs
      have hs4 := hv.ext.size
      have ow4 := ownsRow_ext (ownsRow_ext HQ.out.own hv.ext) (Ext.alloc w4 (.cells #[.slice A4 r.length c4] 22))
      have HO4 := Lib.hid ow4
      have HV := Lib.hid hv
      clear ow4 hv
      go_wp2_with (at_builtin; refine wpList_append_rd _ rfl (.tmp 11) (.tmp 17) 28 rfl N2 22 i0 _ 1 24 Try.underlying28 hi0 hz0 hz1 hz2 rfl (by omega) u3 t cs rfl HO4.out (some ⟨w4.heap.size, 0, none⟩) 1 1 [.slice A4 r.length c4] rfl (Rd.lit _ #[.slice A4 r.length c4] _) (by simp [Value.oneCell']) (by omega) (by unfold maxLen; omega) (by simp; omega) ?_; intro v5 w5 hown hgr hat)
      have hsn2 := HQ.out.snoc HV.out.ext HV.out.own (Nat.le_refl _) hsz (Ext.alloc w4 (.cells #[.slice A4 r.length c4] 22)) hown hgr hat
      have hne : ∀ q, u3.ownBlock = some q → N2 ≤ q := own_row HQ.out.own
      refine ⟨⟨t + 1, cs ++ [.slice A4 r.length c4], by omega, by go_num, ?_, ?_, ?_⟩, by simp [intOf]; omega⟩
      · rw [HSN.out]; exact hsn2
      · exact ((hx.trans HV.out.ext).thenAlloc _).ofGrown hgr (fun q hq => by have := hne q hq; have := HN2.out; omega)
      · have := hgr.size; simp at this; omega
    · have i1 : ¬ (t : Int) < n := by omega
      obtain rfl : t = n := by omega
      rw [List.take_of_length_le (by rw [LM.out]; exact Nat.le_refl _)] at hQ
      go_wp2_with (fail)
      go_ret
      refine ⟨_, cs, rfl, ?_, hx⟩
      rw [LM.out, HN2.out]
      exact hQ
/-- No side is longer. -/
def small (m : Gm.L) (k : Nat) : Prop := m.length ≤ k ∧ ∀ i, i < m.length → (Gm.row m i).length ≤ k
instance (m : Gm.L) (k : Nat) : Decidable (small m k) := by unfold small; infer_instance
end Go.Proofs.Ytfpcldkfmcnjkaa
