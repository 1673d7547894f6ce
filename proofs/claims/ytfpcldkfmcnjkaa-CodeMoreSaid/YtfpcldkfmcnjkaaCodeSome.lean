/- The contract of the laws' some: the shards at some places. -/
import Derived.Test.YtfpcldkfmcnjkaaMatPick
namespace Go.Proofs.Ytfpcldkfmcnjkaa
open Go.RowKit

set_option maxRecDepth 100000 in
set_option maxHeartbeats 2000000 in
theorem some_law (w : World) (A : Option Addr) (n c : Nat) (m : Gm.L) (hm : Mx w A n c m) (B : Option Addr) (k d : Nat) (l : List Int) (hl : Is w B k d l) (hk : k ≤ 1000) (hr : ∀ i, i < k → 0 ≤ Il.get l i ∧ Il.get l i < n) :
    Calls Try.prog 19 #[.slice A n c, .slice B k d] w (GivesM (picked m l) w) := by
  obtain ⟨i0, hi0, hz0, hz1, hz2⟩ := info_parts bytes_info
  have q1 := hl.max
  have q2 := hl.le
  have q3 := hm.max
  have q4 := hm.le
  have LL := Lib.hid hl.len
  have HL := Lib.hid hl
  have HM := Lib.hid hm
  have HR := Lib.hid hr
  obtain ⟨N2, hN2⟩ : ∃ N2, w.heap.size = N2 := ⟨_, rfl⟩
  have HN2 := Lib.hid hN2
  have hsz0 : N2 ≤ w.heap.size := by omega
  clear hN2 hl hm hr
  go_enter Try.func19, Try.ntmps19
  go_wp2_with (fail)
  go_loopw [5, 7, 10] (fun v _ t wr => ∃ (i : Nat) (cs : List Value), i ≤ k ∧ t = .int .i64 (i : Int) ∧ wr.ownsRow N2 22 1 v i cs ∧ RowKit.Hid (Rows w cs (picked m (l.take i))) ∧ Ext w wr ∧ N2 ≤ wr.heap.size) (fun _ _ t _ => k - (intOf t).toNat)
  case atStart => exact ⟨0, [], by omega, rfl, World.ownsRow_nil _ _ _ _, Lib.hid (Rows.nil w), Ext.refl w, hsz0⟩
  case round =>
    obtain ⟨i, cs, hi, rfl, hown, HRW, hx, hsz⟩ := hrel
    clear hsz0
    by_cases hik : i < k
    · have r1 : (i : Int) < k := by omega
      obtain ⟨bl, ol, rfl, hcl⟩ := (HL.out.ext hx).rd.intAt hik
      obtain ⟨h1, h2⟩ := HR.out i hik
      have hps := picked_succ m (l := l) (k := i) (by rw [LL.out]; exact hik)
      obtain ⟨p, hp⟩ := Int.eq_ofNat_of_zero_le h1
      rw [hp] at hcl h2 hps
      rw [Int.toNat_natCast] at hps
      have hpn : p < n := by omega
      have r2 : (p : Int) < n := h2
      obtain ⟨bm, om, Ai, ni, ci, rfl, hce0, hbi⟩ := HM.out.at_ hpn
      have hce := hx.cell hce0
      have HPS := Lib.hid hps
      have HBI := Lib.hid hbi
      have HOW := Lib.hid (ownsRow_ext hown (Ext.alloc wr (.cells #[.slice Ai ni ci] 22)))
      have HB0 := Lib.hid (own_row hown)
      clear hce0 hbi hps hp h1 h2 hown
      go_wp2_with (at_builtin; refine wpList_append_rd _ rfl (.tmp 14) (.tmp 19) 28 rfl N2 22 i0 _ 1 24 Try.underlying28 hi0 hz0 hz1 hz2 rfl (by omega) u5 i cs rfl HOW.out (some ⟨wr.heap.size, 0, none⟩) 1 1 [.slice Ai ni ci] rfl (Rd.lit wr #[.slice Ai ni ci] _) (by simp [Value.oneCell']) (by omega) (by unfold maxLen; omega) (by simp; omega) ?_; intro v5 w5 hown hgr hat)
      have hne : ∀ q, u5.ownBlock = some q → N2 ≤ q := HB0.out
      refine ⟨⟨i + 1, cs ++ [.slice Ai ni ci], by omega, by go_num, hown, Lib.hid (by rw [HPS.out]; exact HRW.out.snoc HBI.out), ?_, ?_⟩, by simp [intOf]; omega⟩
      · exact (hx.thenAlloc _).ofGrown hgr (fun q hq => by have := hne q hq; have := HN2.out; omega)
      · have h8 := hgr.size; simp at h8; omega
    · have r1 : ¬ (i : Int) < k := by omega
      obtain rfl : k = i := by omega
      rw [List.take_of_length_le (by rw [LL.out]; exact Nat.le_refl _)] at HRW
      have hpl : (picked m l).length = k := by rw [picked_length, LL.out]
      have hres : ∃ A c, u5 = .slice A k c ∧ Mx wr A k c (picked m l) := by
        obtain ⟨A, c, e, h1, h2⟩ := ownsRow_slice hown
        subst e
        exact ⟨A, c, rfl, hpl, h1, h2, cs, Rd.of_own hown, HRW.out.ext hx⟩
      obtain ⟨A5, c5, rfl, hmx⟩ := hres
      have HMX := Lib.hid hmx
      have HPL := Lib.hid hpl
      clear hown hmx hpl
      go_wp2_with (fail)
      go_ret
      exact ⟨A5, c5, by rw [HPL.out]; rfl, by rw [HPL.out]; exact HMX.out, hx⟩
end Go.Proofs.Ytfpcldkfmcnjkaa
