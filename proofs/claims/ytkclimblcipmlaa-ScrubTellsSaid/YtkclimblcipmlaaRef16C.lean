/- The contract of the document's with (chapter 16). -/
import Derived.Test.YtkclimblcipmlaaRef16B
import Derived.Test.YtkclimblcipmlaaScAwake
namespace Scrubs
open Il
theorem with_srt {l : List Int} {x : Int} {k : Nat} (hp : l.Pairwise (· < ·)) (hk : k ≤ l.length) (h1 : ∀ j, j < k → get l j < x) (h2 : k < l.length → x < get l k) : srt (l ++ [x]) = l.take k ++ [x] ++ l.drop k := by
  have hlow : ∀ y ∈ l.take k, y < x := fun y hy => by
    obtain ⟨j, hj, e⟩ := mem_get hy
    rw [List.length_take] at hj
    rw [get_take (by omega)] at e
    rw [← e]
    exact h1 j (by omega)
  have hhigh : ∀ y ∈ l.drop k, x < y := fun y hy => by
    obtain ⟨j, hj, e⟩ := List.mem_iff_getElem.1 hy
    rw [List.length_drop] at hj
    rw [List.getElem_drop] at e
    have hk2 : k < l.length := by omega
    have h3 := h2 hk2
    rw [get_of_lt hk2] at h3
    rw [← e]
    rcases Nat.eq_zero_or_pos j with h0 | h0
    · subst h0; exact h3
    · have := (List.pairwise_iff_getElem.1 hp) k (k + j) hk2 (by omega) (by omega)
      omega
  have hp2 : (l.take k ++ l.drop k).Pairwise (· < ·) := by rw [List.take_append_drop]; exact hp
  obtain ⟨p1, p2, p3⟩ := List.pairwise_append.1 hp2
  refine srt_eq ?_ ?_
  · have : (l ++ [x]).Perm (l.take k ++ (l.drop k ++ [x])) := by rw [← List.append_assoc, List.take_append_drop]
    refine this.trans ?_
    rw [List.append_assoc]
    exact List.Perm.append_left _ List.perm_append_comm
  · have : (l.take k ++ [x] ++ l.drop k).Pairwise (· < ·) := by
      rw [List.append_assoc]
      refine List.pairwise_append.2 ⟨p1, List.pairwise_append.2 ⟨List.pairwise_singleton _ _, p2, fun a ha b hb => ?_⟩, fun a ha b hb => ?_⟩
      · simp at ha; rw [ha]; exact hhigh b hb
      · rcases List.mem_append.1 hb with hb | hb
        · simp at hb; rw [hb]; exact hlow a ha
        · exact p3 a ha b hb
    exact this.imp (fun h => by omega)
end Scrubs
namespace Go.Proofs.Ytkclimblcipmlaa
open Go.RowKit

set_option maxHeartbeats 2000000 in
theorem with_any (w : World) (A : Option Addr) (n c : Nat) (l : List Int) (x : Int) (hl : Is w A n c l) (hp : l.Pairwise (· < ·)) (hx : x ∉ l) (hn : n ≤ 100000) :
    Calls Try.prog 39 #[.slice A n c, .int .i64 x] w fun e w' => ∃ v, e = .returned v ∧ NewInts w w' v (Il.srt (l ++ [x])) := by
  obtain ⟨i0, hi0, hz0, hz1, hz2⟩ := info_parts int_info
  have hm := hl.max
  have hle := hl.le
  have LL := Lib.hid hl.len
  have HL := Lib.hid hl
  have HX := Lib.hid hx
  have HP := Lib.hid hp
  have HO0 := Lib.hid (World.ownsRow_nil w w.heap.size 3 1)
  clear hl hx hp
  go_enter Try.func39, Try.ntmps39
  go_upto_block 0 with (fail)
  go_cut [5] (fun s5 wx => ∃ wv : World, wv = wx ∧ w = wx ∧ ∃ k : Nat, k ≤ n ∧ s5 = .int .i64 (k : Int) ∧ RowKit.Hid ((∀ j, j < k → Il.get l j < x) ∧ (k < n → x < Il.get l k)))
  case first =>
    go_wp2_with (fail)
    go_loopw [5] (fun s wr => ∃ k : Nat, k ≤ n ∧ s = .int .i64 k ∧ w = wr ∧ RowKit.Hid (∀ j, j < k → Il.get l j < x)) (fun s _ => n - (intOf s).toNat)
    case atStart => exact ⟨0, by omega, rfl, rfl, Lib.hid fun j hj => absurd hj (Nat.not_lt_zero _)⟩
    case round =>
      obtain ⟨k, hk, rfl, rfl, H⟩ := hrel
      by_cases hlt : k < n
      · have i1 : (k : Int) < n := by omega
        obtain ⟨b, o, rfl, hc⟩ := HL.out.rd.intAt hlt
        obtain ⟨y, hy⟩ : ∃ y, Il.get l k = y := ⟨_, rfl⟩
        have HY := Lib.hid hy
        have hyx : y ≠ x := fun e => HX.out (by rw [← e, ← hy]; exact Il.get_mem (by rw [LL.out]; exact hlt))
        rw [hy] at hc
        clear hy
        by_cases he : y < x
        · have HE := Lib.hid he
          clear hyx
          go_wp2_with (fail)
          refine ⟨⟨k + 1, by omega, by go_num, by trivial, Lib.hid fun j hj => ?_⟩, by simp [intOf]; omega⟩
          by_cases e : j = k
          · rw [e, HY.out]; exact HE.out
          · exact H.out j (by omega)
        · have HE := Lib.hid (show x < y by omega)
          clear hyx
          go_wp2_with (fail)
          go_meet
          exact ⟨_, rfl, rfl, k, hk, rfl, Lib.hid ⟨H.out, fun _ => by rw [HY.out]; exact HE.out⟩⟩
      · have i1 : ¬ (k : Int) < n := by omega
        go_wp2_with (fail)
        go_meet
        exact ⟨_, rfl, rfl, k, hk, rfl, Lib.hid ⟨H.out, fun h => absurd h hlt⟩⟩
  case rest =>
    obtain ⟨_, rfl, rfl, k, hk, rfl, HK⟩ := hcut
    have hws := Scrubs.with_srt HP.out (by rw [LL.out]; exact hk) HK.out.1 (fun h => HK.out.2 (by rw [← LL.out]; exact h))
    have HWS := Lib.hid hws
    have g1 : (k : Int) ≤ n := by omega
    have g2 : (k : Int) ≤ c := by omega
    have g3 : (0 : Int) ≤ k := by omega
    have T1 := Lib.hid (HL.out.take hk).rd
    clear hws
    rcases Nat.eq_zero_or_pos n with h0 | h0
    · subst h0
      obtain rfl : k = 0 := by omega
      have T2 := Lib.hid (rd_none w A (l := l.drop 0) (n := 0) rfl (by rw [List.drop_zero]; exact List.eq_nil_of_length_eq_zero LL.out))
      go_wp2_with (first
        | (at_builtin; refine wpList_append_rd _ rfl (.tmp 21) (.tmp 24) 22 rfl w.heap.size 3 i0 _ 1 8 Try.underlying22 hi0 hz0 hz1 hz2 rfl (by omega) (.slice none 0 0) 0 [] rfl HO0.out A 0 c (icells (l.take 0)) rfl T1.out (icells_one _) (by omega) (by unfold maxLen; omega) (by first | omega | (simp; done) | (simp; omega)) ?_; intro v5 w5 hown hgr hat; have HOW := Lib.hid hown; have X5 := Lib.hid ((Ext.refl w).ofGrown hgr (fun k hk => by cases hk)); have hsz5 := hgr.size; have HO5 := Lib.hid (ownsRow_ext hown (Ext.alloc w5 (.cells #[.int .i64 x] 3))); clear hown hgr)
        | (at_builtin; refine wpList_append_rd _ rfl (.tmp 26) (.tmp 28) 22 rfl w.heap.size 3 i0 _ 1 8 Try.underlying22 hi0 hz0 hz1 hz2 rfl (by omega) v5 (0 + 0) ([] ++ icells (l.take 0)) rfl HO5.out (some ⟨w5.heap.size, 0, none⟩) 1 1 [.int .i64 x] rfl (Rd.lit w5 #[_] _) (by simp [Value.oneCell']) (by omega) (by unfold maxLen; omega) (by first | omega | (simp; done) | (simp; omega)) ?_; intro v6 w6 hown hgr hat; have HOW6 := Lib.hid hown; have X6 := Lib.hid ((X5.out.thenAlloc (.cells #[.int .i64 x] 3)).ofGrown hgr (fun k hk => (HOW.out.lt k hk).1)); have hsz6 := hgr.size; clear hown hgr)
        | (at_builtin; refine wpList_append_rd _ rfl (.tmp 30) (.tmp 33) 22 rfl w.heap.size 3 i0 _ 1 8 Try.underlying22 hi0 hz0 hz1 hz2 rfl (by omega) v6 (0 + 0 + 1) ([] ++ icells (l.take 0) ++ [.int .i64 x]) rfl HOW6.out A 0 c (icells (l.drop 0)) rfl (T2.out.ext X6.out) (icells_one _) (by omega) (by unfold maxLen; omega) (by have := X6.out.size; omega) ?_; intro v7 w7 hown hgr hat; have HOW7 := Lib.hid hown; have X7 := Lib.hid (X6.out.ofGrown hgr (fun k hk => (HOW6.out.lt k hk).1)); clear hown hgr))
      go_ret
      refine ⟨v7, rfl, ?_, X7.out⟩
      have hll2 : (l.take 0 ++ [x] ++ l.drop 0).length = 0 + 0 + 1 + 0 := by simp [LL.out] <;> omega
      rw [HWS.out, hll2, icells_append, icells_append]
      have := HOW7.out
      rw [List.nil_append] at this
      exact this
    · obtain ⟨b, o, rfl, _⟩ := HL.out.rd.intAt h0
      by_cases hck : c = k
      · have hnk : n = k := by omega
        subst hck
        obtain rfl : n = c := by omega
        have T2 := Lib.hid (rd_none w (some ⟨b, o, none⟩) (l := l.drop n) (n := 0) rfl (List.drop_eq_nil_of_le (by rw [LL.out]; exact Nat.le_refl _)))
        clear hnk g1 g2
        go_wp2_with (first
          | (at_builtin; refine wpList_append_rd _ rfl (.tmp 21) (.tmp 24) 22 rfl w.heap.size 3 i0 _ 1 8 Try.underlying22 hi0 hz0 hz1 hz2 rfl (by omega) (.slice none 0 0) 0 [] rfl HO0.out (some ⟨b, o, none⟩) n n (icells (l.take n)) rfl T1.out (icells_one _) (by omega) (by unfold maxLen; omega) (by first | omega | (simp; done) | (simp; omega)) ?_; intro v5 w5 hown hgr hat; have HOW := Lib.hid hown; have X5 := Lib.hid ((Ext.refl w).ofGrown hgr (fun k hk => by cases hk)); have hsz5 := hgr.size; have HO5 := Lib.hid (ownsRow_ext hown (Ext.alloc w5 (.cells #[.int .i64 x] 3))); clear hown hgr)
          | (at_builtin; refine wpList_append_rd _ rfl (.tmp 26) (.tmp 28) 22 rfl w.heap.size 3 i0 _ 1 8 Try.underlying22 hi0 hz0 hz1 hz2 rfl (by omega) v5 (0 + n) ([] ++ icells (l.take n)) rfl HO5.out (some ⟨w5.heap.size, 0, none⟩) 1 1 [.int .i64 x] rfl (Rd.lit w5 #[_] _) (by simp [Value.oneCell']) (by omega) (by unfold maxLen; omega) (by first | omega | (simp; done) | (simp; omega)) ?_; intro v6 w6 hown hgr hat; have HOW6 := Lib.hid hown; have X6 := Lib.hid ((X5.out.thenAlloc (.cells #[.int .i64 x] 3)).ofGrown hgr (fun k hk => (HOW.out.lt k hk).1)); have hsz6 := hgr.size; clear hown hgr)
          | (at_builtin; refine wpList_append_rd _ rfl (.tmp 30) (.tmp 33) 22 rfl w.heap.size 3 i0 _ 1 8 Try.underlying22 hi0 hz0 hz1 hz2 rfl (by omega) v6 (0 + n + 1) ([] ++ icells (l.take n) ++ [.int .i64 x]) rfl HOW6.out (some ⟨b, o, none⟩) 0 0 (icells (l.drop n)) rfl (T2.out.ext X6.out) (icells_one _) (by omega) (by unfold maxLen; omega) (by have := X6.out.size; omega) ?_; intro v7 w7 hown hgr hat; have HOW7 := Lib.hid hown; have X7 := Lib.hid (X6.out.ofGrown hgr (fun k hk => (HOW6.out.lt k hk).1)); clear hown hgr))
        go_ret
        refine ⟨v7, rfl, ?_, X7.out⟩
        have hll2 : (l.take n ++ [x] ++ l.drop n).length = 0 + n + 1 + 0 := by simp [LL.out] <;> omega
        rw [HWS.out, hll2, icells_append, icells_append]
        have := HOW7.out
        rw [List.nil_append] at this
        exact this
      · have T2 := Lib.hid (HL.out.drop hk)
        go_wp2_with (first
          | (at_builtin; refine wpList_append_rd _ rfl (.tmp 21) (.tmp 24) 22 rfl w.heap.size 3 i0 _ 1 8 Try.underlying22 hi0 hz0 hz1 hz2 rfl (by omega) (.slice none 0 0) 0 [] rfl HO0.out (some ⟨b, o, none⟩) k c (icells (l.take k)) rfl T1.out (icells_one _) (by omega) (by unfold maxLen; omega) (by first | omega | (simp; done) | (simp; omega)) ?_; intro v5 w5 hown hgr hat; have HOW := Lib.hid hown; have X5 := Lib.hid ((Ext.refl w).ofGrown hgr (fun k hk => by cases hk)); have hsz5 := hgr.size; have HO5 := Lib.hid (ownsRow_ext hown (Ext.alloc w5 (.cells #[.int .i64 x] 3))); clear hown hgr)
          | (at_builtin; refine wpList_append_rd _ rfl (.tmp 26) (.tmp 28) 22 rfl w.heap.size 3 i0 _ 1 8 Try.underlying22 hi0 hz0 hz1 hz2 rfl (by omega) v5 (0 + k) ([] ++ icells (l.take k)) rfl HO5.out (some ⟨w5.heap.size, 0, none⟩) 1 1 [.int .i64 x] rfl (Rd.lit w5 #[_] _) (by simp [Value.oneCell']) (by omega) (by unfold maxLen; omega) (by first | omega | (simp; done) | (simp; omega)) ?_; intro v6 w6 hown hgr hat; have HOW6 := Lib.hid hown; have X6 := Lib.hid ((X5.out.thenAlloc (.cells #[.int .i64 x] 3)).ofGrown hgr (fun k hk => (HOW.out.lt k hk).1)); have hsz6 := hgr.size; clear hown hgr)
          | (at_builtin; refine wpList_append_rd _ rfl (.tmp 30) (.tmp 33) 22 rfl w.heap.size 3 i0 _ 1 8 Try.underlying22 hi0 hz0 hz1 hz2 rfl (by omega) v6 (0 + k + 1) ([] ++ icells (l.take k) ++ [.int .i64 x]) rfl HOW6.out (some ⟨b, o + k, none⟩) (n - k) (c - k) (icells (l.drop k)) rfl (T2.out.ext X6.out) (icells_one _) (by omega) (by unfold maxLen; omega) (by have := X6.out.size; omega) ?_; intro v7 w7 hown hgr hat; have HOW7 := Lib.hid hown; have X7 := Lib.hid (X6.out.ofGrown hgr (fun k hk => (HOW6.out.lt k hk).1)); clear hown hgr))
        go_ret
        refine ⟨v7, rfl, ?_, X7.out⟩
        have hll2 : (l.take k ++ [x] ++ l.drop k).length = 0 + k + 1 + (n - k) := by simp [LL.out] <;> omega
        rw [HWS.out, hll2, icells_append, icells_append]
        have := HOW7.out
        rw [List.nil_append] at this
        exact this
end Go.Proofs.Ytkclimblcipmlaa
