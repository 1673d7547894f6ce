/- The contract of SameScrub at scrubbings that are the same; four scrubbings in their boxes. -/
import Derived.Test.YtkclimblcipmlaaRef16H
import Derived.Test.YtkclimblcipmlaaIntsSame
import Derived.Test.YtkclimblcipmlaaIntsCopy
import Derived.Test.YtkclimblcipmlaaScDoes
namespace Go.Proofs.Ytkclimblcipmlaa
open Go.RowKit

set_option maxRecDepth 100000 in
set_option maxHeartbeats 2000000 in
theorem sameScrub_yes (w : World) (s : Scrubs.S) (A : Option Addr) (n c : Nat) (B : Option Addr) (m d : Nat) (A' : Option Addr) (n' c' : Nat) (B' : Option Addr) (m' d' : Nat) (hu : Is w A n c s.urged) (hb : Is w B m d s.busy) (hu' : Is w A' n' c' s.urged) (hb' : Is w B' m' d' s.busy) :
    Calls Try.prog 18 #[sval s.cur s.queue (.slice A n c) (.slice B m d), sval s.cur s.queue (.slice A' n' c') (.slice B' m' d')] w fun e w' => e = .returned (.bool true) ∧ Ext w w' := by
  have x0 : Ext w ((w.alloc (.cells #[.int .i64 s.cur, .bool s.queue, .slice A n c, .slice B m d] 24)).alloc (.cells #[.int .i64 s.cur, .bool s.queue, .slice A' n' c', .slice B' m' d'] 24)) := (Ext.alloc _ _).thenAlloc _
  have h1 := fun (W : World) (hW : Ext w W) => sameInts_any W A A' n c n' c' s.urged s.urged (hu.ext hW) (hu'.ext hW)
  have h2 := fun (W : World) (hW : Ext w W) => sameInts_any W B B' m d m' d' s.busy s.busy (hb.ext hW) (hb'.ext hW)
  rw [decide_eq_true rfl] at h1 h2
  have H1 := Lib.hid (h1 _ x0)
  have H2 := Lib.hid h2
  have s1 := (Sb.new w s.cur s.queue (.slice A n c) (.slice B m d) rfl).ext (Ext.alloc _ (.cells #[.int .i64 s.cur, .bool s.queue, .slice A' n' c', .slice B' m' d'] 24))
  have s2 := Sb.new (w.alloc (.cells #[.int .i64 s.cur, .bool s.queue, .slice A n c, .slice B m d] 24)) s.cur s.queue (.slice A' n' c') (.slice B' m' d') (g := w.heap.size + 1) (by simp)
  have S1 := Lib.hid s1
  have S2 := Lib.hid s2
  have X0 := Lib.hid x0
  have e1 : (s.cur == s.cur) = true := by simp
  have e2 : (s.queue == s.queue) = true := by simp
  clear h1 h2 hu hb hu' hb' x0 s1 s2
  go_enter Try.func18, Try.ntmps18
  go_wp2_with (fail)
  refine H1.out.mono ?_
  rintro x w1 ⟨rfl, hd⟩
  have hX := hd.ext
  have a3 := (S1.out.ext hX).c3
  have b3 := (S2.out.ext hX).c3
  have X1 := Lib.hid (X0.out.trans hX)
  clear hd hX
  go_wp2_with (fail)
  refine (H2.out _ X1.out).mono ?_
  rintro x w2 ⟨rfl, hd⟩
  have X2 := Lib.hid (X1.out.trans hd.ext)
  clear hd
  go_wp2_with (fail)
  go_ret
  exact ⟨rfl, X2.out⟩
theorem cell_four {w : World} {g q j : Nat} {v : Value} (h : w.cell? ⟨q, j, none⟩ = some v) (hq : q ≠ g) (cu : Int) (qu : Bool) (U B : Value) : (four w g cu qu U B).cell? ⟨q, j, none⟩ = some v := by
  have e := four_other w g cu qu U B q hq
  generalize four w g cu qu U B = W at *
  exact (World.cell?_of_block e).trans h
theorem Is.lo {w : World} {A : Option Addr} {n c b0 : Nat} {l : List Int} (h : Is w A n c l) (hb : w.heap.size ≤ b0) (W : World) : Lo b0 W n A := fun hn => by
  obtain ⟨b, o, rfl, hc⟩ := h.rd.intAt hn
  refine ⟨b, o, rfl, .inl ?_⟩
  have : b < w.heap.size := by
    rcases Nat.lt_or_ge b w.heap.size with hlt | hge
    · exact hlt
    · exfalso
      rw [World.cell?, Array.getElem?_eq_none hge] at hc
      cases hc
  omega
theorem Hs.put {b0 : Nat} {W : World} {q g : Nat} {s : Scrubs.S} {cu : Int} {qu : Bool} {U V : Value} (h : Hs b0 W q s) (hb : Sb W g cu qu U V) (hg : b0 ≤ g) (hq : q ≠ g) (cu' : Int) (qu' : Bool) (U' V' : Value) : Hs b0 (four W g cu' qu' U' V') q s := by
  obtain ⟨A, n, c, B, m, d, h1, h2⟩ := h
  exact ⟨A, n, c, B, m, d, h1.put hq _ _ _ _, h2.put hb hg _ _ _ _⟩
theorem Hs.lt {b0 : Nat} {W : World} {q : Nat} {s : Scrubs.S} (h : Hs b0 W q s) : q < W.heap.size := by
  obtain ⟨A, n, c, B, m, d, h1, h2⟩ := h
  exact h1.lt
/-- Four scrubbings: the code's, what it was, the code's next one, the document's. -/
structure T16 (w : World) (b0 g8 g9 : Nat) (W : World) (s s9 s5 : Scrubs.S) : Prop where
  h2 : Hs b0 W b0 s
  h8 : Hs b0 W g8 s
  h9 : Hs b0 W g9 s9
  h5 : Hs b0 W (b0 + 1) s5
  x : Ext w W
  base : w.heap.size = b0
  l8 : b0 + 2 ≤ g8
  l9 : b0 + 2 ≤ g9
  ne : g8 ≠ g9
section
variable {w : World} {b0 g8 g9 : Nat} {W : World} {s s9 s5 : Scrubs.S}
theorem T16.ext {W' : World} (h : T16 w b0 g8 g9 W s s9 s5) (hx : Ext W W') : T16 w b0 g8 g9 W' s s9 s5 := ⟨h.h2.ext hx, h.h8.ext hx, h.h9.ext hx, h.h5.ext hx, h.x.trans hx, h.base, h.l8, h.l9, h.ne⟩
theorem T16.set9 (h : T16 w b0 g8 g9 W s s9 s5) {s' : Scrubs.S} {A : Option Addr} {n c : Nat} {B : Option Addr} {m d : Nat} (ls : Ls b0 W s' A n c B m d) : T16 w b0 g8 g9 (four W g9 s'.cur s'.queue (.slice A n c) (.slice B m d)) s s' s5 := by
  obtain ⟨A9, n9, c9, B9, m9, d9, hb, _⟩ := h.h9
  have h1 := h.l8; have h2 := h.l9; have h3 := h.ne
  exact ⟨h.h2.put hb (by omega) (by omega) _ _ _ _, h.h8.put hb (by omega) (by omega) _ _ _ _, ⟨A, n, c, B, m, d, hb.whole _ _ _ _, ls.put hb (by omega) _ _ _ _⟩, h.h5.put hb (by omega) (by omega) _ _ _ _, h.x.four (by have := h.base; omega) _ _ _ _, h.base, h.l8, h.l9, h.ne⟩
theorem T16.set5 (h : T16 w b0 g8 g9 W s s9 s5) {s' : Scrubs.S} {A : Option Addr} {n c : Nat} {B : Option Addr} {m d : Nat} (ls : Ls b0 W s' A n c B m d) : T16 w b0 g8 g9 (four W (b0 + 1) s'.cur s'.queue (.slice A n c) (.slice B m d)) s s9 s' := by
  obtain ⟨A9, n9, c9, B9, m9, d9, hb, _⟩ := h.h5
  have h1 := h.l8; have h2 := h.l9; have h3 := h.ne
  exact ⟨h.h2.put hb (by omega) (by omega) _ _ _ _, h.h8.put hb (by omega) (by omega) _ _ _ _, h.h9.put hb (by omega) (by omega) _ _ _ _, ⟨A, n, c, B, m, d, hb.whole _ _ _ _, ls.put hb (by omega) _ _ _ _⟩, h.x.four (by have := h.base; omega) _ _ _ _, h.base, h.l8, h.l9, h.ne⟩
/-- The next one is stored where the code's is. -/
theorem T16.turn (h : T16 w b0 g8 g9 W s s9 s5) {s' : Scrubs.S} {A : Option Addr} {n c : Nat} {B : Option Addr} {m d : Nat} (ls : Ls b0 W s' A n c B m d) : Hs b0 (four W b0 s'.cur s'.queue (.slice A n c) (.slice B m d)) b0 s' ∧ Hs b0 (four W b0 s'.cur s'.queue (.slice A n c) (.slice B m d)) (b0 + 1) s5 ∧ Ext w (four W b0 s'.cur s'.queue (.slice A n c) (.slice B m d)) := by
  obtain ⟨A9, n9, c9, B9, m9, d9, hb, _⟩ := h.h2
  exact ⟨⟨A, n, c, B, m, d, hb.whole _ _ _ _, ls.put hb (Nat.le_refl _) _ _ _ _⟩, h.h5.put hb (Nat.le_refl _) (by omega) _ _ _ _, h.x.four (by have := h.base; omega) _ _ _ _⟩
end
end Go.Proofs.Ytkclimblcipmlaa
namespace Scrubs
/-- The lists are short. -/
def Short (s : S) : Prop := s.urged.length ≤ 1000 ∧ s.busy.length ≤ 1000
theorem short_of_right {s : S} (h : right s) : Short s := ⟨h.2.1, h.2.2.1⟩
theorem short_urge {s : S} (h : Short s) (n : Int) : Short (urgeS s n) := by
  by_cases hr : right s
  · exact short_of_right (right_urge hr n)
  · rw [(urge_bad (fun q => hr q.1)).1]; exact h
theorem short_take {s : S} (h : Short s) (l : List Int) : Short (takeS s l) := by
  by_cases hr : right s
  · exact short_of_right (right_take hr l)
  · rw [(take_err (by rw [takeE_right hr]; decide)).1]; exact h
theorem short_over {s : S} (h : Short s) (n : Int) : Short (overS s n) := by
  by_cases hr : right s
  · exact short_of_right (right_over hr n)
  · rw [(over_bad (fun q => hr q.1)).1]; exact h
end Scrubs
