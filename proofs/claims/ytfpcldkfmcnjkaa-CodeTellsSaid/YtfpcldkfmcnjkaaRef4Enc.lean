/- The contracts of the document's Encode (chapter 04). -/
import Derived.Test.YtfpcldkfmcnjkaaRef4New
import Derived.Test.YtfpcldkfmcnjkaaRef4Times
import Derived.Test.YtfpcldkfmcnjkaaCodeEnc
namespace Go.Proofs.Ytfpcldkfmcnjkaa
open Go.RowKit
attribute [local go_sem ↓] Go.wp_at_zero Go.wp_at_succ

/-- The world of a method on a code of the document: the code lies in a box. -/
abbrev wbox (w : World) (k n : Nat) (A : Option Addr) (c : Nat) : World := w.alloc (.cells #[.int .i64 (k : Int), .int .i64 (n : Int), .slice A n c] 62)
theorem bd_box (w : World) (k n : Nat) (A : Option Addr) (c : Nat) : Bd (wbox w k n A c) w.heap.size k n (.slice A n c) := ⟨heap_alloc_new _ _⟩
set_option maxRecDepth 100000 in
set_option maxHeartbeats 2000000 in
theorem ref4Encode_any (w : World) (k n : Nat) (A : Option Addr) (c : Nat) (hA : Mx w A n c (Gm.gen k n)) (h1 : 1 ≤ k) (h2 : k ≤ n) (h3 : n ≤ 255) (As : Option Addr) (m cs : Nat) (s : Gm.L) (hs : Mx w As m cs s) :
    Calls Try.prog 31 #[cval k n A n c, .slice As m cs] w (GivesQE (encM k n s) (encE k s) w) := by
  have xA : Ext w (wbox w k n A c) := Ext.alloc _ _
  have hB0 := bd_box w k n A c
  have hE := ref4Even_any (wbox w k n A c) As m cs s k (hs.ext xA)
  have q3 := hs.max
  have q4 := hs.le
  have q5 := hA.max
  have q6 := hA.le
  unfold encM encE
  by_cases h : Gm.even s k
  · rw [if_pos h, if_pos h]
    rw [decide_eq_true h] at hE
    obtain rfl : m = k := by rw [← hs.len]; exact h.1
    have hT := fun (W : World) (hW : Ext w W) => ref4Times_any W A As n c m cs (Gm.gen m n) s (hA.ext hW) (hs.ext hW) (by omega) h1 (by omega) (fun i hi => (Gm.gen_rect h2).wid i hi) h.2.2.2 h.2.2.1
    have HE := Lib.hid hE
    have HT := Lib.hid hT
    have c0 := hB0.c0
    have HB := Lib.hid hB0
    clear hE h hs hA hT hB0
    go_enter Try.func31, Try.ntmps31
    go_wp2_with (fail)
    refine HE.out.mono ?_
    rintro e w1 ⟨rfl, x1⟩
    have c2 := (HB.out.ext x1).c2
    go_wp2_with (fail)
    refine (HT.out w1 (xA.trans x1)).mono ?_
    rintro e w2 ⟨v2, cs2, rfl, hq, x2⟩
    go_wp2_with (fail)
    go_ret2
    exact ⟨v2, cs2, rfl, hq.lower (xA.trans x1).size, (xA.trans x1).trans x2⟩
  · rw [if_neg h, if_neg h]
    rw [decide_eq_false h] at hE
    have HE := Lib.hid hE
    have c0 := hB0.c0
    clear hE h hs hA hB0
    go_enter Try.func31, Try.ntmps31
    go_wp2_with (fail)
    refine HE.out.mono ?_
    rintro e w1 ⟨rfl, x1⟩
    go_wp2_with (fail)
    go_ret2
    exact GivesQE.none 40 (xA.trans x1)
end Go.Proofs.Ytfpcldkfmcnjkaa
