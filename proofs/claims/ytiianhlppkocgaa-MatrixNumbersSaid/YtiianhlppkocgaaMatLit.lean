/- Matrices that are written out; the numbers of the chapter's examples. -/
import Derived.Test.YtiianhlppkocgaaMatErrs
import Derived.Test.YtiianhlppkocgaaMatSquare
import Derived.Test.YtiianhlppkocgaaMatCauchy
namespace Go.Proofs.Ytiianhlppkocgaa
open Go.RowKit

theorem Mx.lit (w : World) {g : Nat} (hg : w.heap.size = g) (cs : Array Value) (t : TypeId) {n : Nat} {m : Gm.L} (hn : m.length = n) (hr : Rows w cs.toList m) (hl : n ≤ 1000) : Mx (w.alloc (.cells cs t)) (some ⟨g, 0, .none⟩) n n m := by
  subst hg hn
  refine ⟨rfl, Nat.le_refl _, by omega, cs.toList, ?_, hr.ext (Ext.alloc _ _)⟩
  have h := Rd.lit w cs t
  have hs : cs.size = m.length := by have := hr.len; rw [Array.length_toList] at this; exact this
  rw [← hs]
  exact h
theorem rows_one {w : World} {A : Option Addr} {n c : Nat} {r : List UInt8} (h : Bs w A n c r) : Rows w [.slice A n c] [r] := (Rows.nil w).snoc h
theorem rows_two {w : World} {A A' : Option Addr} {n c n' c' : Nat} {r r' : List UInt8} (h : Bs w A n c r) (h' : Bs w A' n' c' r') : Rows w [.slice A n c, .slice A' n' c'] [r, r'] := ((Rows.nil w).snoc h).snoc h'
theorem bs_lit (w : World) {g : Nat} (hg : w.heap.size = g) (l : List UInt8) (cs : Array Value) (t : TypeId) {n : Nat} (hn : l.length = n) (h : cs.toList = bcells l) (hl : n ≤ 1000) : Bs (w.alloc (.cells cs t)) (some ⟨g, 0, .none⟩) n n l := by
  subst hn hg
  have hs : cs.size = l.length := by rw [← Array.length_toList, h]; simp [bcells]
  refine ⟨rfl, Nat.le_refl _, by omega, ?_⟩
  have h2 := Rd.lit w cs t
  rw [hs, h] at h2
  exact h2
theorem mx_one (W : World) (r : List UInt8) (cs : Array Value) (t tt : TypeId) {k : Nat} (hk : r.length = k) (hc : cs.toList = bcells r) (hl : k ≤ 1000) :
    Mx ((W.alloc (.cells cs t)).alloc (.cells #[.slice (some ⟨W.heap.size, 0, .none⟩) k k] tt)) (some ⟨W.heap.size + 1, 0, .none⟩) 1 1 [r] :=
  Mx.lit _ (by simp) _ _ rfl (rows_one (bs_lit W rfl r cs t hk hc hl)) (by omega)
theorem mx_two (W : World) (r r' : List UInt8) (cs cs' : Array Value) (t t' tt : TypeId) {k k' : Nat} (hk : r.length = k) (hc : cs.toList = bcells r) (hl : k ≤ 1000) (hk' : r'.length = k') (hc' : cs'.toList = bcells r') (hl' : k' ≤ 1000) :
    Mx (((W.alloc (.cells cs t)).alloc (.cells cs' t')).alloc (.cells #[.slice (some ⟨W.heap.size, 0, .none⟩) k k, .slice (some ⟨W.heap.size + 1, 0, .none⟩) k' k'] tt)) (some ⟨W.heap.size + 1 + 1, 0, .none⟩) 2 2 [r, r'] :=
  Mx.lit _ (by simp) _ _ rfl (rows_two ((bs_lit W rfl r cs t hk hc hl).ext (Ext.alloc _ _)) (bs_lit _ (by simp) r' cs' t' hk' hc' hl')) (by omega)
theorem awake_numbers : Gm.unit 2 = [[1, 0], [0, 1]] ∧ Gm.cauchy 1 2 = [[142, 244]] ∧ Gm.mulL [[1, 2]] [[3], [4]] = [[11]] ∧ Gm.invert [[1, 1], [1, 0]] = [[0, 1], [1, 1]] ∧ Gm.rank [[1, 1], [1, 0]] = 2 ∧ Gm.rank [[1, 1], [1, 1]] = 1 ∧ picked (Gm.unit 2) [1, 1] = [[0, 1], [0, 1]] := by
  refine ⟨?_, ?_, ?_, ?_, ?_, ?_, ?_⟩ <;> decide +kernel
end Go.Proofs.Ytiianhlppkocgaa
