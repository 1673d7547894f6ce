/- Matrices that are written out. -/
import Derived.Test.YtfpcldkfmcnjkaaCt2
import Derived.Lib.SlBytesConst
import Derived.Lib.SmallJoins
namespace Go.Proofs.Ytfpcldkfmcnjkaa
open Go.RowKit

theorem Mx.lit (w : World) {g : Nat} (hg : w.heap.size = g) (cs : Array Value) (t : TypeId) {n : Nat} {m : Gm.L} (hn : m.length = n) (hr : Rows w cs.toList m) (hl : n ≤ 1000) : Mx (w.alloc (.cells cs t)) (some ⟨g, 0, .none⟩) n n m := by
  subst hg hn
  refine ⟨rfl, Nat.le_refl _, by omega, cs.toList, ?_, hr.ext (Ext.alloc _ _)⟩
  have h := Rd.lit w cs t
  have hs : cs.size = m.length := by have := hr.len; rw [Array.length_toList] at this; exact this
  rw [← hs]
  exact h
theorem rows_one {w : World} {A : Option Addr} {n c : Nat} {r : List UInt8} (h : Bs w A n c r) : Rows w [.slice A n c] [r] := (Rows.nil w).snoc h
theorem rows_two {w : World} {A A' : Option Addr} {n c n' c' : Nat} {r r' : List UInt8} (h : Bs w A n c r) (h' : Bs w A' n' c' r') : Rows w [.slice A n c, .slice A' n' c'] [r, r'] := ((Rows.nil w).snoc h).snoc h'
theorem bs_lit (w : World) {g : Nat} (hg : w.heap.size = g) (l : List UInt8) (cs : Array Value) (t : TypeId) {n : Nat} (hn : l.length = n) (h : cs.toList = bcells l) (hl : n ≤ 1000) : Bs (w.alloc (.cells cs t)) (some ⟨g, 0, .none⟩) n n l := by
  subst hn hg
  have hs : cs.size = l.length := by rw [← Array.length_toList, h]; simp [bcells]
  refine ⟨rfl, Nat.le_refl _, by omega, ?_⟩
  have h2 := Rd.lit w cs t
  rw [hs, h] at h2
  exact h2
theorem mx_one (W : World) (r : List UInt8) (cs : Array Value) (t tt : TypeId) {k : Nat} (hk : r.length = k) (hc : cs.toList = bcells r) (hl : k ≤ 1000) :
    Mx ((W.alloc (.cells cs t)).alloc (.cells #[.slice (some ⟨W.heap.size, 0, .none⟩) k k] tt)) (some ⟨W.heap.size + 1, 0, .none⟩) 1 1 [r] :=
  Mx.lit _ (by simp) _ _ rfl (rows_one (bs_lit W rfl r cs t hk hc hl)) (by omega)
theorem mx_two (W : World) (r r' : List UInt8) (cs cs' : Array Value) (t t' tt : TypeId) {k k' : Nat} (hk : r.length = k) (hc : cs.toList = bcells r) (hl : k ≤ 1000) (hk' : r'.length = k') (hc' : cs'.toList = bcells r') (hl' : k' ≤ 1000) :
    Mx (((W.alloc (.cells cs t)).alloc (.cells cs' t')).alloc (.cells #[.slice (some ⟨W.heap.size, 0, .none⟩) k k, .slice (some ⟨W.heap.size + 1, 0, .none⟩) k' k'] tt)) (some ⟨W.heap.size + 1 + 1, 0, .none⟩) 2 2 [r, r'] :=
  Mx.lit _ (by simp) _ _ rfl (rows_two ((bs_lit W rfl r cs t hk hc hl).ext (Ext.alloc _ _)) (bs_lit _ (by simp) r' cs' t' hk' hc' hl')) (by omega)
theorem mx_two_at (W : World) {g : Nat} (hg : W.heap.size = g) (r r' : List UInt8) (cs cs' : Array Value) (t t' tt : TypeId) {k k' : Nat} (hk : r.length = k) (hc : cs.toList = bcells r) (hl : k ≤ 1000) (hk' : r'.length = k') (hc' : cs'.toList = bcells r') (hl' : k' ≤ 1000) :
    Mx (((W.alloc (.cells cs t)).alloc (.cells cs' t')).alloc (.cells #[.slice (some ⟨g, 0, .none⟩) k k, .slice (some ⟨g + 1, 0, .none⟩) k' k'] tt)) (some ⟨g + 1 + 1, 0, .none⟩) 2 2 [r, r'] := by
  subst hg
  exact mx_two W r r' cs cs' t t' tt hk hc hl hk' hc' hl'
theorem mx_one_at (W : World) {g : Nat} (hg : W.heap.size = g) (r : List UInt8) (cs : Array Value) (t tt : TypeId) {k : Nat} (hk : r.length = k) (hc : cs.toList = bcells r) (hl : k ≤ 1000) :
    Mx ((W.alloc (.cells cs t)).alloc (.cells #[.slice (some ⟨g, 0, .none⟩) k k] tt)) (some ⟨g + 1, 0, .none⟩) 1 1 [r] := by
  subst hg
  exact mx_one W r cs t tt hk hc hl
theorem rows_three {w : World} {A A' A'' : Option Addr} {n c n' c' n'' c'' : Nat} {r r' r'' : List UInt8} (h : Bs w A n c r) (h' : Bs w A' n' c' r') (h'' : Bs w A'' n'' c'' r'') : Rows w [.slice A n c, .slice A' n' c', .slice A'' n'' c''] [r, r', r''] := (((Rows.nil w).snoc h).snoc h').snoc h''
theorem mx_three_at (W : World) {g : Nat} (hg : W.heap.size = g) (r r' r'' : List UInt8) (cs cs' cs'' : Array Value) (t t' t'' tt : TypeId) {k k' k'' : Nat} (hk : r.length = k) (hc : cs.toList = bcells r) (hl : k ≤ 1000) (hk' : r'.length = k') (hc' : cs'.toList = bcells r') (hl' : k' ≤ 1000) (hk'' : r''.length = k'') (hc'' : cs''.toList = bcells r'') (hl'' : k'' ≤ 1000) :
    Mx ((((W.alloc (.cells cs t)).alloc (.cells cs' t')).alloc (.cells cs'' t'')).alloc (.cells #[.slice (some ⟨g, 0, .none⟩) k k, .slice (some ⟨g + 1, 0, .none⟩) k' k', .slice (some ⟨g + 1 + 1, 0, .none⟩) k'' k''] tt)) (some ⟨g + 1 + 1 + 1, 0, .none⟩) 3 3 [r, r', r''] := by
  subst hg
  exact Mx.lit _ (by simp) _ _ rfl (rows_three (((bs_lit W rfl r cs t hk hc hl).ext (Ext.alloc _ _)).ext (Ext.alloc _ _)) ((bs_lit _ (by simp) r' cs' t' hk' hc' hl').ext (Ext.alloc _ _)) (bs_lit _ (by simp) r'' cs'' t'' hk'' hc'' hl'')) (by omega)
/-- '[]byte("..")': the row is marked. -/
theorem bs_mark (w : World) {g : Nat} (hg : w.heap.size = g) (l : List UInt8) (cs : Array Value) (t : TypeId) (fr : Nat × Nat) {n : Nat} (hn : l.length = n) (h : cs.toList = bcells l) (hl : n ≤ 1000) : Bs (w.alloc (.cells cs t fr)) (some ⟨g, 0, .none⟩) n n l := by
  subst hn hg
  refine ⟨rfl, Nat.le_refl _, by omega, by rw [bcells_length]; omega, fun _ => ⟨w.heap.size, 0, rfl, fun j u hu => ?_⟩⟩
  rw [Nat.zero_add, World.cell?_alloc_mark, ← Array.getElem?_toList, h]
  exact hu
theorem mx_two_mark (W : World) {g : Nat} (hg : W.heap.size = g) (r r' : List UInt8) (cs cs' : Array Value) (t t' tt : TypeId) (fr fr' : Nat × Nat) {k k' : Nat} (hk : r.length = k) (hc : cs.toList = bcells r) (hl : k ≤ 1000) (hk' : r'.length = k') (hc' : cs'.toList = bcells r') (hl' : k' ≤ 1000) :
    Mx (((W.alloc (.cells cs t fr)).alloc (.cells cs' t' fr')).alloc (.cells #[.slice (some ⟨g, 0, .none⟩) k k, .slice (some ⟨g + 1, 0, .none⟩) k' k'] tt)) (some ⟨g + 1 + 1, 0, .none⟩) 2 2 [r, r'] := by
  subst hg
  exact Mx.lit _ (by simp) _ _ rfl (rows_two ((bs_mark W rfl r cs t fr hk hc hl).ext (Ext.alloc _ _)) (bs_mark _ (by simp) r' cs' t' fr' hk' hc' hl')) (by omega)
end Go.Proofs.Ytfpcldkfmcnjkaa
