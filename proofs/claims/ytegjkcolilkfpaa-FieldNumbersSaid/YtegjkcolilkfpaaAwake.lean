/- The chapter's examples come out as written: awake returns true. -/
import Derived.Test.YtegjkcolilkfpaaFieldLists
namespace Go.Proofs.Ytegjkcolilkfpaa
open Go.RowKit

theorem Bs.lit (w : World) (g : Nat) (hg : w.heap.size = g) (l : List UInt8) (cs : Array Value) (t : TypeId) (n : Nat) (hn : l.length = n) (h : cs.toList = bcells l) (hl : n ≤ 1000) : Bs (w.alloc (.cells cs t)) (some ⟨g, 0, none⟩) n n l := by
  subst hn
  subst hg
  have hs : cs.size = l.length := by rw [← Array.length_toList, h, bcells_length]
  refine ⟨rfl, Nat.le_refl _, by omega, ?_⟩
  have := Rd.lit w cs t
  rwa [h, hs] at this

set_option maxRecDepth 100000 in
set_option maxHeartbeats 2000000 in
theorem awake_any (w : World) :
    Calls Try.prog 21 #[] w fun e w' => e = .returned (.bool true) ∧ Ext w w' := by
  have d1 : Gf.divQ 29 2 = 128 := by decide
  have d2 : Gf.divQ 1 2 = 142 := by decide
  have d3 : Gf.glog 29 = 8 := by decide
  have d4 : Gf.divE 2 = 0 := by decide
  have d5 : Gf.divE 29 = 0 := by decide
  have d6 : Gf.divE 1 = 0 := by decide
  have d7 : Gf.divE 0 = 20 := by decide
  have d8 : Gf.glog 1 = 0 := by decide
  have d9 : Gf.mul 2 128 = 29 := by decide
  have d10 : Gf.mul 3 3 = 5 := by decide
  have d11 : Gf.pow 2 8 = 29 := by decide
  have d12 : Gf.dot [1, 2] [3, 4] = 11 := by decide
  have d13 : (Gf.lay [1, 1] 2 [3, 128] == [7, 28]) = true := by decide
  go_enter Try.func21, Try.ntmps21
  go_wp2_with (fail)
  refine (new_any _).mono ?_
  rintro e w1 ⟨rfl, hf, hx⟩
  generalize hb : w.heap.size = b at *
  have Hb := Lib.hid hb
  clear hb
  go_wp2_with (fail)
  refine (div_any b _ 29 2 hf).mono ?_
  rintro e w' ⟨rfl, q1, rfl⟩
  go_wp2_with (fail)
  refine (inv_any b _ 2 (hf.ext (Ext.drewN _ _))).mono ?_
  rintro e w' ⟨rfl, q2, rfl⟩
  go_wp2_with (fail)
  refine (log_any b _ 29 (hf.ext (Ext.drewN _ _))).mono ?_
  rintro e w' ⟨rfl, rfl⟩
  go_wp2_with (fail)
  refine (log_any b _ 1 (hf.ext (Ext.drewN _ _))).mono ?_
  rintro e w' ⟨rfl, rfl⟩
  go_wp2_with (fail)
  refine (inv_any b _ 0 (hf.ext (Ext.drewN _ _))).mono ?_
  rintro e w' ⟨rfl, q3, rfl⟩
  go_wp2_with (fail)
  refine (add_any b _ 5 3 (hf.ext (Ext.drewN _ _))).mono ?_
  rintro e w' ⟨rfl, rfl⟩
  go_wp2_with (fail)
  refine (mul_any b _ 2 128 (hf.ext (Ext.drewN _ _))).mono ?_
  rintro e w' ⟨rfl, q4, rfl⟩
  go_wp2_with (fail)
  refine (mul_any b _ 3 3 (hf.ext (Ext.drewN _ _))).mono ?_
  rintro e w' ⟨rfl, q5, rfl⟩
  go_wp2_with (fail)
  refine (pow_any b _ 2 8 (hf.ext (Ext.drewN _ _))).mono ?_
  rintro e w' ⟨rfl, q6, rfl⟩
  go_wp2_with (fail)
  refine (dot_any b _ _ _ 2 2 2 2 [1, 2] [3, 4] (((hf.ext (Ext.drewN _ _)).ext (Ext.alloc _ _)).ext (Ext.alloc _ _)) ((Bs.lit _ _ rfl [1, 2] _ _ 2 rfl rfl (by omega)).ext (Ext.alloc _ _)) (Bs.lit _ _ (by simp) [3, 4] _ _ 2 rfl rfl (by omega))).mono ?_
  rintro e w2 ⟨rfl, hd⟩
  have x2 : Ext w1 w2 := (((Ext.drewN w1 _).thenAlloc _).thenAlloc _).trans (Dr.ext hd)
  have hf2 := hf.ext x2
  clear hd
  go_wp2_with (fail)
  refine (lay_any b _ _ _ 2 2 2 2 [1, 1] [3, 128] 2 ((hf2.ext (Ext.alloc _ _)).ext (Ext.alloc _ _)) ((Bs.lit _ _ rfl [1, 1] _ _ 2 rfl rfl (by omega)).ext (Ext.alloc _ _)) (Bs.lit _ _ (by simp) [3, 128] _ _ 2 rfl rfl (by omega)) (by omega)).mono ?_
  rintro e w3 ⟨v, rfl, hv⟩
  have x3 : Ext w2 w3 := ((Ext.alloc w2 _).thenAlloc _).trans hv.ext
  obtain ⟨A, c, rfl, hB⟩ := hv.bs
  clear hv
  have hl : (Gf.lay [1, 1] 2 [3, 128]).length = 2 := by decide
  rw [hl] at hB ⊢
  go_wp2_with (fail)
  refine (sameBytes_any _ _ _ 2 c 2 2 (Gf.lay [1, 1] 2 [3, 128]) [7, 28] (hB.ext (Ext.alloc _ _)) (Bs.lit _ _ rfl [7, 28] _ _ 2 rfl rfl (by omega))).mono ?_
  rintro e w' ⟨rfl, rfl⟩
  go_wp2_with (fail)
  go_ret
  exact ⟨rfl, ((hx.trans x2).trans x3).thenAlloc _⟩
end Go.Proofs.Ytegjkcolilkfpaa
