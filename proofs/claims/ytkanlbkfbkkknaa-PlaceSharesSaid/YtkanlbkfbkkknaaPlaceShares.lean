/- PlaceShares' walk: First gives each node as many shards as any other one; for every input. -/
import Derived.Test.YtkanlbkfbkkknaaPlaceOpen
import Derived.Test.YtkanlbkfbkkknaaPlaceAwake
import Derived.Test.YtkanlbkfbkkknaaPlShares
import Derived.Laws.MakeOwn
namespace Go.Proofs.Ytkanlbkfbkkknaa
open Go.ChangeShapes Go.WideShapes Go.ChangeAt Go.RowKit

/-- A row of one value, many times. -/
def made (c : Nat) (z : Value) : Array Value := madeCells #[z] c
theorem made_get {c j : Nat} (z : Value) (h : j < c) : (made c z)[j]? = some z := by
  unfold made madeCells
  rw [Array.getElem?_map, Array.getElem?_range, if_pos h]
  simp [Nat.mod_one]
theorem lists_info : (Try.prog.info? 28).map (fun i => (i.zero, i.size, i.bytes)) = some (some (.slice none 0 0), 1, 24) := by kernel_rfl
theorem run_make_lists (W : World) (c : Nat) (hc : c ≤ 1000) : (Instr.makeSlice 40 (.int .i64 (c : Int)) (.int .i64 (c : Int))).run Try.prog W = .ok (.slice (some ⟨W.heap.size, 0, none⟩) c c) (W.alloc (.cells (made c (.slice none 0 0)) 28)) := by
  obtain ⟨i, hi, hz, h1, h2⟩ := info_parts lists_info
  have h := run_make (P := Try.prog) W 40 28 i _ Try.underlying40 hi hz .i64 .i64 (c : Int) (c : Int) (by omega) (Int.le_refl _) (by rw [h2]; omega) (by omega)
  rw [h1] at h
  simpa [made, Value.cells] using h
theorem run_make_ints (W : World) (c : Nat) (hc : c ≤ 1000) : (Instr.makeSlice 28 (.int .i64 (c : Int)) (.int .i64 (c : Int))).run Try.prog W = .ok (.slice (some ⟨W.heap.size, 0, none⟩) c c) (W.alloc (.cells (made c (.int .i64 0)) 3)) := by
  obtain ⟨i, hi, hz, h1, h2⟩ := info_parts int_info
  have h := run_make (P := Try.prog) W 28 3 i _ Try.underlying28 hi hz .i64 .i64 (c : Int) (c : Int) (by omega) (Int.le_refl _) (by rw [h2]; omega) (by omega)
  rw [h1] at h
  simpa [made, Value.cells] using h

namespace placeShares
/-- The counts: the first t rows are made; row q has at j what f tells. -/
structure Cnt (w : World) (g M K t : Nat) (f : Nat → Nat → Nat) : Prop where
  size : g + 1 + t ≤ w.heap.size
  outer : ∀ q, q < M → w.cell? ⟨g, q, none⟩ = some (if q < t then .slice (some ⟨g + 1 + q, 0, none⟩) K K else .slice none 0 0)
  free : ∀ q, w.frozen? ⟨g, q, none⟩ = false
  inner : ∀ q j, q < t → j < K → w.cell? ⟨g + 1 + q, j, none⟩ = some (.int .i64 ((f q j : Nat) : Int))
  ifree : ∀ q j, q < t → w.frozen? ⟨g + 1 + q, j, none⟩ = false
theorem Cnt.ext {w w' : World} {g M K t : Nat} {f : Nat → Nat → Nat} (h : Cnt w g M K t f) (hx : Ext w w') : Cnt w' g M K t f :=
  ⟨Nat.le_trans h.size hx.size, fun q hq => hx.cell (h.outer q hq), fun q => (Below.frozen hx (p := ⟨g, q, none⟩) (by have := h.size; show g < w.heap.size; omega)).trans (h.free q),
    fun q j hq hj => hx.cell (h.inner q j hq hj), fun q j hq => (Below.frozen hx (p := ⟨g + 1 + q, j, none⟩) (by have := h.size; show g + 1 + q < w.heap.size; omega)).trans (h.ifree q j hq)⟩
theorem Cnt.start (w : World) (g M K : Nat) (hg : w.heap.size = g) (f : Nat → Nat → Nat) : Cnt (w.alloc (.cells (made M (.slice none 0 0)) 28)) g M K 0 f := by
  subst hg
  refine ⟨by simp, fun q hq => ?_, fun q => frozen_of_row _ _ _ _ _ (heap_alloc_new w _), fun q j hq => absurd hq (Nat.not_lt_zero _), fun q j hq => absurd hq (Nat.not_lt_zero _)⟩
  rw [if_neg (Nat.not_lt_zero _), World.cell?_alloc_new]
  exact made_get _ hq
theorem Cnt.make {w : World} {g M K t : Nat} {f : Nat → Nat → Nat} (h : Cnt w g M K t f) (ht : t < M) (hs : w.heap.size = g + 1 + t) (hf : ∀ j, f t j = 0) :
    Cnt ((w.alloc (.cells (made K (.int .i64 0)) 3)).setCell ⟨g, t, none⟩ (.slice (some ⟨g + 1 + t, 0, none⟩) K K)) g M K (t + 1) f := by
  have hb : (w.alloc (.cells (made K (.int .i64 0)) 3)).heap[g + 1 + t]? = some (.cells (made K (.int .i64 0)) 3 (0, 0)) := by rw [← hs]; exact heap_alloc_new w _
  have h2 := h.ext (Ext.alloc w (.cells (made K (.int .i64 0)) 3))
  have hz : (w.alloc (.cells (made K (.int .i64 0)) 3)).heap.size = g + 1 + (t + 1) := by simp; omega
  have ho := h2.outer t ht
  refine ⟨by simp; omega, fun q hq => ?_, fun q => by rw [World.frozen?_setCell]; exact h2.free q, fun q j hq hj => ?_, fun q j hq => ?_⟩
  · by_cases e : q = t
    · subst e
      rw [World.cell?_setCell_same _ _ _ ho, if_pos (by omega)]
    · rw [World.cell?_setCell_other _ _ _ _ (fun e' => by injection e' with _ e2; omega), h2.outer q hq]
      by_cases e2 : q < t
      · rw [if_pos e2, if_pos (by omega)]
      · rw [if_neg e2, if_neg (by omega)]
  · rw [World.cell?_setCell_other _ _ _ _ (fun e' => by injection e' with e2; omega)]
    by_cases e : q = t
    · subst e
      rw [cell_of_row _ _ _ _ _ _ hb, made_get _ hj, hf j]; rfl
    · exact h2.inner q j (by omega) hj
  · rw [World.frozen?_setCell]
    by_cases e : q = t
    · subst e
      exact frozen_of_row _ _ _ _ _ hb
    · exact h2.ifree q j (by omega)
theorem Cnt.count {w : World} {g M K : Nat} {f f' : Nat → Nat → Nat} (h : Cnt w g M K M f) {q j : Nat} (hq : q < M) (hj : j < K) (h1 : f' q j = f q j + 1) (h2 : ∀ q' j', ¬ (q' = q ∧ j' = j) → f' q' j' = f q' j') :
    Cnt (w.setCell ⟨g + 1 + q, j, none⟩ (.int .i64 (((f q j : Nat) : Int) + 1))) g M K M f' := by
  refine ⟨by simp; exact h.size, fun p hp => ?_, fun p => by rw [World.frozen?_setCell]; exact h.free p, fun p i hp hi => ?_, fun p i hp => by rw [World.frozen?_setCell]; exact h.ifree p i hp⟩
  · rw [World.cell?_setCell_other _ _ _ _ (fun e' => by injection e' with e2; omega)]
    exact h.outer p hp
  · by_cases e : p = q ∧ i = j
    · obtain ⟨rfl, rfl⟩ := e
      rw [World.cell?_setCell_same _ _ _ (h.inner p i hp hi), h1]; rfl
    · rw [World.cell?_setCell_other _ _ _ _ (fun e' => by injection e' with e2 e3; omega), h2 p i e]
      exact h.inner p i hp hi

/-- Two placements, written out. -/
theorem ps_two {W : World} {g : Nat} {e e' : Int} {A A' : Option Addr} {n c n' c' : Nat} {nd nd' : List Int} {T : TypeId} (hb : W.heap[g]? = some (.cells #[.int .i64 e, .slice A n c, .int .i64 e', .slice A' n' c'] T (0, 0))) (h1 : Is W A n c nd) (h2 : Is W A' n' c' nd') :
    Ps W (some ⟨g, 0, none⟩) 2 2 [(e, nd), (e', nd')] := by
  refine ⟨rfl, Nat.le_refl _, by omega, fun k hk => ?_⟩
  rcases k with _ | _ | k
  · refine ⟨g, 0, A, n, c, rfl, ?_, ?_, h1⟩
    · rw [cell_of_row _ _ _ _ _ _ hb]; rfl
    · rw [cell_of_row _ _ _ _ _ _ hb]; rfl
  · refine ⟨g, 0, A', n', c', rfl, ?_, ?_, h2⟩
    · rw [cell_of_row _ _ _ _ _ _ hb]; rfl
    · rw [cell_of_row _ _ _ _ _ _ hb]; rfl
  · omega
theorem heap_older (w : World) (o o' : Obj) : ((w.alloc o).alloc o').heap[w.heap.size]? = some o := by
  rw [Below.heap_alloc _ _ _ (by simp)]; exact heap_alloc_new w o
theorem heap_newer (w : World) (o o' : Obj) : ((w.alloc o).alloc o').heap[w.heap.size + 1]? = some o' := by
  have h := heap_alloc_new (w.alloc o) o'
  simpa using h
set_option maxRecDepth 100000 in
set_option maxHeartbeats 4000000 in
theorem walk (w : World) (a0 a1 a2 a3 : Int) (w0 : (Lit.int .u8 a0).wf = true) (w1 : (Lit.int .u8 a1).wf = true) (w2 : (Lit.int .u8 a2).wf = true) (w3 : (Lit.int .u16 a3).wf = true) :
    Calls Try.prog 4 #[.int .u8 a0, .int .u8 a1, .int .u8 a2, .int .u16 a3] w fun e w' => e = .returned (.bool true) ∧ Ext w w' := by
  obtain ⟨x, rfl⟩ := wf_u8 w0
  obtain ⟨y, rfl⟩ := wf_u8 w1
  obtain ⟨z, rfl⟩ := wf_u8 w2
  obtain ⟨s, rfl, hs⟩ : ∃ s : Nat, a3 = (s : Int) ∧ s < 65536 := by
    have := bounds_u16 w3
    exact ⟨a3.toNat, by omega, by omega⟩
  clear w0 w1 w2 w3
  have lx := x.toNat_lt
  have ly := y.toNat_lt
  have lz := z.toNat_lt
  go_enter Try.func4, Try.ntmps4
  try dsimp only [List.append]
  go_wp2_with (fail)
  obtain ⟨M, hM, M1, M2⟩ : ∃ M : Nat, 1 + (x.toNat : Int) % 20 = (M : Int) ∧ 1 ≤ M ∧ M ≤ 20 := ⟨1 + x.toNat % 20, by omega, by omega, by omega⟩
  rw [hM]
  obtain ⟨K, hK, K1, K2⟩ : ∃ K : Nat, wrap64 (1 + (y.toNat : Int) % (M : Int)) = (K : Int) ∧ 1 ≤ K ∧ K ≤ M := by
    have h1 : (y.toNat : Int) % (M : Int) = ((y.toNat % M : Nat) : Int) := by simp
    have h2 := Nat.mod_lt y.toNat (show 0 < M by omega)
    refine ⟨1 + y.toNat % M, ?_, by omega, by omega⟩
    rw [h1]
    rw [IntWalk.wrap64_in _ (by omega)]
    omega
  rw [hK]
  obtain ⟨G, t, hG, hGt, t1, t2⟩ : ∃ G t : Nat, wrap64 ((M : Int) * (1 + (z.toNat : Int) % 4)) = (G : Int) ∧ G = M * t ∧ 1 ≤ t ∧ t ≤ 4 := by
    refine ⟨M * (1 + z.toNat % 4), 1 + z.toNat % 4, ?_, rfl, by omega, by omega⟩
    have h1 : (M : Int) * (1 + (z.toNat : Int) % 4) = ((M * (1 + z.toNat % 4) : Nat) : Int) := by rw [Int.natCast_mul]; congr 1
    have h2 : M * (1 + z.toNat % 4) ≤ 20 * 4 := Nat.mul_le_mul M2 (by omega)
    rw [h1, IntWalk.wrap64_in _ (by omega)]
  rw [hG]
  have G1 : M ≤ G := by rw [hGt]; exact Nat.le_mul_of_pos_right _ (by omega)
  have G2 : G ≤ 80 := by rw [hGt]; exact Nat.mul_le_mul M2 t2
  have HG := Lib.hid hGt
  clear hM hK hG hGt lx ly lz
  refine (first_ok w M K G (by unfold Pl.FirstOk; omega)).mono ?_
  rintro r w1 ⟨v, rfl, hv⟩
  obtain ⟨B, d, rfl, hp⟩ := hv.ps
  rw [Pl.first_length] at hp ⊢
  have x1 := hv.ext
  have hmx := hp.max
  have hle := hp.le
  have e0 : ((G : Int) != (G : Int)) = false := by simp
  have hmk1 := fun W => run_make_lists W M (by omega)
  have hmk2 := fun W => run_make_ints W K (by omega)
  clear hv
  go_wp2_with (fail)
  have cn0 := Cnt.start w1 w1.heap.size M K rfl (Pl.cnt M 0 0)
  have hz0 : (w1.alloc (.cells (made M (.slice none 0 0)) 28)).heap.size = w1.heap.size + 1 + 0 := by simp
  have x2 : Ext w1 (w1.alloc (.cells (made M (.slice none 0 0)) 28)) := Ext.alloc _ _
  generalize hg : w1.heap.size = g at *
  have HGG := Lib.hid hg
  generalize w1.alloc (.cells (made M (.slice none 0 0)) 28) = W at *
  clear hg
  go_loopw [62] (fun i wr => ∃ k : Nat, k ≤ M ∧ i = .int .i64 k ∧ Cnt wr g M K k (Pl.cnt M 0 0) ∧ Ext w1 wr ∧ RowKit.Hid (wr.heap.size = g + 1 + k)) (fun i _ => M - (intOf i).toNat)
  case atStart => exact ⟨0, by omega, rfl, cn0, x2, Lib.hid hz0⟩
  case round =>
    obtain ⟨k, hk, rfl, cn, hx, hz⟩ := hrel
    clear cn0 x2 hz0
    by_cases hlt : k < M
    · have q1 : (k : Int) < M := by omega
      have o1 := cn.outer k hlt
      rw [if_neg (Nat.lt_irrefl k)] at o1
      have f1 := cn.free k
      have CN := Lib.hid cn
      have hblk : g < wr.heap.size := by have := cn.size; omega
      clear cn
      go_wp2_with (fail)
      have hc := CN.out.make hlt hz.out (fun j => Pl.cnt_zero M k j)
      rw [World.setCell_alloc_past _ _ _ _ hblk] at hc
      rw [hz.out]
      refine ⟨⟨k + 1, by omega, by go_num, hc, ?_, Lib.hid ?_⟩, by simp [intOf]; omega⟩
      · exact (hx.set_ (p := ⟨g, k, none⟩) (by rw [HGG.out]; exact Nat.le_refl _) _).thenAlloc _
      · have := hz.out
        simp
        omega
    · have q1 : ¬ (k : Int) < M := by omega
      have hkM : k = M := by omega
      rw [hkM] at cn
      have X2 := Lib.hid hx
      clear hmk1 hmk2 hkM hx hz q1
      go_wp2_with (fail)
      go_loopw [73] (fun i wr => ∃ u : Nat, u ≤ G ∧ i = .int .i64 u ∧ Cnt wr g M K M (Pl.cnt M u 0) ∧ Ext w1 wr) (fun i _ => G - (intOf i).toNat)
      case atStart => exact ⟨0, by omega, rfl, cn, X2.out⟩
      case round =>
        obtain ⟨u, hu, rfl, cn1, hx⟩ := hrel
        clear cn X2
        by_cases hlu : u < G
        · have q2 : (u : Int) < G := by omega
          obtain ⟨b1, o1, A1, n1, c1, rfl, r1, r2, i0⟩ := hp.rd u hlu
          have r1 := hx.cell r1
          have r2 := hx.cell r2
          have hR := Pl.firstNodes_right (nodes := M) (n := K) (g := u) M1 (by omega) K1 (by omega) K2
          rw [Pl.first_get hlu] at r1 i0
          have hn1 : n1 = K := by rw [← i0.len]; exact Pl.firstNodes_length _ _ _
          subst hn1
          simp only at r1 i0
          have i1 := i0.ext hx
          have e1 : ((n1 : Int) != (n1 : Int)) = false := by simp
          have m1 := i1.max
          have m2 := i1.le
          obtain ⟨wo, rfl⟩ : ∃ wo : World, wo = wr := ⟨_, rfl⟩
          have hcall := right_any (wo.alloc (.cells #[.int .i64 1, .slice A1 n1 c1] 33)) 1 A1 n1 c1 (Pl.firstNodes M n1 u) (M : Int) (i1.ext (Ext.alloc _ _))
          rw [decide_eq_true hR] at hcall
          have HCALL := Lib.hid hcall
          have CN := Lib.hid cn1
          clear hR hcall cn1
          go_wp2_with (fail)
          refine HCALL.out.mono ?_
          rintro r w3 ⟨rfl, x3⟩
          have x4 := (Ext.alloc wo _).trans x3
          have y1 : w3.cell? ⟨wo.heap.size, 1, none⟩ = some (.slice A1 n1 c1) := x3.cell (by rw [World.cell?_alloc_new]; rfl)
          have cn2 := CN.out.ext x4
          have hx2 := hx.trans x4
          clear i1 r1 r2 CN x3 HCALL
          go_wp2_with (fail)
          go_loopw [96] (fun i wr => ∃ v : Nat, v ≤ n1 ∧ i = .int .i64 v ∧ Cnt wr g M n1 M (Pl.cnt M u v) ∧ Ext w1 wr) (fun i _ => n1 - (intOf i).toNat)
          case atStart => exact ⟨0, by omega, rfl, cn2, hx2⟩
          case round =>
            obtain ⟨v, hv, rfl, cn3, hx3⟩ := hrel
            have i3 := i0.ext hx3
            clear cn2 hx2 y1
            by_cases hlv : v < n1
            · have q3 : (v : Int) < n1 := by omega
              obtain ⟨b2, o2, rfl, t1⟩ := i3.rd.intAt hlv
              rw [Pl.firstNodes_get hlv] at t1
              have hqm : (u + v) % M < M := Nat.mod_lt _ (by omega)
              have hcs := fun q j => Pl.cnt_succ (m := M) (G := u) (I := v) (q := q) (j := j)
              generalize hqq : (u + v) % M = q at *
              have HQQ := Lib.hid hqq
              have HCS := Lib.hid hcs
              clear hqq hcs
              have q4 : (q : Int) < M := by omega
              have o3 := cn3.outer q hqm
              rw [if_pos hqm] at o3
              have o4 := cn3.inner q v hqm hlv
              have f4 := cn3.ifree q v hqm
              have hb := cn3.size
              have hle4 := Pl.cnt_le M u v q v
              have hup : Pl.cnt M u v q v ≤ 1000 := by omega
              have CN := Lib.hid cn3
              have I3 := Lib.hid i3
              clear cn3 i3
              go_wp2_with (fail)
              refine ⟨⟨v + 1, by omega, by go_num, ?_, hx3.set_ (by rw [HGG.out]; show g ≤ g + 1 + q; omega) _⟩, by simp [intOf]; omega⟩
              · exact CN.out.count (f' := Pl.cnt M u (v + 1)) hqm hlv (by rw [HCS.out, if_pos ⟨rfl, rfl⟩]) (fun q' j' h => by rw [HCS.out, if_neg (fun e => h ⟨e.2, e.1⟩)])
            · have q3 : ¬ (v : Int) < n1 := by omega
              have hcn : Cnt wr g M n1 M (Pl.cnt M (u + 1) 0) := by
                obtain ⟨s1, s2, s3, s4, s5⟩ := cn3
                exact ⟨s1, s2, s3, fun q j hq hj => by rw [← Pl.cnt_next (G := u) (k := v) (by omega)]; exact s4 q j hq hj, s5⟩
              clear cn3 i3
              go_wp2_with (fail)
              exact ⟨⟨u + 1, by omega, by go_num, hcn, hx3⟩, by simp [intOf]; omega⟩
        · have q2 : ¬ (u : Int) < G := by omega
          have hcnt : ∀ q j, q < M → Pl.cnt M u 0 q j = t := fun q j hq => by
            have h1 : u = M * t := by rw [← HG.out]; omega
            unfold Pl.cnt
            rw [if_neg (Nat.not_lt_zero _), h1]
            exact Pl.hits_all M j q t hq
          have hquo : (G : Int).tdiv (M : Int) = (t : Int) := by
            rw [HG.out, Int.natCast_mul]
            exact Int.mul_tdiv_cancel_left _ (by omega)
          have hcn : ∀ q j, q < M → j < K → wr.cell? ⟨g + 1 + q, j, none⟩ = some (.int .i64 ((t : Nat) : Int)) := fun q j hq hj => by
            rw [cn1.inner q j hq hj, hcnt q j hq]
          have HCN := Lib.hid hcn
          have HOU := Lib.hid cn1.outer
          have hM0 : ¬ M = 0 := by omega
          have hp2 := hp.ext hx
          have XX := Lib.hid (x1.trans hx)
          clear hcnt hcn cn1 hx
          go_wp2_with (fail)
          go_loop [114] (fun i => ∃ u : Nat, u ≤ M ∧ i = .int .i64 u) (fun i => M - (intOf i).toNat)
          case atStart => exact ⟨0, by omega, rfl⟩
          case round =>
            obtain ⟨c, hc, rfl⟩ := hrel
            by_cases hlc : c < M
            · have q3 : (c : Int) < M := by omega
              have o3 := HOU.out c hlc
              rw [if_pos hlc] at o3
              go_wp2_with (fail)
              go_loop [120] (fun i => ∃ u : Nat, u ≤ K ∧ i = .int .i64 u) (fun i => K - (intOf i).toNat)
              case atStart => exact ⟨0, by omega, rfl⟩
              case round =>
                obtain ⟨j, hj, rfl⟩ := hrel
                clear o3
                by_cases hlj : j < K
                · have q4 : (j : Int) < K := by omega
                  have o4 := HCN.out c j hlc hlj
                  have e4 : ((t : Int) != (t : Int)) = false := by simp
                  go_wp2_with (fail)
                  exact ⟨⟨j + 1, by omega, by go_num⟩, by simp [intOf]; omega⟩
                · have q4 : ¬ (j : Int) < K := by omega
                  go_wp2_with (fail)
                  exact ⟨⟨c + 1, by omega, by go_num⟩, by simp [intOf]; omega⟩
            · have q3 : ¬ (c : Int) < M := by omega
              go_wp2_with (fail)
              obtain ⟨q, hqd⟩ : ∃ q, s % G = q := ⟨_, rfl⟩
              have hq : q < G := by rw [← hqd]; exact Nat.mod_lt _ (by omega)
              have hq2 : (s + G) % G = q := by rw [Nat.add_mod_right]; exact hqd
              have hge := Pl.first_get (nodes := M) (n := K) hq
              have hln : (Pl.firstNodes M K q).length = K := Pl.firstNodes_length _ _ _
              obtain ⟨nd, hnd⟩ : ∃ nd, Pl.firstNodes M K q = nd := ⟨_, rfl⟩
              rw [hnd] at hge hln
              have HQ1 := Lib.hid hqd
              have HQ2 := Lib.hid hq2
              have HGE := Lib.hid hge
              have HLN := Lib.hid hln
              clear HCN HOU hM0 hquo hnd hqd hq2 hge hln
              refine (of_ok wr B G d _ s hp2 (by omega) (by omega) (by omega) (by rw [HQ1.out, HGE.out]; show nd.length ≤ _; have := HLN.out; omega)).mono ?_
              rintro r w5 ⟨v, rfl, hv⟩
              rw [HQ1.out, HGE.out] at hv ⊢
              obtain ⟨D1, f1, rfl, hI1⟩ := hv.is
              have hp5 := hp2.ext hv.ext
              have X5 := Lib.hid (XX.out.trans hv.ext)
              have hlk : ((1, nd) : Pl.P).2.length = K := HLN.out
              rw [hlk] at hI1 ⊢
              have hI1' : Is w5 D1 K f1 nd := hI1
              clear hv hI1 hp2 hlk
              go_wp2_with (fail)
              have x6 : Ext w5 (w5.alloc (.cells #[.int .i64 1, .slice D1 K f1] 33)) := Ext.alloc _ _
              have b1 : (w5.alloc (.cells #[.int .i64 1, .slice D1 K f1] 33)).cell? ⟨w5.heap.size, 0, none⟩ = some (.int .i64 1) := by rw [World.cell?_alloc_new]; rfl
              have b2 : (w5.alloc (.cells #[.int .i64 1, .slice D1 K f1] 33)).cell? ⟨w5.heap.size, 1, none⟩ = some (.slice D1 K f1) := by rw [World.cell?_alloc_new]; rfl
              generalize (w5.alloc (.cells #[.int .i64 1, .slice D1 K f1] 33)) = w6 at *
              generalize w5.heap.size = g1 at *
              have hI6 := hI1'.ext x6
              have hp6 := hp5.ext x6
              have X6 := Lib.hid (X5.out.trans x6)
              clear x6 hI1' hp5
              have esg : (s : Int) + (G : Int) = ((s + G : Nat) : Int) := by omega
              rw [esg]
              clear esg
              refine (of_ok w6 B G d _ (s + G) hp6 (by omega) (by omega) (by omega) (by rw [HQ2.out, HGE.out]; show nd.length ≤ _; have := HLN.out; omega)).mono ?_
              rintro r w7 ⟨v, rfl, hv⟩
              rw [HQ2.out, HGE.out] at hv ⊢
              obtain ⟨D2, f2, rfl, hI2⟩ := hv.is
              have hp7 := hp6.ext hv.ext
              have hI7 := hI6.ext hv.ext
              have b1 := hv.ext.cell b1
              have b2 := hv.ext.cell b2
              have X7 := Lib.hid (X6.out.trans hv.ext)
              have hlk : ((1, nd) : Pl.P).2.length = K := HLN.out
              rw [hlk] at hI2 ⊢
              have hI2' : Is w7 D2 K f2 nd := hI2
              clear hv hI2 hp6 hI6 hlk
              go_wp2_with (fail)
              have x8 : Ext w7 (w7.alloc (.cells #[.int .i64 1, .slice D2 K f2] 33)) := Ext.alloc _ _
              have b3 : (w7.alloc (.cells #[.int .i64 1, .slice D2 K f2] 33)).cell? ⟨w7.heap.size, 0, none⟩ = some (.int .i64 1) := by rw [World.cell?_alloc_new]; rfl
              have b4 : (w7.alloc (.cells #[.int .i64 1, .slice D2 K f2] 33)).cell? ⟨w7.heap.size, 1, none⟩ = some (.slice D2 K f2) := by rw [World.cell?_alloc_new]; rfl
              generalize (w7.alloc (.cells #[.int .i64 1, .slice D2 K f2] 33)) = w8 at *
              generalize w7.heap.size = g2 at *
              have hI8 := hI7.ext x8
              have hJ8 := hI2'.ext x8
              have b1 := x8.cell b1
              have b2 := x8.cell b2
              have hp8 := hp7.ext x8
              have X8 := Lib.hid (X7.out.trans x8)
              clear x8 hI7 hI2' hp7
              obtain ⟨b5, o5, A5, n5, c5, rfl, r5, r6, i5⟩ := hp8.rd q hq
              rw [HGE.out] at r5 i5
              simp only at r5 i5
              have hsp : ∀ (W : World) (ga gb : Nat), Ext w8 W → W.heap[ga]? = some (.cells #[.int .i64 1, .slice D1 K f1, .int .i64 1, .slice D1 K f1] 33 (0, 0)) → W.heap[gb]? = some (.cells #[.int .i64 1, .slice D2 K f2, .int .i64 1, .slice A5 n5 c5] 33 (0, 0)) →
                  Calls Try.prog 18 #[.slice (some ⟨ga, 0, none⟩) 2 2, .slice (some ⟨gb, 0, none⟩) 2 2] W fun r w' => r = .returned (.bool true) ∧ Dr W w' := by
                intro W ga gb hW h1 h2
                refine (samePlaces_any W _ _ 2 2 2 2 _ _ (ps_two h1 (hI8.ext hW) (hI8.ext hW)) (ps_two h2 (hJ8.ext hW) (i5.ext hW))).mono ?_
                rintro r w' ⟨rfl, hd⟩
                exact ⟨by rw [decide_eq_true rfl], hd⟩
              have hsp2 := hsp ((w8.alloc (.cells #[.int .i64 1, .slice D1 K f1, .int .i64 1, .slice D1 K f1] 33)).alloc (.cells #[.int .i64 1, .slice D2 K f2, .int .i64 1, .slice A5 n5 c5] 33)).drew w8.heap.size (w8.heap.size + 1) (((Ext.alloc w8 _).thenAlloc _).trans (Ext.drew _)) (heap_older w8 _ _) (heap_newer w8 _ _)
              have HSP := Lib.hid hsp2
              have hsp3 := hsp ((w8.alloc (.cells #[.int .i64 1, .slice D2 K f2, .int .i64 1, .slice A5 n5 c5] 33)).alloc (.cells #[.int .i64 1, .slice D1 K f1, .int .i64 1, .slice D1 K f1] 33)).drew (w8.heap.size + 1) w8.heap.size (((Ext.alloc w8 _).thenAlloc _).trans (Ext.drew _)) (heap_newer w8 _ _) (heap_older w8 _ _)
              have HSQ := Lib.hid hsp3
              have l1 : g1 < w8.heap.size := World.block_lt_of_cell? _ _ b1
              have l2 : g2 < w8.heap.size := World.block_lt_of_cell? _ _ b3
              have l3 : b5 < w8.heap.size := World.block_lt_of_cell? _ _ r5
              have HAW := Lib.hid (fun W => awake_any W)
              have ew : IntKind.i64.wrap (s : Int) = (s : Int) := IntWalk.i64_in _ (by omega)
              have et : (s : Int).tmod (G : Int) = (q : Int) := by rw [tmod_nat, HQ1.out]
              have q5 : (q : Int) < G := by omega
              have q6 : (0 : Int) ≤ (q : Int) := by omega
              have hG0 : ¬ G = 0 := by omega
              clear hsp hsp2 hsp3 hp8 hI8 hJ8 i5 q3
              go_region_held3 (fun w' => w'.cell? ⟨g1, 0, none⟩ = some (.int .i64 1) ∧ w'.cell? ⟨g1, 1, none⟩ = some (.slice D1 K f1) ∧ w'.cell? ⟨g2, 0, none⟩ = some (.int .i64 1) ∧ w'.cell? ⟨g2, 1, none⟩ = some (.slice D2 K f2) ∧
                  w'.cell? ⟨b5, o5 + q * 2, none⟩ = some (.int .i64 1) ∧ w'.cell? ⟨b5, o5 + q * 2 + 1, none⟩ = some (.slice A5 n5 c5))
                (first | go_keep | (refine ⟨x10.cell ?_, x10.cell ?_, x10.cell ?_, x10.cell ?_, x10.cell ?_, x10.cell ?_⟩ <;> go_keep)) (first | ((with_reducible refine HSP.out.mono ?_); rintro r w9 ⟨rfl, nq, rfl⟩) | ((with_reducible refine HSQ.out.mono ?_); rintro r w9 ⟨rfl, nq, rfl⟩) | ((with_reducible refine (HAW.out _).mono ?_); rintro r w10 ⟨rfl, x10⟩))
              all_goals
                go_wp2
                go_ret
                exact ⟨rfl, ((X8.out.trans (((Ext.alloc w8 _).thenAlloc _).trans (Ext.drewN _ _)))).trans x10⟩
end placeShares
end Go.Proofs.Ytkanlbkfbkkknaa
