/- Several texts in one: field.New: the tables. The contract of slices.Clone at bytes. The contracts of Lay, and of what clones and compares bytes. -/
import Derived.Test.YtfpglkacjecoeaaGreatCt7
import Derived.BigRegion
import Derived.Test.YtfpglkacjecoeaaGreatCt1
import Derived.Deep.RegionHeld3
namespace Go.Proofs.YtfpglkacjecoeaaGreat
open Go.RowKit

theorem wpList_val {P : Program} {ops : Array Oper} {Q : Exit → Act → World → Prop} {rest : List Oper} {o : Oper} {a : Act} {w w' : World} (hgd : o.guard = none) (v : Value)
    (hrun : (execOp a.eval o).run P w = .ok (.value v) w') (h : wpList P ops Q rest (a.put o.dst v) w') : wpList P ops Q (o :: rest) a w :=
  wpList_plain hgd fun _ hK => by unfold Oper.wp; rw [hrun]; exact hK _ _ h
theorem wpList_build {P : Program} {ops : Array Oper} {Q : Exit → Act → World → Prop} {rest : List Oper} {o : Oper} {a : Act} {w w' : World} (hgd : o.guard = none) (t : TypeId) (parts : Array (Nat × Operand)) (ho : o.op = .build t parts) (vs : Array (Nat × Value)) (hvs : (parts.map fun p => (p.1, a.eval p.2)) = vs) (v : Value)
    (hr : (Instr.build t vs).run P w = .ok v w') (h : wpList P ops Q rest (a.put o.dst v) w') : wpList P ops Q (o :: rest) a w :=
  wpList_val hgd v (by unfold execOp; simp only [ho, hvs, Sem.run_bind, hr, Result.andThen_ok, Sem.run_pure]) h

/-- The field's cells when k powers have been laid. -/
def fcell (k j : Nat) : Value :=
  if j = 0 then .bool true
  else if j < 511 then (if (j - 1) % 255 < k then .int .u8 ((Gf.gexp ((j - 1) % 255)).toNat : Int) else .int .u8 0)
  else if UInt8.ofNat (j - 511) ≠ 0 ∧ Gf.glog (UInt8.ofNat (j - 511)) < k then .int .i64 (Gf.glog (UInt8.ofNat (j - 511)) : Int) else .int .i64 0
def fcells (k : Nat) : Array Value := ((List.range 767).map (fcell k)).toArray
def fzero : Array Value := (.bool true :: (List.replicate 510 (.int .u8 0) ++ List.replicate 256 (.int .i64 0))).toArray
theorem fcell_lo (i : Nat) (h : i < 510) : fcell 0 (i + 1) = .int .u8 0 := by
  unfold fcell
  rw [if_neg (by omega), if_pos (by omega), if_neg (by omega)]
theorem fcell_hi (i : Nat) (h : ¬ i < 510) : fcell 0 (i + 1) = .int .i64 0 := by
  unfold fcell
  rw [if_neg (by omega), if_neg (by omega), if_neg (by omega)]
theorem fzero_eq : fzero = fcells 0 := by
  unfold fzero fcells
  refine congrArg List.toArray ?_
  have hl : (Value.bool true :: (List.replicate 510 (Value.int .u8 0) ++ List.replicate 256 (Value.int .i64 0))).length = 767 := by
    rw [List.length_cons, List.length_append, List.length_replicate, List.length_replicate]
  apply List.ext_getElem (by rw [hl, List.length_map, List.length_range])
  intro i h1 h2
  rw [List.getElem_map, List.getElem_range]
  cases i with
  | zero => rfl
  | succ i =>
    rw [List.getElem_cons_succ]
    generalize hA : List.replicate 510 (Value.int .u8 0) = A at *
    generalize hB : List.replicate 256 (Value.int .i64 0) = B at *
    have lA : A.length = 510 := by rw [← hA, List.length_replicate]
    rw [List.getElem_append]
    by_cases h : i < 510
    · rw [dif_pos (by rw [lA]; exact h), fcell_lo i h]
      subst hA
      rw [List.getElem_replicate]
    · rw [dif_neg (by rw [lA]; exact h), fcell_hi i h]
      subst hB
      rw [List.getElem_replicate]
theorem run_build_field (w : World) : (Instr.build 76 #[(0, .bool true)]).run Tryz.prog w = .ok (.agg fzero) w := by kernel_rfl
theorem fcells_get (k j : Nat) (h : j < 767) : (fcells k)[j]? = some (fcell k j) := by
  unfold fcells
  simp [h]
theorem fcells_size (k : Nat) : (fcells k).size = 767 := by simp [fcells]
theorem fcells_step (k : Nat) (hk : k < 255) :
    (((fcells k).setIfInBounds (1 + k) (.int .u8 ((Gf.gexp k).toNat : Int))).setIfInBounds (256 + k) (.int .u8 ((Gf.gexp k).toNat : Int))).setIfInBounds (511 + (Gf.gexp k).toNat) (.int .i64 (k : Int)) = fcells (k + 1) := by
  apply Array.ext (by simp [fcells_size])
  intro j h1 h2
  rw [fcells_size] at h2
  apply Option.some_inj.1
  rw [← Array.getElem?_eq_getElem, ← Array.getElem?_eq_getElem, fcells_get _ _ h2]
  have hlt := (Gf.gexp k).toNat_lt
  have hlg := Gf.glog_gexp k hk
  simp only [Array.getElem?_setIfInBounds, Array.size_setIfInBounds, fcells_size]
  by_cases e3 : 511 + (Gf.gexp k).toNat = j
  · subst e3
    have e : UInt8.ofNat (511 + (Gf.gexp k).toNat - 511) = Gf.gexp k := by rw [Nat.add_sub_cancel_left]; simp
    rw [if_pos rfl, if_pos h2]
    unfold fcell
    rw [if_neg (by omega), if_neg (by omega), e, hlg, if_pos ⟨Gf.gexp_ne k, by omega⟩]
  · rw [if_neg e3]
    by_cases e2 : 256 + k = j
    · subst e2
      rw [if_pos rfl, if_pos (by omega)]
      unfold fcell
      have e : (256 + k - 1) % 255 = k := by omega
      rw [if_neg (by omega), if_pos (by omega), e, if_pos (by omega)]
    · rw [if_neg e2]
      by_cases e1 : 1 + k = j
      · subst e1
        rw [if_pos rfl, if_pos (by omega)]
        unfold fcell
        have e : (1 + k - 1) % 255 = k := by omega
        rw [if_neg (by omega), if_pos (by omega), e, if_pos (by omega)]
      · rw [if_neg e1, fcells_get _ _ h2]
        unfold fcell
        by_cases c0 : j = 0
        · rw [if_pos c0, if_pos c0]
        · rw [if_neg c0, if_neg c0]
          by_cases c1 : j < 511
          · rw [if_pos c1, if_pos c1]
            have : ((j - 1) % 255 < k) = ((j - 1) % 255 < k + 1) := by
              apply propext; constructor <;> intro _ <;> omega
            simp only [this]
          · rw [if_neg c1, if_neg c1]
            have : (UInt8.ofNat (j - 511) ≠ 0 ∧ Gf.glog (UInt8.ofNat (j - 511)) < k) = (UInt8.ofNat (j - 511) ≠ 0 ∧ Gf.glog (UInt8.ofNat (j - 511)) < k + 1) := by
              apply propext
              constructor
              · rintro ⟨h, h'⟩; exact ⟨h, by omega⟩
              · rintro ⟨h, h'⟩
                refine ⟨h, ?_⟩
                by_cases he : Gf.glog (UInt8.ofNat (j - 511)) = k
                · have h3 := (Gf.gexp_glog _ h).1
                  rw [he] at h3
                  have h4 : (Gf.gexp k).toNat = j - 511 := by
                    rw [h3, UInt8.toNat_ofNat']; omega
                  omega
                · omega
            simp only [this]

/-- The world when k powers have been laid. -/
structure NewAt (w wr : World) (k : Nat) : Prop where
  below : Ext w wr
  block : wr.heap[w.heap.size]? = some (.cells (fcells k) 76 (0, 0))
theorem NewAt.field {w wr : World} (h : NewAt w wr 255) : FieldAt wr w.heap.size := by
  have hc : ∀ j, j < 767 → wr.cell? ⟨w.heap.size, j, none⟩ = some (fcell 255 j) := fun j hj => by
    rw [cell_of_row wr _ j _ _ _ h.block, fcells_get _ _ hj]
  refine ⟨hc 0 (by omega), fun i hi => ?_, fun x => ?_⟩
  · rw [hc (1 + i) (by omega)]
    unfold fcell
    rw [if_neg (by omega), if_pos (by omega), if_pos (Nat.mod_lt _ (by omega)), Nat.add_sub_cancel_left, Gf.gexp_mod]
  · have := x.toNat_lt
    rw [hc (511 + x.toNat) (by omega)]
    unfold fcell
    rw [if_neg (by omega), if_neg (by omega), Nat.add_sub_cancel_left, UInt8.ofNat_toNat]
    by_cases hx : x = 0
    · subst hx; rfl
    · rw [if_pos ⟨hx, Gf.glog_lt x⟩]

theorem NewAt.start (w : World) : NewAt w (w.alloc (.cells fzero 76)) 0 :=
  ⟨Ext.alloc _ _, by rw [fzero_eq]; exact heap_alloc_new w _⟩
theorem NewAt.step {w wr : World} {k : Nat} (h : NewAt w wr k) (hk : k < 255) :
    NewAt w (((wr.setCell ⟨w.heap.size, 1 + k, none⟩ (.int .u8 ((Gf.gexp k).toNat : Int))).setCell ⟨w.heap.size, 1 + (k + 255), none⟩ (.int .u8 ((Gf.gexp k).toNat : Int))).setCell
      ⟨w.heap.size, 511 + (Gf.gexp k).toNat, none⟩ (.int .i64 (k : Int))).drew (k + 1) := by
  refine ⟨((((h.below.setCell (by exact Nat.le_refl _) _).setCell (by exact Nat.le_refl _) _).setCell (by exact Nat.le_refl _) _).drew), ?_⟩
  have h1 := heap_setCell_same wr w.heap.size (1 + k) _ _ (.int .u8 ((Gf.gexp k).toNat : Int)) h.block
  have h2 := heap_setCell_same _ w.heap.size (1 + (k + 255)) _ _ (.int .u8 ((Gf.gexp k).toNat : Int)) h1
  have h3 := heap_setCell_same _ w.heap.size (511 + (Gf.gexp k).toNat) _ _ (.int .i64 (k : Int)) h2
  rw [show 1 + (k + 255) = 256 + k by omega] at h3 ⊢
  rw [fcells_step k hk] at h3
  exact h3
theorem xt_high (x : UInt8) (h : 255 < (x.toNat : Int) * 2) : bits .xor .i64 ((x.toNat : Int) * 2) 285 = ((Gf.xt x).toNat : Int) := by
  have hc : (List.range 256).all (fun i => decide (i * 2 ≤ 255) || decide ((i * 2) ^^^ 285 = (Gf.xt (UInt8.ofNat i)).toNat)) = true := by decide +kernel
  have h1 := List.all_eq_true.1 hc x.toNat (List.mem_range.2 x.toNat_lt)
  simp only [UInt8.ofNat_toNat, Bool.or_eq_true, decide_eq_true_eq] at h1
  have hx := x.toNat_lt
  rcases h1 with h1 | h1
  · omega
  · have := xor_i64 (x.toNat * 2) 285 (by omega) (by omega)
    rw [h1] at this
    simpa using this
theorem xt_low (x : UInt8) (h : (x.toNat : Int) * 2 ≤ 255) : (x.toNat : Int) * 2 = ((Gf.xt x).toNat : Int) := by
  have hc : (List.range 256).all (fun i => decide (255 < i * 2) || decide (i * 2 = (Gf.xt (UInt8.ofNat i)).toNat)) = true := by decide +kernel
  have h1 := List.all_eq_true.1 hc x.toNat (List.mem_range.2 x.toNat_lt)
  simp only [UInt8.ofNat_toNat, Bool.or_eq_true, decide_eq_true_eq] at h1
  rcases h1 with h1 | h1 <;> omega

set_option maxRecDepth 100000 in
theorem new_any (w : World) :
    Calls Tryz.prog 10 #[] w fun e w' => e = .returned (fptr w.heap.size) ∧ FieldAt w' w.heap.size ∧ Ext w w' := by
  go_enter Tryz.func10, Tryz.ntmps10
  go_wp2_with (
    refine wpList_build (o := ⟨some 4, .build 76 #[(0, .const (.bool true))], _, _, _, _⟩) rfl 76 #[(0, .const (.bool true))] rfl #[(0, .bool true)] ?_ (.agg fzero) (run_build_field _) ?_
    · simp [Act.eval])
  go_loopw [2, 6] (fun x i wr => ∃ k : Nat, k ≤ 255 ∧ i = .int .i64 k ∧ x = .int .i64 ((Gf.gexp k).toNat : Int) ∧ NewAt w wr k) (fun _ i _ => 255 - (intOf i).toNat)
  case atStart => exact ⟨0, by omega, rfl, rfl, NewAt.start w⟩
  case round =>
    obtain ⟨k, hk, rfl, rfl, hn⟩ := hrel
    by_cases hlt : k < 255
    · have hlz : (k : Int) < 255 := by omega
      have hx := (Gf.gexp k).toNat_lt
      have hc : ∀ j, j < 767 → wr.cell? ⟨w.heap.size, j, none⟩ = some (fcell k j) := fun j hj => by
        rw [cell_of_row wr _ j _ _ _ hn.block, fcells_get _ _ hj]
      have hfz : ∀ j, wr.frozen? ⟨w.heap.size, j, none⟩ = false := fun j => frozen_of_row wr _ j _ _ hn.block
      have s1 := hc (1 + k) (by omega)
      have s2 := hc (1 + (k + 255)) (by omega)
      have s3 := hc (511 + (Gf.gexp k).toNat) (by omega)
      have z1 := hfz (1 + k)
      have z2 := hfz (1 + (k + 255))
      have z3 := hfz (511 + (Gf.gexp k).toNat)
      have j1 : (k : Int) + 255 < 510 := by omega
      have j2 : (k : Int) < 510 := by omega
      have H := Lib.hid hn
      clear hc hfz hn
      go_wp2
      go_region
      go_wp2
      · have hgt : 255 < ((Gf.gexp k).toNat : Int) * 2 := by assumption
        refine ⟨⟨k + 1, by omega, by go_num, ?_, H.out.step hlt⟩, by simp [intOf]; omega⟩
        rw [xt_high _ hgt, Gf.gexp_succ]
      · have hle : ((Gf.gexp k).toNat : Int) * 2 ≤ 255 := by assumption
        refine ⟨⟨k + 1, by omega, by go_num, ?_, H.out.step hlt⟩, by simp [intOf]; omega⟩
        rw [xt_low _ hle, Gf.gexp_succ]
    · have hlz : ¬ (k : Int) < 255 := by omega
      go_wp2
      go_ret
      obtain rfl : k = 255 := by omega
      exact ⟨rfl, hn.field, hn.below⟩
end Go.Proofs.YtfpglkacjecoeaaGreat
namespace Go.Proofs.YtfpglkacjecoeaaGreat
open Go.RowKit

theorem u8_info : (Tryz.prog.info? 5).map (fun i => (i.zero, i.size, i.bytes)) = some (some (.int .u8 0), 1, 1) := by kernel_rfl

/-- A list of bytes handed back in memory of the call's own. -/
structure NewBytes (w w' : World) (v : Value) (l : List UInt8) : Prop where
  own : w'.ownsRow w.heap.size 5 1 v l.length (bcells l)
  ext : Ext w w'
theorem NewBytes.bs {w w' : World} {v : Value} {l : List UInt8} (h : NewBytes w w' v l) : ∃ A c, v = .slice A l.length c ∧ Bs w' A l.length c l := by
  obtain ⟨A, c, rfl, _, _⟩ := ownsRow_slice h.own
  exact ⟨A, c, rfl, (Own.mk (base := w.heap.size) (e := 5) h.own).bs⟩

theorem clone_none (w : World) (n c : Nat) :
    Calls Tryz.prog 38 #[.slice none n c] w fun e w' => e = .returned (.slice none 0 0) ∧ w = w' := by
  have hnil := fun wx => Lib.run_eql_slice_nil (P := Tryz.prog) wx 46 5 none n c 0 0 Tryz.underlying46
  go_enter Tryz.func38, Tryz.ntmps38
  go_wp2
  go_ret
  exact ⟨rfl, rfl⟩
theorem clone_some (w : World) (ad : Addr) (n c : Nat) (l : List UInt8) (hl : Bs w (some ad) n c l) (hn : n ≤ 140737488355328) :
    Calls Tryz.prog 38 #[.slice (some ad) n c] w fun e w' => ∃ v, e = .returned v ∧ NewBytes w w' v l := by
  obtain ⟨i0, hi0, hz0, hz1, hz2⟩ := info_parts u8_info
  have hm := hl.max
  have hle := hl.le
  have hnil : ∀ wx, (binOp .eql 46 (.slice (some ad) n c) (.slice none 0 0)).run Tryz.prog wx = .ok (.bool false) wx := fun wx => Lib.run_eql_slice_nil (P := Tryz.prog) wx 46 5 (some ad) n c 0 0 Tryz.underlying46
  go_enter Tryz.func38, Tryz.ntmps38
  go_wp2_with (
    at_builtin
    refine wpList_append_rd _ rfl (.tmp 5) (.tmp 6) 46 rfl w.heap.size 5 i0 _ 1 1 Tryz.underlying46 hi0 hz0 hz1 hz2 rfl (by omega) (.slice (some ⟨w.heap.size, 0, none⟩) 0 0) 0 [] rfl
      (World.ownsRow_lit w #[] 0 (Nat.le_refl _) (by unfold maxLen; omega) rfl) (some ad) n c (bcells l) rfl (hl.rd.ext (Ext.alloc _ _)) (bcells_one l) (by omega) (by unfold maxLen; omega) (by simp) ?_
    intro v1 w1 hown hg hat)
  go_ret
  refine ⟨v1, rfl, ?_, ?_⟩
  · rw [hl.len]; simpa using hown
  · exact (Ext.alloc w _).ofGrown hg (by simp [Value.ownBlock])
theorem clone_any (w : World) (A : Option Addr) (n c : Nat) (l : List UInt8) (hl : Bs w A n c l) (hn : n ≤ 140737488355328) :
    Calls Tryz.prog 38 #[.slice A n c] w fun e w' => ∃ v, e = .returned v ∧ NewBytes w w' v l := by
  rcases A with _ | ad
  · refine (clone_none w n c).mono ?_
    rintro e w' ⟨rfl, rfl⟩
    have h0 : l = [] := by
      rcases Nat.eq_zero_or_pos n with h0 | h0
      · exact List.eq_nil_of_length_eq_zero (by rw [hl.len]; exact h0)
      · obtain ⟨b, off, h, _⟩ := hl.rd.2 h0
        cases h
    subst h0
    exact ⟨_, rfl, World.ownsRow_nil _ _ _ _, Ext.refl w⟩
  · exact clone_some w ad n c l hl hn
end Go.Proofs.YtfpglkacjecoeaaGreat
namespace Go.Proofs.YtfpglkacjecoeaaGreat
open Go.RowKit

theorem copyBytes_any (w : World) (A : Option Addr) (n c : Nat) (l : List UInt8) (hl : Bs w A n c l) (hn : n ≤ 140737488355328) :
    Calls Tryz.prog 36 #[.slice A n c] w fun e w' => ∃ v, e = .returned v ∧ NewBytes w w' v l := by
  obtain ⟨i0, hi0, hz0, hz1, hz2⟩ := info_parts u8_info
  have hm := hl.max
  have hle := hl.le
  go_enter Tryz.func36, Tryz.ntmps36
  go_wp2_with (
    at_builtin
    refine wpList_append_rd _ rfl (.tmp 4) (.tmp 5) 46 rfl w.heap.size 5 i0 _ 1 1 Tryz.underlying46 hi0 hz0 hz1 hz2 rfl (by omega) (.slice none 0 0) 0 [] rfl (World.ownsRow_nil _ _ _ _) A n c (bcells l) rfl hl.rd (bcells_one l) (by omega) (by unfold maxLen; omega) (Nat.le_refl _) ?_
    intro v1 w1 hown hg hat)
  go_ret
  refine ⟨v1, rfl, ?_, ?_⟩
  · rw [hl.len]; simpa using hown
  · exact (Ext.refl w).ofGrown hg (by simp [Value.ownBlock])

theorem sameBytes_any (w : World) (A A' : Option Addr) (n c m c' : Nat) (x y : List UInt8) (hx : Bs w A n c x) (hy : Bs w A' m c' y) :
    Calls Tryz.prog 50 #[.slice A n c, .slice A' m c'] w fun e w' => e = .returned (.bool (x == y)) ∧ w = w' := by
  have h1 := run_text (P := Tryz.prog) w 46 9 5 Tryz.underlying46 Tryz.underlying5 Tryz.underlying9 A n c x hx
  have h2 := run_text (P := Tryz.prog) w 46 9 5 Tryz.underlying46 Tryz.underlying5 Tryz.underlying9 A' m c' y hy
  go_enter Tryz.func50, Tryz.ntmps50
  go_wp2
  go_ret
  exact ⟨ret_bool (text_eq x y), rfl⟩

theorem bcells_set (l : List UInt8) (k : Nat) (x : UInt8) : bcells (l.set k x) = (bcells l).set k (.int .u8 (x.toNat : Int)) := by simp [bcells, List.map_set]
theorem bcells_get {l : List UInt8} {k : Nat} (h : k < l.length) : (bcells l)[k]? = some (.int .u8 ((Gf.get l k).toNat : Int)) := by simp [bcells, Gf.get, h]

set_option maxHeartbeats 2000000 in
theorem lay_any (b : Nat) (w : World) (A A' : Option Addr) (n c m c' : Nat) (out x : List UInt8) (f : UInt8) (hf : FieldAt w b) (ho : Bs w A n c out) (hx : Bs w A' m c' x) (hn : n ≤ 140737488355328) :
    Calls Tryz.prog 89 #[.pointer (some ⟨b, 0, none⟩), .slice A n c, .int .u8 (f.toNat : Int), .slice A' m c'] w fun e w' => ∃ v, e = .returned v ∧ NewBytes w w' v (Gf.lay out f x) := by
  have h0 := hf.made
  have hm1 := ho.max
  have hm2 := ho.le
  have hm3 := hx.max
  have hm4 := hx.le
  have L1 := Lib.hid ho.len
  have L2 := Lib.hid hx.len
  go_enter Tryz.func89, Tryz.ntmps89
  go_wp2_with (first
    | (go_at_call 51; refine (is_yes _ _ h0).mono ?_; rintro e w' ⟨rfl, rfl⟩)
    | (go_at_call 38; refine (clone_any _ A n c out ho hn).mono ?_; rintro e w1 ⟨v, rfl, hv⟩; have hown := hv.own; rw [L1.out] at hown; obtain ⟨A1, c1, rfl, q1, q2⟩ := ownsRow_slice hown))
  all_goals
    go_loopw [20] (fun i wr => ∃ k : Nat, k ≤ n ∧ k ≤ m ∧ i = .int .i64 k ∧ wr.ownsRow w.heap.size 5 1 (.slice A1 n c1) n (bcells (Gf.layTo out f x k)) ∧ Ext w wr) (fun i _ => n - (intOf i).toNat)
    case atStart => exact ⟨0, by omega, by omega, rfl, by rw [Gf.layTo_zero]; exact hown, hv.ext⟩
    case round =>
      obtain ⟨k, hk1, hk2, rfl, hw, hd⟩ := hrel
      clear hown hv
      by_cases hlt : k < n ∧ k < m
      · obtain ⟨hlt1, hlt2⟩ := hlt
        obtain ⟨g, rfl, hg1, hg2⟩ := own_addr hw (by omega)
        obtain ⟨b2, o2, rfl, hc2⟩ := (hx.ext hd).rd.byte hlt2
        have hll : k < (Gf.layTo out f x k).length := by rw [Gf.layTo_length, L1.out]; exact hlt1
        have hc1 : wr.cell? ⟨g, k, none⟩ = some (.int .u8 ((Gf.get out k).toNat : Int)) := by
          rw [hw.cellAt k (by omega), bcells_get hll, Gf.layTo_get _ _ _ (by rw [L1.out]; exact hlt1) (Nat.le_refl _)]
        have hz1 : wr.frozen? ⟨g, k, none⟩ = false := hw.frozenAt k
        have i1 : (k : Int) < n := by omega
        have i2 : (k : Int) < m := by omega
        have hf1 := hf.ext hd
        clear h0
        go_wp2
        go_region_with ((go_at_call 106; refine (mul_any b _ f (Gf.get x k) (hf1.ext (Ext.drewN _ 1))).mono ?_; rintro e w' ⟨rfl, q, rfl⟩))
        all_goals
          go_wp2
          refine ⟨⟨k + 1, by omega, by omega, by go_num, ?_, ?_⟩, by simp [intOf]; omega⟩
          · rw [xor_u8, Gf.layTo_step _ _ _ (by rw [L1.out]; exact hlt1) (by rw [L2.out]; exact hlt2), bcells_set]
            exact ((ownsRow_ext hw (Ext.drewN _ _)).stored k _).1
          · exact Below.setCell (hd.thenDrewN _) hg1 _
      · go_wp2
        go_ret
        refine ⟨_, rfl, ?_, hd⟩
        rw [Gf.lay_length, L1.out, ← Gf.layTo_full (k := k) out f x (by rw [L1.out, L2.out]; omega)]
        exact hw
end Go.Proofs.YtfpglkacjecoeaaGreat
