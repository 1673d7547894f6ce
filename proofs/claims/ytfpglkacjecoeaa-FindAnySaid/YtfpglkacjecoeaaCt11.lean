/- Several texts in one: The contracts of package field's methods on a field that New made: each says what the call answers, and that the world is as it was but for draws. field.New: the tables. -/
import Derived.Test.YtfpglkacjecoeaaCt1
import Derived.BigRegion
namespace Go.Proofs.Ytfpglkacjecoeaa
open Go.RowKit

/-- Block b holds a field. -/
structure FieldAt (w : World) (b : Nat) : Prop where
  made : w.cell? ⟨b, 0, none⟩ = some (.bool true)
  exp : ∀ i : Nat, i < 510 → w.cell? ⟨b, 1 + i, none⟩ = some (.int .u8 ((Gf.gexp i).toNat : Int))
  log : ∀ x : UInt8, w.cell? ⟨b, 511 + x.toNat, none⟩ = some (.int .i64 (Gf.glog x : Int))
theorem FieldAt.ext {w w' : World} {b : Nat} (h : FieldAt w b) (hx : Ext w w') : FieldAt w' b :=
  ⟨hx.cell h.made, fun i hi => hx.cell (h.exp i hi), fun x => hx.cell (h.log x)⟩

abbrev fptr (b : Nat) : Value := .pointer (some ⟨b, 0, none⟩)

theorem is_yes (b : Nat) (w : World) (h : w.cell? ⟨b, 0, none⟩ = some (.bool true)) :
    Calls Try.prog 50 #[.pointer (some ⟨b, 0, none⟩)] w fun e w' => e = .returned (.bool true) ∧ w = w' := by
  go_enter Try.func50, Try.ntmps50
  go_wp2
  go_ret
  exact ⟨rfl, rfl⟩

theorem add_any (b : Nat) (w : World) (x y : UInt8) (hf : FieldAt w b) :
    Calls Try.prog 39 #[.pointer (some ⟨b, 0, none⟩), .int .u8 (x.toNat : Int), .int .u8 (y.toNat : Int)] w fun e w' => e = .returned (.int .u8 ((Gf.add x y).toNat : Int)) ∧ w = w' := by
  have h := hf.made
  clear hf
  go_enter Try.func39, Try.ntmps39
  go_wp2_with (go_at_call 50; refine (is_yes _ _ h).mono ?_; rintro e w' ⟨rfl, rfl⟩)
  go_ret
  exact ⟨ret_int (xor_u8 x y), rfl⟩

theorem mul_zero_left (b : Nat) (w : World) (x y : UInt8) (hf : FieldAt w b) (hx : x = 0) :
    Calls Try.prog 91 #[.pointer (some ⟨b, 0, none⟩), .int .u8 (x.toNat : Int), .int .u8 (y.toNat : Int)] w fun e w' => e = .returned (.int .u8 0) ∧ w = w' := by
  have h := hf.made
  have e1 := u8_zero x hx
  clear hf hx
  go_enter Try.func91, Try.ntmps91
  go_wp2_with (go_at_call 50; refine (is_yes _ _ h).mono ?_; rintro e w' ⟨rfl, rfl⟩)
  go_ret
  exact ⟨rfl, rfl⟩
theorem mul_zero_right (b : Nat) (w : World) (x y : UInt8) (hf : FieldAt w b) (hx : x ≠ 0) (hy : y = 0) :
    Calls Try.prog 91 #[.pointer (some ⟨b, 0, none⟩), .int .u8 (x.toNat : Int), .int .u8 (y.toNat : Int)] w fun e w' => e = .returned (.int .u8 0) ∧ w = w' := by
  have h := hf.made
  have e1 := u8_nonzero x hx
  have e2 := u8_zero y hy
  clear hf hx hy
  go_enter Try.func91, Try.ntmps91
  go_wp2_with (go_at_call 50; refine (is_yes _ _ h).mono ?_; rintro e w' ⟨rfl, rfl⟩)
  go_ret
  exact ⟨rfl, rfl⟩
set_option maxRecDepth 100000 in
theorem mul_nz (b : Nat) (w : World) (x y : UInt8) (hf : FieldAt w b) (hx : x ≠ 0) (hy : y ≠ 0) :
    Calls Try.prog 91 #[.pointer (some ⟨b, 0, none⟩), .int .u8 (x.toNat : Int), .int .u8 (y.toNat : Int)] w fun e w' => e = .returned (.int .u8 ((Gf.gexp (Gf.glog x + Gf.glog y)).toNat : Int)) ∧ ∃ n, w' = w.drewN n := by
  have b1 := Gf.glog_lt x
  have b2 := Gf.glog_lt y
  have h0 := hf.made
  have h1 := hf.log x
  have h2 := hf.log y
  have h3 := hf.exp (Gf.glog x + Gf.glog y) (by omega)
  have e1 := u8_nonzero x hx
  have e2 := u8_nonzero y hy
  have i1 := u8_int_lt x
  have i2 := u8_int_lt y
  have i3 : (Gf.glog x : Int) + (Gf.glog y : Int) < 510 := by omega
  clear hf hx hy
  go_enter Try.func91, Try.ntmps91
  go_wp2_with (go_at_call 50; refine (is_yes _ _ h0).mono ?_; rintro e w' ⟨rfl, rfl⟩)
  go_quiet (fail)
  go_wp2
  go_ret
  exact ⟨rfl, _, rfl⟩
theorem mul_any (b : Nat) (w : World) (x y : UInt8) (hf : FieldAt w b) :
    Calls Try.prog 91 #[.pointer (some ⟨b, 0, none⟩), .int .u8 (x.toNat : Int), .int .u8 (y.toNat : Int)] w fun e w' => e = .returned (.int .u8 ((Gf.mul x y).toNat : Int)) ∧ ∃ n, w' = w.drewN n := by
  by_cases hx : x = 0
  · refine (mul_zero_left b w x y hf hx).mono ?_
    rintro e w' ⟨rfl, rfl⟩
    subst hx
    exact ⟨by rw [Gf.zero_mul]; rfl, 0, rfl⟩
  · by_cases hy : y = 0
    · refine (mul_zero_right b w x y hf hx hy).mono ?_
      rintro e w' ⟨rfl, rfl⟩
      subst hy
      exact ⟨by rw [Gf.mul_zero]; rfl, 0, rfl⟩
    · refine (mul_nz b w x y hf hx hy).mono ?_
      rintro e w' ⟨rfl, hn⟩
      exact ⟨by rw [Gf.mul_log hx hy], hn⟩

theorem div_by_zero (b : Nat) (w : World) (x y : UInt8) (hf : FieldAt w b) (hy : y = 0) :
    Calls Try.prog 71 #[.pointer (some ⟨b, 0, none⟩), .int .u8 (x.toNat : Int), .int .u8 (y.toNat : Int)] w fun e w' => e = .returned (.tuple #[.int .u8 0, .int .i64 20]) ∧ w = w' := by
  have h0 := hf.made
  have e1 := u8_zero y hy
  clear hf hy
  go_enter Try.func71, Try.ntmps71
  go_wp2_with (go_at_call 50; refine (is_yes _ _ h0).mono ?_; rintro e w' ⟨rfl, rfl⟩)
  go_ret2
  exact ⟨rfl, rfl⟩
theorem div_zero (b : Nat) (w : World) (x y : UInt8) (hf : FieldAt w b) (hy : y ≠ 0) (hx : x = 0) :
    Calls Try.prog 71 #[.pointer (some ⟨b, 0, none⟩), .int .u8 (x.toNat : Int), .int .u8 (y.toNat : Int)] w fun e w' => e = .returned (.tuple #[.int .u8 0, .int .i64 0]) ∧ w = w' := by
  have h0 := hf.made
  have e1 := u8_nonzero y hy
  have e2 := u8_zero x hx
  clear hf hx hy
  go_enter Try.func71, Try.ntmps71
  go_wp2_with (go_at_call 50; refine (is_yes _ _ h0).mono ?_; rintro e w' ⟨rfl, rfl⟩)
  go_ret2
  exact ⟨rfl, rfl⟩
set_option maxRecDepth 100000 in
theorem div_nz (b : Nat) (w : World) (x y : UInt8) (hf : FieldAt w b) (hx : x ≠ 0) (hy : y ≠ 0) :
    Calls Try.prog 71 #[.pointer (some ⟨b, 0, none⟩), .int .u8 (x.toNat : Int), .int .u8 (y.toNat : Int)] w fun e w' => e = .returned (.tuple #[.int .u8 ((Gf.gexp (Gf.glog x + 255 - Gf.glog y)).toNat : Int), .int .i64 0]) ∧ ∃ n, w' = w.drewN n := by
  have b1 := Gf.glog_lt x
  have b2 := Gf.glog_lt y
  have h0 := hf.made
  have h1 := hf.log x
  have h2 := hf.log y
  have h3 := hf.exp (Gf.glog x + 255 - Gf.glog y) (by omega)
  have e1 := u8_nonzero x hx
  have e2 := u8_nonzero y hy
  have i1 := u8_int_lt x
  have i2 := u8_int_lt y
  have i3 : (Gf.glog x : Int) + 255 - (Gf.glog y : Int) < 510 := by omega
  have i4 : 0 ≤ (Gf.glog x : Int) + 255 - (Gf.glog y : Int) := by omega
  have i5 : ((Gf.glog x : Int) + 255 - (Gf.glog y : Int)).toNat = Gf.glog x + 255 - Gf.glog y := by omega
  clear hf hx hy
  go_enter Try.func71, Try.ntmps71
  go_wp2_with (go_at_call 50; refine (is_yes _ _ h0).mono ?_; rintro e w' ⟨rfl, rfl⟩)
  go_quiet (fail)
  go_wp2
  go_ret2
  exact ⟨rfl, _, rfl⟩
theorem div_any (b : Nat) (w : World) (x y : UInt8) (hf : FieldAt w b) :
    Calls Try.prog 71 #[.pointer (some ⟨b, 0, none⟩), .int .u8 (x.toNat : Int), .int .u8 (y.toNat : Int)] w fun e w' => e = .returned (.tuple #[.int .u8 ((Gf.divQ x y).toNat : Int), .int .i64 (Gf.divE y)]) ∧ ∃ n, w' = w.drewN n := by
  by_cases hy : y = 0
  · refine (div_by_zero b w x y hf hy).mono ?_
    rintro e w' ⟨rfl, rfl⟩
    refine ⟨?_, 0, rfl⟩
    unfold Gf.divQ Gf.divE
    rw [if_pos hy, if_pos hy]; rfl
  · by_cases hx : x = 0
    · refine (div_zero b w x y hf hy hx).mono ?_
      rintro e w' ⟨rfl, rfl⟩
      refine ⟨?_, 0, rfl⟩
      unfold Gf.divQ Gf.divE Gf.div
      rw [if_neg hy, if_neg hy, hx, Gf.zero_mul]; rfl
    · refine (div_nz b w x y hf hx hy).mono ?_
      rintro e w' ⟨rfl, hn⟩
      refine ⟨?_, hn⟩
      unfold Gf.divQ Gf.divE
      rw [if_neg hy, if_neg hy, Gf.div_log hx hy]

theorem inv_any (b : Nat) (w : World) (x : UInt8) (hf : FieldAt w b) :
    Calls Try.prog 53 #[.pointer (some ⟨b, 0, none⟩), .int .u8 (x.toNat : Int)] w fun e w' => e = .returned (.tuple #[.int .u8 ((Gf.divQ 1 x).toNat : Int), .int .i64 (Gf.divE x)]) ∧ ∃ n, w' = w.drewN n := by
  go_enter Try.func53, Try.ntmps53
  go_wp2_with (go_at_call 71; refine (div_any b _ 1 x hf).mono ?_; rintro e w' ⟨rfl, hn⟩)
  go_ret2
  exact ⟨rfl, hn⟩
end Go.Proofs.Ytfpglkacjecoeaa
namespace Go.Proofs.Ytfpglkacjecoeaa
open Go.RowKit

theorem wpList_val {P : Program} {ops : Array Oper} {Q : Exit → Act → World → Prop} {rest : List Oper} {o : Oper} {a : Act} {w w' : World} (hgd : o.guard = none) (v : Value)
    (hrun : (execOp a.eval o).run P w = .ok (.value v) w') (h : wpList P ops Q rest (a.put o.dst v) w') : wpList P ops Q (o :: rest) a w :=
  wpList_plain hgd fun _ hK => by unfold Oper.wp; rw [hrun]; exact hK _ _ h
theorem wpList_build {P : Program} {ops : Array Oper} {Q : Exit → Act → World → Prop} {rest : List Oper} {o : Oper} {a : Act} {w w' : World} (hgd : o.guard = none) (t : TypeId) (parts : Array (Nat × Operand)) (ho : o.op = .build t parts) (vs : Array (Nat × Value)) (hvs : (parts.map fun p => (p.1, a.eval p.2)) = vs) (v : Value)
    (hr : (Instr.build t vs).run P w = .ok v w') (h : wpList P ops Q rest (a.put o.dst v) w') : wpList P ops Q (o :: rest) a w :=
  wpList_val hgd v (by unfold execOp; simp only [ho, hvs, Sem.run_bind, hr, Result.andThen_ok, Sem.run_pure]) h

/-- The field's cells when k powers have been laid. -/
def fcell (k j : Nat) : Value :=
  if j = 0 then .bool true
  else if j < 511 then (if (j - 1) % 255 < k then .int .u8 ((Gf.gexp ((j - 1) % 255)).toNat : Int) else .int .u8 0)
  else if UInt8.ofNat (j - 511) ≠ 0 ∧ Gf.glog (UInt8.ofNat (j - 511)) < k then .int .i64 (Gf.glog (UInt8.ofNat (j - 511)) : Int) else .int .i64 0
def fcells (k : Nat) : Array Value := ((List.range 767).map (fcell k)).toArray
def fzero : Array Value := (.bool true :: (List.replicate 510 (.int .u8 0) ++ List.replicate 256 (.int .i64 0))).toArray
theorem fcell_lo (i : Nat) (h : i < 510) : fcell 0 (i + 1) = .int .u8 0 := by
  unfold fcell
  rw [if_neg (by omega), if_pos (by omega), if_neg (by omega)]
theorem fcell_hi (i : Nat) (h : ¬ i < 510) : fcell 0 (i + 1) = .int .i64 0 := by
  unfold fcell
  rw [if_neg (by omega), if_neg (by omega), if_neg (by omega)]
theorem fzero_eq : fzero = fcells 0 := by
  unfold fzero fcells
  refine congrArg List.toArray ?_
  have hl : (Value.bool true :: (List.replicate 510 (Value.int .u8 0) ++ List.replicate 256 (Value.int .i64 0))).length = 767 := by
    rw [List.length_cons, List.length_append, List.length_replicate, List.length_replicate]
  apply List.ext_getElem (by rw [hl, List.length_map, List.length_range])
  intro i h1 h2
  rw [List.getElem_map, List.getElem_range]
  cases i with
  | zero => rfl
  | succ i =>
    rw [List.getElem_cons_succ]
    generalize hA : List.replicate 510 (Value.int .u8 0) = A at *
    generalize hB : List.replicate 256 (Value.int .i64 0) = B at *
    have lA : A.length = 510 := by rw [← hA, List.length_replicate]
    rw [List.getElem_append]
    by_cases h : i < 510
    · rw [dif_pos (by rw [lA]; exact h), fcell_lo i h]
      subst hA
      rw [List.getElem_replicate]
    · rw [dif_neg (by rw [lA]; exact h), fcell_hi i h]
      subst hB
      rw [List.getElem_replicate]
theorem run_build_field (w : World) : (Instr.build 89 #[(0, .bool true)]).run Try.prog w = .ok (.agg fzero) w := by kernel_rfl
theorem fcells_get (k j : Nat) (h : j < 767) : (fcells k)[j]? = some (fcell k j) := by
  unfold fcells
  simp [h]
theorem fcells_size (k : Nat) : (fcells k).size = 767 := by simp [fcells]
theorem fcells_step (k : Nat) (hk : k < 255) :
    (((fcells k).setIfInBounds (1 + k) (.int .u8 ((Gf.gexp k).toNat : Int))).setIfInBounds (256 + k) (.int .u8 ((Gf.gexp k).toNat : Int))).setIfInBounds (511 + (Gf.gexp k).toNat) (.int .i64 (k : Int)) = fcells (k + 1) := by
  apply Array.ext (by simp [fcells_size])
  intro j h1 h2
  rw [fcells_size] at h2
  apply Option.some_inj.1
  rw [← Array.getElem?_eq_getElem, ← Array.getElem?_eq_getElem, fcells_get _ _ h2]
  have hlt := (Gf.gexp k).toNat_lt
  have hlg := Gf.glog_gexp k hk
  simp only [Array.getElem?_setIfInBounds, Array.size_setIfInBounds, fcells_size]
  by_cases e3 : 511 + (Gf.gexp k).toNat = j
  · subst e3
    have e : UInt8.ofNat (511 + (Gf.gexp k).toNat - 511) = Gf.gexp k := by rw [Nat.add_sub_cancel_left]; simp
    rw [if_pos rfl, if_pos h2]
    unfold fcell
    rw [if_neg (by omega), if_neg (by omega), e, hlg, if_pos ⟨Gf.gexp_ne k, by omega⟩]
  · rw [if_neg e3]
    by_cases e2 : 256 + k = j
    · subst e2
      rw [if_pos rfl, if_pos (by omega)]
      unfold fcell
      have e : (256 + k - 1) % 255 = k := by omega
      rw [if_neg (by omega), if_pos (by omega), e, if_pos (by omega)]
    · rw [if_neg e2]
      by_cases e1 : 1 + k = j
      · subst e1
        rw [if_pos rfl, if_pos (by omega)]
        unfold fcell
        have e : (1 + k - 1) % 255 = k := by omega
        rw [if_neg (by omega), if_pos (by omega), e, if_pos (by omega)]
      · rw [if_neg e1, fcells_get _ _ h2]
        unfold fcell
        by_cases c0 : j = 0
        · rw [if_pos c0, if_pos c0]
        · rw [if_neg c0, if_neg c0]
          by_cases c1 : j < 511
          · rw [if_pos c1, if_pos c1]
            have : ((j - 1) % 255 < k) = ((j - 1) % 255 < k + 1) := by
              apply propext; constructor <;> intro _ <;> omega
            simp only [this]
          · rw [if_neg c1, if_neg c1]
            have : (UInt8.ofNat (j - 511) ≠ 0 ∧ Gf.glog (UInt8.ofNat (j - 511)) < k) = (UInt8.ofNat (j - 511) ≠ 0 ∧ Gf.glog (UInt8.ofNat (j - 511)) < k + 1) := by
              apply propext
              constructor
              · rintro ⟨h, h'⟩; exact ⟨h, by omega⟩
              · rintro ⟨h, h'⟩
                refine ⟨h, ?_⟩
                by_cases he : Gf.glog (UInt8.ofNat (j - 511)) = k
                · have h3 := (Gf.gexp_glog _ h).1
                  rw [he] at h3
                  have h4 : (Gf.gexp k).toNat = j - 511 := by
                    rw [h3, UInt8.toNat_ofNat']; omega
                  omega
                · omega
            simp only [this]

/-- The world when k powers have been laid. -/
structure NewAt (w wr : World) (k : Nat) : Prop where
  below : Ext w wr
  block : wr.heap[w.heap.size]? = some (.cells (fcells k) 89 (0, 0))
theorem NewAt.field {w wr : World} (h : NewAt w wr 255) : FieldAt wr w.heap.size := by
  have hc : ∀ j, j < 767 → wr.cell? ⟨w.heap.size, j, none⟩ = some (fcell 255 j) := fun j hj => by
    rw [cell_of_row wr _ j _ _ _ h.block, fcells_get _ _ hj]
  refine ⟨hc 0 (by omega), fun i hi => ?_, fun x => ?_⟩
  · rw [hc (1 + i) (by omega)]
    unfold fcell
    rw [if_neg (by omega), if_pos (by omega), if_pos (Nat.mod_lt _ (by omega)), Nat.add_sub_cancel_left, Gf.gexp_mod]
  · have := x.toNat_lt
    rw [hc (511 + x.toNat) (by omega)]
    unfold fcell
    rw [if_neg (by omega), if_neg (by omega), Nat.add_sub_cancel_left, UInt8.ofNat_toNat]
    by_cases hx : x = 0
    · subst hx; rfl
    · rw [if_pos ⟨hx, Gf.glog_lt x⟩]

theorem NewAt.start (w : World) : NewAt w (w.alloc (.cells fzero 89)) 0 :=
  ⟨Ext.alloc _ _, by rw [fzero_eq]; exact heap_alloc_new w _⟩
theorem NewAt.step {w wr : World} {k : Nat} (h : NewAt w wr k) (hk : k < 255) :
    NewAt w (((wr.setCell ⟨w.heap.size, 1 + k, none⟩ (.int .u8 ((Gf.gexp k).toNat : Int))).setCell ⟨w.heap.size, 1 + (k + 255), none⟩ (.int .u8 ((Gf.gexp k).toNat : Int))).setCell
      ⟨w.heap.size, 511 + (Gf.gexp k).toNat, none⟩ (.int .i64 (k : Int))).drew (k + 1) := by
  refine ⟨((((h.below.setCell (by exact Nat.le_refl _) _).setCell (by exact Nat.le_refl _) _).setCell (by exact Nat.le_refl _) _).drew), ?_⟩
  have h1 := heap_setCell_same wr w.heap.size (1 + k) _ _ (.int .u8 ((Gf.gexp k).toNat : Int)) h.block
  have h2 := heap_setCell_same _ w.heap.size (1 + (k + 255)) _ _ (.int .u8 ((Gf.gexp k).toNat : Int)) h1
  have h3 := heap_setCell_same _ w.heap.size (511 + (Gf.gexp k).toNat) _ _ (.int .i64 (k : Int)) h2
  rw [show 1 + (k + 255) = 256 + k by omega] at h3 ⊢
  rw [fcells_step k hk] at h3
  exact h3
theorem xt_high (x : UInt8) (h : 255 < (x.toNat : Int) * 2) : bits .xor .i64 ((x.toNat : Int) * 2) 285 = ((Gf.xt x).toNat : Int) := by
  have hc : (List.range 256).all (fun i => decide (i * 2 ≤ 255) || decide ((i * 2) ^^^ 285 = (Gf.xt (UInt8.ofNat i)).toNat)) = true := by decide +kernel
  have h1 := List.all_eq_true.1 hc x.toNat (List.mem_range.2 x.toNat_lt)
  simp only [UInt8.ofNat_toNat, Bool.or_eq_true, decide_eq_true_eq] at h1
  have hx := x.toNat_lt
  rcases h1 with h1 | h1
  · omega
  · have := xor_i64 (x.toNat * 2) 285 (by omega) (by omega)
    rw [h1] at this
    simpa using this
theorem xt_low (x : UInt8) (h : (x.toNat : Int) * 2 ≤ 255) : (x.toNat : Int) * 2 = ((Gf.xt x).toNat : Int) := by
  have hc : (List.range 256).all (fun i => decide (255 < i * 2) || decide (i * 2 = (Gf.xt (UInt8.ofNat i)).toNat)) = true := by decide +kernel
  have h1 := List.all_eq_true.1 hc x.toNat (List.mem_range.2 x.toNat_lt)
  simp only [UInt8.ofNat_toNat, Bool.or_eq_true, decide_eq_true_eq] at h1
  rcases h1 with h1 | h1 <;> omega

set_option maxRecDepth 100000 in
theorem new_any (w : World) :
    Calls Try.prog 13 #[] w fun e w' => e = .returned (fptr w.heap.size) ∧ FieldAt w' w.heap.size ∧ Ext w w' := by
  go_enter Try.func13, Try.ntmps13
  go_wp2_with (
    refine wpList_build (o := ⟨some 4, .build 89 #[(0, .const (.bool true))], _, _, _, _⟩) rfl 89 #[(0, .const (.bool true))] rfl #[(0, .bool true)] ?_ (.agg fzero) (run_build_field _) ?_
    · simp [Act.eval])
  go_loopw [2, 6] (fun x i wr => ∃ k : Nat, k ≤ 255 ∧ i = .int .i64 k ∧ x = .int .i64 ((Gf.gexp k).toNat : Int) ∧ NewAt w wr k) (fun _ i _ => 255 - (intOf i).toNat)
  case atStart => exact ⟨0, by omega, rfl, rfl, NewAt.start w⟩
  case round =>
    obtain ⟨k, hk, rfl, rfl, hn⟩ := hrel
    by_cases hlt : k < 255
    · have hlz : (k : Int) < 255 := by omega
      have hx := (Gf.gexp k).toNat_lt
      have hc : ∀ j, j < 767 → wr.cell? ⟨w.heap.size, j, none⟩ = some (fcell k j) := fun j hj => by
        rw [cell_of_row wr _ j _ _ _ hn.block, fcells_get _ _ hj]
      have hfz : ∀ j, wr.frozen? ⟨w.heap.size, j, none⟩ = false := fun j => frozen_of_row wr _ j _ _ hn.block
      have s1 := hc (1 + k) (by omega)
      have s2 := hc (1 + (k + 255)) (by omega)
      have s3 := hc (511 + (Gf.gexp k).toNat) (by omega)
      have z1 := hfz (1 + k)
      have z2 := hfz (1 + (k + 255))
      have z3 := hfz (511 + (Gf.gexp k).toNat)
      have j1 : (k : Int) + 255 < 510 := by omega
      have j2 : (k : Int) < 510 := by omega
      have H := Lib.hid hn
      clear hc hfz hn
      go_wp2
      go_region
      go_wp2
      · have hgt : 255 < ((Gf.gexp k).toNat : Int) * 2 := by assumption
        refine ⟨⟨k + 1, by omega, by go_num, ?_, H.out.step hlt⟩, by simp [intOf]; omega⟩
        rw [xt_high _ hgt, Gf.gexp_succ]
      · have hle : ((Gf.gexp k).toNat : Int) * 2 ≤ 255 := by assumption
        refine ⟨⟨k + 1, by omega, by go_num, ?_, H.out.step hlt⟩, by simp [intOf]; omega⟩
        rw [xt_low _ hle, Gf.gexp_succ]
    · have hlz : ¬ (k : Int) < 255 := by omega
      go_wp2
      go_ret
      obtain rfl : k = 255 := by omega
      exact ⟨rfl, hn.field, hn.below⟩
end Go.Proofs.Ytfpglkacjecoeaa
