/- The contract of the document's Told. -/
import Derived.Test.YtgfhpgomlocllaaRoundRef5
import Derived.Test.YtgfhpgomlocllaaRounds3
import Derived.Test.YtgfhpgomlocllaaRoundsKeep
namespace Go.Proofs.Ytgfhpgomlocllaa
open Go.RowKit

set_option maxRecDepth 100000 in
set_option maxHeartbeats 4000000 in
theorem refTold_bad1 (w : World) (s v d p : Int) (l : List Int) (A : Option Addr) (n c : Nat) (hl : Is w A n c l) (i : Int) (op er : Int) (hr : ¬ Rounds.Right ⟨s, v, d, p, l⟩) :
    Calls Try.prog 25 #[.agg #[.int .i64 s, .int .i64 v, .int .i64 d, .int .i64 p, .slice A n c], .int .i64 i, .int .u8 op, .int .i64 er] w (GivesR A n ⟨s, v, d, p, l⟩ 130 w) := by
  have tw := Two.start w s v d p (.slice A n c)
  have hR := refRight_any ((w.alloc (.cells #[.int .i64 s, .int .i64 v, .int .i64 d, .int .i64 p, .slice A n c] 25)).alloc (.cells #[.int .i64 0, .int .i64 0, .int .i64 0, .int .i64 0, .slice none 0 0] 25)) ⟨s, v, d, p, l⟩ A n c (hl.ext tw.x)
  rw [decide_eq_false hr] at hR
  have HR := Lib.hid hR
  have TW0 := Lib.hid tw
  clear hR tw hr
  go_enter Try.func25, Try.ntmps25
  try dsimp only [List.append]
  go_wp2_with (fail)
  refine HR.out.mono ?_
  rintro x w1 ⟨rfl, x1⟩
  have tw := TW0.out.ext x1
  clear HR x1 TW0
  generalize hg : w.heap.size = g at *
  have HG := Lib.hid hg
  clear hg
  have c0 := tw.a.c0
  have c1 := tw.a.c1
  have c2 := tw.a.c2
  have c3 := tw.a.c3
  have c4 := tw.a.c4
  have d0 := tw.b.c0
  have d1 := tw.b.c1
  have d2 := tw.b.c2
  have d3 := tw.b.c3
  have d4 := tw.b.c4
  have f0 := tw.b.fz 0
  have f1 := tw.b.fz 1
  have f2 := tw.b.fz 2
  have f3 := tw.b.fz 3
  have f4 := tw.b.fz 4
  have l0 := tw.a.lt
  have l1 := tw.b.lt
  have TW := Lib.hid tw
  clear tw
  go_wp2_with (fail)
  exact bodyPost_ret (v := .tuple #[.agg #[.int .i64 s, .int .i64 v, .int .i64 d, .int .i64 p, .slice A n c], .int .i64 130]) (by simp [results, Try.results25, go_sem, d0, d1, d2, d3, d4]) rfl ⟨A, n, c, rfl, hl.ext TW.out.done, FreshOr.same _ _ _, TW.out.done⟩

set_option maxRecDepth 100000 in
set_option maxHeartbeats 4000000 in
theorem refTold_bad2 (w : World) (s v d p : Int) (l : List Int) (A : Option Addr) (n c : Nat) (hl : Is w A n c l) (i : Int) (op er : Int) (hr : Rounds.Right ⟨s, v, d, p, l⟩) (hi : i < 0) :
    Calls Try.prog 25 #[.agg #[.int .i64 s, .int .i64 v, .int .i64 d, .int .i64 p, .slice A n c], .int .i64 i, .int .u8 op, .int .i64 er] w (GivesR A n ⟨s, v, d, p, l⟩ 130 w) := by
  have tw := Two.start w s v d p (.slice A n c)
  have hR := refRight_any ((w.alloc (.cells #[.int .i64 s, .int .i64 v, .int .i64 d, .int .i64 p, .slice A n c] 25)).alloc (.cells #[.int .i64 0, .int .i64 0, .int .i64 0, .int .i64 0, .slice none 0 0] 25)) ⟨s, v, d, p, l⟩ A n c (hl.ext tw.x)
  rw [decide_eq_true hr] at hR
  have HR := Lib.hid hR
  have TW0 := Lib.hid tw
  clear hR tw hr
  go_enter Try.func25, Try.ntmps25
  try dsimp only [List.append]
  go_wp2_with (fail)
  refine HR.out.mono ?_
  rintro x w1 ⟨rfl, x1⟩
  have tw := TW0.out.ext x1
  clear HR x1 TW0
  generalize hg : w.heap.size = g at *
  have HG := Lib.hid hg
  clear hg
  have c0 := tw.a.c0
  have c1 := tw.a.c1
  have c2 := tw.a.c2
  have c3 := tw.a.c3
  have c4 := tw.a.c4
  have d0 := tw.b.c0
  have d1 := tw.b.c1
  have d2 := tw.b.c2
  have d3 := tw.b.c3
  have d4 := tw.b.c4
  have f0 := tw.b.fz 0
  have f1 := tw.b.fz 1
  have f2 := tw.b.fz 2
  have f3 := tw.b.fz 3
  have f4 := tw.b.fz 4
  have l0 := tw.a.lt
  have l1 := tw.b.lt
  have TW := Lib.hid tw
  clear tw
  go_wp2_with (fail)
  exact bodyPost_ret (v := .tuple #[.agg #[.int .i64 s, .int .i64 v, .int .i64 d, .int .i64 p, .slice A n c], .int .i64 130]) (by simp [results, Try.results25, go_sem, d0, d1, d2, d3, d4]) rfl ⟨A, n, c, rfl, hl.ext TW.out.done, FreshOr.same _ _ _, TW.out.done⟩

set_option maxRecDepth 100000 in
set_option maxHeartbeats 4000000 in
theorem refTold_bad3 (w : World) (s v d p : Int) (l : List Int) (A : Option Addr) (n c : Nat) (hl : Is w A n c l) (i : Int) (op er : Int) (hr : Rounds.Right ⟨s, v, d, p, l⟩) (hi : 0 ≤ i) (hi2 : (n : Int) ≤ i) :
    Calls Try.prog 25 #[.agg #[.int .i64 s, .int .i64 v, .int .i64 d, .int .i64 p, .slice A n c], .int .i64 i, .int .u8 op, .int .i64 er] w (GivesR A n ⟨s, v, d, p, l⟩ 130 w) := by
  have tw := Two.start w s v d p (.slice A n c)
  have hR := refRight_any ((w.alloc (.cells #[.int .i64 s, .int .i64 v, .int .i64 d, .int .i64 p, .slice A n c] 25)).alloc (.cells #[.int .i64 0, .int .i64 0, .int .i64 0, .int .i64 0, .slice none 0 0] 25)) ⟨s, v, d, p, l⟩ A n c (hl.ext tw.x)
  rw [decide_eq_true hr] at hR
  have HR := Lib.hid hR
  have TW0 := Lib.hid tw
  clear hR tw hr
  go_enter Try.func25, Try.ntmps25
  try dsimp only [List.append]
  go_wp2_with (fail)
  refine HR.out.mono ?_
  rintro x w1 ⟨rfl, x1⟩
  have tw := TW0.out.ext x1
  clear HR x1 TW0
  generalize hg : w.heap.size = g at *
  have HG := Lib.hid hg
  clear hg
  have c0 := tw.a.c0
  have c1 := tw.a.c1
  have c2 := tw.a.c2
  have c3 := tw.a.c3
  have c4 := tw.a.c4
  have d0 := tw.b.c0
  have d1 := tw.b.c1
  have d2 := tw.b.c2
  have d3 := tw.b.c3
  have d4 := tw.b.c4
  have f0 := tw.b.fz 0
  have f1 := tw.b.fz 1
  have f2 := tw.b.fz 2
  have f3 := tw.b.fz 3
  have f4 := tw.b.fz 4
  have l0 := tw.a.lt
  have l1 := tw.b.lt
  have TW := Lib.hid tw
  clear tw
  go_wp2_with (fail)
  exact bodyPost_ret (v := .tuple #[.agg #[.int .i64 s, .int .i64 v, .int .i64 d, .int .i64 p, .slice A n c], .int .i64 130]) (by simp [results, Try.results25, go_sem, d0, d1, d2, d3, d4]) rfl ⟨A, n, c, rfl, hl.ext TW.out.done, FreshOr.same _ _ _, TW.out.done⟩

set_option maxRecDepth 100000 in
set_option maxHeartbeats 4000000 in
theorem refTold_ok (w : World) (s v d p : Int) (l : List Int) (A : Option Addr) (n c : Nat) (hl : Is w A n c l) (hn : n ≤ 1000000) (i : Nat) (op er : Int) (hr : Rounds.Right ⟨s, v, d, p, l⟩) (hi : i < n) :
    Calls Try.prog 25 #[.agg #[.int .i64 s, .int .i64 v, .int .i64 d, .int .i64 p, .slice A n c], .int .i64 (i : Int), .int .u8 op, .int .i64 er] w (GivesR A n (Rounds.told1 ⟨s, v, d, p, l⟩ i op er) 0 w) := by
  obtain ⟨M, hM⟩ : ∃ M, l.set i (Rounds.marked p (Il.get l i) op er) = M := ⟨_, rfl⟩
  have hres : Rounds.told1 ⟨s, v, d, p, l⟩ i op er = Rounds.next ⟨s, v, d, p, M⟩ := by rw [← hM]; rfl
  rw [hres]
  have hML : M.length = n := by rw [← hM, List.length_set]; exact hl.len
  have hMg : ∀ k, k < n → Il.get M k = if i = k then Rounds.marked p (Il.get l i) op er else Il.get l k := fun k hk => by
    rw [← hM]; by_cases e : i = k
    · subst e; rw [if_pos rfl, Il.get_set _ (by rw [hl.len]; exact hk), if_pos rfl]
    · rw [if_neg e, Il.get_set _ (by rw [hl.len]; exact hi), if_neg e]
  have hp1 := (Rounds.right_phase hr).1
  have hp6 := (Rounds.right_phase hr).2
  simp only at hp1 hp6
  obtain ⟨i0, hi0, hz0, hz1, hz2⟩ := info_parts int_info
  have hnm := hr.1
  unfold Rounds.named at hnm
  simp only at hnm
  have hll := hl.len
  rw [hll] at hnm
  have hd1 : 1 ≤ d := by omega
  have hdn : d ≤ n := by omega
  have h255 : n ≤ 255 := by omega
  clear hnm hll
  have hmx := hl.max
  have hle := hl.le
  have q0 : (i : Int) < n := by omega
  have z1 : decide ((i : Int) < 0) = false := decide_eq_false (by omega)
  have z2 : decide (n ≤ i) = false := decide_eq_false (by omega)
  have tw := Two.start w s v d p (.slice A n c)
  have hR := refRight_any ((w.alloc (.cells #[.int .i64 s, .int .i64 v, .int .i64 d, .int .i64 p, .slice A n c] 25)).alloc (.cells #[.int .i64 0, .int .i64 0, .int .i64 0, .int .i64 0, .slice none 0 0] 25)) ⟨s, v, d, p, l⟩ A n c (hl.ext tw.x)
  rw [decide_eq_true hr] at hR
  have HR := Lib.hid hR
  have TW0 := Lib.hid tw
  have HML := Lib.hid hML
  have HMG := Lib.hid hMg
  clear hR tw hr hres hM hML hMg
  go_enter Try.func25, Try.ntmps25
  try dsimp only [List.append]
  go_wp2_with (fail)
  refine HR.out.mono ?_
  rintro x w1 ⟨rfl, x1⟩
  have tw := TW0.out.ext x1
  clear HR x1 TW0
  generalize hg : w.heap.size = g at *
  clear hg
  have c0 := tw.a.c0
  have c1 := tw.a.c1
  have c2 := tw.a.c2
  have c3 := tw.a.c3
  have c4 := tw.a.c4
  have l0 := tw.a.lt
  have l1 := tw.b.lt
  have hl1 := hl.ext tw.x
  have TW := Lib.hid tw
  clear tw hl
  go_wp2_with (fail)
  have bx := Bx.new w1 s v d p (.slice none 0 0) rfl
  have tl : Tl w w1 (w1.alloc (.cells #[.int .i64 s, .int .i64 v, .int .i64 d, .int .i64 p, .slice none 0 0] 25)) g w1.heap.size (w1.heap.size + 1) s v d p A n c (.slice none 0 0) 0 [] := ⟨TW.out.ext (Ext.alloc _ _), Ext.alloc _ _, bx, World.ownsRow_nil _ _ _ _, by simp⟩
  generalize (w1.alloc (.cells #[.int .i64 s, .int .i64 v, .int .i64 d, .int .i64 p, .slice none 0 0] 25)) = W at *
  obtain ⟨h, hh⟩ : ∃ h, w1.heap.size = h := ⟨_, rfl⟩
  have hgh : g + 1 < h := by omega
  rw [hh] at tl ⊢
  have HH := Lib.hid hh
  clear bx hh c0 c1 c2 TW
  go_loopw [11, 12] (fun i _ wr => ∃ (k : Nat) (V : Value), k ≤ n ∧ i = .int .i64 k ∧ Tl w w1 wr g h (h + 1) s v d p A n c V k (M.take k)) (fun i _ _ => n - (intOf i).toNat)
  case atStart => exact ⟨0, .slice none 0 0, by omega, rfl, tl⟩
  case round =>
    obtain ⟨k, V, hk, rfl, t⟩ := hrel
    clear tl
    replace c3 := t.x.cell c3
    replace c4 := t.x.cell c4
    have y0 := t.bx.c0
    have y1 := t.bx.c1
    have y2 := t.bx.c2
    have y3 := t.bx.c3
    have y4 := t.bx.c4
    have hb := t.base_
    by_cases hlt : k < n
    · have q1 : (k : Int) < n := by omega
      obtain ⟨b, o, rfl, hc⟩ := (hl1.ext t.x).rd.intAt hlt
      have hsn : M.take (k + 1) = M.take k ++ [Il.get M k] := Rounds.take_snoc (by rw [HML.out]; exact hlt)
      rw [HMG.out k hlt] at hsn
      generalize hmk : Il.get l k = mk at *
      have HMK := Lib.hid hmk
      have HSN := Lib.hid hsn
      have T := Lib.hid t
      clear hmk hsn t
      by_cases hik : i = k
      · subst hik
        rw [if_pos rfl, HMK.out] at HSN
        have hmc := fun W => refMark_any W p mk op er hp1
        generalize hx : Rounds.marked p mk op er = x at *
        have HX := Lib.hid hx
        have HC := Lib.hid hmc
        clear hx hmc
        go_wp2_with (fail)
        refine (HC.out _).mono ?_
        rintro r w' ⟨rfl, rfl⟩
        go_wp2_with (at_builtin; refine wpList_append_rd _ rfl (.tmp 60) (.tmp 62) 23 rfl (h + 1) 3 i0 _ 1 8 Try.underlying23 hi0 hz0 hz1 hz2 rfl (by omega) V i (icells (M.take i)) rfl (ownsRow_ext T.out.own (Ext.alloc _ _)) (some ⟨wr.heap.size, 0, none⟩) 1 1 [.int .i64 x] rfl (Rd.lit _ #[.int .i64 x] _) (by simp [Value.oneCell']) (by omega) (by unfold maxLen; omega) (by simp; omega) ?_; intro v1 w2 hown hgr hat; have hb2 := (T.out.grown hgh (by omega) (by rw [HH.out]; omega) (Ext.alloc _ _) x hgr (V' := v1)).1; have z4 := hb2.c4; have zf := hb2.fz 4; obtain ⟨Dv, dv, rfl, _, _⟩ := ownsRow_slice hown)
        refine ⟨⟨i + 1, .slice Dv (i + 1) dv, by omega, by go_num, ?_⟩, by simp [intOf]; omega⟩
        rw [HSN.out]
        exact (T.out.grown hgh (by omega) (by rw [HH.out]; omega) (Ext.alloc _ _) x hgr).2 hown
      · have e1 : ((k : Int) == (i : Int)) = false := by rw [beq_eq_false_iff_ne]; omega
        rw [if_neg hik] at HSN
        clear hik
        go_wp2_with (at_builtin; refine wpList_append_rd _ rfl (.tmp 60) (.tmp 62) 23 rfl (h + 1) 3 i0 _ 1 8 Try.underlying23 hi0 hz0 hz1 hz2 rfl (by omega) V k (icells (M.take k)) rfl (ownsRow_ext T.out.own (Ext.alloc _ _)) (some ⟨wr.heap.size, 0, none⟩) 1 1 [.int .i64 mk] rfl (Rd.lit _ #[.int .i64 mk] _) (by simp [Value.oneCell']) (by omega) (by unfold maxLen; omega) (by simp; omega) ?_; intro v1 w2 hown hgr hat; have hb2 := (T.out.grown hgh (by omega) (by rw [HH.out]; omega) (Ext.alloc _ _) mk hgr (V' := v1)).1; have z4 := hb2.c4; have zf := hb2.fz 4; obtain ⟨Dv, dv, rfl, _, _⟩ := ownsRow_slice hown)
        refine ⟨⟨k + 1, .slice Dv (k + 1) dv, by omega, by go_num, ?_⟩, by simp [intOf]; omega⟩
        rw [HSN.out]
        exact (T.out.grown hgh (by omega) (by rw [HH.out]; omega) (Ext.alloc _ _) mk hgr).2 hown
    · have q1 : ¬ (k : Int) < n := by omega
      obtain rfl : k = n := by omega
      obtain ⟨D, e, rfl, hce, hcm⟩ := ownsRow_slice t.own
      have hall : M.take k = M := List.take_of_length_le (by rw [HML.out]; omega)
      have tb : Tb w wr g h (h + 1) s v d p A k c D e M p := ⟨t.tw, t.bx, by have := t.own; rwa [hall] at this, hgh, by omega⟩
      clear t hall
      have EW : IntKind.i64.wrap ((k : Int) - d) = (k : Int) - d := IntWalk.i64_in _ (by omega)
      obtain ⟨q1', hq1⟩ : ∃ q, Rounds.many M 1 = q := ⟨_, rfl⟩
      obtain ⟨q2', hq2⟩ : ∃ q, Rounds.many M 2 = q := ⟨_, rfl⟩
      obtain ⟨q3', hq3⟩ : ∃ q, Rounds.many M 3 = q := ⟨_, rfl⟩
      obtain ⟨q4', hq4⟩ : ∃ q, Rounds.many M 4 = q := ⟨_, rfl⟩
      have H1 := Lib.hid (fun u hu => tb.many hn 1 u hu)
      have H2 := Lib.hid (fun u hu => tb.many hn 2 u hu)
      have H3 := Lib.hid (fun u hu => tb.many hn 3 u hu)
      have H4 := Lib.hid (fun u hu => tb.many hn 4 u hu)
      rw [hq1] at H1
      rw [hq2] at H2
      rw [hq3] at H3
      rw [hq4] at H4
      have Q1 := Lib.hid hq1
      have Q2 := Lib.hid hq2
      have Q3 := Lib.hid hq3
      have Q4 := Lib.hid hq4
      have TB := Lib.hid tb
      clear hq1 hq2 hq3 hq4 tb y0 y1 y2 y3
      by_cases p1 : p = 1
      · subst p1
        by_cases a : d ≤ q1'
        · have fa : decide (d ≤ q1') = true := decide_eq_true a
          have Na := Lib.hid a
          clear a
          have hS := TB.out.grow
          have gS := hS ⟨_, Ext.refl _⟩
          go_wp2_with (fail)
          refine wp_region_grow (by kernel_rfl) (by kernel_rfl) ?_
          repeat (go_big_quiet_step (first | (with_reducible exact Ex.call _ (H1.out _ (Ex.ext _))) | (with_reducible exact Ex.call _ (H3.out _ (Ex.ext _)))))
          refine wpQuiet_nil ?_
          rintro _ ⟨u1, rfl⟩
          have xx1 : Ext wr u1.w := u1.ext
          clear hS gS
          obtain ⟨W1, hW1⟩ : ∃ W9, u1.w = W9 := ⟨_, rfl⟩
          rw [hW1] at xx1 ⊢
          clear hW1 u1
          have XX1 := Lib.hid xx1
          clear xx1
          have hS := (TB.out.ext XX1.out).grow
          have gS := hS ⟨_, Ext.refl _⟩
          have tb := TB.out.ext XX1.out
          have d0 := tb.tw.b.c0
          have d1 := tb.tw.b.c1
          have d2 := tb.tw.b.c2
          have d3 := tb.tw.b.c3
          have d4 := tb.tw.b.c4
          have f0 := tb.tw.b.fz 0
          have f1 := tb.tw.b.fz 1
          have f2 := tb.tw.b.fz 2
          have f3 := tb.tw.b.fz 3
          have f4 := tb.tw.b.fz 4
          have l1 := tb.tw.b.lt
          have b3 := tb.bx.fz 3
          have lh := tb.bx.lt
          have TB3 := Lib.hid (tb.set3 2)
          clear tb hS
          go_wp2_with (fail)
          exact bodyPost_ret (v := .tuple #[.agg #[.int .i64 s, .int .i64 v, .int .i64 d, .int .i64 2, .slice D k e], .int .i64 0]) (by simp [results, Try.results25, go_sem, d0, d1, d2, d3, d4]) rfl (TB3.out.fin _ (Rounds.next_ready (by rw [Q1.out]; have := Na.out; omega)).symm)
        · have fa : decide (d ≤ q1') = false := decide_eq_false a
          have Na := Lib.hid a
          clear a
          by_cases b : (k : Int) - d < q3'
          · have fb : decide ((k : Int) - d < q3') = true := decide_eq_true b
            have Nb := Lib.hid b
            clear b
            have hS := TB.out.grow
            have gS := hS ⟨_, Ext.refl _⟩
            go_wp2_with (fail)
            refine wp_region_grow (by kernel_rfl) (by kernel_rfl) ?_
            repeat (go_big_quiet_step (first | (with_reducible exact Ex.call _ (H1.out _ (Ex.ext _))) | (with_reducible exact Ex.call _ (H3.out _ (Ex.ext _)))))
            refine wpQuiet_nil ?_
            rintro _ ⟨u1, rfl⟩
            have xx1 : Ext wr u1.w := u1.ext
            clear hS gS
            obtain ⟨W1, hW1⟩ : ∃ W9, u1.w = W9 := ⟨_, rfl⟩
            rw [hW1] at xx1 ⊢
            clear hW1 u1
            have XX1 := Lib.hid xx1
            clear xx1
            have hS := (TB.out.ext XX1.out).grow
            have gS := hS ⟨_, Ext.refl _⟩
            go_wp2_with (fail)
            refine wp_region_grow (by kernel_rfl) (by kernel_rfl) ?_
            repeat (go_big_quiet_step (first | (with_reducible exact Ex.call _ (H1.out _ (XX1.out.trans (Ex.ext _)))) | (with_reducible exact Ex.call _ (H3.out _ (XX1.out.trans (Ex.ext _))))))
            refine wpQuiet_nil ?_
            rintro _ ⟨u2, rfl⟩
            have xx2 : Ext wr u2.w := XX1.out.trans u2.ext
            clear hS gS
            obtain ⟨W2, hW2⟩ : ∃ W9, u2.w = W9 := ⟨_, rfl⟩
            rw [hW2] at xx2 ⊢
            clear hW2 u2
            have XX2 := Lib.hid xx2
            clear xx2
            have hS := (TB.out.ext XX2.out).grow
            have gS := hS ⟨_, Ext.refl _⟩
            have tb := TB.out.ext XX2.out
            have d0 := tb.tw.b.c0
            have d1 := tb.tw.b.c1
            have d2 := tb.tw.b.c2
            have d3 := tb.tw.b.c3
            have d4 := tb.tw.b.c4
            have f0 := tb.tw.b.fz 0
            have f1 := tb.tw.b.fz 1
            have f2 := tb.tw.b.fz 2
            have f3 := tb.tw.b.fz 3
            have f4 := tb.tw.b.fz 4
            have l1 := tb.tw.b.lt
            have b3 := tb.bx.fz 3
            have lh := tb.bx.lt
            have TB3 := Lib.hid (tb.set3 5)
            clear tb hS
            go_wp2_with (fail)
            exact bodyPost_ret (v := .tuple #[.agg #[.int .i64 s, .int .i64 v, .int .i64 d, .int .i64 5, .slice D k e], .int .i64 0]) (by simp [results, Try.results25, go_sem, d0, d1, d2, d3, d4]) rfl (TB3.out.fin _ (Rounds.next_given (by rw [Q1.out]; have := Na.out; omega) (by rw [Q3.out, HML.out]; have := Nb.out; omega)).symm)
          · have fb : decide ((k : Int) - d < q3') = false := decide_eq_false b
            have Nb := Lib.hid b
            clear b
            have hS := TB.out.grow
            have gS := hS ⟨_, Ext.refl _⟩
            go_wp2_with (fail)
            refine wp_region_grow (by kernel_rfl) (by kernel_rfl) ?_
            repeat (go_big_quiet_step (first | (with_reducible exact Ex.call _ (H1.out _ (Ex.ext _))) | (with_reducible exact Ex.call _ (H3.out _ (Ex.ext _)))))
            refine wpQuiet_nil ?_
            rintro _ ⟨u1, rfl⟩
            have xx1 : Ext wr u1.w := u1.ext
            clear hS gS
            obtain ⟨W1, hW1⟩ : ∃ W9, u1.w = W9 := ⟨_, rfl⟩
            rw [hW1] at xx1 ⊢
            clear hW1 u1
            have XX1 := Lib.hid xx1
            clear xx1
            have hS := (TB.out.ext XX1.out).grow
            have gS := hS ⟨_, Ext.refl _⟩
            go_wp2_with (fail)
            refine wp_region_grow (by kernel_rfl) (by kernel_rfl) ?_
            repeat (go_big_quiet_step (first | (with_reducible exact Ex.call _ (H1.out _ (XX1.out.trans (Ex.ext _)))) | (with_reducible exact Ex.call _ (H3.out _ (XX1.out.trans (Ex.ext _))))))
            refine wpQuiet_nil ?_
            rintro _ ⟨u2, rfl⟩
            have xx2 : Ext wr u2.w := XX1.out.trans u2.ext
            clear hS gS
            obtain ⟨W2, hW2⟩ : ∃ W9, u2.w = W9 := ⟨_, rfl⟩
            rw [hW2] at xx2 ⊢
            clear hW2 u2
            have XX2 := Lib.hid xx2
            clear xx2
            have hS := (TB.out.ext XX2.out).grow
            have gS := hS ⟨_, Ext.refl _⟩
            have tb := TB.out.ext XX2.out
            have d0 := tb.tw.b.c0
            have d1 := tb.tw.b.c1
            have d2 := tb.tw.b.c2
            have d3 := tb.tw.b.c3
            have d4 := tb.tw.b.c4
            have f0 := tb.tw.b.fz 0
            have f1 := tb.tw.b.fz 1
            have f2 := tb.tw.b.fz 2
            have f3 := tb.tw.b.fz 3
            have f4 := tb.tw.b.fz 4
            have l1 := tb.tw.b.lt
            have TB3 := Lib.hid tb
            clear tb hS
            go_wp2_with (fail)
            exact bodyPost_ret (v := .tuple #[.agg #[.int .i64 s, .int .i64 v, .int .i64 d, .int .i64 1, .slice D k e], .int .i64 0]) (by simp [results, Try.results25, go_sem, d0, d1, d2, d3, d4]) rfl (TB3.out.fin _ (Rounds.next_1 (by rw [Q1.out]; have := Na.out; omega) (by rw [Q3.out, HML.out]; have := Nb.out; omega)).symm)
      · skip
        by_cases p3 : p = 3
        · subst p3
          by_cases a : q2' = (k : Int)
          · have fa : (q2' == (k : Int)) = true := by rw [beq_iff_eq]; exact a
            have Na := Lib.hid a
            clear a
            have hS := TB.out.grow
            have gS := hS ⟨_, Ext.refl _⟩
            go_wp2_with (fail)
            refine wp_region_grow (by kernel_rfl) (by kernel_rfl) ?_
            repeat (go_big_quiet_step (first | (with_reducible exact Ex.call _ (H1.out _ (Ex.ext _))) | (with_reducible exact Ex.call _ (H3.out _ (Ex.ext _)))))
            refine wpQuiet_nil ?_
            rintro _ ⟨u1, rfl⟩
            have xx1 : Ext wr u1.w := u1.ext
            clear hS gS
            obtain ⟨W1, hW1⟩ : ∃ W9, u1.w = W9 := ⟨_, rfl⟩
            rw [hW1] at xx1 ⊢
            clear hW1 u1
            have XX1 := Lib.hid xx1
            clear xx1
            have hS := (TB.out.ext XX1.out).grow
            have gS := hS ⟨_, Ext.refl _⟩
            go_wp2_with (fail)
            refine wp_region_grow (by kernel_rfl) (by kernel_rfl) ?_
            repeat (go_big_quiet_step (first | (with_reducible exact Ex.call _ (H1.out _ (XX1.out.trans (Ex.ext _)))) | (with_reducible exact Ex.call _ (H3.out _ (XX1.out.trans (Ex.ext _))))))
            refine wpQuiet_nil ?_
            rintro _ ⟨u2, rfl⟩
            have xx2 : Ext wr u2.w := XX1.out.trans u2.ext
            clear hS gS
            obtain ⟨W2, hW2⟩ : ∃ W9, u2.w = W9 := ⟨_, rfl⟩
            rw [hW2] at xx2 ⊢
            clear hW2 u2
            have XX2 := Lib.hid xx2
            clear xx2
            have hS := (TB.out.ext XX2.out).grow
            have gS := hS ⟨_, Ext.refl _⟩
            have tb := TB.out.ext XX2.out
            go_wp2_with (fail)
            refine (H2.out _ XX2.out).mono ?_
            rintro r9 w9 ⟨rfl, x9⟩
            replace tb := tb.ext x9
            clear hS gS
            have hS := tb.grow
            have gS := hS ⟨_, Ext.refl _⟩
            have d0 := tb.tw.b.c0
            have d1 := tb.tw.b.c1
            have d2 := tb.tw.b.c2
            have d3 := tb.tw.b.c3
            have d4 := tb.tw.b.c4
            have f0 := tb.tw.b.fz 0
            have f1 := tb.tw.b.fz 1
            have f2 := tb.tw.b.fz 2
            have f3 := tb.tw.b.fz 3
            have f4 := tb.tw.b.fz 4
            have l1 := tb.tw.b.lt
            have b3 := tb.bx.fz 3
            have lh := tb.bx.lt
            have TB3 := Lib.hid (tb.set3 4)
            clear tb hS
            go_wp2_with (fail)
            exact bodyPost_ret (v := .tuple #[.agg #[.int .i64 s, .int .i64 v, .int .i64 d, .int .i64 4, .slice D k e], .int .i64 0]) (by simp [results, Try.results25, go_sem, d0, d1, d2, d3, d4]) rfl (TB3.out.fin _ (Rounds.next_done (by rw [Q2.out, HML.out]; have := Na.out; omega)).symm)
          · have fa : (q2' == (k : Int)) = false := by rw [beq_eq_false_iff_ne]; exact a
            have Na := Lib.hid a
            clear a
            have hS := TB.out.grow
            have gS := hS ⟨_, Ext.refl _⟩
            go_wp2_with (fail)
            refine wp_region_grow (by kernel_rfl) (by kernel_rfl) ?_
            repeat (go_big_quiet_step (first | (with_reducible exact Ex.call _ (H1.out _ (Ex.ext _))) | (with_reducible exact Ex.call _ (H3.out _ (Ex.ext _)))))
            refine wpQuiet_nil ?_
            rintro _ ⟨u1, rfl⟩
            have xx1 : Ext wr u1.w := u1.ext
            clear hS gS
            obtain ⟨W1, hW1⟩ : ∃ W9, u1.w = W9 := ⟨_, rfl⟩
            rw [hW1] at xx1 ⊢
            clear hW1 u1
            have XX1 := Lib.hid xx1
            clear xx1
            have hS := (TB.out.ext XX1.out).grow
            have gS := hS ⟨_, Ext.refl _⟩
            go_wp2_with (fail)
            refine wp_region_grow (by kernel_rfl) (by kernel_rfl) ?_
            repeat (go_big_quiet_step (first | (with_reducible exact Ex.call _ (H1.out _ (XX1.out.trans (Ex.ext _)))) | (with_reducible exact Ex.call _ (H3.out _ (XX1.out.trans (Ex.ext _))))))
            refine wpQuiet_nil ?_
            rintro _ ⟨u2, rfl⟩
            have xx2 : Ext wr u2.w := XX1.out.trans u2.ext
            clear hS gS
            obtain ⟨W2, hW2⟩ : ∃ W9, u2.w = W9 := ⟨_, rfl⟩
            rw [hW2] at xx2 ⊢
            clear hW2 u2
            have XX2 := Lib.hid xx2
            clear xx2
            have hS := (TB.out.ext XX2.out).grow
            have gS := hS ⟨_, Ext.refl _⟩
            have tb := TB.out.ext XX2.out
            go_wp2_with (fail)
            refine (H2.out _ XX2.out).mono ?_
            rintro r9 w9 ⟨rfl, x9⟩
            replace tb := tb.ext x9
            clear hS gS
            have hS := tb.grow
            have gS := hS ⟨_, Ext.refl _⟩
            have d0 := tb.tw.b.c0
            have d1 := tb.tw.b.c1
            have d2 := tb.tw.b.c2
            have d3 := tb.tw.b.c3
            have d4 := tb.tw.b.c4
            have f0 := tb.tw.b.fz 0
            have f1 := tb.tw.b.fz 1
            have f2 := tb.tw.b.fz 2
            have f3 := tb.tw.b.fz 3
            have f4 := tb.tw.b.fz 4
            have l1 := tb.tw.b.lt
            have TB3 := Lib.hid tb
            clear tb hS
            go_wp2_with (fail)
            exact bodyPost_ret (v := .tuple #[.agg #[.int .i64 s, .int .i64 v, .int .i64 d, .int .i64 3, .slice D k e], .int .i64 0]) (by simp [results, Try.results25, go_sem, d0, d1, d2, d3, d4]) rfl (TB3.out.fin _ (Rounds.next_3 (by rw [Q2.out, HML.out]; have := Na.out; omega)).symm)
        · skip
          by_cases p5 : p = 5
          · subst p5
            by_cases a : q4' = (k : Int)
            · have fa : (q4' == (k : Int)) = true := by rw [beq_iff_eq]; exact a
              have Na := Lib.hid a
              clear a
              have hS := TB.out.grow
              have gS := hS ⟨_, Ext.refl _⟩
              go_wp2_with (fail)
              refine wp_region_grow (by kernel_rfl) (by kernel_rfl) ?_
              repeat (go_big_quiet_step (first | (with_reducible exact Ex.call _ (H1.out _ (Ex.ext _))) | (with_reducible exact Ex.call _ (H3.out _ (Ex.ext _)))))
              refine wpQuiet_nil ?_
              rintro _ ⟨u1, rfl⟩
              have xx1 : Ext wr u1.w := u1.ext
              clear hS gS
              obtain ⟨W1, hW1⟩ : ∃ W9, u1.w = W9 := ⟨_, rfl⟩
              rw [hW1] at xx1 ⊢
              clear hW1 u1
              have XX1 := Lib.hid xx1
              clear xx1
              have hS := (TB.out.ext XX1.out).grow
              have gS := hS ⟨_, Ext.refl _⟩
              go_wp2_with (fail)
              refine wp_region_grow (by kernel_rfl) (by kernel_rfl) ?_
              repeat (go_big_quiet_step (first | (with_reducible exact Ex.call _ (H1.out _ (XX1.out.trans (Ex.ext _)))) | (with_reducible exact Ex.call _ (H3.out _ (XX1.out.trans (Ex.ext _))))))
              refine wpQuiet_nil ?_
              rintro _ ⟨u2, rfl⟩
              have xx2 : Ext wr u2.w := XX1.out.trans u2.ext
              clear hS gS
              obtain ⟨W2, hW2⟩ : ∃ W9, u2.w = W9 := ⟨_, rfl⟩
              rw [hW2] at xx2 ⊢
              clear hW2 u2
              have XX2 := Lib.hid xx2
              clear xx2
              have hS := (TB.out.ext XX2.out).grow
              have gS := hS ⟨_, Ext.refl _⟩
              have tb := TB.out.ext XX2.out
              go_wp2_with (fail)
              refine (H4.out _ XX2.out).mono ?_
              rintro r9 w9 ⟨rfl, x9⟩
              replace tb := tb.ext x9
              clear hS gS
              have hS := tb.grow
              have gS := hS ⟨_, Ext.refl _⟩
              have d0 := tb.tw.b.c0
              have d1 := tb.tw.b.c1
              have d2 := tb.tw.b.c2
              have d3 := tb.tw.b.c3
              have d4 := tb.tw.b.c4
              have f0 := tb.tw.b.fz 0
              have f1 := tb.tw.b.fz 1
              have f2 := tb.tw.b.fz 2
              have f3 := tb.tw.b.fz 3
              have f4 := tb.tw.b.fz 4
              have l1 := tb.tw.b.lt
              have b3 := tb.bx.fz 3
              have lh := tb.bx.lt
              have TB3 := Lib.hid (tb.set3 6)
              clear tb hS
              go_wp2_with (fail)
              exact bodyPost_ret (v := .tuple #[.agg #[.int .i64 s, .int .i64 v, .int .i64 d, .int .i64 6, .slice D k e], .int .i64 0]) (by simp [results, Try.results25, go_sem, d0, d1, d2, d3, d4]) rfl (TB3.out.fin _ (Rounds.next_gone (by rw [Q4.out, HML.out]; have := Na.out; omega)).symm)
            · have fa : (q4' == (k : Int)) = false := by rw [beq_eq_false_iff_ne]; exact a
              have Na := Lib.hid a
              clear a
              have hS := TB.out.grow
              have gS := hS ⟨_, Ext.refl _⟩
              go_wp2_with (fail)
              refine wp_region_grow (by kernel_rfl) (by kernel_rfl) ?_
              repeat (go_big_quiet_step (first | (with_reducible exact Ex.call _ (H1.out _ (Ex.ext _))) | (with_reducible exact Ex.call _ (H3.out _ (Ex.ext _)))))
              refine wpQuiet_nil ?_
              rintro _ ⟨u1, rfl⟩
              have xx1 : Ext wr u1.w := u1.ext
              clear hS gS
              obtain ⟨W1, hW1⟩ : ∃ W9, u1.w = W9 := ⟨_, rfl⟩
              rw [hW1] at xx1 ⊢
              clear hW1 u1
              have XX1 := Lib.hid xx1
              clear xx1
              have hS := (TB.out.ext XX1.out).grow
              have gS := hS ⟨_, Ext.refl _⟩
              go_wp2_with (fail)
              refine wp_region_grow (by kernel_rfl) (by kernel_rfl) ?_
              repeat (go_big_quiet_step (first | (with_reducible exact Ex.call _ (H1.out _ (XX1.out.trans (Ex.ext _)))) | (with_reducible exact Ex.call _ (H3.out _ (XX1.out.trans (Ex.ext _))))))
              refine wpQuiet_nil ?_
              rintro _ ⟨u2, rfl⟩
              have xx2 : Ext wr u2.w := XX1.out.trans u2.ext
              clear hS gS
              obtain ⟨W2, hW2⟩ : ∃ W9, u2.w = W9 := ⟨_, rfl⟩
              rw [hW2] at xx2 ⊢
              clear hW2 u2
              have XX2 := Lib.hid xx2
              clear xx2
              have hS := (TB.out.ext XX2.out).grow
              have gS := hS ⟨_, Ext.refl _⟩
              have tb := TB.out.ext XX2.out
              go_wp2_with (fail)
              refine (H4.out _ XX2.out).mono ?_
              rintro r9 w9 ⟨rfl, x9⟩
              replace tb := tb.ext x9
              clear hS gS
              have hS := tb.grow
              have gS := hS ⟨_, Ext.refl _⟩
              have d0 := tb.tw.b.c0
              have d1 := tb.tw.b.c1
              have d2 := tb.tw.b.c2
              have d3 := tb.tw.b.c3
              have d4 := tb.tw.b.c4
              have f0 := tb.tw.b.fz 0
              have f1 := tb.tw.b.fz 1
              have f2 := tb.tw.b.fz 2
              have f3 := tb.tw.b.fz 3
              have f4 := tb.tw.b.fz 4
              have l1 := tb.tw.b.lt
              have TB3 := Lib.hid tb
              clear tb hS
              go_wp2_with (fail)
              exact bodyPost_ret (v := .tuple #[.agg #[.int .i64 s, .int .i64 v, .int .i64 d, .int .i64 5, .slice D k e], .int .i64 0]) (by simp [results, Try.results25, go_sem, d0, d1, d2, d3, d4]) rfl (TB3.out.fin _ (Rounds.next_5 (by rw [Q4.out, HML.out]; have := Na.out; omega)).symm)
          · skip
            have NN := Lib.hid (Rounds.next_other (s := s) (v := v) (d := d) (l := M) p1 p3 p5)
            have f1 : (p == 1) = false := by rw [beq_eq_false_iff_ne]; exact p1
            have f3 : (p == 3) = false := by rw [beq_eq_false_iff_ne]; exact p3
            have f5 : (p == 5) = false := by rw [beq_eq_false_iff_ne]; exact p5
            clear p1 p3 p5
            have hS := TB.out.grow
            have gS := hS ⟨_, Ext.refl _⟩
            go_wp2_with (fail)
            refine wp_region_grow (by kernel_rfl) (by kernel_rfl) ?_
            repeat (go_big_quiet_step (first | (with_reducible exact Ex.call _ (H1.out _ (Ex.ext _))) | (with_reducible exact Ex.call _ (H3.out _ (Ex.ext _)))))
            refine wpQuiet_nil ?_
            rintro _ ⟨u1, rfl⟩
            have xx1 : Ext wr u1.w := u1.ext
            clear hS gS
            obtain ⟨W1, hW1⟩ : ∃ W9, u1.w = W9 := ⟨_, rfl⟩
            rw [hW1] at xx1 ⊢
            clear hW1 u1
            have XX1 := Lib.hid xx1
            clear xx1
            have hS := (TB.out.ext XX1.out).grow
            have gS := hS ⟨_, Ext.refl _⟩
            go_wp2_with (fail)
            refine wp_region_grow (by kernel_rfl) (by kernel_rfl) ?_
            repeat (go_big_quiet_step (first | (with_reducible exact Ex.call _ (H1.out _ (XX1.out.trans (Ex.ext _)))) | (with_reducible exact Ex.call _ (H3.out _ (XX1.out.trans (Ex.ext _))))))
            refine wpQuiet_nil ?_
            rintro _ ⟨u2, rfl⟩
            have xx2 : Ext wr u2.w := XX1.out.trans u2.ext
            clear hS gS
            obtain ⟨W2, hW2⟩ : ∃ W9, u2.w = W9 := ⟨_, rfl⟩
            rw [hW2] at xx2 ⊢
            clear hW2 u2
            have XX2 := Lib.hid xx2
            clear xx2
            have hS := (TB.out.ext XX2.out).grow
            have gS := hS ⟨_, Ext.refl _⟩
            have tb := TB.out.ext XX2.out
            have d0 := tb.tw.b.c0
            have d1 := tb.tw.b.c1
            have d2 := tb.tw.b.c2
            have d3 := tb.tw.b.c3
            have d4 := tb.tw.b.c4
            have f0 := tb.tw.b.fz 0
            have f1 := tb.tw.b.fz 1
            have f2 := tb.tw.b.fz 2
            have f3 := tb.tw.b.fz 3
            have f4 := tb.tw.b.fz 4
            have l1 := tb.tw.b.lt
            have TB3 := Lib.hid tb
            clear tb hS
            go_wp2_with (fail)
            exact bodyPost_ret (v := .tuple #[.agg #[.int .i64 s, .int .i64 v, .int .i64 d, .int .i64 p, .slice D k e], .int .i64 0]) (by simp [results, Try.results25, go_sem, d0, d1, d2, d3, d4]) rfl (TB3.out.fin _ (NN.out).symm)

theorem refTold_any (w : World) (r : Rounds.R) (A : Option Addr) (n c : Nat) (hl : Is w A n c r.marks) (hn : n ≤ 1000000) (i op er : Int) :
    Calls Try.prog 25 #[rval r A n c, .int .i64 i, .int .u8 op, .int .i64 er] w (GivesR A n (Rounds.told r i op er) (Rounds.toldE r i) w) := by
  unfold Rounds.told Rounds.toldE
  by_cases hr : Rounds.Right r
  · by_cases h0 : 0 ≤ i
    · by_cases h1 : i < r.marks.length
      · have h : Rounds.InRange r i := ⟨hr, h0, h1⟩
        rw [if_pos h, if_pos h]
        obtain ⟨m, rfl⟩ := Int.eq_ofNat_of_zero_le h0
        rw [Int.toNat_natCast]
        exact refTold_ok w r.stripe r.version r.need r.phase r.marks A n c hl hn m op er hr (by have := hl.len; omega)
      · rw [if_neg (fun h => h1 h.2.2), if_neg (fun h => h1 h.2.2)]
        exact refTold_bad3 w r.stripe r.version r.need r.phase r.marks A n c hl i op er hr h0 (by have := hl.len; omega)
    · rw [if_neg (fun h => h0 h.2.1), if_neg (fun h => h0 h.2.1)]
      exact refTold_bad2 w r.stripe r.version r.need r.phase r.marks A n c hl i op er hr (by omega)
  · rw [if_neg (fun h => hr h.1), if_neg (fun h => hr h.1)]
    exact refTold_bad1 w r.stripe r.version r.need r.phase r.marks A n c hl i op er hr
end Go.Proofs.Ytgfhpgomlocllaa
