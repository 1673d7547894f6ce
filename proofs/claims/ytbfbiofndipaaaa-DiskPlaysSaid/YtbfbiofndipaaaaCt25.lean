/- Several texts in one: The contract of the document's Cached. A region that draws its order and ends in an operation that waits, through others, for what is taken ahead of it. No program in sight. -/
import Derived.Test.YtbfbiofndipaaaaCt24
import Derived.Test.YtbfbiofndipaaaaCt14
import Derived.Test.YtbfbiofndipaaaaCt8
namespace Go.Proofs.Ytbfbiofndipaaaa
open Go.ChangeShapes Go.WideShapes Go.ChangeAt Go.RowKit Go.Maps Go.Sort Go.Shelf

theorem upto_len_le (l : List (Option (List UInt8))) : ∀ k, (Disks.upto l k).length ≤ k
  | 0 => Nat.le_refl _
  | k + 1 => by
    have := upto_len_le l k
    unfold Disks.upto
    split
    · rw [List.length_append]; simp; omega
    · omega
set_option maxRecDepth 100000 in
set_option maxHeartbeats 2000000 in
theorem ref5Cached (w : World) (g m b : Nat) (A : Option Addr) (n c : Nat) (d : Disks.D) (h : Rf w g m b A n c d) (hok : Disks.Ok d) :
    Calls Try.prog 45 #[rval A n c d] w fun e w' => ∃ v, e = .returned v ∧ NewInts w w' v (Disks.cached d) := by
  obtain ⟨i0, hi0, hz0, hz1, hz2⟩ := info_parts int_info
  obtain ⟨p, hp⟩ : ∃ p, w.heap.size = p := ⟨_, rfl⟩
  obtain ⟨am, ham⟩ : ∃ am, d.arm = am := ⟨_, rfl⟩
  obtain ⟨dn, hdn⟩ : ∃ dn, d.down = dn := ⟨_, rfl⟩
  have v0 := Vd.new w A n c am dn
  have x0 := Ext.alloc w (.cells #[.slice A n c, .int .i64 am, .bool dn] 54)
  rw [hp] at v0
  obtain ⟨W, hW⟩ : ∃ W, w.alloc (.cells #[.slice A n c, .int .i64 am, .bool dn] 54) = W := ⟨_, rfl⟩
  rw [hW] at v0 x0
  have HW := Lib.hid hW
  have V0 := Lib.hid v0
  have X0 := Lib.hid x0
  have HP := Lib.hid (show w.heap.size ≤ p from by omega)
  have k0 := v0.c0
  have k1 := v0.c1
  have k2 := v0.c2
  have hle := h.le
  have hmx := h.max
  have hln := h.len
  have H := Lib.hid h
  have ARM := Lib.hid ham
  have DN := Lib.hid hdn
  clear v0 x0 hW
  have OK := Lib.hid hok
  have EC := Lib.hid (show Disks.cached d = Disks.upto d.cac n by unfold Disks.cached; rw [hok.wf.len, hln])
  have n70 : n ≤ 65536 := by have := hok.wf.max; omega
  clear h hok
  unfold rval
  rw [ham, hdn]
  clear ham hdn
  go_enter Try.func45, Try.ntmps45
  go_upto_region 1 with (fail)
  rw [HW.out]
  clear hp
  go_wp2_with (fail)
  go_loopw [3, 4] (fun v s wr => ∃ t : Nat, t ≤ n ∧ s = .int .i64 (t : Int) ∧ RowKit.Hid (wr.ownsRow W.heap.size 3 1 v (Disks.upto d.cac t).length (icells (Disks.upto d.cac t))) ∧ RowKit.Hid (Ext W wr)) (fun _ s _ => n - (intOf s).toNat)
  case atStart => exact ⟨0, by omega, rfl, Lib.hid (World.ownsRow_nil _ _ _ _), Lib.hid (Ext.refl W)⟩
  case round =>
    obtain ⟨t, ht, rfl, HO, HX⟩ := hrel
    replace k0 := HX.out.cell k0
    by_cases hlt : t < n
    · have r1 : (t : Int) < n := by omega
      obtain ⟨k, off, M, mn, mc, C, cn, cc, rfl, c1, c2, b1, b2, _, _⟩ := H.out.at_ t hlt
      have e2 := (X0.out.trans HX.out).cell c2
      have m2 := b2.max
      have l2 := b2.le
      have L2 := b2.len
      clear c1 c2 b1 b2
      by_cases hc : cbytes d t = []
      · have S := Lib.hid (show Disks.upto d.cac (t + 1) = Disks.upto d.cac t by rw [Disks.upto, if_neg (by rw [(sec_none d OK.out.wf hc).1]; decide)])
        obtain rfl : cn = 0 := by rw [hc] at L2; exact L2.symm
        clear hc L2
        go_wp2_with (fail)
        exact ⟨⟨t + 1, by omega, by go_num, Lib.hid (by rw [S.out]; exact HO.out), HX⟩, by simp [intOf]; omega⟩
      · have S := Lib.hid (show Disks.upto d.cac (t + 1) = Disks.upto d.cac t ++ [(t : Int)] by rw [Disks.upto, if_pos (by rw [(sec_some d hc).1]; rfl)])
        have hcn : (0 : Int) < cn := by
          have := List.length_pos_iff.2 hc
          omega
        clear hc L2
        have hul := upto_len_le d.cac t
        have hsz := HX.out.size
        have HO4 := Lib.hid (ownsRow_ext HO.out (Ext.alloc wr (.cells #[.int .i64 (t : Int)] 3)))
        have HBK := Lib.hid (own_row HO.out)
        go_wp2_with (at_builtin; refine wpList_append_rd _ rfl (.tmp 20) (.tmp 22) 43 rfl W.heap.size 3 i0 _ 1 8 Try.underlying43 hi0 hz0 hz1 hz2 rfl (by omega) u3 (Disks.upto d.cac t).length (icells (Disks.upto d.cac t)) rfl HO4.out (some ⟨wr.heap.size, 0, none⟩) 1 1 [.int .i64 (t : Int)] rfl (Rd.lit wr #[_] _) (by simp [Value.oneCell']) (by omega) (by unfold maxLen; omega) (by simp; omega) ?_; intro v1 w2 hown hgr hat)
        exact ⟨⟨t + 1, by omega, by go_num, Lib.hid (by rw [S.out, icells_append, List.length_append]; exact hown), Lib.hid ((HX.out.thenAlloc _).ofGrown hgr HBK.out)⟩, by simp [intOf]; omega⟩
    · have r1 : ¬ (t : Int) < n := by omega
      obtain rfl : t = n := by omega
      go_wp2_with (fail)
      go_ret
      exact ⟨_, rfl, by rw [EC.out]; exact ownsRow_base HO.out X0.out.size, X0.out.trans HX.out⟩
end Go.Proofs.Ytbfbiofndipaaaa
namespace Go.Proofs.Ytbfbiofndipaaaa
open Go
section
variable {P : Program} {ops : Array Oper} {Q : Exit → Act → World → Prop} {md : Region.Mode} {S : World → Prop} {t : Nat}
/-- Number t waits for the first of the list, that one for the next, the last for number i. -/
def chainW (md : Region.Mode) (ops : Array Oper) : Nat → List Nat → Nat → Bool
  | t, [], i => Region.waitsFor md ops t i
  | t, a :: L, i => Region.waitsFor md ops t a && chainW md ops a L i
theorem chainW_next {L : List Nat} {i : Nat} : ∀ {t : Nat}, chainW md ops t L i = true → ∀ x ∈ t :: L, ∃ y, (y ∈ L ∨ y = i) ∧ Region.waitsFor md ops x y = true := by
  induction L with
  | nil =>
    intro t h x hx
    have e : x = t := by simpa using hx
    subst e
    exact ⟨i, Or.inr rfl, h⟩
  | cons a L ih =>
    intro t h x hx
    unfold chainW at h
    rw [Bool.and_eq_true] at h
    rcases List.mem_cons.1 hx with rfl | hx
    · exact ⟨a, Or.inl (List.mem_cons_self ..), h.1⟩
    · obtain ⟨y, hy, hw⟩ := ih h.2 x hx
      rcases hy with hy | hy
      · exact ⟨y, Or.inl (List.mem_cons_of_mem _ hy), hw⟩
      · exact ⟨y, Or.inr hy, hw⟩
theorem late_chain {L : List Nat} {i j : Nat} {listed : Array Bool} (hch : chainW md ops t L i = true) (hl : ∀ x ∈ t :: L, listed.getD x true = false) (hr : i ∈ Region.ready md ops listed) (hj : j ∈ Region.ready md ops listed) : ∀ x ∈ t :: L, j ≠ x := by
  rintro x hx rfl
  obtain ⟨y, hy, hw⟩ := chainW_next hch j hx
  have hyl : listed.getD y true = false := by
    rcases hy with hy | rfl
    · exact hl y (List.mem_cons_of_mem _ hy)
    · exact (mem_ready.1 hr).1
  obtain ⟨_, oj, hoj, hall⟩ := mem_ready.1 hj
  obtain ⟨o', ho', e, he, hb, hon⟩ := Region.waitsFor_spec hw
  have : o' = oj := Option.some.inj (ho'.symm.trans hoj)
  subst this
  have h2 := hall e he hb
  rw [hon, getD_both hyl] at h2
  cases h2
/-- Take number i, for which number t waits through the list, first. -/
theorem takeC (L : List Nat) {i : Nat} {oi : Oper} {v : Value} {f : Nat} {listed : Array Bool} {a : Act} {w : World} (hi : ops[i]? = some oi)
    (hs : Region.noSelect ops = true) (hf : Region.free md ops listed i = true) (hr : (Region.ready md ops listed).contains i = true) (hch : chainW md ops t L i = true) (hti : t ≠ i)
    (hQ : ∀ c a w, Q (.panic c) (a.put oi.dst v) w → Q (.panic c) a w) (ht : ((t :: L).all fun x => !listed.getD x true) = true) (hy : YieldsIf P ops S oi v a) (hS : S w)
    (h : wpAnyT P md ops Q S t f (listed.setIfInBounds i true) (a.put oi.dst v) w) : wpAnyT P md ops Q S t (f + 1) listed a w :=
  firstT (S' := S) (I := fun listed => ∀ x ∈ t :: L, listed.getD x true = false) hi (Region.noSelect_spec hs) hQ
    (fun _ _ hl hr hj _ x hx => getD_set_in (hl x hx) (late_chain hch hl hr hj x hx))
    (fun _ j w' hl hr hj hji h1 => by
      have hjt := late_chain hch hl hr hj t (List.mem_cons_self ..)
      have h2 := h1 (getD_set_in (getD_set_in (hl t (List.mem_cons_self ..)) (Ne.symm hti)) hjt)
      exact ⟨h2, fun _ => h2⟩)
    f listed a w (fun x hx => by have := List.all_eq_true.1 ht x hx; simpa using this) (Region.free_spec hi hf) (by simpa using hr) hy hS (fun _ => hS) h
end
end Go.Proofs.Ytbfbiofndipaaaa
