/- Several texts in one: The words of FindTells' walk. No statement of the seat is proved here. A part of FindTells' walk. A part of FindTells' walk. -/
import Derived.Test.YtfpglkacjecoeaaGreatCt27
import Derived.Test.YtfpglkacjecoeaaGreatCt28
import Derived.Test.YtfpglkacjecoeaaGreatCt29
import Derived.Test.YtfpglkacjecoeaaGreatCt30
import Derived.Test.YtfpglkacjecoeaaGreatCt34
import Derived.Test.YtfpglkacjecoeaaGreatCt35
import Derived.Test.YtfpglkacjecoeaaGreatCt24
namespace Go.Proofs.YtfpglkacjecoeaaGreat
open Go.RowKit

/-! Parts of the body. -/
def fstC : Code → Code
  | .seq a _ => a
  | c => c
def sndC : Code → Code
  | .seq _ b => b
  | c => c
def blkC : Code → Code
  | .block _ c => c
  | c => c
def loopC : Code → Code
  | .loop c => c
  | c => c
def thnC : Code → Code
  | .cond _ a _ => a
  | c => c
def tailB : Nat → Code → Code
  | 0, c => c
  | n + 1, .seq _ b => tailB n b
  | _ + 1, c => c
def bodyU (f : Func) : Code := f.body.getD Code.skip
def roundU (f : Func) : Code := blkC (fstC (sndC (loopC (blkC (sndC (fstC (tailB 9 (bodyU f))))))))
/-- The worlds of the walk: all blocks stay but those of a kind; a code and its matrix stay. -/
structure Rw (Y : Nat → Prop) (w w' : World) : Prop where
  aw : Aw Y w w'
  cd : ∀ b fb K N, Cd w b fb K N → Cd w' b fb K N
  mx : ∀ A c K N, 1 ≤ K → K ≤ N → Mx w A N c (Gm.gen K N) → Mx w' A N c (Gm.gen K N)
section
variable {Y Z : Nat → Prop} {w w1 w2 : World} {g : Nat} {f : Finds.F}
theorem Rw.of (h : Ext w w1) : Rw Y w w1 := ⟨.of h, fun _ _ _ _ k => k.ext h, fun _ _ _ _ _ _ k => k.ext h⟩
theorem Rw.trans (h : Rw Y w w1) (k : Rw Y w1 w2) : Rw Y w w2 := ⟨h.aw.trans k.aw, fun _ _ _ _ c => k.cd _ _ _ _ (h.cd _ _ _ _ c), fun _ _ _ _ a b c => k.mx _ _ _ _ a b (h.mx _ _ _ _ a b c)⟩
theorem Rw.sub (h : Rw Y w w1) (hz : ∀ q, Y q → Z q) : Rw Z w w1 := ⟨h.aw.sub hz, h.cd, h.mx⟩
theorem Rw.store (hf : Fz Z w g f) (ha : Aw (fun q => q = g) w w1) : Rw (fun q => q = g) w w1 := ⟨ha, fun _ _ _ _ c => hf.cd ha c, fun _ _ _ _ a b c => hf.mx ha c a b⟩
theorem Fz.rw (h : Fz Z w g f) (ha : Rw Y w w1) (hz : ∀ q, Y q → Z q) (hg : ¬ Y g) : Fz Z w1 g f := by
  obtain ⟨A, n, c, B, m, d, C, k, e, h1, h2⟩ := h
  exact ⟨A, n, c, B, m, d, C, k, e, h1.aw ha.aw hg, h2.aw (ha.aw.sub hz)⟩
theorem ownsRow_awx {base size n x : Nat} {e T : TypeId} {v : Value} {xs : List Value} {cs : Array Value} {fr : Nat × Nat} (h : w.ownsRow base e size v n xs) (hx : w.heap[x]? = some (.cells cs T fr)) (hne : e ≠ T) (ha : Aw (fun q => Z q ∨ q = x) w w1) (hb : ∀ q, Z q → q < base) : w1.ownsRow base e size v n xs := by
  refine ⟨h.1, ?_⟩
  rcases h.2 with h1 | ⟨g, cap, cur, h1, h2, h3, h4⟩
  · exact .inl h1
  · refine .inr ⟨g, cap, cur, h1, h2, ?_, h4⟩
    have hgx : g ≠ x := fun e1 => by
      rw [e1, hx] at h3
      injection h3 with h3
      injection h3 with _ h3 _
      exact hne h3.symm
    rw [ha.block g ?_ (fun z => z.elim (fun z => by have := hb g z; omega) hgx)]
    · exact h3
    · rcases Nat.lt_or_ge g w.heap.size with hl | hl
      · exact hl
      · rw [Array.getElem?_eq_none hl] at h3; cases h3
theorem FdZ.made {b1 b2 b3 x : Nat} {cs0 : Array Value} {fr : Nat × Nat} {A : Option Addr} {n c : Nat} {B : Option Addr} {m d : Nat} {C : Option Addr} {k e : Nat} {cs : List Value} {P : Nat → Prop} (hu : w.ownsRow b1 3 1 (.slice A n c) f.marks.length (icells f.marks)) (hv : w.ownsRow b2 3 1 (.slice B m d) f.which.length (icells f.which)) (hs : Mq w b3 P (.slice C k e) f.shards.length cs f.shards)
    (hx : w.heap[x]? = some (.cells cs0 25 fr)) (h1 : ∀ q, Z q → q < b1) (h2 : ∀ q, Z q → q < b2) (h3 : ∀ q, Z q → q < b3) : FdZ (fun q => Z q ∨ q = x) w f A n c B m d C k e := by
  refine ⟨cs, fun V hV => ?_⟩
  have ku := ownsRow_awx hu hx (by decide) hV h1
  have kv := ownsRow_awx hv hx (by decide) hV h2
  have ks : Mq V b3 P (.slice C k e) f.shards.length cs f.shards := ⟨hs.len, ownsRow_awx hs.own hx (by decide) hV h3, fun i hi => by
    obtain ⟨A, c, e, ho⟩ := hs.row i hi
    exact ⟨A, c, e, ownsRow_awx ho hx (by decide) hV h3⟩, hs.cool, hs.hot, hs.apart⟩
  obtain ⟨A2, c2, e2, _, _⟩ := ownsRow_slice ku
  injection e2 with e2 e3 e4
  subst e2 e3 e4
  obtain ⟨A2, c2, e2, _, _⟩ := ownsRow_slice kv
  injection e2 with e2 e3 e4
  subst e2 e3 e4
  obtain ⟨A2, c2, e2, hk1, hk2⟩ := ownsRow_slice ks.own
  injection e2 with e2 e3 e4
  subst e2 e3 e4
  exact ⟨(Own.mk (base := b1) (e := 3) ku).ints, (Own.mk (base := b2) (e := 3) kv).ints, rfl, hk1, hk2, Rd.of_own ks.own, ks.rows⟩
end
/-- The j-th answer, where it lies. -/
structure Oj (Z : Nat → Prop) (w : World) (bo oo j : Nat) (o : Op13) : Prop where
  c0 : w.cell? ⟨bo, oo + j * 4, none⟩ = some (.bool o.lost)
  c1 : w.cell? ⟨bo, oo + j * 4 + 1, none⟩ = some (.int .i64 o.index)
  c2 : w.cell? ⟨bo, oo + j * 4 + 2, none⟩ = some (.int .i64 o.e)
  c3 : w.cell? ⟨bo, oo + j * 4 + 3, none⟩ = some (.slice o.A o.m o.c)
  b : BsZ Z w o.A o.m o.c o.b
theorem Oj.ext {Z : Nat → Prop} {w w' : World} {bo oo j : Nat} {o : Op13} (h : Oj Z w bo oo j o) (hx : Ext w w') : Oj Z w' bo oo j o := ⟨hx.cell h.c0, hx.cell h.c1, hx.cell h.c2, hx.cell h.c3, h.b.ext hx⟩
end Go.Proofs.YtfpglkacjecoeaaGreat
namespace Go.Proofs.YtfpglkacjecoeaaGreat
open Go.RowKit
set_option linter.unusedSimpArgs false

set_option maxRecDepth 100000 in
set_option maxHeartbeats 16000000 in
theorem tell15 {Z : Nat → Prop} {Q : Exit → Act → World → Prop} {w : World} {gf : Nat} {f0 : Finds.F} {u0 u1 u2 u3 u4 u6 u7 u8 u9 u10 u11 u12 u13 u14 u15 u16 u17 u18 u19 u20 u21 u22 u23 u24 u25 u26 u27 u28 u29 u30 u31 u32 u33 u34 u35 u36 u37 u38 u39 u40 u41 u42 u43 u44 u45 u46 u47 u48 u49 u50 u51 u52 u53 u54 u55 u56 u57 u58 u59 u60 u61 u62 u63 u64 u65 u66 u67 u68 u69 u70 u71 u72 u73 u74 u75 u76 u77 u78 u79 u80 u81 u82 u83 u84 u85 u86 u87 u88 u89 u90 u91 u92 u93 u94 u95 u96 u97 u98 u99 u100 u101 u102 u103 u104 u105 u106 u107 u108 u109 u110 u111 u112 u113 u114 u115 u116 u117 u118 u119 u120 u121 u122 u123 u124 u125 u126 u127 u128 u129 u130 u131 u132 u133 u134 u135 u136 u137 u138 u139 u140 u141 u142 u143 u144 u145 u146 u147 u148 u149 u150 u151 u152 u153 u154 u155 u156 u157 u158 u159 u160 u161 u162 u163 u164 u165 u166 u167 u168 u169 u170 u171 u172 u173 u174 u175 u176 u177 u178 u179 u180 u181 u182 u183 u184 u185 u186 u187 u188 u189 u190 u191 u192 u193 u194 u195 u196 u197 u198 u199 u200 u201 u202 u203 u204 u205 u206 u207 u208 u209 u210 u211 u212 u213 u214 u215 u216 u217 u218 u219 u220 u221 u222 u223 u224 u225 u226 u227 u228 u229 u230 u231 u232 u233 u234 u235 u236 u237 u238 u239 u240 u241 u242 u243 u244 u245 u246 u247 u248 u249 u250 u251 u252 u253 u254 u255 u256 u257 u258 u259 u260 u261 u262 u263 u264 u265 u266 u267 u268 u269 u270 u271 u272 u273 u274 u275 u276 u277 u278 u279 u280 u281 : Value} (XS : RowKit.Hid (Fz Z w gf f0)) (XM : RowKit.Hid (Sm13 f0)) (XZ : RowKit.Hid (∀ q, Z q → q < w.heap.size))
    (HPN : RowKit.Hid (∀ ch (a : Act) (d : Nat) (v : Value) V, Q (.panic ch) (a.put (some d) v) V → Q (.panic ch) a V)) (HK : RowKit.Hid (∀ (gs : Nat) (w' : World), w.heap.size ≤ gs → Ext w w' → Fz (fun q => Z q ∨ q = gs) w' gs f0 → ∀ {v106 v107 v108 v109 v110 v111 v112 v113 v114 v115 v116 v117 v118 v119 v120 v121 v122 v123 : Value}, Q .normal { tmps := (u0 :: u1 :: u2 :: u3 :: u4 :: .pointer (some ⟨gf, 0, none⟩) :: u6 :: u7 :: u8 :: u9 :: u10 :: u11 :: u12 :: u13 :: u14 :: u15 :: u16 :: u17 :: u18 :: u19 :: u20 :: .pointer (some ⟨gs, 0, none⟩) :: u22 :: u23 :: u24 :: u25 :: u26 :: u27 :: u28 :: u29 :: u30 :: u31 :: u32 :: u33 :: u34 :: u35 :: u36 :: u37 :: u38 :: u39 :: u40 :: u41 :: u42 :: u43 :: u44 :: u45 :: u46 :: u47 :: u48 :: u49 :: u50 :: u51 :: u52 :: u53 :: u54 :: u55 :: u56 :: u57 :: u58 :: u59 :: u60 :: u61 :: u62 :: u63 :: u64 :: u65 :: u66 :: u67 :: u68 :: u69 :: u70 :: u71 :: u72 :: u73 :: u74 :: u75 :: u76 :: u77 :: u78 :: u79 :: u80 :: u81 :: u82 :: u83 :: u84 :: u85 :: u86 :: u87 :: u88 :: u89 :: u90 :: u91 :: u92 :: u93 :: u94 :: u95 :: u96 :: u97 :: u98 :: u99 :: u100 :: u101 :: u102 :: u103 :: u104 :: u105 :: v106 :: v107 :: v108 :: v109 :: v110 :: v111 :: v112 :: v113 :: v114 :: v115 :: v116 :: v117 :: v118 :: v119 :: v120 :: v121 :: v122 :: v123 :: u124 :: u125 :: u126 :: u127 :: u128 :: u129 :: u130 :: u131 :: u132 :: u133 :: u134 :: u135 :: u136 :: u137 :: u138 :: u139 :: u140 :: u141 :: u142 :: u143 :: u144 :: u145 :: u146 :: u147 :: u148 :: u149 :: u150 :: u151 :: u152 :: u153 :: u154 :: u155 :: u156 :: u157 :: u158 :: u159 :: u160 :: u161 :: u162 :: u163 :: u164 :: u165 :: u166 :: u167 :: u168 :: u169 :: u170 :: u171 :: u172 :: u173 :: u174 :: u175 :: u176 :: u177 :: u178 :: u179 :: u180 :: u181 :: u182 :: u183 :: u184 :: u185 :: u186 :: u187 :: u188 :: u189 :: u190 :: u191 :: u192 :: u193 :: u194 :: u195 :: u196 :: u197 :: u198 :: u199 :: u200 :: u201 :: u202 :: u203 :: u204 :: u205 :: u206 :: u207 :: u208 :: u209 :: u210 :: u211 :: u212 :: u213 :: u214 :: u215 :: u216 :: u217 :: u218 :: u219 :: u220 :: u221 :: u222 :: u223 :: u224 :: u225 :: u226 :: u227 :: u228 :: u229 :: u230 :: u231 :: u232 :: u233 :: u234 :: u235 :: u236 :: u237 :: u238 :: u239 :: u240 :: u241 :: u242 :: u243 :: u244 :: u245 :: u246 :: u247 :: u248 :: u249 :: u250 :: u251 :: u252 :: u253 :: u254 :: u255 :: u256 :: u257 :: u258 :: u259 :: u260 :: u261 :: u262 :: u263 :: u264 :: u265 :: u266 :: u267 :: u268 :: u269 :: u270 :: u271 :: u272 :: u273 :: u274 :: u275 :: u276 :: u277 :: u278 :: u279 :: u280 :: u281 :: []).toArray, defers := [] } w')) :
    (fstC (roundU Tryz.f3)).wp Tryz.prog Q { tmps := (u0 :: u1 :: u2 :: u3 :: u4 :: .pointer (some ⟨gf, 0, none⟩) :: u6 :: u7 :: u8 :: u9 :: u10 :: u11 :: u12 :: u13 :: u14 :: u15 :: u16 :: u17 :: u18 :: u19 :: u20 :: u21 :: u22 :: u23 :: u24 :: u25 :: u26 :: u27 :: u28 :: u29 :: u30 :: u31 :: u32 :: u33 :: u34 :: u35 :: u36 :: u37 :: u38 :: u39 :: u40 :: u41 :: u42 :: u43 :: u44 :: u45 :: u46 :: u47 :: u48 :: u49 :: u50 :: u51 :: u52 :: u53 :: u54 :: u55 :: u56 :: u57 :: u58 :: u59 :: u60 :: u61 :: u62 :: u63 :: u64 :: u65 :: u66 :: u67 :: u68 :: u69 :: u70 :: u71 :: u72 :: u73 :: u74 :: u75 :: u76 :: u77 :: u78 :: u79 :: u80 :: u81 :: u82 :: u83 :: u84 :: u85 :: u86 :: u87 :: u88 :: u89 :: u90 :: u91 :: u92 :: u93 :: u94 :: u95 :: u96 :: u97 :: u98 :: u99 :: u100 :: u101 :: u102 :: u103 :: u104 :: u105 :: u106 :: u107 :: u108 :: u109 :: u110 :: u111 :: u112 :: u113 :: u114 :: u115 :: u116 :: u117 :: u118 :: u119 :: u120 :: u121 :: u122 :: u123 :: u124 :: u125 :: u126 :: u127 :: u128 :: u129 :: u130 :: u131 :: u132 :: u133 :: u134 :: u135 :: u136 :: u137 :: u138 :: u139 :: u140 :: u141 :: u142 :: u143 :: u144 :: u145 :: u146 :: u147 :: u148 :: u149 :: u150 :: u151 :: u152 :: u153 :: u154 :: u155 :: u156 :: u157 :: u158 :: u159 :: u160 :: u161 :: u162 :: u163 :: u164 :: u165 :: u166 :: u167 :: u168 :: u169 :: u170 :: u171 :: u172 :: u173 :: u174 :: u175 :: u176 :: u177 :: u178 :: u179 :: u180 :: u181 :: u182 :: u183 :: u184 :: u185 :: u186 :: u187 :: u188 :: u189 :: u190 :: u191 :: u192 :: u193 :: u194 :: u195 :: u196 :: u197 :: u198 :: u199 :: u200 :: u201 :: u202 :: u203 :: u204 :: u205 :: u206 :: u207 :: u208 :: u209 :: u210 :: u211 :: u212 :: u213 :: u214 :: u215 :: u216 :: u217 :: u218 :: u219 :: u220 :: u221 :: u222 :: u223 :: u224 :: u225 :: u226 :: u227 :: u228 :: u229 :: u230 :: u231 :: u232 :: u233 :: u234 :: u235 :: u236 :: u237 :: u238 :: u239 :: u240 :: u241 :: u242 :: u243 :: u244 :: u245 :: u246 :: u247 :: u248 :: u249 :: u250 :: u251 :: u252 :: u253 :: u254 :: u255 :: u256 :: u257 :: u258 :: u259 :: u260 :: u261 :: u262 :: u263 :: u264 :: u265 :: u266 :: u267 :: u268 :: u269 :: u270 :: u271 :: u272 :: u273 :: u274 :: u275 :: u276 :: u277 :: u278 :: u279 :: u280 :: u281 :: []).toArray, defers := [] } w := by
  dsimp only [fstC, sndC, blkC, loopC, thnC, tailB, roundU, bodyU, Tryz.f3, Option.getD]
  obtain ⟨A, n, c, B, m, d, C, k, e, fb, hd⟩ := XS.out
  have y0 := hd.fd.u.max
  have y1 := hd.fd.u.le
  have y2 := hd.fd.v.max
  have y3 := hd.fd.v.le
  have y4 := hd.fd.s.max
  have y5 := hd.fd.s.le
  have HC1 := Lib.hid (fun (W : World) (hW : Ext w W) => copyInts_any W A n c f0.marks (hd.fd.u.ext hW) (by have := hd.fd.u.len; have := XM.out.u; omega))
  have HC2 := Lib.hid (fun (W : World) (hW : Ext w W) => copyInts_any W B m d f0.which (hd.fd.v.ext hW) (by have := hd.fd.v.len; have := XM.out.v; omega))
  have HC3 := Lib.hid (fun (W : World) (hW : Ext w W) => copyLists_any W C k e f0.shards (hd.fd.s.ext hW) (by have := hd.fd.s.len; have := XM.out.s; omega) (fun i hi => Nat.le_trans (XM.out.r i (by rw [hd.fd.s.len]; exact hi)) (by omega)))
  have FB := Lib.hid (fun (W : World) (hW : Ext w W) => fb.ext hW)
  clear fb hd
  have hS0 : (fun Wx : World => Hid (Ext w Wx)) w.drew := Lib.hid (Ext.drew w)
  refine wp_region_T (S := (fun Wx : World => Hid (Ext w Wx))) 19 rfl rfl ?_
  refine takeC [] (i := 0) (v := ?_) rfl (by kernel_rfl) (by kernel_rfl) (by kernel_rfl) (by kernel_rfl) (by decide) (fun _ _ _ h => HPN.out _ _ _ _ _ h) (by kernel_rfl) (Or.inl ⟨by kernel_rfl, ?_⟩) (by assumption) ?_
  rotate_left
  · (intro W9 hSw; go_simp; (try with_reducible rfl))
  try simp only [Act.put, List.getElem_toArray, List.getElem_cons_succ, List.getElem_cons_zero, List.setIfInBounds_toArray, List.set_cons_zero, List.set_cons_succ]
  refine takeC [] (i := 1) (v := ?_) rfl (by kernel_rfl) (by kernel_rfl) (by kernel_rfl) (by kernel_rfl) (by decide) (fun _ _ _ h => HPN.out _ _ _ _ _ h) (by kernel_rfl) (Or.inl ⟨by kernel_rfl, ?_⟩) (by assumption) ?_
  rotate_left
  · (intro W9 hSw; (have i1 := (FB.out _ hSw.out).c0; clear hSw; skip); go_simp; (try with_reducible rfl))
  try simp only [Act.put, List.getElem_toArray, List.getElem_cons_succ, List.getElem_cons_zero, List.setIfInBounds_toArray, List.set_cons_zero, List.set_cons_succ]
  refine takeC [] (i := 2) (v := ?_) rfl (by kernel_rfl) (by kernel_rfl) (by kernel_rfl) (by kernel_rfl) (by decide) (fun _ _ _ h => HPN.out _ _ _ _ _ h) (by kernel_rfl) (Or.inl ⟨by kernel_rfl, ?_⟩) (by assumption) ?_
  rotate_left
  · (intro W9 hSw; go_simp; (try with_reducible rfl))
  try simp only [Act.put, List.getElem_toArray, List.getElem_cons_succ, List.getElem_cons_zero, List.setIfInBounds_toArray, List.set_cons_zero, List.set_cons_succ]
  refine takeC [] (i := 3) (v := ?_) rfl (by kernel_rfl) (by kernel_rfl) (by kernel_rfl) (by kernel_rfl) (by decide) (fun _ _ _ h => HPN.out _ _ _ _ _ h) (by kernel_rfl) (Or.inl ⟨by kernel_rfl, ?_⟩) (by assumption) ?_
  rotate_left
  · (intro W9 hSw; (have i1 := (FB.out _ hSw.out).c1; clear hSw; skip); go_simp; (try with_reducible rfl))
  try simp only [Act.put, List.getElem_toArray, List.getElem_cons_succ, List.getElem_cons_zero, List.setIfInBounds_toArray, List.set_cons_zero, List.set_cons_succ]
  refine takeC [] (i := 4) (v := ?_) rfl (by kernel_rfl) (by kernel_rfl) (by kernel_rfl) (by kernel_rfl) (by decide) (fun _ _ _ h => HPN.out _ _ _ _ _ h) (by kernel_rfl) (Or.inl ⟨by kernel_rfl, ?_⟩) (by assumption) ?_
  rotate_left
  · (intro W9 hSw; go_simp; (try with_reducible rfl))
  try simp only [Act.put, List.getElem_toArray, List.getElem_cons_succ, List.getElem_cons_zero, List.setIfInBounds_toArray, List.set_cons_zero, List.set_cons_succ]
  refine takeC [] (i := 5) (v := ?_) rfl (by kernel_rfl) (by kernel_rfl) (by kernel_rfl) (by kernel_rfl) (by decide) (fun _ _ _ h => HPN.out _ _ _ _ _ h) (by kernel_rfl) (Or.inl ⟨by kernel_rfl, ?_⟩) (by assumption) ?_
  rotate_left
  · (intro W9 hSw; (have i1 := (FB.out _ hSw.out).c2; clear hSw; skip); go_simp; (try with_reducible rfl))
  try simp only [Act.put, List.getElem_toArray, List.getElem_cons_succ, List.getElem_cons_zero, List.setIfInBounds_toArray, List.set_cons_zero, List.set_cons_succ]
  refine takeC [] (i := 6) (v := ?_) rfl (by kernel_rfl) (by kernel_rfl) (by kernel_rfl) (by kernel_rfl) (by decide) (fun _ _ _ h => HPN.out _ _ _ _ _ h) (by kernel_rfl) (Or.inl ⟨by kernel_rfl, ?_⟩) (by assumption) ?_
  rotate_left
  · (intro W9 hSw; go_simp; (try with_reducible rfl))
  try simp only [Act.put, List.getElem_toArray, List.getElem_cons_succ, List.getElem_cons_zero, List.setIfInBounds_toArray, List.set_cons_zero, List.set_cons_succ]
  refine takeC [] (i := 7) (v := ?_) rfl (by kernel_rfl) (by kernel_rfl) (by kernel_rfl) (by kernel_rfl) (by decide) (fun _ _ _ h => HPN.out _ _ _ _ _ h) (by kernel_rfl) (Or.inl ⟨by kernel_rfl, ?_⟩) (by assumption) ?_
  rotate_left
  · (intro W9 hSw; (have i1 := (FB.out _ hSw.out).c3; clear hSw; skip); go_simp; (try with_reducible rfl))
  try simp only [Act.put, List.getElem_toArray, List.getElem_cons_succ, List.getElem_cons_zero, List.setIfInBounds_toArray, List.set_cons_zero, List.set_cons_succ]
  refine takeC [] (i := 8) (v := ?_) rfl (by kernel_rfl) (by kernel_rfl) (by kernel_rfl) (by kernel_rfl) (by decide) (fun _ _ _ h => HPN.out _ _ _ _ _ h) (by kernel_rfl) (Or.inl ⟨by kernel_rfl, ?_⟩) (by assumption) ?_
  rotate_left
  · (intro W9 hSw; go_simp; (try with_reducible rfl))
  try simp only [Act.put, List.getElem_toArray, List.getElem_cons_succ, List.getElem_cons_zero, List.setIfInBounds_toArray, List.set_cons_zero, List.set_cons_succ]
  refine takeC [] (i := 9) (v := ?_) rfl (by kernel_rfl) (by kernel_rfl) (by kernel_rfl) (by kernel_rfl) (by decide) (fun _ _ _ h => HPN.out _ _ _ _ _ h) (by kernel_rfl) (Or.inl ⟨by kernel_rfl, ?_⟩) (by assumption) ?_
  rotate_left
  · (intro W9 hSw; (have i1 := (FB.out _ hSw.out).c4; clear hSw; skip); go_simp; (try with_reducible rfl))
  try simp only [Act.put, List.getElem_toArray, List.getElem_cons_succ, List.getElem_cons_zero, List.setIfInBounds_toArray, List.set_cons_zero, List.set_cons_succ]
  refine takeC [] (i := 11) (v := ?_) rfl (by kernel_rfl) (by kernel_rfl) (by kernel_rfl) (by kernel_rfl) (by decide) (fun _ _ _ h => HPN.out _ _ _ _ _ h) (by kernel_rfl) (Or.inl ⟨by kernel_rfl, ?_⟩) (by assumption) ?_
  rotate_left
  · (intro W9 hSw; go_simp; (try with_reducible rfl))
  try simp only [Act.put, List.getElem_toArray, List.getElem_cons_succ, List.getElem_cons_zero, List.setIfInBounds_toArray, List.set_cons_zero, List.set_cons_succ]
  refine takeC [] (i := 12) (v := ?_) rfl (by kernel_rfl) (by kernel_rfl) (by kernel_rfl) (by kernel_rfl) (by decide) (fun _ _ _ h => HPN.out _ _ _ _ _ h) (by kernel_rfl) (Or.inl ⟨by kernel_rfl, ?_⟩) (by assumption) ?_
  rotate_left
  · (intro W9 hSw; (have i1 := (FB.out _ hSw.out).c5; clear hSw; skip); go_simp; (try with_reducible rfl))
  try simp only [Act.put, List.getElem_toArray, List.getElem_cons_succ, List.getElem_cons_zero, List.setIfInBounds_toArray, List.set_cons_zero, List.set_cons_succ]
  refine takeC [] (i := 14) (v := ?_) rfl (by kernel_rfl) (by kernel_rfl) (by kernel_rfl) (by kernel_rfl) (by decide) (fun _ _ _ h => HPN.out _ _ _ _ _ h) (by kernel_rfl) (Or.inl ⟨by kernel_rfl, ?_⟩) (by assumption) ?_
  rotate_left
  · (intro W9 hSw; go_simp; (try with_reducible rfl))
  try simp only [Act.put, List.getElem_toArray, List.getElem_cons_succ, List.getElem_cons_zero, List.setIfInBounds_toArray, List.set_cons_zero, List.set_cons_succ]
  refine takeC [] (i := 15) (v := ?_) rfl (by kernel_rfl) (by kernel_rfl) (by kernel_rfl) (by kernel_rfl) (by decide) (fun _ _ _ h => HPN.out _ _ _ _ _ h) (by kernel_rfl) (Or.inl ⟨by kernel_rfl, ?_⟩) (by assumption) ?_
  rotate_left
  · (intro W9 hSw; (have i1 := (FB.out _ hSw.out).c6; clear hSw; skip); go_simp; (try with_reducible rfl))
  try simp only [Act.put, List.getElem_toArray, List.getElem_cons_succ, List.getElem_cons_zero, List.setIfInBounds_toArray, List.set_cons_zero, List.set_cons_succ]
  refine twoT (i := 10) (j := 18) rfl rfl (by kernel_rfl) (fun K hK => ?_) (fun K hK => ?_)
  · rw [if_pos (by kernel_rfl)]
    go_wp2_with (fail)
    with_reducible refine (HC1.out _ hS0.out).mono ?_
    rintro r q1 ⟨Uv, rfl, hv⟩
    obtain ⟨U1, Uc, rfl, Ux, Uy⟩ := ownsRow_slice hv.own
    have xq := hv.ext
    have hS1 : (fun Wx : World => Hid (Ext w Wx)) q1 := Lib.hid (hS0.out.trans xq)
    have OU := Lib.hid hv.own
    have BOU := Lib.hid hS0.out.size
    clear hv xq
    go_wp2_with (fail)
    refine hK.out _ _ (fun _ => hS1) ?_
    clear hK K
    try simp only [Act.put, List.getElem_toArray, List.getElem_cons_succ, List.getElem_cons_zero, List.setIfInBounds_toArray, List.set_cons_zero, List.set_cons_succ]
    refine twoT (i := 13) (j := 18) rfl rfl (by kernel_rfl) (fun K hK => ?_) (fun K hK => ?_)
    · rw [if_pos (by kernel_rfl)]
      go_wp2_with (fail)
      with_reducible refine (HC2.out _ hS1.out).mono ?_
      rintro r q2 ⟨Vv, rfl, hv⟩
      obtain ⟨V1, Vc, rfl, Vx, Vy⟩ := ownsRow_slice hv.own
      have xq := hv.ext
      have hS2 : (fun Wx : World => Hid (Ext w Wx)) q2 := Lib.hid (hS1.out.trans xq)
      have OV := Lib.hid hv.own
      have BOV := Lib.hid hS1.out.size
      have OU := Lib.hid (ownsRow_ext OU.out xq)
      clear hv xq
      go_wp2_with (fail)
      refine hK.out _ _ (fun _ => hS2) ?_
      clear hK K
      try simp only [Act.put, List.getElem_toArray, List.getElem_cons_succ, List.getElem_cons_zero, List.setIfInBounds_toArray, List.set_cons_zero, List.set_cons_succ]
      refine twoT (i := 16) (j := 18) rfl rfl (by kernel_rfl) (fun K hK => ?_) (fun K hK => ?_)
      · rw [if_pos (by kernel_rfl)]
        go_wp2_with (fail)
        with_reducible refine (HC3.out _ hS2.out).mono ?_
        rintro r q3 ⟨Sv, cs, rfl, hq, xq⟩
        obtain ⟨S1, Sc, rfl, Sx, Sy⟩ := ownsRow_slice hq.own
        have hS3 : (fun Wx : World => Hid (Ext w Wx)) q3 := Lib.hid (hS2.out.trans xq)
        have OS := Lib.hid hq
        have BOS := Lib.hid hS2.out.size
        have OU := Lib.hid (ownsRow_ext OU.out xq)
        have OV := Lib.hid (ownsRow_ext OV.out xq)
        clear hq xq
        go_wp2_with (fail)
        refine hK.out _ _ (fun _ => hS3) ?_
        clear hK K
        try simp only [Act.put, List.getElem_toArray, List.getElem_cons_succ, List.getElem_cons_zero, List.setIfInBounds_toArray, List.set_cons_zero, List.set_cons_succ]
        refine takeC [] (i := 17) (v := ?_) rfl (by kernel_rfl) (by kernel_rfl) (by kernel_rfl) (by kernel_rfl) (by decide) (fun _ _ _ h => HPN.out _ _ _ _ _ h) (by kernel_rfl) (Or.inl ⟨by kernel_rfl, ?_⟩) (by assumption) ?_
        rotate_left
        · (intro W9 hSw; go_simp; (try with_reducible rfl))
        try simp only [Act.put, List.getElem_toArray, List.getElem_cons_succ, List.getElem_cons_zero, List.setIfInBounds_toArray, List.set_cons_zero, List.set_cons_succ]
        refine oneT (i := 18) rfl (by kernel_rfl) (fun K hK => ?_)
        rw [if_pos (by kernel_rfl)]
        have hra := run_alloc_find q3
        have zb := heap_alloc_new q3 zfind
        have xq := Ext.alloc q3 zfind
        obtain ⟨y, hy⟩ : ∃ y, q3.heap.size = y := ⟨_, rfl⟩
        obtain ⟨q4, hq⟩ : ∃ q, q3.alloc zfind = q := ⟨_, rfl⟩
        rw [hq, hy] at hra zb
        rw [hq] at xq
        have hS4 : (fun Wx : World => Hid (Ext w Wx)) q4 := Lib.hid (hS3.out.trans xq)
        have ZB := Lib.hid zb
        have YL := Lib.hid (show w.heap.size ≤ y by rw [← hy]; exact hS3.out.size)
        have RAY := Lib.hid hra
        have OU := Lib.hid (ownsRow_ext OU.out xq)
        have OV := Lib.hid (ownsRow_ext OV.out xq)
        have OS := Lib.hid (OS.out.ext xq)
        clear hra zb xq hy hq
        refine wp_allocR 25 rfl _ RAY.out rfl ?_
        clear RAY
        refine hK.out _ _ (fun _ => hS4) ?_
        clear hK K
        try simp only [Act.put, List.getElem_toArray, List.getElem_cons_succ, List.getElem_cons_zero, List.setIfInBounds_toArray, List.set_cons_zero, List.set_cons_succ]
        refine oneT (i := 19) rfl (by kernel_rfl) (fun K hK => ?_)
        rw [if_pos (by kernel_rfl)]
        have hdz := FdZ.made (Z := Z) (f := f0) OU.out OV.out OS.out ZB.out (fun q hq => Nat.lt_of_lt_of_le (XZ.out q hq) BOU.out) (fun q hq => Nat.lt_of_lt_of_le (XZ.out q hq) BOV.out) (fun q hq => Nat.lt_of_lt_of_le (XZ.out q hq) BOS.out)
        obtain ⟨wz, sa, fz, ha⟩ := fz_store (Z := fun q => Z q ∨ q = y) (f := f0) (⟨ZB.out⟩ : Fb q4 y 0 0 0 0 (.slice none 0 0) (.slice none 0 0) (.slice none 0 0)) hdz (Or.inr rfl)
        have FZ := Lib.hid fz
        have XW := Lib.hid (ha.ext hS4.out (fun q hq => by rw [hq]; exact YL.out))
        refine wp_storeR 25 (.tmp 21) (.tmp 123) rfl rfl rfl sa rfl ?_
        clear sa fz ha hdz
        refine hK.out _ _ (fun h => absurd (show true = false from h) (by decide)) ?_
        clear hK K
        try simp only [Act.put, List.getElem_toArray, List.getElem_cons_succ, List.getElem_cons_zero, List.setIfInBounds_toArray, List.set_cons_zero, List.set_cons_succ]
        refine doneT (by kernel_rfl) ?_ _
        go_wp2_with (fail)
        exact HK.out _ _ YL.out XW.out FZ.out
      · rw [if_pos (by kernel_rfl)]
        have hra := run_alloc_find q2
        have zb := heap_alloc_new q2 zfind
        have xq := Ext.alloc q2 zfind
        obtain ⟨y, hy⟩ : ∃ y, q2.heap.size = y := ⟨_, rfl⟩
        obtain ⟨q3, hq⟩ : ∃ q, q2.alloc zfind = q := ⟨_, rfl⟩
        rw [hq, hy] at hra zb
        rw [hq] at xq
        have hS3 : (fun Wx : World => Hid (Ext w Wx)) q3 := Lib.hid (hS2.out.trans xq)
        have ZB := Lib.hid zb
        have YL := Lib.hid (show w.heap.size ≤ y by rw [← hy]; exact hS2.out.size)
        have RAY := Lib.hid hra
        have OU := Lib.hid (ownsRow_ext OU.out xq)
        have OV := Lib.hid (ownsRow_ext OV.out xq)
        clear hra zb xq hy hq
        refine wp_allocR 25 rfl _ RAY.out rfl ?_
        clear RAY
        refine hK.out _ _ (fun _ => hS3) ?_
        clear hK K
        try simp only [Act.put, List.getElem_toArray, List.getElem_cons_succ, List.getElem_cons_zero, List.setIfInBounds_toArray, List.set_cons_zero, List.set_cons_succ]
        refine oneT (i := 16) rfl (by kernel_rfl) (fun K hK => ?_)
        rw [if_pos (by kernel_rfl)]
        go_wp2_with (fail)
        with_reducible refine (HC3.out _ hS3.out).mono ?_
        rintro r q4 ⟨Sv, cs, rfl, hq, xq⟩
        obtain ⟨S1, Sc, rfl, Sx, Sy⟩ := ownsRow_slice hq.own
        have hS4 : (fun Wx : World => Hid (Ext w Wx)) q4 := Lib.hid (hS3.out.trans xq)
        have OS := Lib.hid hq
        have BOS := Lib.hid hS3.out.size
        have OU := Lib.hid (ownsRow_ext OU.out xq)
        have OV := Lib.hid (ownsRow_ext OV.out xq)
        have ZB := Lib.hid ((xq.block _ (Array.getElem?_eq_some_iff.1 ZB.out).1).trans ZB.out)
        clear hq xq
        go_wp2_with (fail)
        refine hK.out _ _ (fun _ => hS4) ?_
        clear hK K
        try simp only [Act.put, List.getElem_toArray, List.getElem_cons_succ, List.getElem_cons_zero, List.setIfInBounds_toArray, List.set_cons_zero, List.set_cons_succ]
        refine takeC [] (i := 17) (v := ?_) rfl (by kernel_rfl) (by kernel_rfl) (by kernel_rfl) (by kernel_rfl) (by decide) (fun _ _ _ h => HPN.out _ _ _ _ _ h) (by kernel_rfl) (Or.inl ⟨by kernel_rfl, ?_⟩) (by assumption) ?_
        rotate_left
        · (intro W9 hSw; go_simp; (try with_reducible rfl))
        try simp only [Act.put, List.getElem_toArray, List.getElem_cons_succ, List.getElem_cons_zero, List.setIfInBounds_toArray, List.set_cons_zero, List.set_cons_succ]
        refine oneT (i := 19) rfl (by kernel_rfl) (fun K hK => ?_)
        rw [if_pos (by kernel_rfl)]
        have hdz := FdZ.made (Z := Z) (f := f0) OU.out OV.out OS.out ZB.out (fun q hq => Nat.lt_of_lt_of_le (XZ.out q hq) BOU.out) (fun q hq => Nat.lt_of_lt_of_le (XZ.out q hq) BOV.out) (fun q hq => Nat.lt_of_lt_of_le (XZ.out q hq) BOS.out)
        obtain ⟨wz, sa, fz, ha⟩ := fz_store (Z := fun q => Z q ∨ q = y) (f := f0) (⟨ZB.out⟩ : Fb q4 y 0 0 0 0 (.slice none 0 0) (.slice none 0 0) (.slice none 0 0)) hdz (Or.inr rfl)
        have FZ := Lib.hid fz
        have XW := Lib.hid (ha.ext hS4.out (fun q hq => by rw [hq]; exact YL.out))
        refine wp_storeR 25 (.tmp 21) (.tmp 123) rfl rfl rfl sa rfl ?_
        clear sa fz ha hdz
        refine hK.out _ _ (fun h => absurd (show true = false from h) (by decide)) ?_
        clear hK K
        try simp only [Act.put, List.getElem_toArray, List.getElem_cons_succ, List.getElem_cons_zero, List.setIfInBounds_toArray, List.set_cons_zero, List.set_cons_succ]
        refine doneT (by kernel_rfl) ?_ _
        go_wp2_with (fail)
        exact HK.out _ _ YL.out XW.out FZ.out
    · rw [if_pos (by kernel_rfl)]
      have hra := run_alloc_find q1
      have zb := heap_alloc_new q1 zfind
      have xq := Ext.alloc q1 zfind
      obtain ⟨y, hy⟩ : ∃ y, q1.heap.size = y := ⟨_, rfl⟩
      obtain ⟨q2, hq⟩ : ∃ q, q1.alloc zfind = q := ⟨_, rfl⟩
      rw [hq, hy] at hra zb
      rw [hq] at xq
      have hS2 : (fun Wx : World => Hid (Ext w Wx)) q2 := Lib.hid (hS1.out.trans xq)
      have ZB := Lib.hid zb
      have YL := Lib.hid (show w.heap.size ≤ y by rw [← hy]; exact hS1.out.size)
      have RAY := Lib.hid hra
      have OU := Lib.hid (ownsRow_ext OU.out xq)
      clear hra zb xq hy hq
      refine wp_allocR 25 rfl _ RAY.out rfl ?_
      clear RAY
      refine hK.out _ _ (fun _ => hS2) ?_
      clear hK K
      try simp only [Act.put, List.getElem_toArray, List.getElem_cons_succ, List.getElem_cons_zero, List.setIfInBounds_toArray, List.set_cons_zero, List.set_cons_succ]
      refine oneT (i := 13) rfl (by kernel_rfl) (fun K hK => ?_)
      rw [if_pos (by kernel_rfl)]
      go_wp2_with (fail)
      with_reducible refine (HC2.out _ hS2.out).mono ?_
      rintro r q3 ⟨Vv, rfl, hv⟩
      obtain ⟨V1, Vc, rfl, Vx, Vy⟩ := ownsRow_slice hv.own
      have xq := hv.ext
      have hS3 : (fun Wx : World => Hid (Ext w Wx)) q3 := Lib.hid (hS2.out.trans xq)
      have OV := Lib.hid hv.own
      have BOV := Lib.hid hS2.out.size
      have OU := Lib.hid (ownsRow_ext OU.out xq)
      have ZB := Lib.hid ((xq.block _ (Array.getElem?_eq_some_iff.1 ZB.out).1).trans ZB.out)
      clear hv xq
      go_wp2_with (fail)
      refine hK.out _ _ (fun _ => hS3) ?_
      clear hK K
      try simp only [Act.put, List.getElem_toArray, List.getElem_cons_succ, List.getElem_cons_zero, List.setIfInBounds_toArray, List.set_cons_zero, List.set_cons_succ]
      refine oneT (i := 16) rfl (by kernel_rfl) (fun K hK => ?_)
      rw [if_pos (by kernel_rfl)]
      go_wp2_with (fail)
      with_reducible refine (HC3.out _ hS3.out).mono ?_
      rintro r q4 ⟨Sv, cs, rfl, hq, xq⟩
      obtain ⟨S1, Sc, rfl, Sx, Sy⟩ := ownsRow_slice hq.own
      have hS4 : (fun Wx : World => Hid (Ext w Wx)) q4 := Lib.hid (hS3.out.trans xq)
      have OS := Lib.hid hq
      have BOS := Lib.hid hS3.out.size
      have OU := Lib.hid (ownsRow_ext OU.out xq)
      have ZB := Lib.hid ((xq.block _ (Array.getElem?_eq_some_iff.1 ZB.out).1).trans ZB.out)
      have OV := Lib.hid (ownsRow_ext OV.out xq)
      clear hq xq
      go_wp2_with (fail)
      refine hK.out _ _ (fun _ => hS4) ?_
      clear hK K
      try simp only [Act.put, List.getElem_toArray, List.getElem_cons_succ, List.getElem_cons_zero, List.setIfInBounds_toArray, List.set_cons_zero, List.set_cons_succ]
      refine takeC [] (i := 17) (v := ?_) rfl (by kernel_rfl) (by kernel_rfl) (by kernel_rfl) (by kernel_rfl) (by decide) (fun _ _ _ h => HPN.out _ _ _ _ _ h) (by kernel_rfl) (Or.inl ⟨by kernel_rfl, ?_⟩) (by assumption) ?_
      rotate_left
      · (intro W9 hSw; go_simp; (try with_reducible rfl))
      try simp only [Act.put, List.getElem_toArray, List.getElem_cons_succ, List.getElem_cons_zero, List.setIfInBounds_toArray, List.set_cons_zero, List.set_cons_succ]
      refine oneT (i := 19) rfl (by kernel_rfl) (fun K hK => ?_)
      rw [if_pos (by kernel_rfl)]
      have hdz := FdZ.made (Z := Z) (f := f0) OU.out OV.out OS.out ZB.out (fun q hq => Nat.lt_of_lt_of_le (XZ.out q hq) BOU.out) (fun q hq => Nat.lt_of_lt_of_le (XZ.out q hq) BOV.out) (fun q hq => Nat.lt_of_lt_of_le (XZ.out q hq) BOS.out)
      obtain ⟨wz, sa, fz, ha⟩ := fz_store (Z := fun q => Z q ∨ q = y) (f := f0) (⟨ZB.out⟩ : Fb q4 y 0 0 0 0 (.slice none 0 0) (.slice none 0 0) (.slice none 0 0)) hdz (Or.inr rfl)
      have FZ := Lib.hid fz
      have XW := Lib.hid (ha.ext hS4.out (fun q hq => by rw [hq]; exact YL.out))
      refine wp_storeR 25 (.tmp 21) (.tmp 123) rfl rfl rfl sa rfl ?_
      clear sa fz ha hdz
      refine hK.out _ _ (fun h => absurd (show true = false from h) (by decide)) ?_
      clear hK K
      try simp only [Act.put, List.getElem_toArray, List.getElem_cons_succ, List.getElem_cons_zero, List.setIfInBounds_toArray, List.set_cons_zero, List.set_cons_succ]
      refine doneT (by kernel_rfl) ?_ _
      go_wp2_with (fail)
      exact HK.out _ _ YL.out XW.out FZ.out
  · rw [if_pos (by kernel_rfl)]
    have hra := run_alloc_find w.drew
    have zb := heap_alloc_new w.drew zfind
    have xq := Ext.alloc w.drew zfind
    obtain ⟨y, hy⟩ : ∃ y, w.drew.heap.size = y := ⟨_, rfl⟩
    obtain ⟨q1, hq⟩ : ∃ q, w.drew.alloc zfind = q := ⟨_, rfl⟩
    rw [hq, hy] at hra zb
    rw [hq] at xq
    have hS1 : (fun Wx : World => Hid (Ext w Wx)) q1 := Lib.hid (hS0.out.trans xq)
    have ZB := Lib.hid zb
    have YL := Lib.hid (show w.heap.size ≤ y by rw [← hy]; exact hS0.out.size)
    have RAY := Lib.hid hra
    clear hra zb xq hy hq
    refine wp_allocR 25 rfl _ RAY.out rfl ?_
    clear RAY
    refine hK.out _ _ (fun _ => hS1) ?_
    clear hK K
    try simp only [Act.put, List.getElem_toArray, List.getElem_cons_succ, List.getElem_cons_zero, List.setIfInBounds_toArray, List.set_cons_zero, List.set_cons_succ]
    refine oneT (i := 10) rfl (by kernel_rfl) (fun K hK => ?_)
    rw [if_pos (by kernel_rfl)]
    go_wp2_with (fail)
    with_reducible refine (HC1.out _ hS1.out).mono ?_
    rintro r q2 ⟨Uv, rfl, hv⟩
    obtain ⟨U1, Uc, rfl, Ux, Uy⟩ := ownsRow_slice hv.own
    have xq := hv.ext
    have hS2 : (fun Wx : World => Hid (Ext w Wx)) q2 := Lib.hid (hS1.out.trans xq)
    have OU := Lib.hid hv.own
    have BOU := Lib.hid hS1.out.size
    have ZB := Lib.hid ((xq.block _ (Array.getElem?_eq_some_iff.1 ZB.out).1).trans ZB.out)
    clear hv xq
    go_wp2_with (fail)
    refine hK.out _ _ (fun _ => hS2) ?_
    clear hK K
    try simp only [Act.put, List.getElem_toArray, List.getElem_cons_succ, List.getElem_cons_zero, List.setIfInBounds_toArray, List.set_cons_zero, List.set_cons_succ]
    refine oneT (i := 13) rfl (by kernel_rfl) (fun K hK => ?_)
    rw [if_pos (by kernel_rfl)]
    go_wp2_with (fail)
    with_reducible refine (HC2.out _ hS2.out).mono ?_
    rintro r q3 ⟨Vv, rfl, hv⟩
    obtain ⟨V1, Vc, rfl, Vx, Vy⟩ := ownsRow_slice hv.own
    have xq := hv.ext
    have hS3 : (fun Wx : World => Hid (Ext w Wx)) q3 := Lib.hid (hS2.out.trans xq)
    have OV := Lib.hid hv.own
    have BOV := Lib.hid hS2.out.size
    have ZB := Lib.hid ((xq.block _ (Array.getElem?_eq_some_iff.1 ZB.out).1).trans ZB.out)
    have OU := Lib.hid (ownsRow_ext OU.out xq)
    clear hv xq
    go_wp2_with (fail)
    refine hK.out _ _ (fun _ => hS3) ?_
    clear hK K
    try simp only [Act.put, List.getElem_toArray, List.getElem_cons_succ, List.getElem_cons_zero, List.setIfInBounds_toArray, List.set_cons_zero, List.set_cons_succ]
    refine oneT (i := 16) rfl (by kernel_rfl) (fun K hK => ?_)
    rw [if_pos (by kernel_rfl)]
    go_wp2_with (fail)
    with_reducible refine (HC3.out _ hS3.out).mono ?_
    rintro r q4 ⟨Sv, cs, rfl, hq, xq⟩
    obtain ⟨S1, Sc, rfl, Sx, Sy⟩ := ownsRow_slice hq.own
    have hS4 : (fun Wx : World => Hid (Ext w Wx)) q4 := Lib.hid (hS3.out.trans xq)
    have OS := Lib.hid hq
    have BOS := Lib.hid hS3.out.size
    have ZB := Lib.hid ((xq.block _ (Array.getElem?_eq_some_iff.1 ZB.out).1).trans ZB.out)
    have OU := Lib.hid (ownsRow_ext OU.out xq)
    have OV := Lib.hid (ownsRow_ext OV.out xq)
    clear hq xq
    go_wp2_with (fail)
    refine hK.out _ _ (fun _ => hS4) ?_
    clear hK K
    try simp only [Act.put, List.getElem_toArray, List.getElem_cons_succ, List.getElem_cons_zero, List.setIfInBounds_toArray, List.set_cons_zero, List.set_cons_succ]
    refine takeC [] (i := 17) (v := ?_) rfl (by kernel_rfl) (by kernel_rfl) (by kernel_rfl) (by kernel_rfl) (by decide) (fun _ _ _ h => HPN.out _ _ _ _ _ h) (by kernel_rfl) (Or.inl ⟨by kernel_rfl, ?_⟩) (by assumption) ?_
    rotate_left
    · (intro W9 hSw; go_simp; (try with_reducible rfl))
    try simp only [Act.put, List.getElem_toArray, List.getElem_cons_succ, List.getElem_cons_zero, List.setIfInBounds_toArray, List.set_cons_zero, List.set_cons_succ]
    refine oneT (i := 19) rfl (by kernel_rfl) (fun K hK => ?_)
    rw [if_pos (by kernel_rfl)]
    have hdz := FdZ.made (Z := Z) (f := f0) OU.out OV.out OS.out ZB.out (fun q hq => Nat.lt_of_lt_of_le (XZ.out q hq) BOU.out) (fun q hq => Nat.lt_of_lt_of_le (XZ.out q hq) BOV.out) (fun q hq => Nat.lt_of_lt_of_le (XZ.out q hq) BOS.out)
    obtain ⟨wz, sa, fz, ha⟩ := fz_store (Z := fun q => Z q ∨ q = y) (f := f0) (⟨ZB.out⟩ : Fb q4 y 0 0 0 0 (.slice none 0 0) (.slice none 0 0) (.slice none 0 0)) hdz (Or.inr rfl)
    have FZ := Lib.hid fz
    have XW := Lib.hid (ha.ext hS4.out (fun q hq => by rw [hq]; exact YL.out))
    refine wp_storeR 25 (.tmp 21) (.tmp 123) rfl rfl rfl sa rfl ?_
    clear sa fz ha hdz
    refine hK.out _ _ (fun h => absurd (show true = false from h) (by decide)) ?_
    clear hK K
    try simp only [Act.put, List.getElem_toArray, List.getElem_cons_succ, List.getElem_cons_zero, List.setIfInBounds_toArray, List.set_cons_zero, List.set_cons_succ]
    refine doneT (by kernel_rfl) ?_ _
    go_wp2_with (fail)
    exact HK.out _ _ YL.out XW.out FZ.out
end Go.Proofs.YtfpglkacjecoeaaGreat
namespace Go.Proofs.YtfpglkacjecoeaaGreat
open Go.RowKit
set_option linter.unusedSimpArgs false

set_option maxRecDepth 100000 in
set_option maxHeartbeats 4000000 in
theorem tell16 {Z : Nat → Prop} {Q : Exit → Act → World → Prop} {w : World} {gf : Nat} {f0 : Finds.F} {u0 u1 u2 u3 u4 u6 u7 u8 u9 u10 u11 u12 u13 u14 u15 u16 u17 u18 u19 u20 u21 u22 u23 u24 u25 u26 u27 u28 u29 u30 u31 u32 u33 u34 u35 u36 u37 u38 u39 u40 u41 u42 u43 u44 u45 u46 u47 u48 u49 u50 u51 u52 u53 u54 u55 u56 u57 u58 u59 u60 u61 u62 u63 u64 u65 u66 u67 u68 u69 u70 u71 u72 u73 u74 u75 u76 u77 u78 u79 u80 u81 u82 u83 u84 u85 u86 u87 u88 u89 u90 u91 u92 u93 u94 u95 u96 u97 u98 u99 u100 u101 u102 u103 u104 u105 u106 u107 u108 u109 u110 u111 u112 u113 u114 u115 u116 u117 u118 u119 u120 u121 u122 u123 u124 u125 u126 u127 u128 u129 u130 u131 u132 u133 u134 u135 u136 u137 u138 u139 u140 u141 u142 u143 u144 u145 u146 u147 u148 u149 u150 u151 u152 u153 u154 u155 u156 u157 u158 u159 u160 u161 u162 u163 u164 u165 u166 u167 u168 u169 u170 u171 u172 u173 u174 u175 u176 u177 u178 u179 u180 u181 u182 u183 u184 u185 u186 u187 u188 u189 u190 u191 u192 u193 u194 u195 u196 u197 u198 u199 u200 u201 u202 u203 u204 u205 u206 u207 u208 u209 u210 u211 u212 u213 u214 u215 u216 u217 u218 u219 u220 u221 u222 u223 u224 u225 u226 u227 u228 u229 u230 u231 u232 u233 u234 u235 u236 u237 u238 u239 u240 u241 u242 u243 u244 u245 u246 u247 u248 u249 u250 u251 u252 u253 u254 u255 u256 u257 u258 u259 u260 u261 u262 u263 u264 u265 u266 u267 u268 u269 u270 u271 u272 u273 u274 u275 u276 u277 u278 u279 u280 u281 : Value} (XF : RowKit.Hid (Fz Z w gf f0))
    (HK : RowKit.Hid (∀ (gn : Nat) (w' : World), w.heap.size = gn → Ext w w' → Fz (fun q => Z q ∨ q = gn) w' gn f0 → ∀ {v124 : Value}, Q .normal { tmps := (u0 :: u1 :: u2 :: u3 :: u4 :: .pointer (some ⟨gf, 0, none⟩) :: u6 :: u7 :: u8 :: u9 :: u10 :: u11 :: u12 :: u13 :: u14 :: u15 :: u16 :: u17 :: u18 :: u19 :: u20 :: u21 :: .pointer (some ⟨gn, 0, none⟩) :: .int .i64 0 :: .int .i64 0 :: u25 :: u26 :: u27 :: u28 :: u29 :: u30 :: u31 :: u32 :: u33 :: u34 :: u35 :: u36 :: u37 :: u38 :: u39 :: u40 :: u41 :: u42 :: u43 :: u44 :: u45 :: u46 :: u47 :: u48 :: u49 :: u50 :: u51 :: u52 :: u53 :: u54 :: u55 :: u56 :: u57 :: u58 :: u59 :: u60 :: u61 :: u62 :: u63 :: u64 :: u65 :: u66 :: u67 :: u68 :: u69 :: u70 :: u71 :: u72 :: u73 :: u74 :: u75 :: u76 :: u77 :: u78 :: u79 :: u80 :: u81 :: u82 :: u83 :: u84 :: u85 :: u86 :: u87 :: u88 :: u89 :: u90 :: u91 :: u92 :: u93 :: u94 :: u95 :: u96 :: u97 :: u98 :: u99 :: u100 :: u101 :: u102 :: u103 :: u104 :: u105 :: u106 :: u107 :: u108 :: u109 :: u110 :: u111 :: u112 :: u113 :: u114 :: u115 :: u116 :: u117 :: u118 :: u119 :: u120 :: u121 :: u122 :: u123 :: v124 :: u125 :: u126 :: u127 :: u128 :: u129 :: u130 :: u131 :: u132 :: u133 :: u134 :: u135 :: u136 :: u137 :: u138 :: u139 :: u140 :: u141 :: u142 :: u143 :: u144 :: u145 :: u146 :: u147 :: u148 :: u149 :: u150 :: u151 :: u152 :: u153 :: u154 :: u155 :: u156 :: u157 :: u158 :: u159 :: u160 :: u161 :: u162 :: u163 :: u164 :: u165 :: u166 :: u167 :: u168 :: u169 :: u170 :: u171 :: u172 :: u173 :: u174 :: u175 :: u176 :: u177 :: u178 :: u179 :: u180 :: u181 :: u182 :: u183 :: u184 :: u185 :: u186 :: u187 :: u188 :: u189 :: u190 :: u191 :: u192 :: u193 :: u194 :: u195 :: u196 :: u197 :: u198 :: u199 :: u200 :: u201 :: u202 :: u203 :: u204 :: u205 :: u206 :: u207 :: u208 :: u209 :: u210 :: u211 :: u212 :: u213 :: u214 :: u215 :: u216 :: u217 :: u218 :: u219 :: u220 :: u221 :: u222 :: u223 :: u224 :: u225 :: u226 :: u227 :: u228 :: u229 :: u230 :: u231 :: u232 :: u233 :: u234 :: u235 :: u236 :: u237 :: u238 :: u239 :: u240 :: u241 :: u242 :: u243 :: u244 :: u245 :: u246 :: u247 :: u248 :: u249 :: u250 :: u251 :: u252 :: u253 :: u254 :: u255 :: u256 :: u257 :: u258 :: u259 :: u260 :: u261 :: u262 :: u263 :: u264 :: u265 :: u266 :: u267 :: u268 :: u269 :: u270 :: u271 :: u272 :: u273 :: u274 :: u275 :: u276 :: u277 :: u278 :: u279 :: u280 :: u281 :: []).toArray, defers := [] } w')) :
    (fstC (tailB 1 (roundU Tryz.f3))).wp Tryz.prog Q { tmps := (u0 :: u1 :: u2 :: u3 :: u4 :: .pointer (some ⟨gf, 0, none⟩) :: u6 :: u7 :: u8 :: u9 :: u10 :: u11 :: u12 :: u13 :: u14 :: u15 :: u16 :: u17 :: u18 :: u19 :: u20 :: u21 :: u22 :: u23 :: u24 :: u25 :: u26 :: u27 :: u28 :: u29 :: u30 :: u31 :: u32 :: u33 :: u34 :: u35 :: u36 :: u37 :: u38 :: u39 :: u40 :: u41 :: u42 :: u43 :: u44 :: u45 :: u46 :: u47 :: u48 :: u49 :: u50 :: u51 :: u52 :: u53 :: u54 :: u55 :: u56 :: u57 :: u58 :: u59 :: u60 :: u61 :: u62 :: u63 :: u64 :: u65 :: u66 :: u67 :: u68 :: u69 :: u70 :: u71 :: u72 :: u73 :: u74 :: u75 :: u76 :: u77 :: u78 :: u79 :: u80 :: u81 :: u82 :: u83 :: u84 :: u85 :: u86 :: u87 :: u88 :: u89 :: u90 :: u91 :: u92 :: u93 :: u94 :: u95 :: u96 :: u97 :: u98 :: u99 :: u100 :: u101 :: u102 :: u103 :: u104 :: u105 :: u106 :: u107 :: u108 :: u109 :: u110 :: u111 :: u112 :: u113 :: u114 :: u115 :: u116 :: u117 :: u118 :: u119 :: u120 :: u121 :: u122 :: u123 :: u124 :: u125 :: u126 :: u127 :: u128 :: u129 :: u130 :: u131 :: u132 :: u133 :: u134 :: u135 :: u136 :: u137 :: u138 :: u139 :: u140 :: u141 :: u142 :: u143 :: u144 :: u145 :: u146 :: u147 :: u148 :: u149 :: u150 :: u151 :: u152 :: u153 :: u154 :: u155 :: u156 :: u157 :: u158 :: u159 :: u160 :: u161 :: u162 :: u163 :: u164 :: u165 :: u166 :: u167 :: u168 :: u169 :: u170 :: u171 :: u172 :: u173 :: u174 :: u175 :: u176 :: u177 :: u178 :: u179 :: u180 :: u181 :: u182 :: u183 :: u184 :: u185 :: u186 :: u187 :: u188 :: u189 :: u190 :: u191 :: u192 :: u193 :: u194 :: u195 :: u196 :: u197 :: u198 :: u199 :: u200 :: u201 :: u202 :: u203 :: u204 :: u205 :: u206 :: u207 :: u208 :: u209 :: u210 :: u211 :: u212 :: u213 :: u214 :: u215 :: u216 :: u217 :: u218 :: u219 :: u220 :: u221 :: u222 :: u223 :: u224 :: u225 :: u226 :: u227 :: u228 :: u229 :: u230 :: u231 :: u232 :: u233 :: u234 :: u235 :: u236 :: u237 :: u238 :: u239 :: u240 :: u241 :: u242 :: u243 :: u244 :: u245 :: u246 :: u247 :: u248 :: u249 :: u250 :: u251 :: u252 :: u253 :: u254 :: u255 :: u256 :: u257 :: u258 :: u259 :: u260 :: u261 :: u262 :: u263 :: u264 :: u265 :: u266 :: u267 :: u268 :: u269 :: u270 :: u271 :: u272 :: u273 :: u274 :: u275 :: u276 :: u277 :: u278 :: u279 :: u280 :: u281 :: []).toArray, defers := [] } w := by
  dsimp only [fstC, sndC, blkC, loopC, thnC, tailB, roundU, bodyU, Tryz.f3, Option.getD]
  obtain ⟨A, n, c, B, m, d, C, k, e, fb, hd⟩ := XF.out
  obtain ⟨x, w1, w2, hx, ra, sa, fz, xb⟩ := fz_new (f := f0) hd
  have LD := Lib.hid fb.run
  have RA := Lib.hid ra
  have SA := Lib.hid sa
  have FZ := Lib.hid fz
  have XB := Lib.hid xb
  have HX := Lib.hid hx
  clear fb hd ra sa fz xb hx
  go_wp2_with (first
    | ((with_reducible refine opIs ⟨some 124, .load 25 (.tmp 5), _, _, _, _⟩ ?_); refine wpList_loadR rfl 25 (.tmp 5) rfl rfl LD.out ?_)
    | ((with_reducible refine opIs ⟨some 22, .alloc 25, _, _, _, _⟩ ?_); refine wpList_allocR rfl 25 rfl _ RA.out ?_)
    | ((with_reducible refine opIs ⟨none, .store 25 (.tmp 22) (.tmp 124), _, _, _, _⟩ ?_); refine wpList_storeR rfl 25 (.tmp 22) (.tmp 124) rfl rfl rfl SA.out ?_))
  exact HK.out _ _ HX.out XB.out FZ.out
end Go.Proofs.YtfpglkacjecoeaaGreat
