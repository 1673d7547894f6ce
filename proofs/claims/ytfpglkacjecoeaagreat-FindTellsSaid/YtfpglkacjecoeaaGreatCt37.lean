/- Several texts in one: A part of FindTells' walk. A part of FindTells' walk. A part of FindTells' walk. -/
import Derived.Test.YtfpglkacjecoeaaGreatCt36
import Derived.Test.YtfpglkacjecoeaaGreatCt22
import Derived.Test.YtfpglkacjecoeaaGreatCt23
namespace Go.Proofs.YtfpglkacjecoeaaGreat
open Go.RowKit
set_option linter.unusedSimpArgs false

set_option maxRecDepth 100000 in
set_option maxHeartbeats 16000000 in
theorem tell23 {Z : Nat → Prop} {Q : Exit → Act → World → Prop} {w : World} {gf gw gs gn : Nat} {f0 f1 : Finds.F} {E0 : Int} {u0 u1 u2 u3 u4 u6 u7 u8 u9 u10 u11 u12 u13 u14 u15 u16 u17 u18 u20 u25 u26 u27 u28 u29 u30 u31 u32 u33 u34 u35 u36 u37 u38 u39 u40 u41 u42 u43 u44 u45 u46 u47 u48 u49 u50 u51 u52 u53 u54 u55 u56 u57 u58 u59 u60 u61 u62 u63 u64 u65 u66 u67 u68 u69 u70 u71 u72 u73 u74 u75 u76 u77 u78 u79 u80 u81 u82 u83 u84 u85 u86 u87 u88 u89 u90 u91 u92 u93 u94 u95 u96 u97 u98 u99 u100 u101 u102 u103 u104 u105 u106 u107 u108 u109 u110 u111 u112 u113 u114 u115 u116 u117 u118 u119 u120 u121 u122 u123 u124 u125 u126 u127 u128 u129 u130 u131 u132 u133 u134 u135 u136 u137 u138 u139 u140 u141 u142 u143 u144 u145 u146 u147 u148 u149 u150 u151 u152 u153 u154 u155 u156 u157 u158 u159 u160 u161 u162 u163 u164 u165 u166 u167 u168 u169 u170 u171 u172 u173 u174 u175 u176 u177 u178 u179 u180 u181 u182 u183 u184 u185 u186 u187 u188 u189 u190 u191 u192 u193 u194 u195 u196 u197 u198 u199 u200 u201 u202 u203 u204 u205 u206 u207 u208 u209 u210 u211 u212 u213 u214 u215 u216 u217 u218 u219 u220 u221 u222 u223 u224 u225 u226 u227 u228 u229 u230 u231 u232 u233 u234 u235 u236 u237 u238 u239 u240 u241 u242 u243 u244 u245 u246 u247 u248 u249 u250 u251 u252 u253 u254 u255 u256 u257 u258 u259 u260 u261 u262 u263 u264 u265 u266 u267 u268 u269 u270 u271 u272 u273 u274 u275 u276 u277 u278 u279 u280 u281 : Value} (XF : RowKit.Hid (Fz Z w gf f0)) (XS : RowKit.Hid (Fz Z w gs f0)) (XN : RowKit.Hid (Fz Z w gn f1)) (XW : RowKit.Hid (Fz Z w gw f1)) (XM : RowKit.Hid (Sm13 f1))
    (HPN : RowKit.Hid (∀ ch (a : Act) (d : Nat) (v : Value) V, Q (.panic ch) (a.put (some d) v) V → Q (.panic ch) a V)) (HK : RowKit.Hid (∀ (w' : World), Ext w w' → ∀ {v219 v220 v221 v222 v223 v224 v225 v226 v227 v228 v229 v230 v231 v232 v233 v234 v235 v236 v237 v238 v239 v240 v241 v242 v243 v244 v245 v246 v247 v248 v249 v250 v251 v252 v253 v254 v255 : Value}, Q .normal { tmps := (u0 :: u1 :: u2 :: u3 :: u4 :: .pointer (some ⟨gf, 0, none⟩) :: u6 :: u7 :: u8 :: u9 :: u10 :: u11 :: u12 :: u13 :: u14 :: u15 :: u16 :: u17 :: u18 :: .pointer (some ⟨gw, 0, none⟩) :: u20 :: .pointer (some ⟨gs, 0, none⟩) :: .pointer (some ⟨gn, 0, none⟩) :: .int .i64 E0 :: .int .i64 E0 :: u25 :: u26 :: u27 :: u28 :: u29 :: u30 :: u31 :: u32 :: u33 :: u34 :: u35 :: u36 :: u37 :: u38 :: u39 :: u40 :: u41 :: u42 :: u43 :: u44 :: u45 :: u46 :: u47 :: u48 :: u49 :: u50 :: u51 :: u52 :: u53 :: u54 :: u55 :: u56 :: u57 :: u58 :: u59 :: u60 :: u61 :: u62 :: u63 :: u64 :: u65 :: u66 :: u67 :: u68 :: u69 :: u70 :: u71 :: u72 :: u73 :: u74 :: u75 :: u76 :: u77 :: u78 :: u79 :: u80 :: u81 :: u82 :: u83 :: u84 :: u85 :: u86 :: u87 :: u88 :: u89 :: u90 :: u91 :: u92 :: u93 :: u94 :: u95 :: u96 :: u97 :: u98 :: u99 :: u100 :: u101 :: u102 :: u103 :: u104 :: u105 :: u106 :: u107 :: u108 :: u109 :: u110 :: u111 :: u112 :: u113 :: u114 :: u115 :: u116 :: u117 :: u118 :: u119 :: u120 :: u121 :: u122 :: u123 :: u124 :: u125 :: u126 :: u127 :: u128 :: u129 :: u130 :: u131 :: u132 :: u133 :: u134 :: u135 :: u136 :: u137 :: u138 :: u139 :: u140 :: u141 :: u142 :: u143 :: u144 :: u145 :: u146 :: u147 :: u148 :: u149 :: u150 :: u151 :: u152 :: u153 :: u154 :: u155 :: u156 :: u157 :: u158 :: u159 :: u160 :: u161 :: u162 :: u163 :: u164 :: u165 :: u166 :: u167 :: u168 :: u169 :: u170 :: u171 :: u172 :: u173 :: u174 :: u175 :: u176 :: u177 :: u178 :: u179 :: u180 :: u181 :: u182 :: u183 :: u184 :: u185 :: u186 :: u187 :: u188 :: u189 :: u190 :: u191 :: u192 :: u193 :: u194 :: u195 :: u196 :: u197 :: u198 :: u199 :: u200 :: u201 :: u202 :: u203 :: u204 :: u205 :: u206 :: u207 :: u208 :: u209 :: u210 :: u211 :: u212 :: u213 :: u214 :: u215 :: u216 :: u217 :: u218 :: v219 :: v220 :: v221 :: v222 :: v223 :: v224 :: v225 :: v226 :: v227 :: v228 :: v229 :: v230 :: v231 :: v232 :: v233 :: v234 :: v235 :: v236 :: v237 :: v238 :: v239 :: v240 :: v241 :: v242 :: v243 :: v244 :: v245 :: v246 :: v247 :: v248 :: v249 :: v250 :: v251 :: v252 :: v253 :: v254 :: v255 :: .bool false :: u257 :: u258 :: u259 :: u260 :: u261 :: u262 :: u263 :: u264 :: u265 :: u266 :: u267 :: u268 :: u269 :: u270 :: u271 :: u272 :: u273 :: u274 :: u275 :: u276 :: u277 :: u278 :: u279 :: u280 :: u281 :: []).toArray, defers := [] } w')) :
    (fstC (fstC (tailB 4 (roundU Tryz.f3)))).wp Tryz.prog Q { tmps := (u0 :: u1 :: u2 :: u3 :: u4 :: .pointer (some ⟨gf, 0, none⟩) :: u6 :: u7 :: u8 :: u9 :: u10 :: u11 :: u12 :: u13 :: u14 :: u15 :: u16 :: u17 :: u18 :: .pointer (some ⟨gw, 0, none⟩) :: u20 :: .pointer (some ⟨gs, 0, none⟩) :: .pointer (some ⟨gn, 0, none⟩) :: .int .i64 E0 :: .int .i64 E0 :: u25 :: u26 :: u27 :: u28 :: u29 :: u30 :: u31 :: u32 :: u33 :: u34 :: u35 :: u36 :: u37 :: u38 :: u39 :: u40 :: u41 :: u42 :: u43 :: u44 :: u45 :: u46 :: u47 :: u48 :: u49 :: u50 :: u51 :: u52 :: u53 :: u54 :: u55 :: u56 :: u57 :: u58 :: u59 :: u60 :: u61 :: u62 :: u63 :: u64 :: u65 :: u66 :: u67 :: u68 :: u69 :: u70 :: u71 :: u72 :: u73 :: u74 :: u75 :: u76 :: u77 :: u78 :: u79 :: u80 :: u81 :: u82 :: u83 :: u84 :: u85 :: u86 :: u87 :: u88 :: u89 :: u90 :: u91 :: u92 :: u93 :: u94 :: u95 :: u96 :: u97 :: u98 :: u99 :: u100 :: u101 :: u102 :: u103 :: u104 :: u105 :: u106 :: u107 :: u108 :: u109 :: u110 :: u111 :: u112 :: u113 :: u114 :: u115 :: u116 :: u117 :: u118 :: u119 :: u120 :: u121 :: u122 :: u123 :: u124 :: u125 :: u126 :: u127 :: u128 :: u129 :: u130 :: u131 :: u132 :: u133 :: u134 :: u135 :: u136 :: u137 :: u138 :: u139 :: u140 :: u141 :: u142 :: u143 :: u144 :: u145 :: u146 :: u147 :: u148 :: u149 :: u150 :: u151 :: u152 :: u153 :: u154 :: u155 :: u156 :: u157 :: u158 :: u159 :: u160 :: u161 :: u162 :: u163 :: u164 :: u165 :: u166 :: u167 :: u168 :: u169 :: u170 :: u171 :: u172 :: u173 :: u174 :: u175 :: u176 :: u177 :: u178 :: u179 :: u180 :: u181 :: u182 :: u183 :: u184 :: u185 :: u186 :: u187 :: u188 :: u189 :: u190 :: u191 :: u192 :: u193 :: u194 :: u195 :: u196 :: u197 :: u198 :: u199 :: u200 :: u201 :: u202 :: u203 :: u204 :: u205 :: u206 :: u207 :: u208 :: u209 :: u210 :: u211 :: u212 :: u213 :: u214 :: u215 :: u216 :: u217 :: u218 :: u219 :: u220 :: u221 :: u222 :: u223 :: u224 :: u225 :: u226 :: u227 :: u228 :: u229 :: u230 :: u231 :: u232 :: u233 :: u234 :: u235 :: u236 :: u237 :: u238 :: u239 :: u240 :: u241 :: u242 :: u243 :: u244 :: u245 :: u246 :: u247 :: u248 :: u249 :: u250 :: u251 :: u252 :: u253 :: u254 :: u255 :: u256 :: u257 :: u258 :: u259 :: u260 :: u261 :: u262 :: u263 :: u264 :: u265 :: u266 :: u267 :: u268 :: u269 :: u270 :: u271 :: u272 :: u273 :: u274 :: u275 :: u276 :: u277 :: u278 :: u279 :: u280 :: u281 :: []).toArray, defers := [] } w := by
  dsimp only [fstC, sndC, blkC, loopC, thnC, tailB, roundU, bodyU, Tryz.f3, Option.getD]
  obtain ⟨A0, n0, c0, B0, m0, d0, C0, k0, e0, fb0, hd0⟩ := XF.out
  have FF := Lib.hid (fun (W : World) (hW : Ext w W) => fb0.ext hW)
  have y00 := hd0.fd.u.max
  have y01 := hd0.fd.u.le
  have y02 := hd0.fd.v.max
  have y03 := hd0.fd.v.le
  have y04 := hd0.fd.s.max
  have y05 := hd0.fd.s.le
  obtain ⟨A1, n1, c1, B1, m1, d1, C1, k1, e1, fb1, hd1⟩ := XS.out
  have FS := Lib.hid (fun (W : World) (hW : Ext w W) => fb1.ext hW)
  have y10 := hd1.fd.u.max
  have y11 := hd1.fd.u.le
  have y12 := hd1.fd.v.max
  have y13 := hd1.fd.v.le
  have y14 := hd1.fd.s.max
  have y15 := hd1.fd.s.le
  obtain ⟨A2, n2, c2, B2, m2, d2, C2, k2, e2, fb2, hd2⟩ := XN.out
  have FN_ := Lib.hid (fun (W : World) (hW : Ext w W) => fb2.ext hW)
  have y20 := hd2.fd.u.max
  have y21 := hd2.fd.u.le
  have y22 := hd2.fd.v.max
  have y23 := hd2.fd.v.le
  have y24 := hd2.fd.s.max
  have y25 := hd2.fd.s.le
  obtain ⟨A3, n3, c3, B3, m3, d3, C3, k3, e3, fb3, hd3⟩ := XW.out
  have FW := Lib.hid (fun (W : World) (hW : Ext w W) => fb3.ext hW)
  have y30 := hd3.fd.u.max
  have y31 := hd3.fd.u.le
  have y32 := hd3.fd.v.max
  have y33 := hd3.fd.v.le
  have y34 := hd3.fd.s.max
  have y35 := hd3.fd.s.le
  have hn2 : n2 ≤ 1000 ∧ m2 ≤ 1000 := by have h1 := hd2.fd.u.len; have h2 := hd2.fd.v.len; have h3 := XM.out.u; have h4 := XM.out.v; exact ⟨by omega, by omega⟩
  obtain ⟨bR, hbR⟩ : ∃ b, decide (Finds.right f1) = b := ⟨_, rfl⟩
  have HC6 := Lib.hid (fun (W : World) (hW : Ext w W) => (show Calls Tryz.prog 8 #[fval f1.stripe f1.version f1.need f1.phase (.slice A2 n2 c2) (.slice B2 m2 d2) (.slice C2 k2 e2), fval f1.stripe f1.version f1.need f1.phase (.slice A3 n3 c3) (.slice B3 m3 d3) (.slice C3 k3 e3)] W (fun r w' => r = .returned (.bool true) ∧ Ext W w') by have h := sameFind_any W f1 f1 _ _ _ _ _ _ _ _ _ _ _ _ _ _ _ _ _ _ (hd2.fd.ext hW) (hd3.fd.ext hW); rw [sameF_refl] at h; exact h))
  have HC12 := Lib.hid (fun (W : World) (hW : Ext w W) => (show Calls Tryz.prog 8 #[fval f0.stripe f0.version f0.need f0.phase (.slice A0 n0 c0) (.slice B0 m0 d0) (.slice C0 k0 e0), fval f0.stripe f0.version f0.need f0.phase (.slice A1 n1 c1) (.slice B1 m1 d1) (.slice C1 k1 e1)] W (fun r w' => r = .returned (.bool true) ∧ Ext W w') by have h := sameFind_any W f0 f0 _ _ _ _ _ _ _ _ _ _ _ _ _ _ _ _ _ _ (hd0.fd.ext hW) (hd1.fd.ext hW); rw [sameF_refl] at h; exact h))
  have HC17 := Lib.hid (fun (W : World) (hW : Ext w W) => (show Calls Tryz.prog 18 #[fval f1.stripe f1.version f1.need f1.phase (.slice A2 n2 c2) (.slice B2 m2 d2) (.slice C2 k2 e2)] W (fun r w' => r = .returned (.bool bR) ∧ Ext W w') by rw [← hbR]; exact fRight_any W f1 _ _ _ _ _ _ _ _ _ (hd2.fd.ext hW) hn2.1 hn2.2))
  have HC19 := Lib.hid (fun (W : World) (hW : Ext w W) => (show Calls Tryz.prog 19 #[fval f1.stripe f1.version f1.need f1.phase (.slice A3 n3 c3) (.slice B3 m3 d3) (.slice C3 k3 e3)] W (fun r w' => r = .returned (.bool bR) ∧ Ext W w') by rw [← hbR]; exact refRight13_any W f1 _ _ _ _ _ _ _ _ _ (hd3.fd.ext hW)))
  obtain ⟨LW, hLW⟩ : ∃ l, wants4 (Finds.wantsL f1) = l := ⟨_, rfl⟩
  have HC24 := Lib.hid (fun (W : World) (hW : Ext w W) => (show Calls Tryz.prog 21 #[fval f1.stripe f1.version f1.need f1.phase (.slice A2 n2 c2) (.slice B2 m2 d2) (.slice C2 k2 e2)] W (GivesW LW W) by rw [← hLW]; exact fWants_any W f1 _ _ _ _ _ _ _ _ _ (hd2.fd.ext hW) hn2.1 hn2.2))
  have HC26 := Lib.hid (fun (W : World) (hW : Ext w W) => (show Calls Tryz.prog 22 #[fval f1.stripe f1.version f1.need f1.phase (.slice A3 n3 c3) (.slice B3 m3 d3) (.slice C3 k3 e3)] W (GivesW LW W) by rw [← hLW]; exact refWants13_any W f1 _ _ _ _ _ _ _ _ _ (hd3.fd.ext hW)))
  obtain ⟨LL, hLL⟩ : ∃ l, Finds.lacksL f1 = l := ⟨_, rfl⟩
  have HC32 := Lib.hid (fun (W : World) (hW : Ext w W) => (show Calls Tryz.prog 24 #[fval f1.stripe f1.version f1.need f1.phase (.slice A2 n2 c2) (.slice B2 m2 d2) (.slice C2 k2 e2)] W (fun r w' => ∃ v, r = .returned v ∧ NewInts W w' v LL) by rw [← hLL]; exact fLacks_any W f1 _ _ _ _ _ _ _ _ _ (hd2.fd.ext hW) hn2.1 hn2.2))
  have HC34 := Lib.hid (fun (W : World) (hW : Ext w W) => (show Calls Tryz.prog 25 #[fval f1.stripe f1.version f1.need f1.phase (.slice A3 n3 c3) (.slice B3 m3 d3) (.slice C3 k3 e3)] W (fun r w' => ∃ v, r = .returned v ∧ NewInts W w' v LL) by rw [← hLL]; exact refLacks13_any W f1 _ _ _ _ _ _ _ _ _ (hd3.fd.ext hW)))
  clear hbR hLW hLL hn2 fb0 fb1 fb2 fb3 hd0 hd1 hd2 hd3
  have hS : (fun Wx : World => Hid (Ext w Wx)) w.drew := Lib.hid (Ext.drew w)
  refine wp_region_T (S := (fun Wx : World => Hid (Ext w Wx))) 37 rfl rfl ?_
  refine takeC [30,29,22,21,15,14,9,8,3,2] (i := 0) (v := ?_) rfl (by kernel_rfl) (by kernel_rfl) (by kernel_rfl) (by kernel_rfl) (by decide) (fun _ _ _ h => HPN.out _ _ _ _ _ h) (by kernel_rfl) (Or.inl ⟨by kernel_rfl, ?_⟩) (by assumption) ?_
  rotate_left
  · (intro W9 hSw; go_simp; (try with_reducible rfl))
  try simp only [Act.put, List.getElem_toArray, List.getElem_cons_succ, List.getElem_cons_zero, List.setIfInBounds_toArray, List.set_cons_zero, List.set_cons_succ]
  refine takeC [30,29,22,21,15,14,9,8,3,2] (i := 1) (v := ?_) rfl (by kernel_rfl) (by kernel_rfl) (by kernel_rfl) (by kernel_rfl) (by decide) (fun _ _ _ h => HPN.out _ _ _ _ _ h) (by kernel_rfl) (Or.inl ⟨by kernel_rfl, ?_⟩) (by assumption) ?_
  rotate_left
  · (intro W9 hSw; go_simp; (try with_reducible rfl))
  try simp only [Act.put, List.getElem_toArray, List.getElem_cons_succ, List.getElem_cons_zero, List.setIfInBounds_toArray, List.set_cons_zero, List.set_cons_succ]
  refine takeC [30,29,22,21,15,14,9,8,3] (i := 2) (v := ?_) rfl (by kernel_rfl) (by kernel_rfl) (by kernel_rfl) (by kernel_rfl) (by decide) (fun _ _ _ h => HPN.out _ _ _ _ _ h) (by kernel_rfl) (Or.inl ⟨by kernel_rfl, ?_⟩) (by assumption) ?_
  rotate_left
  · (intro W9 hSw; go_simp; (try with_reducible rfl))
  try simp only [Act.put, List.getElem_toArray, List.getElem_cons_succ, List.getElem_cons_zero, List.setIfInBounds_toArray, List.set_cons_zero, List.set_cons_succ]
  refine takeC [30,29,22,21,15,14,9,8] (i := 3) (v := ?_) rfl (by kernel_rfl) (by kernel_rfl) (by kernel_rfl) (by kernel_rfl) (by decide) (fun _ _ _ h => HPN.out _ _ _ _ _ h) (by kernel_rfl) (Or.inl ⟨by kernel_rfl, ?_⟩) (by assumption) ?_
  rotate_left
  · (intro W9 hSw; go_simp; (try with_reducible rfl))
  try simp only [Act.put, List.getElem_toArray, List.getElem_cons_succ, List.getElem_cons_zero, List.setIfInBounds_toArray, List.set_cons_zero, List.set_cons_succ]
  refine takeC [30,29,22,21,15,14,9,6] (i := 4) (v := ?_) rfl (by kernel_rfl) (by kernel_rfl) (by kernel_rfl) (by kernel_rfl) (by decide) (fun _ _ _ h => HPN.out _ _ _ _ _ h) (by kernel_rfl) (Or.inl ⟨by kernel_rfl, ?_⟩) (by assumption) ?_
  rotate_left
  · (intro W9 hSw; (have b := FN_.out _ hSw.out; have a0 := b.c0; have a1 := b.c1; have a2 := b.c2; have a3 := b.c3; have a4 := b.c4; have a5 := b.c5; have a6 := b.c6; clear b hSw; skip); go_simp; (try with_reducible rfl))
  try simp only [Act.put, List.getElem_toArray, List.getElem_cons_succ, List.getElem_cons_zero, List.setIfInBounds_toArray, List.set_cons_zero, List.set_cons_succ]
  refine takeC [30,29,22,21,15,14,9,6] (i := 5) (v := ?_) rfl (by kernel_rfl) (by kernel_rfl) (by kernel_rfl) (by kernel_rfl) (by decide) (fun _ _ _ h => HPN.out _ _ _ _ _ h) (by kernel_rfl) (Or.inl ⟨by kernel_rfl, ?_⟩) (by assumption) ?_
  rotate_left
  · (intro W9 hSw; (have b := FW.out _ hSw.out; have a0 := b.c0; have a1 := b.c1; have a2 := b.c2; have a3 := b.c3; have a4 := b.c4; have a5 := b.c5; have a6 := b.c6; clear b hSw; skip); go_simp; (try with_reducible rfl))
  try simp only [Act.put, List.getElem_toArray, List.getElem_cons_succ, List.getElem_cons_zero, List.setIfInBounds_toArray, List.set_cons_zero, List.set_cons_succ]
  refine oneT (i := 6) rfl (by kernel_rfl) (fun K hK => ?_)
  rw [if_pos (by kernel_rfl)]
  go_wp2_with (fail)
  with_reducible refine (HC6.out _ hS.out).mono ?_
  rintro r q1 ⟨rfl, xq⟩
  have hS1 : (fun Wx : World => Hid (Ext w Wx)) q1 := Lib.hid (hS.out.trans xq)
  clear xq
  go_wp2_with (fail)
  refine hK.out _ _ (fun _ => hS1) ?_
  clear hK K
  try simp only [Act.put, List.getElem_toArray, List.getElem_cons_succ, List.getElem_cons_zero, List.setIfInBounds_toArray, List.set_cons_zero, List.set_cons_succ]
  refine takeC [30,29,22,21,15,14,9,8] (i := 7) (v := ?_) rfl (by kernel_rfl) (by kernel_rfl) (by kernel_rfl) (by kernel_rfl) (by decide) (fun _ _ _ h => HPN.out _ _ _ _ _ h) (by kernel_rfl) (Or.inl ⟨by kernel_rfl, ?_⟩) (by assumption) ?_
  rotate_left
  · (intro W9 hSw; go_simp; (try with_reducible rfl))
  try simp only [Act.put, List.getElem_toArray, List.getElem_cons_succ, List.getElem_cons_zero, List.setIfInBounds_toArray, List.set_cons_zero, List.set_cons_succ]
  refine takeC [30,29,22,21,15,14,9] (i := 8) (v := ?_) rfl (by kernel_rfl) (by kernel_rfl) (by kernel_rfl) (by kernel_rfl) (by decide) (fun _ _ _ h => HPN.out _ _ _ _ _ h) (by kernel_rfl) (Or.inl ⟨by kernel_rfl, ?_⟩) (by assumption) ?_
  rotate_left
  · (intro W9 hSw; go_simp; (try with_reducible rfl))
  try simp only [Act.put, List.getElem_toArray, List.getElem_cons_succ, List.getElem_cons_zero, List.setIfInBounds_toArray, List.set_cons_zero, List.set_cons_succ]
  refine takeC [30,29,22,21,15,14] (i := 9) (v := ?_) rfl (by kernel_rfl) (by kernel_rfl) (by kernel_rfl) (by kernel_rfl) (by decide) (fun _ _ _ h => HPN.out _ _ _ _ _ h) (by kernel_rfl) (Or.inl ⟨by kernel_rfl, ?_⟩) (by assumption) ?_
  rotate_left
  · (intro W9 hSw; go_simp; (try with_reducible rfl))
  try simp only [Act.put, List.getElem_toArray, List.getElem_cons_succ, List.getElem_cons_zero, List.setIfInBounds_toArray, List.set_cons_zero, List.set_cons_succ]
  refine takeC [30,29,22,21,15,12] (i := 10) (v := ?_) rfl (by kernel_rfl) (by kernel_rfl) (by kernel_rfl) (by kernel_rfl) (by decide) (fun _ _ _ h => HPN.out _ _ _ _ _ h) (by kernel_rfl) (Or.inl ⟨by kernel_rfl, ?_⟩) (by assumption) ?_
  rotate_left
  · (intro W9 hSw; (have b := FF.out _ hSw.out; have a0 := b.c0; have a1 := b.c1; have a2 := b.c2; have a3 := b.c3; have a4 := b.c4; have a5 := b.c5; have a6 := b.c6; clear b hSw; skip); go_simp; (try with_reducible rfl))
  try simp only [Act.put, List.getElem_toArray, List.getElem_cons_succ, List.getElem_cons_zero, List.setIfInBounds_toArray, List.set_cons_zero, List.set_cons_succ]
  refine takeC [30,29,22,21,15,12] (i := 11) (v := ?_) rfl (by kernel_rfl) (by kernel_rfl) (by kernel_rfl) (by kernel_rfl) (by decide) (fun _ _ _ h => HPN.out _ _ _ _ _ h) (by kernel_rfl) (Or.inl ⟨by kernel_rfl, ?_⟩) (by assumption) ?_
  rotate_left
  · (intro W9 hSw; (have b := FS.out _ hSw.out; have a0 := b.c0; have a1 := b.c1; have a2 := b.c2; have a3 := b.c3; have a4 := b.c4; have a5 := b.c5; have a6 := b.c6; clear b hSw; skip); go_simp; (try with_reducible rfl))
  try simp only [Act.put, List.getElem_toArray, List.getElem_cons_succ, List.getElem_cons_zero, List.setIfInBounds_toArray, List.set_cons_zero, List.set_cons_succ]
  refine oneT (i := 12) rfl (by kernel_rfl) (fun K hK => ?_)
  rw [if_pos (by kernel_rfl)]
  go_wp2_with (fail)
  with_reducible refine (HC12.out _ hS1.out).mono ?_
  rintro r q2 ⟨rfl, xq⟩
  have hS2 : (fun Wx : World => Hid (Ext w Wx)) q2 := Lib.hid (hS1.out.trans xq)
  clear xq
  go_wp2_with (fail)
  refine hK.out _ _ (fun _ => hS2) ?_
  clear hK K
  try simp only [Act.put, List.getElem_toArray, List.getElem_cons_succ, List.getElem_cons_zero, List.setIfInBounds_toArray, List.set_cons_zero, List.set_cons_succ]
  refine takeC [30,29,22,21,15,14] (i := 13) (v := ?_) rfl (by kernel_rfl) (by kernel_rfl) (by kernel_rfl) (by kernel_rfl) (by decide) (fun _ _ _ h => HPN.out _ _ _ _ _ h) (by kernel_rfl) (Or.inl ⟨by kernel_rfl, ?_⟩) (by assumption) ?_
  rotate_left
  · (intro W9 hSw; go_simp; (try with_reducible rfl))
  try simp only [Act.put, List.getElem_toArray, List.getElem_cons_succ, List.getElem_cons_zero, List.setIfInBounds_toArray, List.set_cons_zero, List.set_cons_succ]
  refine takeC [30,29,22,21,15] (i := 14) (v := ?_) rfl (by kernel_rfl) (by kernel_rfl) (by kernel_rfl) (by kernel_rfl) (by decide) (fun _ _ _ h => HPN.out _ _ _ _ _ h) (by kernel_rfl) (Or.inl ⟨by kernel_rfl, ?_⟩) (by assumption) ?_
  rotate_left
  · (intro W9 hSw; go_simp; (try with_reducible rfl))
  try simp only [Act.put, List.getElem_toArray, List.getElem_cons_succ, List.getElem_cons_zero, List.setIfInBounds_toArray, List.set_cons_zero, List.set_cons_succ]
  refine takeC [30,29,22,21] (i := 15) (v := ?_) rfl (by kernel_rfl) (by kernel_rfl) (by kernel_rfl) (by kernel_rfl) (by decide) (fun _ _ _ h => HPN.out _ _ _ _ _ h) (by kernel_rfl) (Or.inl ⟨by kernel_rfl, ?_⟩) (by assumption) ?_
  rotate_left
  · (intro W9 hSw; go_simp; (try with_reducible rfl))
  try simp only [Act.put, List.getElem_toArray, List.getElem_cons_succ, List.getElem_cons_zero, List.setIfInBounds_toArray, List.set_cons_zero, List.set_cons_succ]
  refine takeC [30,29,22,19,17] (i := 16) (v := ?_) rfl (by kernel_rfl) (by kernel_rfl) (by kernel_rfl) (by kernel_rfl) (by decide) (fun _ _ _ h => HPN.out _ _ _ _ _ h) (by kernel_rfl) (Or.inl ⟨by kernel_rfl, ?_⟩) (by assumption) ?_
  rotate_left
  · (intro W9 hSw; (have b := FN_.out _ hSw.out; have a0 := b.c0; have a1 := b.c1; have a2 := b.c2; have a3 := b.c3; have a4 := b.c4; have a5 := b.c5; have a6 := b.c6; clear b hSw; skip); go_simp; (try with_reducible rfl))
  try simp only [Act.put, List.getElem_toArray, List.getElem_cons_succ, List.getElem_cons_zero, List.setIfInBounds_toArray, List.set_cons_zero, List.set_cons_succ]
  refine takeC [30,29,22,19] (i := 18) (v := ?_) rfl (by kernel_rfl) (by kernel_rfl) (by kernel_rfl) (by kernel_rfl) (by decide) (fun _ _ _ h => HPN.out _ _ _ _ _ h) (by kernel_rfl) (Or.inl ⟨by kernel_rfl, ?_⟩) (by assumption) ?_
  rotate_left
  · (intro W9 hSw; (have b := FW.out _ hSw.out; have a0 := b.c0; have a1 := b.c1; have a2 := b.c2; have a3 := b.c3; have a4 := b.c4; have a5 := b.c5; have a6 := b.c6; clear b hSw; skip); go_simp; (try with_reducible rfl))
  try simp only [Act.put, List.getElem_toArray, List.getElem_cons_succ, List.getElem_cons_zero, List.setIfInBounds_toArray, List.set_cons_zero, List.set_cons_succ]
  refine oneT (i := 17) rfl (by kernel_rfl) (fun K hK => ?_)
  rw [if_pos (by kernel_rfl)]
  go_wp2_with (fail)
  with_reducible refine (HC17.out _ hS2.out).mono ?_
  rintro r q3 ⟨rfl, xq⟩
  have hS3 : (fun Wx : World => Hid (Ext w Wx)) q3 := Lib.hid (hS2.out.trans xq)
  clear xq
  go_wp2_with (fail)
  refine hK.out _ _ (fun _ => hS3) ?_
  clear hK K
  try simp only [Act.put, List.getElem_toArray, List.getElem_cons_succ, List.getElem_cons_zero, List.setIfInBounds_toArray, List.set_cons_zero, List.set_cons_succ]
  refine oneT (i := 19) rfl (by kernel_rfl) (fun K hK => ?_)
  rw [if_pos (by kernel_rfl)]
  go_wp2_with (fail)
  with_reducible refine (HC19.out _ hS3.out).mono ?_
  rintro r q4 ⟨rfl, xq⟩
  have hS4 : (fun Wx : World => Hid (Ext w Wx)) q4 := Lib.hid (hS3.out.trans xq)
  clear xq
  go_wp2_with (fail)
  refine hK.out _ _ (fun _ => hS4) ?_
  clear hK K
  try simp only [Act.put, List.getElem_toArray, List.getElem_cons_succ, List.getElem_cons_zero, List.setIfInBounds_toArray, List.set_cons_zero, List.set_cons_succ]
  refine takeC [30,29,22,21] (i := 20) (v := ?_) rfl (by kernel_rfl) (by kernel_rfl) (by kernel_rfl) (by kernel_rfl) (by decide) (fun _ _ _ h => HPN.out _ _ _ _ _ h) (by kernel_rfl) (Or.inl ⟨by kernel_rfl, ?_⟩) (by assumption) ?_
  rotate_left
  · (intro W9 hSw; go_simp; (try with_reducible rfl))
  try simp only [Act.put, List.getElem_toArray, List.getElem_cons_succ, List.getElem_cons_zero, List.setIfInBounds_toArray, List.set_cons_zero, List.set_cons_succ]
  refine takeC [30,29,22] (i := 21) (v := ?_) rfl (by kernel_rfl) (by kernel_rfl) (by kernel_rfl) (by kernel_rfl) (by decide) (fun _ _ _ h => HPN.out _ _ _ _ _ h) (by kernel_rfl) (Or.inl ⟨by kernel_rfl, ?_⟩) (by assumption) ?_
  rotate_left
  · (intro W9 hSw; go_simp; (try with_reducible rfl))
  try simp only [Act.put, List.getElem_toArray, List.getElem_cons_succ, List.getElem_cons_zero, List.setIfInBounds_toArray, List.set_cons_zero, List.set_cons_succ]
  refine takeC [30,29] (i := 22) (v := ?_) rfl (by kernel_rfl) (by kernel_rfl) (by kernel_rfl) (by kernel_rfl) (by decide) (fun _ _ _ h => HPN.out _ _ _ _ _ h) (by kernel_rfl) (Or.inl ⟨by kernel_rfl, ?_⟩) (by assumption) ?_
  rotate_left
  · (intro W9 hSw; go_simp; (try with_reducible rfl))
  try simp only [Act.put, List.getElem_toArray, List.getElem_cons_succ, List.getElem_cons_zero, List.setIfInBounds_toArray, List.set_cons_zero, List.set_cons_succ]
  refine takeC [30,27,24] (i := 23) (v := ?_) rfl (by kernel_rfl) (by kernel_rfl) (by kernel_rfl) (by kernel_rfl) (by decide) (fun _ _ _ h => HPN.out _ _ _ _ _ h) (by kernel_rfl) (Or.inl ⟨by kernel_rfl, ?_⟩) (by assumption) ?_
  rotate_left
  · (intro W9 hSw; (have b := FN_.out _ hSw.out; have a0 := b.c0; have a1 := b.c1; have a2 := b.c2; have a3 := b.c3; have a4 := b.c4; have a5 := b.c5; have a6 := b.c6; clear b hSw; skip); go_simp; (try with_reducible rfl))
  try simp only [Act.put, List.getElem_toArray, List.getElem_cons_succ, List.getElem_cons_zero, List.setIfInBounds_toArray, List.set_cons_zero, List.set_cons_succ]
  refine takeC [30,27,26] (i := 25) (v := ?_) rfl (by kernel_rfl) (by kernel_rfl) (by kernel_rfl) (by kernel_rfl) (by decide) (fun _ _ _ h => HPN.out _ _ _ _ _ h) (by kernel_rfl) (Or.inl ⟨by kernel_rfl, ?_⟩) (by assumption) ?_
  rotate_left
  · (intro W9 hSw; (have b := FW.out _ hSw.out; have a0 := b.c0; have a1 := b.c1; have a2 := b.c2; have a3 := b.c3; have a4 := b.c4; have a5 := b.c5; have a6 := b.c6; clear b hSw; skip); go_simp; (try with_reducible rfl))
  try simp only [Act.put, List.getElem_toArray, List.getElem_cons_succ, List.getElem_cons_zero, List.setIfInBounds_toArray, List.set_cons_zero, List.set_cons_succ]
  refine oneT (i := 24) rfl (by kernel_rfl) (fun K hK => ?_)
  rw [if_pos (by kernel_rfl)]
  go_wp2_with (fail)
  with_reducible refine (HC24.out _ hS4.out).mono ?_
  rintro r q5 ⟨Ap, np, cp, rfl, hp, xq⟩
  have hS5 : (fun Wx : World => Hid (Ext w Wx)) q5 := Lib.hid (hS4.out.trans xq)
  have HP := Lib.hid hp
  clear xq hp
  go_wp2_with (fail)
  refine hK.out _ _ (fun _ => hS5) ?_
  clear hK K
  try simp only [Act.put, List.getElem_toArray, List.getElem_cons_succ, List.getElem_cons_zero, List.setIfInBounds_toArray, List.set_cons_zero, List.set_cons_succ]
  refine oneT (i := 26) rfl (by kernel_rfl) (fun K hK => ?_)
  rw [if_pos (by kernel_rfl)]
  go_wp2_with (fail)
  with_reducible refine (HC26.out _ hS5.out).mono ?_
  rintro r q6 ⟨Aq, nq, cq, rfl, hp, xq⟩
  have hS6 : (fun Wx : World => Hid (Ext w Wx)) q6 := Lib.hid (hS5.out.trans xq)
  have HP := Lib.hid (HP.out.ext xq)
  have HQ := Lib.hid hp
  clear xq hp
  go_wp2_with (fail)
  refine hK.out _ _ (fun _ => hS6) ?_
  clear hK K
  try simp only [Act.put, List.getElem_toArray, List.getElem_cons_succ, List.getElem_cons_zero, List.setIfInBounds_toArray, List.set_cons_zero, List.set_cons_succ]
  refine oneT (i := 27) rfl (by kernel_rfl) (fun K hK => ?_)
  rw [if_pos (by kernel_rfl)]
  have hc := sameWants_any q6 _ _ _ _ _ _ _ _ HP.out HQ.out
  rw [decide_eq_true rfl] at hc
  have HC := Lib.hid hc
  clear hc
  go_wp2_with (fail)
  with_reducible refine HC.out.mono ?_
  rintro r q7 ⟨rfl, xq⟩
  have hS7 : (fun Wx : World => Hid (Ext w Wx)) q7 := Lib.hid (hS6.out.trans xq.ext)
  clear xq HC HP HQ
  go_wp2_with (fail)
  refine hK.out _ _ (fun _ => hS7) ?_
  clear hK K
  try simp only [Act.put, List.getElem_toArray, List.getElem_cons_succ, List.getElem_cons_zero, List.setIfInBounds_toArray, List.set_cons_zero, List.set_cons_succ]
  refine takeC [30,29] (i := 28) (v := ?_) rfl (by kernel_rfl) (by kernel_rfl) (by kernel_rfl) (by kernel_rfl) (by decide) (fun _ _ _ h => HPN.out _ _ _ _ _ h) (by kernel_rfl) (Or.inl ⟨by kernel_rfl, ?_⟩) (by assumption) ?_
  rotate_left
  · (intro W9 hSw; go_simp; (try with_reducible rfl))
  try simp only [Act.put, List.getElem_toArray, List.getElem_cons_succ, List.getElem_cons_zero, List.setIfInBounds_toArray, List.set_cons_zero, List.set_cons_succ]
  refine takeC [30] (i := 29) (v := ?_) rfl (by kernel_rfl) (by kernel_rfl) (by kernel_rfl) (by kernel_rfl) (by decide) (fun _ _ _ h => HPN.out _ _ _ _ _ h) (by kernel_rfl) (Or.inl ⟨by kernel_rfl, ?_⟩) (by assumption) ?_
  rotate_left
  · (intro W9 hSw; go_simp; (try with_reducible rfl))
  try simp only [Act.put, List.getElem_toArray, List.getElem_cons_succ, List.getElem_cons_zero, List.setIfInBounds_toArray, List.set_cons_zero, List.set_cons_succ]
  refine takeC [] (i := 30) (v := ?_) rfl (by kernel_rfl) (by kernel_rfl) (by kernel_rfl) (by kernel_rfl) (by decide) (fun _ _ _ h => HPN.out _ _ _ _ _ h) (by kernel_rfl) (Or.inl ⟨by kernel_rfl, ?_⟩) (by assumption) ?_
  rotate_left
  · (intro W9 hSw; go_simp; (try with_reducible rfl))
  try simp only [Act.put, List.getElem_toArray, List.getElem_cons_succ, List.getElem_cons_zero, List.setIfInBounds_toArray, List.set_cons_zero, List.set_cons_succ]
  refine takeC [36,35,32] (i := 31) (v := ?_) rfl (by kernel_rfl) (by kernel_rfl) (by kernel_rfl) (by kernel_rfl) (by decide) (fun _ _ _ h => HPN.out _ _ _ _ _ h) (by kernel_rfl) (Or.inl ⟨by kernel_rfl, ?_⟩) (by assumption) ?_
  rotate_left
  · (intro W9 hSw; (have b := FN_.out _ hSw.out; have a0 := b.c0; have a1 := b.c1; have a2 := b.c2; have a3 := b.c3; have a4 := b.c4; have a5 := b.c5; have a6 := b.c6; clear b hSw; skip); go_simp; (try with_reducible rfl))
  try simp only [Act.put, List.getElem_toArray, List.getElem_cons_succ, List.getElem_cons_zero, List.setIfInBounds_toArray, List.set_cons_zero, List.set_cons_succ]
  refine takeC [36,35,34] (i := 33) (v := ?_) rfl (by kernel_rfl) (by kernel_rfl) (by kernel_rfl) (by kernel_rfl) (by decide) (fun _ _ _ h => HPN.out _ _ _ _ _ h) (by kernel_rfl) (Or.inl ⟨by kernel_rfl, ?_⟩) (by assumption) ?_
  rotate_left
  · (intro W9 hSw; (have b := FW.out _ hSw.out; have a0 := b.c0; have a1 := b.c1; have a2 := b.c2; have a3 := b.c3; have a4 := b.c4; have a5 := b.c5; have a6 := b.c6; clear b hSw; skip); go_simp; (try with_reducible rfl))
  try simp only [Act.put, List.getElem_toArray, List.getElem_cons_succ, List.getElem_cons_zero, List.setIfInBounds_toArray, List.set_cons_zero, List.set_cons_succ]
  refine oneT (i := 32) rfl (by kernel_rfl) (fun K hK => ?_)
  rw [if_pos (by kernel_rfl)]
  go_wp2_with (fail)
  with_reducible refine (HC32.out _ hS7.out).mono ?_
  rintro r q8 ⟨v8, rfl, hv⟩
  obtain ⟨A8, c8, rfl, hi8⟩ := hv.is
  have hS8 : (fun Wx : World => Hid (Ext w Wx)) q8 := Lib.hid (hS7.out.trans hv.ext)
  have HP := Lib.hid hi8
  clear hv hi8
  go_wp2_with (fail)
  refine hK.out _ _ (fun _ => hS8) ?_
  clear hK K
  try simp only [Act.put, List.getElem_toArray, List.getElem_cons_succ, List.getElem_cons_zero, List.setIfInBounds_toArray, List.set_cons_zero, List.set_cons_succ]
  refine oneT (i := 34) rfl (by kernel_rfl) (fun K hK => ?_)
  rw [if_pos (by kernel_rfl)]
  go_wp2_with (fail)
  with_reducible refine (HC34.out _ hS8.out).mono ?_
  rintro r q9 ⟨v9, rfl, hv⟩
  obtain ⟨A9, c9, rfl, hi9⟩ := hv.is
  have hS9 : (fun Wx : World => Hid (Ext w Wx)) q9 := Lib.hid (hS8.out.trans hv.ext)
  have HP := Lib.hid (HP.out.ext hv.ext)
  have HQ := Lib.hid hi9
  clear hv hi9
  go_wp2_with (fail)
  refine hK.out _ _ (fun _ => hS9) ?_
  clear hK K
  try simp only [Act.put, List.getElem_toArray, List.getElem_cons_succ, List.getElem_cons_zero, List.setIfInBounds_toArray, List.set_cons_zero, List.set_cons_succ]
  refine oneT (i := 35) rfl (by kernel_rfl) (fun K hK => ?_)
  rw [if_pos (by kernel_rfl)]
  have hc := sameInts_any q9 _ _ _ _ _ _ _ _ HP.out HQ.out
  rw [decide_eq_true rfl] at hc
  have HC := Lib.hid hc
  clear hc
  go_wp2_with (fail)
  with_reducible refine HC.out.mono ?_
  rintro r q10 ⟨rfl, xq⟩
  have hS10 : (fun Wx : World => Hid (Ext w Wx)) q10 := Lib.hid (hS9.out.trans xq.ext)
  clear xq HC HP HQ
  go_wp2_with (fail)
  refine hK.out _ _ (fun _ => hS10) ?_
  clear hK K
  try simp only [Act.put, List.getElem_toArray, List.getElem_cons_succ, List.getElem_cons_zero, List.setIfInBounds_toArray, List.set_cons_zero, List.set_cons_succ]
  refine takeC [] (i := 36) (v := ?_) rfl (by kernel_rfl) (by kernel_rfl) (by kernel_rfl) (by kernel_rfl) (by decide) (fun _ _ _ h => HPN.out _ _ _ _ _ h) (by kernel_rfl) (Or.inl ⟨by kernel_rfl, ?_⟩) (by assumption) ?_
  rotate_left
  · (intro W9 hSw; go_simp; (try with_reducible rfl))
  try simp only [Act.put, List.getElem_toArray, List.getElem_cons_succ, List.getElem_cons_zero, List.setIfInBounds_toArray, List.set_cons_zero, List.set_cons_succ]
  refine oneT (i := 37) rfl (by kernel_rfl) (fun K hK => ?_)
  rw [if_pos (by kernel_rfl)]
  go_wp2_with (fail)
  refine hK.out _ _ (fun h => absurd (show true = false from h) (by decide)) ?_
  clear hK K
  try simp only [Act.put, List.getElem_toArray, List.getElem_cons_succ, List.getElem_cons_zero, List.setIfInBounds_toArray, List.set_cons_zero, List.set_cons_succ]
  refine doneT (by kernel_rfl) ?_ _
  go_wp2_with (fail)
  exact HK.out _ hS10.out
end Go.Proofs.YtfpglkacjecoeaaGreat
namespace Go.Proofs.YtfpglkacjecoeaaGreat
open Go.RowKit
set_option linter.unusedSimpArgs false

/-- What is known of the two codes. -/
def Coded (w : World) (VC : Value) (gd : Nat) (EH : Int) : Prop := EH = 0 → ∃ bC fbC K N A c, VC = cptr bC ∧ Cd w bC fbC K N ∧ w.heap[gd]? = some (.cells #[.int .i64 (K : Int), .int .i64 (N : Int), .slice A N c] 41 (0, 0)) ∧ Mx w A N c (Gm.gen K N) ∧ 1 ≤ K ∧ K ≤ N ∧ N ≤ 255
theorem Coded.rw {Y : Nat → Prop} {w w' : World} {VC : Value} {gd : Nat} {EH : Int} (h : Coded w VC gd EH) (hr : Rw Y w w') (hd : ¬ Y gd) : Coded w' VC gd EH := fun e => by
  obtain ⟨bC, fbC, K, N, A, c, h1, h2, h3, h4, h5, h6, h7⟩ := h e
  exact ⟨bC, fbC, K, N, A, c, h1, hr.cd _ _ _ _ h2, (hr.aw.block gd (Array.getElem?_eq_some_iff.1 h3).1 hd).trans h3, hr.mx _ _ _ _ h5 h6 h4, h5, h6, h7⟩
set_option maxRecDepth 100000 in
set_option maxHeartbeats 8000000 in
theorem tell25 {Z : Nat → Prop} {Q : Exit → Act → World → Prop} {w : World} {gw gn gd : Nat} {f1 : Finds.F} {EH : Int} {VC : Value} {u0 u1 u2 u3 u4 u5 u6 u7 u8 u9 u10 u11 u12 u13 u14 u18 u20 u21 u23 u24 u25 u26 u27 u28 u29 u30 u31 u32 u33 u34 u35 u36 u37 u38 u39 u40 u41 u42 u43 u44 u45 u46 u47 u48 u49 u50 u51 u52 u53 u54 u55 u56 u57 u58 u59 u60 u61 u62 u63 u64 u65 u66 u67 u68 u69 u70 u71 u72 u73 u74 u75 u76 u77 u78 u79 u80 u81 u82 u83 u84 u85 u86 u87 u88 u89 u90 u91 u92 u93 u94 u95 u96 u97 u98 u99 u100 u101 u102 u103 u104 u105 u106 u107 u108 u109 u110 u111 u112 u113 u114 u115 u116 u117 u118 u119 u120 u121 u122 u123 u124 u125 u126 u127 u128 u129 u130 u131 u132 u133 u134 u135 u136 u137 u138 u139 u140 u141 u142 u143 u144 u145 u146 u147 u148 u149 u150 u151 u152 u153 u154 u155 u156 u157 u158 u159 u160 u161 u162 u163 u164 u165 u166 u167 u168 u169 u170 u171 u172 u173 u174 u175 u176 u177 u178 u179 u180 u181 u182 u183 u184 u185 u186 u187 u188 u189 u190 u191 u192 u193 u194 u195 u196 u197 u198 u199 u200 u201 u202 u203 u204 u205 u206 u207 u208 u209 u210 u211 u212 u213 u214 u215 u216 u217 u218 u219 u220 u221 u222 u223 u224 u225 u226 u227 u228 u229 u230 u231 u232 u233 u234 u235 u236 u237 u238 u239 u240 u241 u242 u243 u244 u245 u246 u247 u248 u249 u250 u251 u252 u253 u254 u255 u256 u257 u258 u259 u260 u261 u262 u263 u264 u265 u266 u267 u268 u269 u270 u271 u272 u273 u274 u275 u276 u277 u278 u279 u280 u281 : Value} (XN : RowKit.Hid (Fz Z w gn f1)) (XW : RowKit.Hid (Fz Z w gw f1)) (XM : RowKit.Hid (Sm13 f1)) (XC : RowKit.Hid (Coded w VC gd EH))
    (HK : RowKit.Hid (∀ (w' : World), Ext w w' → ∀ {v25 v26 v27 v28 v257 v258 v259 v260 v261 v262 v263 v264 v265 v266 v267 v268 v269 v270 v271 v272 v273 v274 v275 v276 v277 v278 v279 : Value}, Q .normal { tmps := (u0 :: u1 :: u2 :: u3 :: u4 :: u5 :: u6 :: u7 :: u8 :: u9 :: u10 :: u11 :: u12 :: u13 :: u14 :: VC :: .int .i64 EH :: .pointer (some ⟨gd, 0, none⟩) :: u18 :: .pointer (some ⟨gw, 0, none⟩) :: u20 :: u21 :: .pointer (some ⟨gn, 0, none⟩) :: u23 :: u24 :: v25 :: v26 :: v27 :: v28 :: u29 :: u30 :: u31 :: u32 :: u33 :: u34 :: u35 :: u36 :: u37 :: u38 :: u39 :: u40 :: u41 :: u42 :: u43 :: u44 :: u45 :: u46 :: u47 :: u48 :: u49 :: u50 :: u51 :: u52 :: u53 :: u54 :: u55 :: u56 :: u57 :: u58 :: u59 :: u60 :: u61 :: u62 :: u63 :: u64 :: u65 :: u66 :: u67 :: u68 :: u69 :: u70 :: u71 :: u72 :: u73 :: u74 :: u75 :: u76 :: u77 :: u78 :: u79 :: u80 :: u81 :: u82 :: u83 :: u84 :: u85 :: u86 :: u87 :: u88 :: u89 :: u90 :: u91 :: u92 :: u93 :: u94 :: u95 :: u96 :: u97 :: u98 :: u99 :: u100 :: u101 :: u102 :: u103 :: u104 :: u105 :: u106 :: u107 :: u108 :: u109 :: u110 :: u111 :: u112 :: u113 :: u114 :: u115 :: u116 :: u117 :: u118 :: u119 :: u120 :: u121 :: u122 :: u123 :: u124 :: u125 :: u126 :: u127 :: u128 :: u129 :: u130 :: u131 :: u132 :: u133 :: u134 :: u135 :: u136 :: u137 :: u138 :: u139 :: u140 :: u141 :: u142 :: u143 :: u144 :: u145 :: u146 :: u147 :: u148 :: u149 :: u150 :: u151 :: u152 :: u153 :: u154 :: u155 :: u156 :: u157 :: u158 :: u159 :: u160 :: u161 :: u162 :: u163 :: u164 :: u165 :: u166 :: u167 :: u168 :: u169 :: u170 :: u171 :: u172 :: u173 :: u174 :: u175 :: u176 :: u177 :: u178 :: u179 :: u180 :: u181 :: u182 :: u183 :: u184 :: u185 :: u186 :: u187 :: u188 :: u189 :: u190 :: u191 :: u192 :: u193 :: u194 :: u195 :: u196 :: u197 :: u198 :: u199 :: u200 :: u201 :: u202 :: u203 :: u204 :: u205 :: u206 :: u207 :: u208 :: u209 :: u210 :: u211 :: u212 :: u213 :: u214 :: u215 :: u216 :: u217 :: u218 :: u219 :: u220 :: u221 :: u222 :: u223 :: u224 :: u225 :: u226 :: u227 :: u228 :: u229 :: u230 :: u231 :: u232 :: u233 :: u234 :: u235 :: u236 :: u237 :: u238 :: u239 :: u240 :: u241 :: u242 :: u243 :: u244 :: u245 :: u246 :: u247 :: u248 :: u249 :: u250 :: u251 :: u252 :: u253 :: u254 :: u255 :: u256 :: v257 :: v258 :: v259 :: v260 :: v261 :: v262 :: v263 :: v264 :: v265 :: v266 :: v267 :: v268 :: v269 :: v270 :: v271 :: v272 :: v273 :: v274 :: v275 :: v276 :: v277 :: v278 :: v279 :: u280 :: u281 :: []).toArray, defers := [] } w')) :
    (fstC (tailB 5 (roundU Tryz.f3))).wp Tryz.prog Q { tmps := (u0 :: u1 :: u2 :: u3 :: u4 :: u5 :: u6 :: u7 :: u8 :: u9 :: u10 :: u11 :: u12 :: u13 :: u14 :: VC :: .int .i64 EH :: .pointer (some ⟨gd, 0, none⟩) :: u18 :: .pointer (some ⟨gw, 0, none⟩) :: u20 :: u21 :: .pointer (some ⟨gn, 0, none⟩) :: u23 :: u24 :: u25 :: u26 :: u27 :: u28 :: u29 :: u30 :: u31 :: u32 :: u33 :: u34 :: u35 :: u36 :: u37 :: u38 :: u39 :: u40 :: u41 :: u42 :: u43 :: u44 :: u45 :: u46 :: u47 :: u48 :: u49 :: u50 :: u51 :: u52 :: u53 :: u54 :: u55 :: u56 :: u57 :: u58 :: u59 :: u60 :: u61 :: u62 :: u63 :: u64 :: u65 :: u66 :: u67 :: u68 :: u69 :: u70 :: u71 :: u72 :: u73 :: u74 :: u75 :: u76 :: u77 :: u78 :: u79 :: u80 :: u81 :: u82 :: u83 :: u84 :: u85 :: u86 :: u87 :: u88 :: u89 :: u90 :: u91 :: u92 :: u93 :: u94 :: u95 :: u96 :: u97 :: u98 :: u99 :: u100 :: u101 :: u102 :: u103 :: u104 :: u105 :: u106 :: u107 :: u108 :: u109 :: u110 :: u111 :: u112 :: u113 :: u114 :: u115 :: u116 :: u117 :: u118 :: u119 :: u120 :: u121 :: u122 :: u123 :: u124 :: u125 :: u126 :: u127 :: u128 :: u129 :: u130 :: u131 :: u132 :: u133 :: u134 :: u135 :: u136 :: u137 :: u138 :: u139 :: u140 :: u141 :: u142 :: u143 :: u144 :: u145 :: u146 :: u147 :: u148 :: u149 :: u150 :: u151 :: u152 :: u153 :: u154 :: u155 :: u156 :: u157 :: u158 :: u159 :: u160 :: u161 :: u162 :: u163 :: u164 :: u165 :: u166 :: u167 :: u168 :: u169 :: u170 :: u171 :: u172 :: u173 :: u174 :: u175 :: u176 :: u177 :: u178 :: u179 :: u180 :: u181 :: u182 :: u183 :: u184 :: u185 :: u186 :: u187 :: u188 :: u189 :: u190 :: u191 :: u192 :: u193 :: u194 :: u195 :: u196 :: u197 :: u198 :: u199 :: u200 :: u201 :: u202 :: u203 :: u204 :: u205 :: u206 :: u207 :: u208 :: u209 :: u210 :: u211 :: u212 :: u213 :: u214 :: u215 :: u216 :: u217 :: u218 :: u219 :: u220 :: u221 :: u222 :: u223 :: u224 :: u225 :: u226 :: u227 :: u228 :: u229 :: u230 :: u231 :: u232 :: u233 :: u234 :: u235 :: u236 :: u237 :: u238 :: u239 :: u240 :: u241 :: u242 :: u243 :: u244 :: u245 :: u246 :: u247 :: u248 :: u249 :: u250 :: u251 :: u252 :: u253 :: u254 :: u255 :: u256 :: u257 :: u258 :: u259 :: u260 :: u261 :: u262 :: u263 :: u264 :: u265 :: u266 :: u267 :: u268 :: u269 :: u270 :: u271 :: u272 :: u273 :: u274 :: u275 :: u276 :: u277 :: u278 :: u279 :: u280 :: u281 :: []).toArray, defers := [] } w := by
  dsimp only [fstC, sndC, blkC, loopC, thnC, tailB, roundU, bodyU, Tryz.f3, Option.getD]
  by_cases hE : EH = 0
  · obtain ⟨bC, fbC, K, N, A, c, rfl, hC, hG, hM, kk1, kk2, kk3⟩ := XC.out hE
    subst hE
    obtain ⟨A2, n2, c2, B2, m2, d2, C2, k2, e2, fb2, hd2⟩ := XN.out
    obtain ⟨A3, n3, c3, B3, m3, d3, C3, k3, e3, fb3, hd3⟩ := XW.out
    have hn2 : n2 ≤ 1000 ∧ m2 ≤ 1000 := by have h1 := hd2.fd.u.len; have h2 := hd2.fd.v.len; have h3 := XM.out.u; have h4 := XM.out.v; exact ⟨by omega, by omega⟩
    obtain ⟨DM, hDM⟩ : ∃ M, dataM f1 K N (decM K N f1.which f1.shards) = M := ⟨_, rfl⟩
    obtain ⟨DE, hDE⟩ : ∃ M, dataE f1 K N (decE K N f1.which f1.shards) = M := ⟨_, rfl⟩
    have H1 := Lib.hid (show Calls Tryz.prog 26 #[cptr bC, fval f1.stripe f1.version f1.need f1.phase (.slice A2 n2 c2) (.slice B2 m2 d2) (.slice C2 k2 e2)] w (GivesME DM DE w) by rw [← hDM, ← hDE]; exact fData_any w bC fbC K N hC f1 _ _ _ _ _ _ _ _ _ hd2.fd hn2.1 hn2.2)
    have H2 := Lib.hid (fun (W : World) (hW : Ext w W) => (show Calls Tryz.prog 27 #[cval K N A N c, fval f1.stripe f1.version f1.need f1.phase (.slice A3 n3 c3) (.slice B3 m3 d3) (.slice C3 k3 e3)] W (GivesME DM DE W) by rw [← hDM, ← hDE]; exact refData13_any W K N A c (hM.ext hW) kk1 kk2 kk3 f1 _ _ _ _ _ _ _ _ _ (hd3.fd.ext hW)))
    have a0 := fb2.c0
    have a1 := fb2.c1
    have a2 := fb2.c2
    have a3 := fb2.c3
    have a4 := fb2.c4
    have a5 := fb2.c5
    have a6 := fb2.c6
    have HG := Lib.hid (⟨hG⟩ : Bd w gd K N (.slice A N c))
    have HF3 := Lib.hid fb3
    have z1 := hM.max
    have z2 := hM.le
    have z3 := hd3.fd.u.max
    have z4 := hd3.fd.u.le
    have z5 := hd3.fd.v.max
    have z6 := hd3.fd.v.le
    have z7 := hd3.fd.s.max
    have z8 := hd3.fd.s.le
    clear hC hG hM fb2 fb3 hd2 hd3 hn2 hDM hDE
    go_wp2_with (fail)
    with_reducible refine H1.out.mono ?_
    rintro r w1 ⟨P1, p1, rfl, hm1, x1⟩
    have X1 := Lib.hid x1
    have HM1 := Lib.hid hm1
    have e1 := hm1.max
    have e2 := hm1.le
    have g := HG.out.ext x1
    have b := HF3.out.ext x1
    clear a0 a1 a2 a3 a4 a5 a6 hm1 x1
    have g0 := g.c0
    have g1 := g.c1
    have g2 := g.c2
    have a0 := b.c0
    have a1 := b.c1
    have a2 := b.c2
    have a3 := b.c3
    have a4 := b.c4
    have a5 := b.c5
    have a6 := b.c6
    clear g b
    go_wp2_with (fail)
    with_reducible refine (H2.out _ X1.out).mono ?_
    rintro r w2 ⟨P2, p2, rfl, hm2, x2⟩
    have hs := sameLists_any w2 _ _ _ _ _ _ _ _ (HM1.out.ext x2) hm2
    rw [decide_eq_true rfl] at hs
    have HS := Lib.hid hs
    have X2 := Lib.hid (X1.out.trans x2)
    clear hs hm2 x2 g0 g1 g2 a0 a1 a2 a3 a4 a5 a6
    go_wp2_with (fail)
    with_reducible refine HS.out.mono ?_
    rintro r w3 ⟨rfl, x3⟩
    have X3 := Lib.hid (X2.out.trans x3)
    clear x3
    go_wp2_with (fail)
    exact HK.out _ X3.out
  · have e1 : (EH == 0) = false := by rw [beq_eq_false_iff_ne]; exact hE
    clear hE
    go_wp2_with (fail)
    exact HK.out _ (Ext.refl w)
end Go.Proofs.YtfpglkacjecoeaaGreat
namespace Go.Proofs.YtfpglkacjecoeaaGreat
open Go.RowKit
set_option linter.unusedSimpArgs false

set_option maxRecDepth 100000 in
set_option maxHeartbeats 8000000 in
theorem tell21 {Z : Nat → Prop} {Q : Exit → Act → World → Prop} {w : World} {gd bo oo no co j : Nat} {f0 : Finds.F} {o : Op13} {u0 u1 u2 u3 u5 u6 u7 u8 u9 u10 u11 u12 u13 u14 u15 u16 u17 u18 u19 u21 u23 u24 u25 u26 u27 u28 u29 u30 u31 u32 u33 u34 u35 u36 u37 u38 u39 u40 u41 u42 u43 u44 u45 u46 u47 u48 u49 u50 u51 u52 u53 u54 u55 u56 u57 u58 u59 u60 u61 u62 u63 u64 u65 u66 u67 u68 u69 u70 u71 u72 u73 u74 u75 u76 u77 u78 u79 u80 u81 u82 u83 u84 u85 u86 u87 u88 u89 u90 u91 u92 u93 u94 u95 u96 u97 u98 u99 u100 u101 u102 u103 u104 u105 u106 u107 u108 u109 u110 u111 u112 u113 u114 u115 u116 u117 u118 u119 u120 u121 u122 u123 u124 u125 u126 u127 u128 u129 u130 u131 u132 u133 u134 u135 u136 u137 u138 u139 u140 u141 u142 u143 u144 u145 u146 u147 u148 u149 u150 u151 u152 u153 u154 u155 u156 u157 u158 u159 u160 u161 u162 u163 u164 u165 u166 u167 u168 u169 u170 u171 u172 u173 u174 u175 u176 u177 u178 u179 u180 u181 u182 u183 u184 u185 u186 u187 u188 u189 u190 u191 u192 u193 u194 u195 u196 u197 u198 u199 u200 u201 u202 u203 u204 u205 u206 u207 u208 u209 u210 u211 u212 u213 u214 u215 u216 u217 u218 u219 u220 u221 u222 u223 u224 u225 u226 u227 u228 u229 u230 u231 u232 u233 u234 u235 u236 u237 u238 u239 u240 u241 u242 u243 u244 u245 u246 u247 u248 u249 u250 u251 u252 u253 u254 u255 u256 u257 u258 u259 u260 u261 u262 u263 u264 u265 u266 u267 u268 u269 u270 u271 u272 u273 u274 u275 u276 u277 u278 u279 u280 u281 : Value} (XS : RowKit.Hid (Fz Z w gd f0)) (XM : RowKit.Hid (Sm13 f0)) (XZ : RowKit.Hid (∀ q, Z q → q < w.heap.size)) (XG : RowKit.Hid (Z gd)) (OJ : RowKit.Hid (Oj Z w bo oo j o)) (XJ : RowKit.Hid (j < no ∧ no ≤ co ∧ co ≤ 9223372036854775807))
    (HPN : RowKit.Hid (∀ ch (a : Act) (d : Nat) (v : Value) V, Q (.panic ch) (a.put (some d) v) V → Q (.panic ch) a V)) (HK : RowKit.Hid (∀ (w' : World), Rw (fun q => q = gd) w w' → Fz Z w' gd (Finds.loseF f0 o.index) → ∀ {v199 v200 v201 v202 v203 v204 v205 v206 v207 v208 : Value}, Q .normal { tmps := (u0 :: u1 :: u2 :: u3 :: .slice (some ⟨bo, oo, none⟩) no co :: u5 :: u6 :: u7 :: u8 :: u9 :: u10 :: u11 :: u12 :: u13 :: u14 :: u15 :: u16 :: u17 :: u18 :: u19 :: .int .i64 (j : Int) :: u21 :: .pointer (some ⟨gd, 0, none⟩) :: .int .i64 (Finds.toldE f0 o.index) :: u24 :: u25 :: u26 :: u27 :: u28 :: u29 :: u30 :: u31 :: u32 :: u33 :: u34 :: u35 :: u36 :: u37 :: u38 :: u39 :: u40 :: u41 :: u42 :: u43 :: u44 :: u45 :: u46 :: u47 :: u48 :: u49 :: u50 :: u51 :: u52 :: u53 :: u54 :: u55 :: u56 :: u57 :: u58 :: u59 :: u60 :: u61 :: u62 :: u63 :: u64 :: u65 :: u66 :: u67 :: u68 :: u69 :: u70 :: u71 :: u72 :: u73 :: u74 :: u75 :: u76 :: u77 :: u78 :: u79 :: u80 :: u81 :: u82 :: u83 :: u84 :: u85 :: u86 :: u87 :: u88 :: u89 :: u90 :: u91 :: u92 :: u93 :: u94 :: u95 :: u96 :: u97 :: u98 :: u99 :: u100 :: u101 :: u102 :: u103 :: u104 :: u105 :: u106 :: u107 :: u108 :: u109 :: u110 :: u111 :: u112 :: u113 :: u114 :: u115 :: u116 :: u117 :: u118 :: u119 :: u120 :: u121 :: u122 :: u123 :: u124 :: u125 :: u126 :: u127 :: u128 :: u129 :: u130 :: u131 :: u132 :: u133 :: u134 :: u135 :: u136 :: u137 :: u138 :: u139 :: u140 :: u141 :: u142 :: u143 :: u144 :: u145 :: u146 :: u147 :: u148 :: u149 :: u150 :: u151 :: u152 :: u153 :: u154 :: u155 :: u156 :: u157 :: u158 :: u159 :: u160 :: u161 :: u162 :: u163 :: u164 :: u165 :: u166 :: u167 :: u168 :: u169 :: u170 :: u171 :: u172 :: u173 :: u174 :: u175 :: u176 :: u177 :: u178 :: u179 :: u180 :: u181 :: u182 :: u183 :: u184 :: u185 :: u186 :: u187 :: u188 :: u189 :: u190 :: u191 :: u192 :: u193 :: u194 :: u195 :: u196 :: u197 :: u198 :: v199 :: v200 :: v201 :: v202 :: v203 :: v204 :: v205 :: v206 :: v207 :: v208 :: u209 :: u210 :: u211 :: u212 :: u213 :: u214 :: u215 :: u216 :: u217 :: u218 :: u219 :: u220 :: u221 :: u222 :: u223 :: u224 :: u225 :: u226 :: u227 :: u228 :: u229 :: u230 :: u231 :: u232 :: u233 :: u234 :: u235 :: u236 :: u237 :: u238 :: u239 :: u240 :: u241 :: u242 :: u243 :: u244 :: u245 :: u246 :: u247 :: u248 :: u249 :: u250 :: u251 :: u252 :: u253 :: u254 :: u255 :: u256 :: u257 :: u258 :: u259 :: u260 :: u261 :: u262 :: u263 :: u264 :: u265 :: u266 :: u267 :: u268 :: u269 :: u270 :: u271 :: u272 :: u273 :: u274 :: u275 :: u276 :: u277 :: u278 :: u279 :: u280 :: u281 :: []).toArray, defers := [] } w')) :
    (fstC (thnC (sndC (fstC (tailB 3 (roundU Tryz.f3)))))).wp Tryz.prog Q { tmps := (u0 :: u1 :: u2 :: u3 :: .slice (some ⟨bo, oo, none⟩) no co :: u5 :: u6 :: u7 :: u8 :: u9 :: u10 :: u11 :: u12 :: u13 :: u14 :: u15 :: u16 :: u17 :: u18 :: u19 :: .int .i64 (j : Int) :: u21 :: .pointer (some ⟨gd, 0, none⟩) :: u23 :: u24 :: u25 :: u26 :: u27 :: u28 :: u29 :: u30 :: u31 :: u32 :: u33 :: u34 :: u35 :: u36 :: u37 :: u38 :: u39 :: u40 :: u41 :: u42 :: u43 :: u44 :: u45 :: u46 :: u47 :: u48 :: u49 :: u50 :: u51 :: u52 :: u53 :: u54 :: u55 :: u56 :: u57 :: u58 :: u59 :: u60 :: u61 :: u62 :: u63 :: u64 :: u65 :: u66 :: u67 :: u68 :: u69 :: u70 :: u71 :: u72 :: u73 :: u74 :: u75 :: u76 :: u77 :: u78 :: u79 :: u80 :: u81 :: u82 :: u83 :: u84 :: u85 :: u86 :: u87 :: u88 :: u89 :: u90 :: u91 :: u92 :: u93 :: u94 :: u95 :: u96 :: u97 :: u98 :: u99 :: u100 :: u101 :: u102 :: u103 :: u104 :: u105 :: u106 :: u107 :: u108 :: u109 :: u110 :: u111 :: u112 :: u113 :: u114 :: u115 :: u116 :: u117 :: u118 :: u119 :: u120 :: u121 :: u122 :: u123 :: u124 :: u125 :: u126 :: u127 :: u128 :: u129 :: u130 :: u131 :: u132 :: u133 :: u134 :: u135 :: u136 :: u137 :: u138 :: u139 :: u140 :: u141 :: u142 :: u143 :: u144 :: u145 :: u146 :: u147 :: u148 :: u149 :: u150 :: u151 :: u152 :: u153 :: u154 :: u155 :: u156 :: u157 :: u158 :: u159 :: u160 :: u161 :: u162 :: u163 :: u164 :: u165 :: u166 :: u167 :: u168 :: u169 :: u170 :: u171 :: u172 :: u173 :: u174 :: u175 :: u176 :: u177 :: u178 :: u179 :: u180 :: u181 :: u182 :: u183 :: u184 :: u185 :: u186 :: u187 :: u188 :: u189 :: u190 :: u191 :: u192 :: u193 :: u194 :: u195 :: u196 :: u197 :: u198 :: u199 :: u200 :: u201 :: u202 :: u203 :: u204 :: u205 :: u206 :: u207 :: u208 :: u209 :: u210 :: u211 :: u212 :: u213 :: u214 :: u215 :: u216 :: u217 :: u218 :: u219 :: u220 :: u221 :: u222 :: u223 :: u224 :: u225 :: u226 :: u227 :: u228 :: u229 :: u230 :: u231 :: u232 :: u233 :: u234 :: u235 :: u236 :: u237 :: u238 :: u239 :: u240 :: u241 :: u242 :: u243 :: u244 :: u245 :: u246 :: u247 :: u248 :: u249 :: u250 :: u251 :: u252 :: u253 :: u254 :: u255 :: u256 :: u257 :: u258 :: u259 :: u260 :: u261 :: u262 :: u263 :: u264 :: u265 :: u266 :: u267 :: u268 :: u269 :: u270 :: u271 :: u272 :: u273 :: u274 :: u275 :: u276 :: u277 :: u278 :: u279 :: u280 :: u281 :: []).toArray, defers := [] } w := by
  dsimp only [fstC, sndC, blkC, loopC, thnC, tailB, roundU, bodyU, Tryz.f3, Option.getD]
  obtain ⟨hj1, hj2, hj3⟩ := XJ.out
  have r1 : (j : Int) < no := by omega
  obtain ⟨A, n, c, B, m, d, C, k, e, fb, hd⟩ := XS.out
  have HN := Lib.hid (show n ≤ 1000 ∧ m ≤ 1000 by have h1 := hd.fd.u.len; have h2 := hd.fd.v.len; have h3 := XM.out.u; have h4 := XM.out.v; exact ⟨by omega, by omega⟩)
  have y0 := hd.fd.u.max
  have y1 := hd.fd.u.le
  have y2 := hd.fd.v.max
  have y3 := hd.fd.v.le
  have y4 := hd.fd.s.max
  have y5 := hd.fd.s.le
  have hb := OJ.out.b
  have y6 := hb.bs.max
  have y7 := hb.bs.le
  have ht := fun (W : World) (hW : Ext w W) => fLose_z (Z := Z) W f0 A n c B m d C k e (hd.ext hW) (fun q hq => Nat.lt_of_lt_of_le (XZ.out q hq) hW.size) HN.out.1 HN.out.2 o.index
  have FB := Lib.hid (fun (W : World) (hW : Ext w W) => fb.ext hW)
  have FD := FB
  obtain ⟨F1, hF1⟩ : ∃ F1, (Finds.loseF f0 o.index) = F1 := ⟨_, rfl⟩
  obtain ⟨E1, hE1⟩ : ∃ E1, Finds.toldE f0 o.index = E1 := ⟨_, rfl⟩
  rw [hF1] at ht HK
  rw [hE1] at ht HK
  have HT := Lib.hid ht
  clear ht hb fb hd hF1 hE1
  have hS0 : (fun Wx : World => Hid (Ext w Wx)) w.drew := Lib.hid (Ext.drew w)
  refine wp_region_T (S := (fun Wx : World => Hid (Ext w Wx))) 10 rfl rfl ?_
  refine takeC [] (i := 0) (v := ?_) rfl (by kernel_rfl) (by kernel_rfl) (by kernel_rfl) (by kernel_rfl) (by decide) (fun _ _ _ h => HPN.out _ _ _ _ _ h) (by kernel_rfl) (Or.inl ⟨by kernel_rfl, ?_⟩) (by assumption) ?_
  rotate_left
  · (intro W9 hSw; (have b := FB.out _ hSw.out; have a0 := b.c0; have a1 := b.c1; have a2 := b.c2; have a3 := b.c3; have a4 := b.c4; have a5 := b.c5; have a6 := b.c6; clear b hSw; skip); go_simp; (try with_reducible rfl))
  try simp only [Act.put, List.getElem_toArray, List.getElem_cons_succ, List.getElem_cons_zero, List.setIfInBounds_toArray, List.set_cons_zero, List.set_cons_succ]
  refine takeC [] (i := 1) (v := ?_) rfl (by kernel_rfl) (by kernel_rfl) (by kernel_rfl) (by kernel_rfl) (by decide) (fun _ _ _ h => HPN.out _ _ _ _ _ h) (by kernel_rfl) (Or.inl ⟨by kernel_rfl, ?_⟩) (by assumption) ?_
  rotate_left
  · (intro W9 hSw; go_simp; (try with_reducible rfl))
  try simp only [Act.put, List.getElem_toArray, List.getElem_cons_succ, List.getElem_cons_zero, List.setIfInBounds_toArray, List.set_cons_zero, List.set_cons_succ]
  refine takeC [] (i := 2) (v := ?_) rfl (by kernel_rfl) (by kernel_rfl) (by kernel_rfl) (by kernel_rfl) (by decide) (fun _ _ _ h => HPN.out _ _ _ _ _ h) (by kernel_rfl) (Or.inl ⟨by kernel_rfl, ?_⟩) (by assumption) ?_
  rotate_left
  · (intro W9 hSw; go_simp; (try with_reducible rfl))
  try simp only [Act.put, List.getElem_toArray, List.getElem_cons_succ, List.getElem_cons_zero, List.setIfInBounds_toArray, List.set_cons_zero, List.set_cons_succ]
  refine takeC [] (i := 3) (v := ?_) rfl (by kernel_rfl) (by kernel_rfl) (by kernel_rfl) (by kernel_rfl) (by decide) (fun _ _ _ h => HPN.out _ _ _ _ _ h) (by kernel_rfl) (Or.inl ⟨by kernel_rfl, ?_⟩) (by assumption) ?_
  rotate_left
  · (intro W9 hSw; go_simp; (try with_reducible rfl))
  try simp only [Act.put, List.getElem_toArray, List.getElem_cons_succ, List.getElem_cons_zero, List.setIfInBounds_toArray, List.set_cons_zero, List.set_cons_succ]
  refine takeC [] (i := 4) (v := ?_) rfl (by kernel_rfl) (by kernel_rfl) (by kernel_rfl) (by kernel_rfl) (by decide) (fun _ _ _ h => HPN.out _ _ _ _ _ h) (by kernel_rfl) (Or.inl ⟨by kernel_rfl, ?_⟩) (by assumption) ?_
  rotate_left
  · (intro W9 hSw; go_simp; (try with_reducible rfl))
  try simp only [Act.put, List.getElem_toArray, List.getElem_cons_succ, List.getElem_cons_zero, List.setIfInBounds_toArray, List.set_cons_zero, List.set_cons_succ]
  refine takeC [] (i := 5) (v := ?_) rfl (by kernel_rfl) (by kernel_rfl) (by kernel_rfl) (by kernel_rfl) (by decide) (fun _ _ _ h => HPN.out _ _ _ _ _ h) (by kernel_rfl) (Or.inl ⟨by kernel_rfl, ?_⟩) (by assumption) ?_
  rotate_left
  · (intro W9 hSw; (have i1 := hSw.out.cell OJ.out.c1; clear hSw; skip); go_simp; (try with_reducible rfl))
  try simp only [Act.put, List.getElem_toArray, List.getElem_cons_succ, List.getElem_cons_zero, List.setIfInBounds_toArray, List.set_cons_zero, List.set_cons_succ]
  refine oneT (i := 6) rfl (by kernel_rfl) (fun K hK => ?_)
  rw [if_pos (by kernel_rfl)]
  go_wp2_with (fail)
  with_reducible refine (HT.out _ (Ext.drew w)).mono ?_
  rintro r q1 ⟨A9, n9, c9, B9, m9, d9, C9, k9, e9, rfl, hd9, xq⟩
  have hS1 : (fun Wx : World => Hid (Ext w Wx)) q1 := Lib.hid ((Ext.drew w).trans xq)
  have HD9 := Lib.hid hd9
  clear hd9 xq
  go_wp2_with (fail)
  refine hK.out _ _ (fun _ => hS1) ?_
  clear hK K
  try simp only [Act.put, List.getElem_toArray, List.getElem_cons_succ, List.getElem_cons_zero, List.setIfInBounds_toArray, List.set_cons_zero, List.set_cons_succ]
  refine takeC [] (i := 7) (v := ?_) rfl (by kernel_rfl) (by kernel_rfl) (by kernel_rfl) (by kernel_rfl) (by decide) (fun _ _ _ h => HPN.out _ _ _ _ _ h) (by kernel_rfl) (Or.inl ⟨by kernel_rfl, ?_⟩) (by assumption) ?_
  rotate_left
  · (intro W9 hSw; go_simp; (try with_reducible rfl))
  try simp only [Act.put, List.getElem_toArray, List.getElem_cons_succ, List.getElem_cons_zero, List.setIfInBounds_toArray, List.set_cons_zero, List.set_cons_succ]
  refine takeC [] (i := 8) (v := ?_) rfl (by kernel_rfl) (by kernel_rfl) (by kernel_rfl) (by kernel_rfl) (by decide) (fun _ _ _ h => HPN.out _ _ _ _ _ h) (by kernel_rfl) (Or.inl ⟨by kernel_rfl, ?_⟩) (by assumption) ?_
  rotate_left
  · (intro W9 hSw; go_simp; (try with_reducible rfl))
  try simp only [Act.put, List.getElem_toArray, List.getElem_cons_succ, List.getElem_cons_zero, List.setIfInBounds_toArray, List.set_cons_zero, List.set_cons_succ]
  refine pureT (i := 9) (v := ?_) rfl (by kernel_rfl) (by kernel_rfl) (by kernel_rfl) (by decide) (fun _ _ _ h => HPN.out _ _ _ _ _ h) (Or.inl ⟨by kernel_rfl, ?_⟩) (fun _ => by assumption) ?_
  rotate_left
  · (intro W9 hSw; go_simp; (try with_reducible rfl))
  try simp only [Act.put, List.getElem_toArray, List.getElem_cons_succ, List.getElem_cons_zero, List.setIfInBounds_toArray, List.set_cons_zero, List.set_cons_succ]
  refine oneT (i := 10) rfl (by kernel_rfl) (fun K hK => ?_)
  rw [if_pos (by kernel_rfl)]
  obtain ⟨wz, sa, fz, ha⟩ := fz_store (f := F1) (FD.out _ hS1.out) HD9.out XG.out
  have FZ := Lib.hid fz
  have RW := Lib.hid ((Rw.of hS1.out).trans (Rw.store (XS.out.ext hS1.out) ha))
  refine wp_storeR 25 (.tmp 22) (.tmp 207) rfl rfl rfl sa rfl ?_
  clear sa fz ha
  refine hK.out _ _ (fun h => absurd (show true = false from h) (by decide)) ?_
  clear hK K
  try simp only [Act.put, List.getElem_toArray, List.getElem_cons_succ, List.getElem_cons_zero, List.setIfInBounds_toArray, List.set_cons_zero, List.set_cons_succ]
  refine oneT (i := 11) rfl (by kernel_rfl) (fun K hK => ?_)
  rw [if_pos (by kernel_rfl)]
  go_wp2_with (fail)
  refine hK.out _ _ (fun h => absurd (show true = false from h) (by decide)) ?_
  clear hK K
  try simp only [Act.put, List.getElem_toArray, List.getElem_cons_succ, List.getElem_cons_zero, List.setIfInBounds_toArray, List.set_cons_zero, List.set_cons_succ]
  refine doneT (by kernel_rfl) ?_ _
  go_wp2_with (fail)
  exact HK.out _ RW.out FZ.out
end Go.Proofs.YtfpglkacjecoeaaGreat
