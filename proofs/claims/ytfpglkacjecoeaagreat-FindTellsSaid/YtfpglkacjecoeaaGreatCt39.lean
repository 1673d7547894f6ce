/- Several texts in one: A part of FindTells' walk. A part of FindTells' walk. A part of FindTells' walk. -/
import Derived.Test.YtfpglkacjecoeaaGreatCt38
import Derived.Test.YtfpglkacjecoeaaGreatCt37
import Derived.Test.YtfpglkacjecoeaaGreatCt36
import Derived.Test.YtfpglkacjecoeaaGreatCt23
namespace Go.Proofs.YtfpglkacjecoeaaGreat
open Go.RowKit
set_option linter.unusedSimpArgs false

theorem oj_of {Z : Nat → Prop} {w : World} {bo oo no co j : Nat} {ops : Nat → Op13} (h : ∀ W, Aw Z w W → Os13 W (some ⟨bo, oo, none⟩) no co ops) (hj : j < no) : Oj Z w bo oo j (ops j) := by
  obtain ⟨b, off, e, c0, c1, c2, c3, _⟩ := (h w (.refl w)).at_ j hj
  injection e with e
  injection e with e1 e2
  subst e1 e2
  exact ⟨c0, c1, c2, c3, fun W hW => (h W hW).bs hj⟩
set_option maxRecDepth 100000 in
set_option maxHeartbeats 16000000 in
theorem tellB2 {Z : Nat → Prop} {Q : Exit → Act → World → Prop} {w : World} {gf gn gw no co : Nat} {Ao : Option Addr} {z : Int} {f0 : Finds.F} {ops : Nat → Op13} {u0 u1 u2 u3 u6 u7 u8 u9 u10 u11 u12 u13 u14 u15 u16 u17 u18 u21 u25 u26 u27 u28 u29 u30 u31 u32 u33 u34 u35 u36 u37 u38 u39 u40 u41 u42 u43 u44 u45 u46 u47 u48 u49 u50 u51 u52 u53 u54 u55 u56 u57 u58 u59 u60 u61 u62 u63 u64 u65 u66 u67 u68 u69 u70 u71 u72 u73 u74 u75 u76 u77 u78 u79 u80 u81 u82 u83 u84 u85 u86 u87 u88 u89 u90 u91 u92 u93 u94 u95 u96 u97 u98 u99 u100 u101 u102 u103 u104 u105 u106 u107 u108 u109 u110 u111 u112 u113 u114 u115 u116 u117 u118 u119 u120 u121 u122 u123 u124 u125 u126 u127 u128 u129 u130 u131 u132 u133 u134 u135 u136 u137 u138 u139 u140 u141 u142 u143 u144 u145 u146 u147 u148 u149 u150 u151 u152 u153 u154 u155 u156 u157 u158 u159 u160 u161 u162 u163 u164 u165 u166 u167 u168 u169 u170 u171 u172 u173 u174 u175 u176 u177 u178 u179 u180 u181 u182 u183 u184 u185 u186 u187 u188 u189 u190 u191 u192 u193 u194 u195 u196 u197 u198 u199 u200 u201 u202 u203 u204 u205 u206 u207 u208 u209 u210 u211 u212 u213 u214 u215 u216 u217 u218 u219 u220 u221 u222 u223 u224 u225 u226 u227 u228 u229 u230 u231 u232 u233 u234 u235 u236 u237 u238 u239 u240 u241 u242 u243 u244 u245 u246 u247 u248 u249 u250 u251 u252 u253 u254 u255 u256 u257 u258 u259 u260 u261 u262 u263 u264 u265 u266 u267 u268 u269 u270 u271 u272 u273 u274 u275 u276 u277 u278 u279 u280 u281 : Value} (XF : RowKit.Hid (Fz Z w gf f0)) (XN : RowKit.Hid (Fz Z w gn f0)) (XW : RowKit.Hid (Fz Z w gw f0)) (XM : RowKit.Hid (Sm13 f0)) (XZ : RowKit.Hid (∀ q, Z q → q < w.heap.size)) (XGN : RowKit.Hid (Z gn)) (XGW : RowKit.Hid (Z gw)) (XNE : RowKit.Hid (gn ≠ gw)) (OS : RowKit.Hid (∀ W, Aw Z w W → Os13 W Ao no co ops)) (XI : RowKit.Hid (-1 ≤ z ∧ z < no))
    (HPN : RowKit.Hid (∀ ch (a : Act) (d : Nat) (v : Value) V, Q (.panic ch) (a.put (some d) v) V → Q (.panic ch) a V)) (HK : RowKit.Hid (∀ (f1 : Finds.F) (E1 : Int) (w' : World), Sm13 f1 → Rw (fun q => q = gn ∨ q = gw) w w' → Fz Z w' gn f1 → Fz Z w' gw f1 → ∀ {v125 v126 v127 v128 v129 v130 v131 v132 v133 v134 v135 v136 v137 v138 v139 v140 v141 v142 v143 v144 v145 v146 v147 v148 v149 v150 v151 v152 v153 v154 v155 v156 v157 v158 v159 v160 v161 v162 v163 v164 v165 v166 v167 v168 v169 v170 v171 v172 v173 v174 v175 : Value}, Q .normal { tmps := (u0 :: u1 :: u2 :: u3 :: .slice Ao no co :: .pointer (some ⟨gf, 0, none⟩) :: u6 :: u7 :: u8 :: u9 :: u10 :: u11 :: u12 :: u13 :: u14 :: u15 :: u16 :: u17 :: u18 :: .pointer (some ⟨gw, 0, none⟩) :: .int .i64 z :: u21 :: .pointer (some ⟨gn, 0, none⟩) :: .int .i64 E1 :: .int .i64 E1 :: u25 :: u26 :: u27 :: u28 :: u29 :: u30 :: u31 :: u32 :: u33 :: u34 :: u35 :: u36 :: u37 :: u38 :: u39 :: u40 :: u41 :: u42 :: u43 :: u44 :: u45 :: u46 :: u47 :: u48 :: u49 :: u50 :: u51 :: u52 :: u53 :: u54 :: u55 :: u56 :: u57 :: u58 :: u59 :: u60 :: u61 :: u62 :: u63 :: u64 :: u65 :: u66 :: u67 :: u68 :: u69 :: u70 :: u71 :: u72 :: u73 :: u74 :: u75 :: u76 :: u77 :: u78 :: u79 :: u80 :: u81 :: u82 :: u83 :: u84 :: u85 :: u86 :: u87 :: u88 :: u89 :: u90 :: u91 :: u92 :: u93 :: u94 :: u95 :: u96 :: u97 :: u98 :: u99 :: u100 :: u101 :: u102 :: u103 :: u104 :: u105 :: u106 :: u107 :: u108 :: u109 :: u110 :: u111 :: u112 :: u113 :: u114 :: u115 :: u116 :: u117 :: u118 :: u119 :: u120 :: u121 :: u122 :: u123 :: u124 :: v125 :: v126 :: v127 :: v128 :: v129 :: v130 :: v131 :: v132 :: v133 :: v134 :: v135 :: v136 :: v137 :: v138 :: v139 :: v140 :: v141 :: v142 :: v143 :: v144 :: v145 :: v146 :: v147 :: v148 :: v149 :: v150 :: v151 :: v152 :: v153 :: v154 :: v155 :: v156 :: v157 :: v158 :: v159 :: v160 :: v161 :: v162 :: v163 :: v164 :: v165 :: v166 :: v167 :: v168 :: v169 :: v170 :: v171 :: v172 :: v173 :: v174 :: v175 :: u176 :: u177 :: u178 :: u179 :: u180 :: u181 :: u182 :: u183 :: u184 :: u185 :: u186 :: u187 :: u188 :: u189 :: u190 :: u191 :: u192 :: u193 :: u194 :: u195 :: u196 :: u197 :: u198 :: u199 :: u200 :: u201 :: u202 :: u203 :: u204 :: u205 :: u206 :: u207 :: u208 :: u209 :: u210 :: u211 :: u212 :: u213 :: u214 :: u215 :: u216 :: u217 :: u218 :: u219 :: u220 :: u221 :: u222 :: u223 :: u224 :: u225 :: u226 :: u227 :: u228 :: u229 :: u230 :: u231 :: u232 :: u233 :: u234 :: u235 :: u236 :: u237 :: u238 :: u239 :: u240 :: u241 :: u242 :: u243 :: u244 :: u245 :: u246 :: u247 :: u248 :: u249 :: u250 :: u251 :: u252 :: u253 :: u254 :: u255 :: u256 :: u257 :: u258 :: u259 :: u260 :: u261 :: u262 :: u263 :: u264 :: u265 :: u266 :: u267 :: u268 :: u269 :: u270 :: u271 :: u272 :: u273 :: u274 :: u275 :: u276 :: u277 :: u278 :: u279 :: u280 :: u281 :: []).toArray, defers := [] } w')) :
    (fstC (tailB 2 (roundU Tryz.f3))).wp Tryz.prog Q { tmps := (u0 :: u1 :: u2 :: u3 :: .slice Ao no co :: .pointer (some ⟨gf, 0, none⟩) :: u6 :: u7 :: u8 :: u9 :: u10 :: u11 :: u12 :: u13 :: u14 :: u15 :: u16 :: u17 :: u18 :: .pointer (some ⟨gw, 0, none⟩) :: .int .i64 z :: u21 :: .pointer (some ⟨gn, 0, none⟩) :: .int .i64 0 :: .int .i64 0 :: u25 :: u26 :: u27 :: u28 :: u29 :: u30 :: u31 :: u32 :: u33 :: u34 :: u35 :: u36 :: u37 :: u38 :: u39 :: u40 :: u41 :: u42 :: u43 :: u44 :: u45 :: u46 :: u47 :: u48 :: u49 :: u50 :: u51 :: u52 :: u53 :: u54 :: u55 :: u56 :: u57 :: u58 :: u59 :: u60 :: u61 :: u62 :: u63 :: u64 :: u65 :: u66 :: u67 :: u68 :: u69 :: u70 :: u71 :: u72 :: u73 :: u74 :: u75 :: u76 :: u77 :: u78 :: u79 :: u80 :: u81 :: u82 :: u83 :: u84 :: u85 :: u86 :: u87 :: u88 :: u89 :: u90 :: u91 :: u92 :: u93 :: u94 :: u95 :: u96 :: u97 :: u98 :: u99 :: u100 :: u101 :: u102 :: u103 :: u104 :: u105 :: u106 :: u107 :: u108 :: u109 :: u110 :: u111 :: u112 :: u113 :: u114 :: u115 :: u116 :: u117 :: u118 :: u119 :: u120 :: u121 :: u122 :: u123 :: u124 :: u125 :: u126 :: u127 :: u128 :: u129 :: u130 :: u131 :: u132 :: u133 :: u134 :: u135 :: u136 :: u137 :: u138 :: u139 :: u140 :: u141 :: u142 :: u143 :: u144 :: u145 :: u146 :: u147 :: u148 :: u149 :: u150 :: u151 :: u152 :: u153 :: u154 :: u155 :: u156 :: u157 :: u158 :: u159 :: u160 :: u161 :: u162 :: u163 :: u164 :: u165 :: u166 :: u167 :: u168 :: u169 :: u170 :: u171 :: u172 :: u173 :: u174 :: u175 :: u176 :: u177 :: u178 :: u179 :: u180 :: u181 :: u182 :: u183 :: u184 :: u185 :: u186 :: u187 :: u188 :: u189 :: u190 :: u191 :: u192 :: u193 :: u194 :: u195 :: u196 :: u197 :: u198 :: u199 :: u200 :: u201 :: u202 :: u203 :: u204 :: u205 :: u206 :: u207 :: u208 :: u209 :: u210 :: u211 :: u212 :: u213 :: u214 :: u215 :: u216 :: u217 :: u218 :: u219 :: u220 :: u221 :: u222 :: u223 :: u224 :: u225 :: u226 :: u227 :: u228 :: u229 :: u230 :: u231 :: u232 :: u233 :: u234 :: u235 :: u236 :: u237 :: u238 :: u239 :: u240 :: u241 :: u242 :: u243 :: u244 :: u245 :: u246 :: u247 :: u248 :: u249 :: u250 :: u251 :: u252 :: u253 :: u254 :: u255 :: u256 :: u257 :: u258 :: u259 :: u260 :: u261 :: u262 :: u263 :: u264 :: u265 :: u266 :: u267 :: u268 :: u269 :: u270 :: u271 :: u272 :: u273 :: u274 :: u275 :: u276 :: u277 :: u278 :: u279 :: u280 :: u281 :: []).toArray, defers := [] } w := by
  dsimp only [fstC, sndC, blkC, loopC, thnC, tailB, roundU, bodyU, Tryz.f3, Option.getD]
  by_cases hz : 0 ≤ z
  · obtain ⟨j, rfl⟩ := Int.eq_ofNat_of_zero_le hz
    have hj : j < no := by have := XI.out.2; omega
    obtain ⟨bo, oo, rfl, c0, c1, c2, c3, hb⟩ := (OS.out w (.refl w)).at_ j hj
    have q1 := (OS.out w (.refl w)).max
    have q2 := (OS.out w (.refl w)).le
    have OJ : RowKit.Hid (Oj Z w bo oo j (ops j)) := Lib.hid (oj_of OS.out hj)
    have XJ : RowKit.Hid (j < no ∧ no ≤ co ∧ co ≤ 9223372036854775807) := Lib.hid ⟨hj, q2, q1⟩
    obtain ⟨op, hop⟩ : ∃ op, ops j = op := ⟨_, rfl⟩
    have HOP := Lib.hid hop
    rw [hop] at c0 c1 c2 c3 hb OJ
    have HBL := Lib.hid hb.len
    have q3 := hb.max
    have q4 := hb.le
    have r1 : (j : Int) < no := by omega
    clear hb hop hz
    by_cases hm : op.m ≤ 40
    · have g1 : (op.m : Int) ≤ 40 := by omega
      have g1n : decide ((op.m : Int) ≤ 40) = true := decide_eq_true g1
      go_wp2_with (fail)
      rename_i hKK
      refine tell18 XF XN XM XZ XGN OJ XJ (Lib.hid fun ch a d v V h => HPN.out ch a d v V h) (Lib.hid fun w1 rw1 fz1 => ?_)
      refine hKK _ _ ?_
      clear c0 c1 c2 c3
      have OJ1 : RowKit.Hid (Oj Z w1 bo oo j op) := Lib.hid (by rw [← HOP.out]; exact oj_of (fun W hW => OS.out W ((rw1.aw.sub (fun q hq => by rw [hq]; exact XGN.out)).trans hW)) hj)
      refine tell19 (Lib.hid (XW.out.rw rw1 (fun q hq => by rw [hq]; exact XGN.out) (fun e => XNE.out e.symm))) XM (Lib.hid fun q hq => Nat.lt_of_lt_of_le (XZ.out q hq) rw1.aw.size) XGW OJ1 XJ (Lib.hid fun ch a d v V h => HPN.out ch a d v V h) (Lib.hid fun w2 rw2 fz2 => ?_)
      exact HK.out _ _ w2 (XM.out.told _ _ (by rw [HBL.out]; exact hm)) ((rw1.sub (fun q hq => Or.inl hq)).trans (rw2.sub (fun q hq => Or.inr hq))) (fz1.rw rw2 (fun q hq => by rw [hq]; exact XGW.out) (fun e => XNE.out e)) fz2
    · have g1 : ¬ (op.m : Int) ≤ 40 := by omega
      have g1n : decide ((op.m : Int) ≤ 40) = false := decide_eq_false g1
      go_wp2_with (fail)
      exact HK.out f0 0 w XM.out (Rw.of (Ext.refl w)) XN.out XW.out
  · have hz1 : z = -1 := by have := XI.out.1; omega
    subst hz1
    clear hz
    go_wp2_with (fail)
    exact HK.out f0 0 w XM.out (Rw.of (Ext.refl w)) XN.out XW.out
end Go.Proofs.YtfpglkacjecoeaaGreat
namespace Go.Proofs.YtfpglkacjecoeaaGreat
open Go.RowKit
set_option linter.unusedSimpArgs false

set_option maxRecDepth 100000 in
set_option maxHeartbeats 16000000 in
theorem tellB3 {Z : Nat → Prop} {Q : Exit → Act → World → Prop} {w : World} {gn gw no co : Nat} {Ao : Option Addr} {z : Int} {f0 : Finds.F} {ops : Nat → Op13} {E0 : Int} {u0 u1 u2 u3 u5 u6 u7 u8 u9 u10 u11 u12 u13 u14 u15 u16 u17 u18 u21 u25 u26 u27 u28 u29 u30 u31 u32 u33 u34 u35 u36 u37 u38 u39 u40 u41 u42 u43 u44 u45 u46 u47 u48 u49 u50 u51 u52 u53 u54 u55 u56 u57 u58 u59 u60 u61 u62 u63 u64 u65 u66 u67 u68 u69 u70 u71 u72 u73 u74 u75 u76 u77 u78 u79 u80 u81 u82 u83 u84 u85 u86 u87 u88 u89 u90 u91 u92 u93 u94 u95 u96 u97 u98 u99 u100 u101 u102 u103 u104 u105 u106 u107 u108 u109 u110 u111 u112 u113 u114 u115 u116 u117 u118 u119 u120 u121 u122 u123 u124 u125 u126 u127 u128 u129 u130 u131 u132 u133 u134 u135 u136 u137 u138 u139 u140 u141 u142 u143 u144 u145 u146 u147 u148 u149 u150 u151 u152 u153 u154 u155 u156 u157 u158 u159 u160 u161 u162 u163 u164 u165 u166 u167 u168 u169 u170 u171 u172 u173 u174 u175 u176 u177 u178 u179 u180 u181 u182 u183 u184 u185 u186 u187 u188 u189 u190 u191 u192 u193 u194 u195 u196 u197 u198 u199 u200 u201 u202 u203 u204 u205 u206 u207 u208 u209 u210 u211 u212 u213 u214 u215 u216 u217 u218 u219 u220 u221 u222 u223 u224 u225 u226 u227 u228 u229 u230 u231 u232 u233 u234 u235 u236 u237 u238 u239 u240 u241 u242 u243 u244 u245 u246 u247 u248 u249 u250 u251 u252 u253 u254 u255 u256 u257 u258 u259 u260 u261 u262 u263 u264 u265 u266 u267 u268 u269 u270 u271 u272 u273 u274 u275 u276 u277 u278 u279 u280 u281 : Value} (XN : RowKit.Hid (Fz Z w gn f0)) (XW : RowKit.Hid (Fz Z w gw f0)) (XM : RowKit.Hid (Sm13 f0)) (XZ : RowKit.Hid (∀ q, Z q → q < w.heap.size)) (XGN : RowKit.Hid (Z gn)) (XGW : RowKit.Hid (Z gw)) (XNE : RowKit.Hid (gn ≠ gw)) (OS : RowKit.Hid (∀ W, Aw Z w W → Os13 W Ao no co ops)) (XI : RowKit.Hid (-1 ≤ z ∧ z < no))
    (HPN : RowKit.Hid (∀ ch (a : Act) (d : Nat) (v : Value) V, Q (.panic ch) (a.put (some d) v) V → Q (.panic ch) a V)) (HK : RowKit.Hid (∀ (f1 : Finds.F) (E1 : Int) (w' : World), Sm13 f1 → Rw (fun q => q = gn ∨ q = gw) w w' → Fz Z w' gn f1 → Fz Z w' gw f1 → ∀ {v176 v177 v178 v179 v180 v181 v182 v183 v184 v185 v186 v187 v188 v189 v190 v191 v192 v193 v194 v195 v196 v197 v198 v199 v200 v201 v202 v203 v204 v205 v206 v207 v208 v209 v210 v211 v212 v213 v214 v215 v216 v217 v218 : Value}, Q .normal { tmps := (u0 :: u1 :: u2 :: u3 :: .slice Ao no co :: u5 :: u6 :: u7 :: u8 :: u9 :: u10 :: u11 :: u12 :: u13 :: u14 :: u15 :: u16 :: u17 :: u18 :: .pointer (some ⟨gw, 0, none⟩) :: .int .i64 z :: u21 :: .pointer (some ⟨gn, 0, none⟩) :: .int .i64 E1 :: .int .i64 E1 :: u25 :: u26 :: u27 :: u28 :: u29 :: u30 :: u31 :: u32 :: u33 :: u34 :: u35 :: u36 :: u37 :: u38 :: u39 :: u40 :: u41 :: u42 :: u43 :: u44 :: u45 :: u46 :: u47 :: u48 :: u49 :: u50 :: u51 :: u52 :: u53 :: u54 :: u55 :: u56 :: u57 :: u58 :: u59 :: u60 :: u61 :: u62 :: u63 :: u64 :: u65 :: u66 :: u67 :: u68 :: u69 :: u70 :: u71 :: u72 :: u73 :: u74 :: u75 :: u76 :: u77 :: u78 :: u79 :: u80 :: u81 :: u82 :: u83 :: u84 :: u85 :: u86 :: u87 :: u88 :: u89 :: u90 :: u91 :: u92 :: u93 :: u94 :: u95 :: u96 :: u97 :: u98 :: u99 :: u100 :: u101 :: u102 :: u103 :: u104 :: u105 :: u106 :: u107 :: u108 :: u109 :: u110 :: u111 :: u112 :: u113 :: u114 :: u115 :: u116 :: u117 :: u118 :: u119 :: u120 :: u121 :: u122 :: u123 :: u124 :: u125 :: u126 :: u127 :: u128 :: u129 :: u130 :: u131 :: u132 :: u133 :: u134 :: u135 :: u136 :: u137 :: u138 :: u139 :: u140 :: u141 :: u142 :: u143 :: u144 :: u145 :: u146 :: u147 :: u148 :: u149 :: u150 :: u151 :: u152 :: u153 :: u154 :: u155 :: u156 :: u157 :: u158 :: u159 :: u160 :: u161 :: u162 :: u163 :: u164 :: u165 :: u166 :: u167 :: u168 :: u169 :: u170 :: u171 :: u172 :: u173 :: u174 :: u175 :: v176 :: v177 :: v178 :: v179 :: v180 :: v181 :: v182 :: v183 :: v184 :: v185 :: v186 :: v187 :: v188 :: v189 :: v190 :: v191 :: v192 :: v193 :: v194 :: v195 :: v196 :: v197 :: v198 :: v199 :: v200 :: v201 :: v202 :: v203 :: v204 :: v205 :: v206 :: v207 :: v208 :: v209 :: v210 :: v211 :: v212 :: v213 :: v214 :: v215 :: v216 :: v217 :: v218 :: u219 :: u220 :: u221 :: u222 :: u223 :: u224 :: u225 :: u226 :: u227 :: u228 :: u229 :: u230 :: u231 :: u232 :: u233 :: u234 :: u235 :: u236 :: u237 :: u238 :: u239 :: u240 :: u241 :: u242 :: u243 :: u244 :: u245 :: u246 :: u247 :: u248 :: u249 :: u250 :: u251 :: u252 :: u253 :: u254 :: u255 :: u256 :: u257 :: u258 :: u259 :: u260 :: u261 :: u262 :: u263 :: u264 :: u265 :: u266 :: u267 :: u268 :: u269 :: u270 :: u271 :: u272 :: u273 :: u274 :: u275 :: u276 :: u277 :: u278 :: u279 :: u280 :: u281 :: []).toArray, defers := [] } w')) :
    (fstC (tailB 3 (roundU Tryz.f3))).wp Tryz.prog Q { tmps := (u0 :: u1 :: u2 :: u3 :: .slice Ao no co :: u5 :: u6 :: u7 :: u8 :: u9 :: u10 :: u11 :: u12 :: u13 :: u14 :: u15 :: u16 :: u17 :: u18 :: .pointer (some ⟨gw, 0, none⟩) :: .int .i64 z :: u21 :: .pointer (some ⟨gn, 0, none⟩) :: .int .i64 E0 :: .int .i64 E0 :: u25 :: u26 :: u27 :: u28 :: u29 :: u30 :: u31 :: u32 :: u33 :: u34 :: u35 :: u36 :: u37 :: u38 :: u39 :: u40 :: u41 :: u42 :: u43 :: u44 :: u45 :: u46 :: u47 :: u48 :: u49 :: u50 :: u51 :: u52 :: u53 :: u54 :: u55 :: u56 :: u57 :: u58 :: u59 :: u60 :: u61 :: u62 :: u63 :: u64 :: u65 :: u66 :: u67 :: u68 :: u69 :: u70 :: u71 :: u72 :: u73 :: u74 :: u75 :: u76 :: u77 :: u78 :: u79 :: u80 :: u81 :: u82 :: u83 :: u84 :: u85 :: u86 :: u87 :: u88 :: u89 :: u90 :: u91 :: u92 :: u93 :: u94 :: u95 :: u96 :: u97 :: u98 :: u99 :: u100 :: u101 :: u102 :: u103 :: u104 :: u105 :: u106 :: u107 :: u108 :: u109 :: u110 :: u111 :: u112 :: u113 :: u114 :: u115 :: u116 :: u117 :: u118 :: u119 :: u120 :: u121 :: u122 :: u123 :: u124 :: u125 :: u126 :: u127 :: u128 :: u129 :: u130 :: u131 :: u132 :: u133 :: u134 :: u135 :: u136 :: u137 :: u138 :: u139 :: u140 :: u141 :: u142 :: u143 :: u144 :: u145 :: u146 :: u147 :: u148 :: u149 :: u150 :: u151 :: u152 :: u153 :: u154 :: u155 :: u156 :: u157 :: u158 :: u159 :: u160 :: u161 :: u162 :: u163 :: u164 :: u165 :: u166 :: u167 :: u168 :: u169 :: u170 :: u171 :: u172 :: u173 :: u174 :: u175 :: u176 :: u177 :: u178 :: u179 :: u180 :: u181 :: u182 :: u183 :: u184 :: u185 :: u186 :: u187 :: u188 :: u189 :: u190 :: u191 :: u192 :: u193 :: u194 :: u195 :: u196 :: u197 :: u198 :: u199 :: u200 :: u201 :: u202 :: u203 :: u204 :: u205 :: u206 :: u207 :: u208 :: u209 :: u210 :: u211 :: u212 :: u213 :: u214 :: u215 :: u216 :: u217 :: u218 :: u219 :: u220 :: u221 :: u222 :: u223 :: u224 :: u225 :: u226 :: u227 :: u228 :: u229 :: u230 :: u231 :: u232 :: u233 :: u234 :: u235 :: u236 :: u237 :: u238 :: u239 :: u240 :: u241 :: u242 :: u243 :: u244 :: u245 :: u246 :: u247 :: u248 :: u249 :: u250 :: u251 :: u252 :: u253 :: u254 :: u255 :: u256 :: u257 :: u258 :: u259 :: u260 :: u261 :: u262 :: u263 :: u264 :: u265 :: u266 :: u267 :: u268 :: u269 :: u270 :: u271 :: u272 :: u273 :: u274 :: u275 :: u276 :: u277 :: u278 :: u279 :: u280 :: u281 :: []).toArray, defers := [] } w := by
  dsimp only [fstC, sndC, blkC, loopC, thnC, tailB, roundU, bodyU, Tryz.f3, Option.getD]
  by_cases hz : 0 ≤ z
  · obtain ⟨j, rfl⟩ := Int.eq_ofNat_of_zero_le hz
    have hj : j < no := by have := XI.out.2; omega
    obtain ⟨bo, oo, rfl, c0, c1, c2, c3, hb⟩ := (OS.out w (.refl w)).at_ j hj
    have q1 := (OS.out w (.refl w)).max
    have q2 := (OS.out w (.refl w)).le
    have OJ : RowKit.Hid (Oj Z w bo oo j (ops j)) := Lib.hid (oj_of OS.out hj)
    have XJ : RowKit.Hid (j < no ∧ no ≤ co ∧ co ≤ 9223372036854775807) := Lib.hid ⟨hj, q2, q1⟩
    obtain ⟨op, hop⟩ : ∃ op, ops j = op := ⟨_, rfl⟩
    have HOP := Lib.hid hop
    rw [hop] at c0 c1 c2 c3 hb OJ
    have HBL := Lib.hid hb.len
    have q3 := hb.max
    have q4 := hb.le
    have r1 : (j : Int) < no := by omega
    clear hb hop hz
    by_cases hl : op.lost = true
    · have c0l := c0
      rw [hl] at c0l
      clear c0
      have c0 := c0l
      clear c0l
      by_cases hm : op.m ≤ 40
      · have g1 : (op.m : Int) ≤ 40 := by omega
        have g1n : decide ((op.m : Int) ≤ 40) = true := decide_eq_true g1
        clear hl
        go_wp2_with (fail)
        rename_i hKK
        refine tell21 XN XM XZ XGN OJ XJ (Lib.hid fun ch a d v V h => HPN.out ch a d v V h) (Lib.hid fun w1 rw1 fz1 => ?_)
        refine hKK _ _ ?_
        clear c0 c1 c2 c3
        have OJ1 : RowKit.Hid (Oj Z w1 bo oo j op) := Lib.hid (by rw [← HOP.out]; exact oj_of (fun W hW => OS.out W ((rw1.aw.sub (fun q hq => by rw [hq]; exact XGN.out)).trans hW)) hj)
        refine tell22 (Lib.hid (XW.out.rw rw1 (fun q hq => by rw [hq]; exact XGN.out) (fun e => XNE.out e.symm))) XM (Lib.hid fun q hq => Nat.lt_of_lt_of_le (XZ.out q hq) rw1.aw.size) XGW OJ1 XJ (Lib.hid fun ch a d v V h => HPN.out ch a d v V h) (Lib.hid fun w2 rw2 fz2 => ?_)
        exact HK.out _ _ w2 (XM.out.lose _) ((rw1.sub (fun q hq => Or.inl hq)).trans (rw2.sub (fun q hq => Or.inr hq))) (fz1.rw rw2 (fun q hq => by rw [hq]; exact XGW.out) (fun e => XNE.out e)) fz2
      · have g1 : ¬ (op.m : Int) ≤ 40 := by omega
        have g1n : decide ((op.m : Int) ≤ 40) = false := decide_eq_false g1
        clear hl
        go_wp2_with (fail)
        exact HK.out f0 E0 w XM.out (Rw.of (Ext.refl w)) XN.out XW.out
    · have hl2 : op.lost = false := by revert hl; cases op.lost <;> simp
      have c0l := c0
      rw [hl2] at c0l
      clear c0 hl hl2
      go_wp2_with (fail)
      exact HK.out f0 E0 w XM.out (Rw.of (Ext.refl w)) XN.out XW.out
  · have hz1 : z = -1 := by have := XI.out.1; omega
    subst hz1
    clear hz
    go_wp2_with (fail)
    exact HK.out f0 E0 w XM.out (Rw.of (Ext.refl w)) XN.out XW.out
end Go.Proofs.YtfpglkacjecoeaaGreat
namespace Go.Proofs.YtfpglkacjecoeaaGreat
open Go.RowKit
set_option linter.unusedSimpArgs false

set_option maxRecDepth 100000 in
set_option maxHeartbeats 16000000 in
theorem tellL {w0 w : World} {gf gw gd no co : Nat} {Ao : Option Addr} {f0 : Finds.F} {ops : Nat → Op13} {VC : Value} {EH : Int} {u0 u1 u2 u3 u6 u7 u8 u9 u10 u11 u12 u13 u14 u20 u21 u22 u23 u24 u25 u26 u27 u28 u29 u30 u31 u32 u33 u34 u35 u36 u37 u38 u39 u40 u41 u42 u43 u44 u45 u46 u47 u48 u49 u50 u51 u52 u53 u54 u55 u56 u57 u58 u59 u60 u61 u62 u63 u64 u65 u66 u67 u68 u69 u70 u71 u72 u73 u74 u75 u76 u77 u78 u79 u80 u81 u82 u83 u84 u85 u86 u87 u88 u89 u90 u91 u92 u93 u94 u95 u96 u97 u98 u99 u100 u101 u102 u103 u104 u105 u106 u107 u108 u109 u110 u111 u112 u113 u114 u115 u116 u117 u118 u119 u120 u121 u122 u123 u124 u125 u126 u127 u128 u129 u130 u131 u132 u133 u134 u135 u136 u137 u138 u139 u140 u141 u142 u143 u144 u145 u146 u147 u148 u149 u150 u151 u152 u153 u154 u155 u156 u157 u158 u159 u160 u161 u162 u163 u164 u165 u166 u167 u168 u169 u170 u171 u172 u173 u174 u175 u176 u177 u178 u179 u180 u181 u182 u183 u184 u185 u186 u187 u188 u189 u190 u191 u192 u193 u194 u195 u196 u197 u198 u199 u200 u201 u202 u203 u204 u205 u206 u207 u208 u209 u210 u211 u212 u213 u214 u215 u216 u217 u218 u219 u220 u221 u222 u223 u224 u225 u226 u227 u228 u229 u230 u231 u232 u233 u234 u235 u236 u237 u238 u239 u240 u241 u242 u243 u244 u245 u246 u247 u248 u249 u250 u251 u252 u253 u254 u255 u256 u257 u258 u259 u260 u261 u262 u263 u264 u265 u266 u267 u268 u269 u270 u271 u272 u273 u274 u275 u276 u277 u278 u279 u280 u281 : Value} (XF : RowKit.Hid (Fz (fun q => q = gf ∨ q = gw) w gf f0)) (XW : RowKit.Hid (Fz (fun q => q = gf ∨ q = gw) w gw f0)) (XM : RowKit.Hid (Sm13 f0)) (XC : RowKit.Hid (Coded w VC gd EH)) (X0 : RowKit.Hid (Ext w0 w)) (OS : RowKit.Hid (Os13 w0 Ao no co ops))
    (XG : RowKit.Hid (w0.heap.size ≤ gf ∧ w0.heap.size ≤ gw ∧ gf ≠ gw ∧ gd ≠ gf ∧ gd ≠ gw ∧ gd < w.heap.size)) :
    (tailB 9 (bodyU Tryz.f3)).wp Tryz.prog (bodyPost Tryz.prog Tryz.f3 (fun e w' => e = .returned (.bool true) ∧ Ext w0 w')) { tmps := (u0 :: u1 :: u2 :: u3 :: .slice Ao no co :: .pointer (some ⟨gf, 0, none⟩) :: u6 :: u7 :: u8 :: u9 :: u10 :: u11 :: u12 :: u13 :: u14 :: VC :: .int .i64 EH :: .pointer (some ⟨gd, 0, none⟩) :: .int .i64 EH :: .pointer (some ⟨gw, 0, none⟩) :: u20 :: u21 :: u22 :: u23 :: u24 :: u25 :: u26 :: u27 :: u28 :: u29 :: u30 :: u31 :: u32 :: u33 :: u34 :: u35 :: u36 :: u37 :: u38 :: u39 :: u40 :: u41 :: u42 :: u43 :: u44 :: u45 :: u46 :: u47 :: u48 :: u49 :: u50 :: u51 :: u52 :: u53 :: u54 :: u55 :: u56 :: u57 :: u58 :: u59 :: u60 :: u61 :: u62 :: u63 :: u64 :: u65 :: u66 :: u67 :: u68 :: u69 :: u70 :: u71 :: u72 :: u73 :: u74 :: u75 :: u76 :: u77 :: u78 :: u79 :: u80 :: u81 :: u82 :: u83 :: u84 :: u85 :: u86 :: u87 :: u88 :: u89 :: u90 :: u91 :: u92 :: u93 :: u94 :: u95 :: u96 :: u97 :: u98 :: u99 :: u100 :: u101 :: u102 :: u103 :: u104 :: u105 :: u106 :: u107 :: u108 :: u109 :: u110 :: u111 :: u112 :: u113 :: u114 :: u115 :: u116 :: u117 :: u118 :: u119 :: u120 :: u121 :: u122 :: u123 :: u124 :: u125 :: u126 :: u127 :: u128 :: u129 :: u130 :: u131 :: u132 :: u133 :: u134 :: u135 :: u136 :: u137 :: u138 :: u139 :: u140 :: u141 :: u142 :: u143 :: u144 :: u145 :: u146 :: u147 :: u148 :: u149 :: u150 :: u151 :: u152 :: u153 :: u154 :: u155 :: u156 :: u157 :: u158 :: u159 :: u160 :: u161 :: u162 :: u163 :: u164 :: u165 :: u166 :: u167 :: u168 :: u169 :: u170 :: u171 :: u172 :: u173 :: u174 :: u175 :: u176 :: u177 :: u178 :: u179 :: u180 :: u181 :: u182 :: u183 :: u184 :: u185 :: u186 :: u187 :: u188 :: u189 :: u190 :: u191 :: u192 :: u193 :: u194 :: u195 :: u196 :: u197 :: u198 :: u199 :: u200 :: u201 :: u202 :: u203 :: u204 :: u205 :: u206 :: u207 :: u208 :: u209 :: u210 :: u211 :: u212 :: u213 :: u214 :: u215 :: u216 :: u217 :: u218 :: u219 :: u220 :: u221 :: u222 :: u223 :: u224 :: u225 :: u226 :: u227 :: u228 :: u229 :: u230 :: u231 :: u232 :: u233 :: u234 :: u235 :: u236 :: u237 :: u238 :: u239 :: u240 :: u241 :: u242 :: u243 :: u244 :: u245 :: u246 :: u247 :: u248 :: u249 :: u250 :: u251 :: u252 :: u253 :: u254 :: u255 :: u256 :: u257 :: u258 :: u259 :: u260 :: u261 :: u262 :: u263 :: u264 :: u265 :: u266 :: u267 :: u268 :: u269 :: u270 :: u271 :: u272 :: u273 :: u274 :: u275 :: u276 :: u277 :: u278 :: u279 :: u280 :: u281 :: []).toArray, defers := [] } w := by
  dsimp only [fstC, sndC, blkC, loopC, thnC, tailB, roundU, bodyU, Tryz.f3, Option.getD]
  refine wp_seq_k (fun K HK0 => ?_)
  have HK := Lib.hid HK0
  clear HK0
  have q1 := OS.out.max
  have q2 := OS.out.le
  go_wp2_with (fail)
  go_loopw [20] (fun s20 wr => ∃ (z : Int) (f : Finds.F), -1 ≤ z ∧ z ≤ no ∧ z ≤ 40 ∧ s20 = .int .i64 z ∧ RowKit.Hid (Sm13 f) ∧ RowKit.Hid (Fz (fun q => q = gf ∨ q = gw) wr gf f) ∧ RowKit.Hid (Fz (fun q => q = gf ∨ q = gw) wr gw f) ∧ RowKit.Hid (Coded wr VC gd EH) ∧ RowKit.Hid (Ext w0 wr) ∧ RowKit.Hid (w.heap.size ≤ wr.heap.size)) (fun s20 _ => (41 - intOf s20).toNat)
  case atStart => exact ⟨-1, f0, by omega, by omega, by omega, rfl, XM, XF, XW, XC, X0, Lib.hid (Nat.le_refl _)⟩
  case round =>
    obtain ⟨z, f, hz1, hz2, hz3, rfl, HM, HF, HW, HC, HX, HS⟩ := hrel
    clear XF XW XM XC X0
    by_cases a1 : z < no
    · by_cases a2 : z < 40
      · go_wp2_with (fail)
        rename_i h15
        have hg := XG.out
        have lf := HF.out.lt
        have lw := HW.out.lt
        refine tell15 HF HM (Lib.hid fun q hq => by rcases hq with e | e <;> omega) (Lib.hid fun _ _ _ _ _ h => h) (Lib.hid fun gs w1 hgs x1 fs => ?_)
        refine h15 _ _ ?_
        refine wp_seq_k (fun K16 h16 => ?_)
        refine tell16 (Lib.hid (HF.out.ext x1)) (Lib.hid fun gn w2 hgn x2 fn => ?_)
        refine h16 _ _ ?_
        refine wp_seq_k (fun KB2 hB2 => ?_)
        have s1 := x1.size
        have s2 := x2.size
        have s0 := HS.out
        have lgs := fs.lt
        have lgn := fn.lt
        have XF2 := Lib.hid (HF.out.newer (x1.trans x2) (x := gn) (by omega))
        have XW2 := Lib.hid (HW.out.newer (x1.trans x2) (x := gn) (by omega))
        have XS2 := Lib.hid ((fs.less (Y := fun q => q = gf ∨ q = gw) (fun q hq => Or.inl hq)).newer x2 (x := gn) (by omega))
        have XN2 := Lib.hid fn
        have X02 := Lib.hid (HX.out.trans (x1.trans x2))
        have XC2 := Lib.hid (HC.out.rw (Rw.of (Y := fun q => q = gn ∨ q = gw) (x1.trans x2)) (fun e => by rcases e with e | e <;> omega))
        have hzz : ∀ q, ((q = gf ∨ q = gw) ∨ q = gn) → w0.heap.size ≤ q := fun q hq => by have := HX.out.size; rcases hq with (e | e) | e <;> omega
        have HZZ := Lib.hid hzz
        refine tellB2 (z := z) XF2 XN2 XW2 HM (Lib.hid fun q hq => by rcases hq with (e | e) | e <;> omega) (Lib.hid (Or.inr rfl)) (Lib.hid (Or.inl (Or.inr rfl))) (Lib.hid (by omega)) (Lib.hid fun W hW => OS.out.ext (hW.ext X02.out HZZ.out)) (Lib.hid ⟨hz1, a1⟩) (Lib.hid fun _ _ _ _ _ h => h) (Lib.hid fun f1 E1 w3 sm1 rw3 fn3 fw3 => ?_)
        refine hB2 _ _ ?_
        refine wp_seq_k (fun KB3 hB3 => ?_)
        have hsub : ∀ q, (q = gn ∨ q = gw) → ((q = gf ∨ q = gw) ∨ q = gn) := fun q hq => hq.elim (fun e => Or.inr e) (fun e => Or.inl (Or.inr e))
        have XF3 := Lib.hid (XF2.out.rw rw3 hsub (fun e => by rcases e with e | e <;> omega))
        have XS3 := Lib.hid (XS2.out.rw rw3 hsub (fun e => by rcases e with e | e <;> omega))
        have XC3 := Lib.hid (XC2.out.rw rw3 (fun e => by rcases e with e | e <;> omega))
        have X03 := Lib.hid ((rw3.aw.sub hsub).ext X02.out HZZ.out)
        have s3 := rw3.aw.size
        refine tellB3 (z := z) (Lib.hid fn3) (Lib.hid fw3) (Lib.hid sm1) (Lib.hid fun q hq => by rcases hq with (e | e) | e <;> omega) (Lib.hid (Or.inr rfl)) (Lib.hid (Or.inl (Or.inr rfl))) (Lib.hid (by omega)) (Lib.hid fun W hW => OS.out.ext (hW.ext X03.out HZZ.out)) (Lib.hid ⟨hz1, a1⟩) (Lib.hid fun _ _ _ _ _ h => h) (Lib.hid fun f2 E2 w4 sm2 rw4 fn4 fw4 => ?_)
        refine hB3 _ _ ?_
        refine wp_seq_k (fun KB4 hB4 => ?_)
        refine wp_seq_k (fun K23 h23 => ?_)
        have XF4 := Lib.hid (XF3.out.rw rw4 hsub (fun e => by rcases e with e | e <;> omega))
        have XS4 := Lib.hid (XS3.out.rw rw4 hsub (fun e => by rcases e with e | e <;> omega))
        have XC4 := Lib.hid (XC3.out.rw rw4 (fun e => by rcases e with e | e <;> omega))
        have X04 := Lib.hid ((rw4.aw.sub hsub).ext X03.out HZZ.out)
        have s4 := rw4.aw.size
        refine tell23 XF4 XS4 (Lib.hid fn4) (Lib.hid fw4) (Lib.hid sm2) (Lib.hid fun _ _ _ _ _ h => h) (Lib.hid fun w5 x5 => ?_)
        refine h23 _ _ ?_
        refine wp_cond_false rfl (wp_skip ?_)
        refine hB4 _ _ ?_
        refine wp_seq_k (fun KB5 hB5 => ?_)
        have XC5 := Lib.hid (XC4.out.rw (Rw.of (Y := fun q => q = gn ∨ q = gw) x5) (fun e => by rcases e with e | e <;> omega))
        refine tell25 (Lib.hid (fn4.ext x5)) (Lib.hid (fw4.ext x5)) (Lib.hid sm2) XC5 (Lib.hid fun w6 x6 => ?_)
        refine hB5 _ _ ?_
        have x46 := x5.trans x6
        have XC6 := Lib.hid (XC5.out.rw (Rw.of (Y := fun q => q = gn ∨ q = gw) x6) (fun e => by rcases e with e | e <;> omega))
        have XN6 := (fn4.ext x46).less (Y := fun q => q = gf ∨ q = gw) (fun q hq => Or.inl hq)
        have XW6 := (fw4.ext x46).less (Y := fun q => q = gf ∨ q = gw) (fun q hq => Or.inl hq)
        have XF6 := (XF4.out.ext x46).less (Y := fun q => q = gf ∨ q = gw) (fun q hq => Or.inl hq)
        obtain ⟨A, n, c, B, m, d, C, k, e, fbn, hdn⟩ := XN6
        obtain ⟨A', n', c', B', m', d', C', k', e', fbf, _⟩ := id XF6
        obtain ⟨w7, sa, fz7, ha⟩ := fz_store (f := f2) fbf hdn (Or.inl rfl)
        have LD := Lib.hid fbn.run
        have SA := Lib.hid sa
        have R7 := Lib.hid (show RowKit.Hid (Sm13 f2) ∧ RowKit.Hid (Fz (fun q => q = gf ∨ q = gw) w7 gf f2) ∧ RowKit.Hid (Fz (fun q => q = gf ∨ q = gw) w7 gw f2) ∧ RowKit.Hid (Coded w7 VC gd EH) ∧ RowKit.Hid (Ext w0 w7) ∧ RowKit.Hid (w.heap.size ≤ w7.heap.size) from ⟨Lib.hid sm2, Lib.hid fz7, Lib.hid (XW6.aw ha (Or.inl rfl) (by omega)), Lib.hid (XC6.out.rw (Rw.store XF6 ha) (by omega)), Lib.hid (ha.ext (X04.out.trans x46) (fun q hq => by omega)), Lib.hid (by have := x46.size; have := ha.size; omega)⟩)
        clear fbn hdn fbf sa fz7 ha XF6 XW6 XC6 x46 x6 XC5 x5 XF4 XS4 XC4 X04 XF3 XS3 XC3 X03 XF2 XW2 XS2 XN2 X02 XC2 HF HW HC HX HM fn4 fw4 sm2 rw4 fn3 fw3 sm1 rw3 x1 x2 fs fn hzz HZZ hsub hgs hgn lgs lgn lf lw s0 s1 s2 s3 s4 hg
        go_wp2_with (first
          | ((with_reducible refine opIs ⟨some 280, .load 25 (.tmp 22), _, _, _, _⟩ ?_); refine wpList_loadR rfl 25 (.tmp 22) rfl rfl LD.out ?_)
          | ((with_reducible refine opIs ⟨none, .store 25 (.tmp 5) (.tmp 280), _, _, _, _⟩ ?_); refine wpList_storeR rfl 25 (.tmp 5) (.tmp 280) rfl rfl rfl SA.out ?_))
        exact ⟨⟨z + 1, f2, by omega, by omega, by omega, rfl, R7.out⟩, by simp only [intOf]; omega⟩
      · have a3 : ¬ z < 40 := a2
        have a3n : decide (z < 40) = false := decide_eq_false a2
        go_wp2_with (fail)
        refine HK.out _ _ ?_
        go_wp2_with (fail)
        refine (awake_any13 _).mono ?_
        rintro r w9 ⟨rfl, x9⟩
        have X9 := Lib.hid (HX.out.trans x9)
        clear x9
        go_wp2_with (fail)
        go_ret
        exact ⟨rfl, X9.out⟩
    · have a3 : ¬ z < no := a1
      have a3n : decide (z < no) = false := decide_eq_false a1
      go_wp2_with (fail)
      refine HK.out _ _ ?_
      go_wp2_with (fail)
      refine (awake_any13 _).mono ?_
      rintro r w9 ⟨rfl, x9⟩
      have X9 := Lib.hid (HX.out.trans x9)
      clear x9
      go_wp2_with (fail)
      go_ret
      exact ⟨rfl, X9.out⟩
end Go.Proofs.YtfpglkacjecoeaaGreat
