/- Several texts in one: FindNumbers' walk from region 26 on. FindNumbers' walk from region 25 on. FindNumbers' walk from region 24 on. -/
import Derived.Test.YtfpglkacjecoeaaCt27
import Derived.Test.YtfpglkacjecoeaaCt26
import Derived.Test.YtfpglkacjecoeaaCt25
namespace Go.Proofs.Ytfpglkacjecoeaa
open Go.RowKit

set_option maxRecDepth 100000 in
set_option maxHeartbeats 4000000 in
theorem part26 {w0 w : World} {g5 : Nat} {g13 : Nat} {g15 : Nat} {g19 : Nat} {bC3 : Nat} {bC4 : Nat} {A29 : Option Addr} {c29 : Nat} {g35 : Nat} {g37 : Nat} {u0 u1 u2 u3 u4 u7 u9 u11 u17 u25 u27 u31 u33 u39 u41 u42 u43 u44 u45 u46 u47 u48 u49 u50 u51 u52 u53 u54 u55 u56 u57 u58 u59 u60 u61 u62 u63 u64 u65 u66 u67 u68 u69 u70 u71 u72 u73 u74 u75 u76 u77 u78 u79 u80 u81 u82 u83 u84 u85 u86 u87 u88 u89 u90 u91 u92 u93 u94 u95 u96 u97 u98 u99 u100 u101 u102 u103 u104 u105 u106 u107 u108 u109 u110 u111 u112 u113 u114 u115 u116 u117 u118 u119 u120 u121 u122 u123 u124 u125 u126 u127 u128 u129 u130 u131 u132 u133 u134 u135 u136 u137 u138 u139 u140 u141 u142 u143 u144 u145 u146 u147 u148 u149 u150 u151 u152 u153 u154 u155 u156 u157 u158 u159 u160 u161 u162 u163 u164 u165 u166 u167 u168 u169 u170 u171 u172 u173 u174 u175 u176 u177 u178 u179 u180 u181 u182 u183 u184 u185 u186 u187 u188 u189 u190 u191 u192 u193 u194 u195 u196 u197 u198 u199 u200 u201 u202 u203 u204 u205 u206 u207 u208 u209 u210 u211 u212 u213 u214 u215 u216 u217 u218 u219 u220 u221 u222 u223 u224 u225 u226 u227 u228 u229 u230 u231 u232 u233 u234 u235 u236 u237 u238 u239 u240 u241 u242 u243 u244 u245 u246 u247 u248 u249 u250 u251 u252 u253 u254 u255 u256 u257 u258 u259 u260 u261 u262 u263 u264 u265 u266 u267 u268 u269 u270 u271 u272 u273 u274 u275 u276 u277 u278 u279 u280 u281 u282 u283 u284 u285 u286 u287 u288 u289 u290 u291 u292 u293 u294 u295 u296 u297 u298 u299 u300 u301 u302 u303 u304 u305 u306 u307 u308 u309 u310 u311 u312 u313 u314 u315 u316 u317 u318 u319 u320 u321 u322 u323 u324 : Value} (F13 : RowKit.Hid (Fv w g13 n1)) (F15 : RowKit.Hid (Fv w g15 n2)) (F19 : RowKit.Hid (∃ U c, w.cell? ⟨g19, 4, none⟩ = some (.slice U 4 c) ∧ Is w U 4 c [2, 1, 0, 0])) (M29 : RowKit.Hid (c29 ≤ 9223372036854775807 ∧ 2 ≤ c29)) (F35 : RowKit.Hid (Fv w g35 n5)) (F37 : RowKit.Hid (Fv w g37 n1)) (XW : RowKit.Hid (Ext w0 w)) :
    (tailAt 20 (bodyOf Try.f3)).wp Try.prog (bodyPost Try.prog Try.f3 (fun e w' => e = .returned (.bool true) ∧ Ext w0 w')) { tmps := (u0 :: u1 :: u2 :: u3 :: u4 :: .pointer (some ⟨g5, 0, none⟩) :: .int .i64 0 :: u7 :: .int .i64 140 :: u9 :: .int .i64 140 :: u11 :: .int .i64 140 :: .pointer (some ⟨g13, 0, none⟩) :: .bool true :: .pointer (some ⟨g15, 0, none⟩) :: .bool true :: u17 :: .bool true :: .pointer (some ⟨g19, 0, none⟩) :: .bool true :: cptr bC3 :: .int .i64 0 :: cptr bC4 :: .int .i64 0 :: u25 :: .int .i64 40 :: u27 :: .int .i64 40 :: .slice A29 2 c29 :: .int .i64 0 :: u31 :: .int .i64 80 :: u33 :: .int .i64 140 :: .pointer (some ⟨g35, 0, none⟩) :: .int .i64 0 :: .pointer (some ⟨g37, 0, none⟩) :: .int .i64 0 :: u39 :: .int .i64 140 :: u41 :: u42 :: u43 :: u44 :: u45 :: u46 :: u47 :: u48 :: u49 :: u50 :: u51 :: u52 :: u53 :: u54 :: u55 :: u56 :: u57 :: u58 :: u59 :: u60 :: u61 :: u62 :: u63 :: u64 :: u65 :: u66 :: u67 :: u68 :: u69 :: u70 :: u71 :: u72 :: u73 :: u74 :: u75 :: u76 :: u77 :: u78 :: u79 :: u80 :: u81 :: u82 :: u83 :: u84 :: u85 :: u86 :: u87 :: u88 :: u89 :: u90 :: u91 :: u92 :: u93 :: u94 :: u95 :: u96 :: u97 :: u98 :: u99 :: u100 :: u101 :: u102 :: u103 :: u104 :: u105 :: u106 :: u107 :: u108 :: u109 :: u110 :: u111 :: u112 :: u113 :: u114 :: u115 :: u116 :: u117 :: u118 :: u119 :: u120 :: u121 :: u122 :: u123 :: u124 :: u125 :: u126 :: u127 :: u128 :: u129 :: u130 :: u131 :: u132 :: u133 :: u134 :: u135 :: u136 :: u137 :: u138 :: u139 :: u140 :: u141 :: u142 :: u143 :: u144 :: u145 :: u146 :: u147 :: u148 :: u149 :: u150 :: u151 :: u152 :: u153 :: u154 :: u155 :: u156 :: u157 :: u158 :: u159 :: u160 :: u161 :: u162 :: u163 :: u164 :: u165 :: u166 :: u167 :: u168 :: u169 :: u170 :: u171 :: u172 :: u173 :: u174 :: u175 :: u176 :: u177 :: u178 :: u179 :: u180 :: u181 :: u182 :: u183 :: u184 :: u185 :: u186 :: u187 :: u188 :: u189 :: u190 :: u191 :: u192 :: u193 :: u194 :: u195 :: u196 :: u197 :: u198 :: u199 :: u200 :: u201 :: u202 :: u203 :: u204 :: u205 :: u206 :: u207 :: u208 :: u209 :: u210 :: u211 :: u212 :: u213 :: u214 :: u215 :: u216 :: u217 :: u218 :: u219 :: u220 :: u221 :: u222 :: u223 :: u224 :: u225 :: u226 :: u227 :: u228 :: u229 :: u230 :: u231 :: u232 :: u233 :: u234 :: u235 :: u236 :: u237 :: u238 :: u239 :: u240 :: u241 :: u242 :: u243 :: u244 :: u245 :: u246 :: u247 :: u248 :: u249 :: u250 :: u251 :: u252 :: u253 :: u254 :: u255 :: u256 :: u257 :: u258 :: u259 :: u260 :: u261 :: u262 :: u263 :: u264 :: u265 :: u266 :: u267 :: u268 :: u269 :: u270 :: u271 :: u272 :: u273 :: u274 :: u275 :: u276 :: u277 :: u278 :: u279 :: u280 :: u281 :: u282 :: u283 :: u284 :: u285 :: u286 :: u287 :: u288 :: u289 :: u290 :: u291 :: u292 :: u293 :: u294 :: u295 :: u296 :: u297 :: u298 :: u299 :: u300 :: u301 :: u302 :: u303 :: u304 :: u305 :: u306 :: u307 :: u308 :: u309 :: u310 :: u311 :: u312 :: u313 :: u314 :: u315 :: u316 :: u317 :: u318 :: u319 :: u320 :: u321 :: u322 :: u323 :: u324 :: []).toArray, defers := [] } w := by
  dsimp only [tailAt, bodyOf, Try.f3, Option.getD]
  refine wp_seq_k (fun K HK0 => ?_)
  have HK := Lib.hid HK0
  clear HK0
  obtain ⟨A5, a5, b5, B5, m5, d5, C5, k5, l5, fb5, fd5⟩ := F35.out
  obtain ⟨A7, a7, b7, B7, m7, d7, C7, k7, l7, fb7, fd7⟩ := F37.out
  obtain ⟨A3, a3, b3, B3, m3, d3, C3, k3, l3, fb3, fd3⟩ := F13.out
  have HF5 := Lib.hid fd5
  have HF7 := Lib.hid fd7
  have HF3 := Lib.hid fd3
  have HB7 := Lib.hid fb7
  have HB3 := Lib.hid fb3
  have s0 := fb5.c4
  clear fd5 fd7 fd3 fb7 fb3 fb5
  have x_w1 := Ext.alloc w (.cells #[.int .i64 1, .int .i64 0, .int .i64 2, .int .i64 0] 3)
  have i_w1 := Is.lit w _ rfl [1, 0, 2, 0] #[.int .i64 1, .int .i64 0, .int .i64 2, .int .i64 0] 3 4 rfl rfl (by omega)
  obtain ⟨w1, h_w1⟩ : ∃ w1, w.alloc (.cells #[.int .i64 1, .int .i64 0, .int .i64 2, .int .i64 0] 3) = w1 := ⟨_, rfl⟩
  rw [h_w1] at x_w1 i_w1
  obtain ⟨g_w1, z_w1⟩ : ∃ g_w1, w.heap.size = g_w1 := ⟨_, rfl⟩
  rw [z_w1] at i_w1
  have t_w1 := sameInts_any w1 A5 (some ⟨g_w1, 0, none⟩) a5 b5 4 4 [1, 0, 2, 0] [1, 0, 2, 0] (HF5.out.u.ext x_w1) i_w1
  rw [show decide (([1, 0, 2, 0] : List Int) = [1, 0, 2, 0]) = true from rfl] at t_w1
  have T_w1 := Lib.hid t_w1
  have X_w1 := Lib.hid x_w1
  clear t_w1 i_w1
  clear x_w1
  go_wp2_with (fail)
  try rw [z_w1]
  try rw [h_w1]
  clear h_w1 z_w1
  with_reducible refine T_w1.out.mono ?_
  rintro e w2 ⟨rfl, dr2⟩
  have X2 := Lib.hid (X_w1.out.trans dr2.ext)
  clear dr2 s0 T_w1
  have f7 := HB7.out.ext X2.out
  have f3 := HB3.out.ext X2.out
  have p0 := f7.c0
  have p1 := f7.c1
  have p2 := f7.c2
  have p3 := f7.c3
  have p4 := f7.c4
  have p5 := f7.c5
  have p6 := f7.c6
  have r0 := f3.c0
  have r1 := f3.c1
  have r2 := f3.c2
  have r3 := f3.c3
  have r4 := f3.c4
  have r5 := f3.c5
  have r6 := f3.c6
  clear f7 f3
  have hsf := sameFind_any w2 n1 n1 _ _ _ _ _ _ _ _ _ _ _ _ _ _ _ _ _ _ (HF7.out.ext X2.out) (HF3.out.ext X2.out)
  rw [sameF_refl] at hsf
  have HSF := Lib.hid hsf
  clear hsf
  go_wp2_with (fail)
  with_reducible refine HSF.out.mono ?_
  rintro e w3 ⟨rfl, x3⟩
  have X3 := Lib.hid (X2.out.trans x3)
  clear x3 p0 p1 p2 p3 p4 p5 p6 r0 r1 r2 r3 r4 r5 r6 HSF
  have q4 := (HB3.out.ext X3.out).c4
  have x_w4 := Ext.alloc w3 (.cells #[.int .i64 1, .int .i64 2, .int .i64 2, .int .i64 0] 3)
  have i_w4 := Is.lit w3 _ rfl [1, 2, 2, 0] #[.int .i64 1, .int .i64 2, .int .i64 2, .int .i64 0] 3 4 rfl rfl (by omega)
  obtain ⟨w4, h_w4⟩ : ∃ w4, w3.alloc (.cells #[.int .i64 1, .int .i64 2, .int .i64 2, .int .i64 0] 3) = w4 := ⟨_, rfl⟩
  rw [h_w4] at x_w4 i_w4
  obtain ⟨g_w4, z_w4⟩ : ∃ g_w4, w3.heap.size = g_w4 := ⟨_, rfl⟩
  rw [z_w4] at i_w4
  have t_w4 := sameInts_any w4 A3 (some ⟨g_w4, 0, none⟩) a3 b3 4 4 [1, 2, 2, 0] [1, 2, 2, 0] ((HF3.out.u.ext X3.out).ext x_w4) i_w4
  rw [show decide (([1, 2, 2, 0] : List Int) = [1, 2, 2, 0]) = true from rfl] at t_w4
  have T_w4 := Lib.hid t_w4
  have X_w4 := Lib.hid x_w4
  clear t_w4 i_w4
  clear x_w4
  go_wp2_with (fail)
  try rw [z_w4]
  try rw [h_w4]
  clear h_w4 z_w4
  with_reducible refine T_w4.out.mono ?_
  rintro e w5 ⟨rfl, dr5⟩
  have X5 := Lib.hid (X3.out.trans (X_w4.out.trans dr5.ext))
  clear dr5 q4 T_w4
  go_wp2_with (fail)
  exact HK.out _ _ (part28 (Lib.hid (F13.out.ext (X5.out))) (Lib.hid (F15.out.ext (X5.out))) (Lib.hid (by obtain ⟨U, c, h1, h2⟩ := F19.out; exact ⟨U, c, (X5.out).cell h1, h2.ext (X5.out)⟩)) M29 (Lib.hid (XW.out.trans (X5.out))))
end Go.Proofs.Ytfpglkacjecoeaa
namespace Go.Proofs.Ytfpglkacjecoeaa
open Go.RowKit

set_option maxRecDepth 100000 in
set_option maxHeartbeats 4000000 in
theorem part25 {w0 w : World} {g5 : Nat} {g13 : Nat} {g15 : Nat} {g19 : Nat} {bC3 : Nat} {bC4 : Nat} {A29 : Option Addr} {c29 : Nat} {g35 : Nat} {g37 : Nat} {u0 u1 u2 u3 u4 u7 u9 u11 u17 u25 u27 u31 u33 u39 u40 u41 u42 u43 u44 u45 u46 u47 u48 u49 u50 u51 u52 u53 u54 u55 u56 u57 u58 u59 u60 u61 u62 u63 u64 u65 u66 u67 u68 u69 u70 u71 u72 u73 u74 u75 u76 u77 u78 u79 u80 u81 u82 u83 u84 u85 u86 u87 u88 u89 u90 u91 u92 u93 u94 u95 u96 u97 u98 u99 u100 u101 u102 u103 u104 u105 u106 u107 u108 u109 u110 u111 u112 u113 u114 u115 u116 u117 u118 u119 u120 u121 u122 u123 u124 u125 u126 u127 u128 u129 u130 u131 u132 u133 u134 u135 u136 u137 u138 u139 u140 u141 u142 u143 u144 u145 u146 u147 u148 u149 u150 u151 u152 u153 u154 u155 u156 u157 u158 u159 u160 u161 u162 u163 u164 u165 u166 u167 u168 u169 u170 u171 u172 u173 u174 u175 u176 u177 u178 u179 u180 u181 u182 u183 u184 u185 u186 u187 u188 u189 u190 u191 u192 u193 u194 u195 u196 u197 u198 u199 u200 u201 u202 u203 u204 u205 u206 u207 u208 u209 u210 u211 u212 u213 u214 u215 u216 u217 u218 u219 u220 u221 u222 u223 u224 u225 u226 u227 u228 u229 u230 u231 u232 u233 u234 u235 u236 u237 u238 u239 u240 u241 u242 u243 u244 u245 u246 u247 u248 u249 u250 u251 u252 u253 u254 u255 u256 u257 u258 u259 u260 u261 u262 u263 u264 u265 u266 u267 u268 u269 u270 u271 u272 u273 u274 u275 u276 u277 u278 u279 u280 u281 u282 u283 u284 u285 u286 u287 u288 u289 u290 u291 u292 u293 u294 u295 u296 u297 u298 u299 u300 u301 u302 u303 u304 u305 u306 u307 u308 u309 u310 u311 u312 u313 u314 u315 u316 u317 u318 u319 u320 u321 u322 u323 u324 : Value} (F13 : RowKit.Hid (Fv w g13 n1)) (F15 : RowKit.Hid (Fv w g15 n2)) (F19 : RowKit.Hid (∃ U c, w.cell? ⟨g19, 4, none⟩ = some (.slice U 4 c) ∧ Is w U 4 c [2, 1, 0, 0])) (M29 : RowKit.Hid (c29 ≤ 9223372036854775807 ∧ 2 ≤ c29)) (F35 : RowKit.Hid (Fv w g35 n5)) (F37 : RowKit.Hid (Fv w g37 n1)) (XW : RowKit.Hid (Ext w0 w)) :
    (tailAt 19 (bodyOf Try.f3)).wp Try.prog (bodyPost Try.prog Try.f3 (fun e w' => e = .returned (.bool true) ∧ Ext w0 w')) { tmps := (u0 :: u1 :: u2 :: u3 :: u4 :: .pointer (some ⟨g5, 0, none⟩) :: .int .i64 0 :: u7 :: .int .i64 140 :: u9 :: .int .i64 140 :: u11 :: .int .i64 140 :: .pointer (some ⟨g13, 0, none⟩) :: .bool true :: .pointer (some ⟨g15, 0, none⟩) :: .bool true :: u17 :: .bool true :: .pointer (some ⟨g19, 0, none⟩) :: .bool true :: cptr bC3 :: .int .i64 0 :: cptr bC4 :: .int .i64 0 :: u25 :: .int .i64 40 :: u27 :: .int .i64 40 :: .slice A29 2 c29 :: .int .i64 0 :: u31 :: .int .i64 80 :: u33 :: .int .i64 140 :: .pointer (some ⟨g35, 0, none⟩) :: .int .i64 0 :: .pointer (some ⟨g37, 0, none⟩) :: .int .i64 0 :: u39 :: u40 :: u41 :: u42 :: u43 :: u44 :: u45 :: u46 :: u47 :: u48 :: u49 :: u50 :: u51 :: u52 :: u53 :: u54 :: u55 :: u56 :: u57 :: u58 :: u59 :: u60 :: u61 :: u62 :: u63 :: u64 :: u65 :: u66 :: u67 :: u68 :: u69 :: u70 :: u71 :: u72 :: u73 :: u74 :: u75 :: u76 :: u77 :: u78 :: u79 :: u80 :: u81 :: u82 :: u83 :: u84 :: u85 :: u86 :: u87 :: u88 :: u89 :: u90 :: u91 :: u92 :: u93 :: u94 :: u95 :: u96 :: u97 :: u98 :: u99 :: u100 :: u101 :: u102 :: u103 :: u104 :: u105 :: u106 :: u107 :: u108 :: u109 :: u110 :: u111 :: u112 :: u113 :: u114 :: u115 :: u116 :: u117 :: u118 :: u119 :: u120 :: u121 :: u122 :: u123 :: u124 :: u125 :: u126 :: u127 :: u128 :: u129 :: u130 :: u131 :: u132 :: u133 :: u134 :: u135 :: u136 :: u137 :: u138 :: u139 :: u140 :: u141 :: u142 :: u143 :: u144 :: u145 :: u146 :: u147 :: u148 :: u149 :: u150 :: u151 :: u152 :: u153 :: u154 :: u155 :: u156 :: u157 :: u158 :: u159 :: u160 :: u161 :: u162 :: u163 :: u164 :: u165 :: u166 :: u167 :: u168 :: u169 :: u170 :: u171 :: u172 :: u173 :: u174 :: u175 :: u176 :: u177 :: u178 :: u179 :: u180 :: u181 :: u182 :: u183 :: u184 :: u185 :: u186 :: u187 :: u188 :: u189 :: u190 :: u191 :: u192 :: u193 :: u194 :: u195 :: u196 :: u197 :: u198 :: u199 :: u200 :: u201 :: u202 :: u203 :: u204 :: u205 :: u206 :: u207 :: u208 :: u209 :: u210 :: u211 :: u212 :: u213 :: u214 :: u215 :: u216 :: u217 :: u218 :: u219 :: u220 :: u221 :: u222 :: u223 :: u224 :: u225 :: u226 :: u227 :: u228 :: u229 :: u230 :: u231 :: u232 :: u233 :: u234 :: u235 :: u236 :: u237 :: u238 :: u239 :: u240 :: u241 :: u242 :: u243 :: u244 :: u245 :: u246 :: u247 :: u248 :: u249 :: u250 :: u251 :: u252 :: u253 :: u254 :: u255 :: u256 :: u257 :: u258 :: u259 :: u260 :: u261 :: u262 :: u263 :: u264 :: u265 :: u266 :: u267 :: u268 :: u269 :: u270 :: u271 :: u272 :: u273 :: u274 :: u275 :: u276 :: u277 :: u278 :: u279 :: u280 :: u281 :: u282 :: u283 :: u284 :: u285 :: u286 :: u287 :: u288 :: u289 :: u290 :: u291 :: u292 :: u293 :: u294 :: u295 :: u296 :: u297 :: u298 :: u299 :: u300 :: u301 :: u302 :: u303 :: u304 :: u305 :: u306 :: u307 :: u308 :: u309 :: u310 :: u311 :: u312 :: u313 :: u314 :: u315 :: u316 :: u317 :: u318 :: u319 :: u320 :: u321 :: u322 :: u323 :: u324 :: []).toArray, defers := [] } w := by
  dsimp only [tailAt, bodyOf, Try.f3, Option.getD]
  refine wp_seq_k (fun K HK0 => ?_)
  have HK := Lib.hid HK0
  clear HK0
  obtain ⟨A0, m0, c0, B0, d0, e0, C0, k0, l0, ld, fd0⟩ := F13.out.load
  have LD := Lib.hid ld
  have HT := Lib.hid (lose_nu _ _ _ _ _ _ _ _ _ _ fd0 4 n1 140 nu_lose.2.2.2.2.1 nu_lose.2.2.2.2.2)
  clear ld fd0
  go_wp2_with (first | ((with_reducible refine opIs ⟨some 188, .load 27 (.tmp 13), _, _, _, _⟩ ?_); refine wpList_loadR rfl 27 (.tmp 13) rfl rfl LD.out ?_))
  with_reducible refine HT.out.mono ?_
  rintro e w9 ⟨A, n, c, B, m, d, C, k, e9, rfl, hd, x9⟩
  obtain ⟨x, wa, wb, ra, sa, fv, xb⟩ := find_new w9 hd
  have RA := Lib.hid ra
  have SA := Lib.hid sa
  clear ra sa
  go_wp2_with (first
    | ((with_reducible refine opIs ⟨some 39, .alloc 27, _, _, _, _⟩ ?_); refine wpList_allocR rfl 27 rfl _ RA.out ?_)
    | ((with_reducible refine opIs ⟨none, .store 27 (.tmp 39) (.tmp 190), _, _, _, _⟩ ?_); refine wpList_storeR rfl 27 (.tmp 39) (.tmp 190) rfl rfl rfl SA.out ?_))
  exact HK.out _ _ (part26 (Lib.hid (F13.out.ext (x9.trans xb))) (Lib.hid (F15.out.ext (x9.trans xb))) (Lib.hid (by obtain ⟨U, c, h1, h2⟩ := F19.out; exact ⟨U, c, (x9.trans xb).cell h1, h2.ext (x9.trans xb)⟩)) M29 (Lib.hid (F35.out.ext (x9.trans xb))) (Lib.hid (F37.out.ext (x9.trans xb))) (Lib.hid (XW.out.trans (x9.trans xb))))
end Go.Proofs.Ytfpglkacjecoeaa
namespace Go.Proofs.Ytfpglkacjecoeaa
open Go.RowKit

set_option maxRecDepth 100000 in
set_option maxHeartbeats 4000000 in
theorem part24 {w0 w : World} {g5 : Nat} {g13 : Nat} {g15 : Nat} {g19 : Nat} {bC3 : Nat} {bC4 : Nat} {A29 : Option Addr} {c29 : Nat} {g35 : Nat} {u0 u1 u2 u3 u4 u7 u9 u11 u17 u25 u27 u31 u33 u37 u38 u39 u40 u41 u42 u43 u44 u45 u46 u47 u48 u49 u50 u51 u52 u53 u54 u55 u56 u57 u58 u59 u60 u61 u62 u63 u64 u65 u66 u67 u68 u69 u70 u71 u72 u73 u74 u75 u76 u77 u78 u79 u80 u81 u82 u83 u84 u85 u86 u87 u88 u89 u90 u91 u92 u93 u94 u95 u96 u97 u98 u99 u100 u101 u102 u103 u104 u105 u106 u107 u108 u109 u110 u111 u112 u113 u114 u115 u116 u117 u118 u119 u120 u121 u122 u123 u124 u125 u126 u127 u128 u129 u130 u131 u132 u133 u134 u135 u136 u137 u138 u139 u140 u141 u142 u143 u144 u145 u146 u147 u148 u149 u150 u151 u152 u153 u154 u155 u156 u157 u158 u159 u160 u161 u162 u163 u164 u165 u166 u167 u168 u169 u170 u171 u172 u173 u174 u175 u176 u177 u178 u179 u180 u181 u182 u183 u184 u185 u186 u187 u188 u189 u190 u191 u192 u193 u194 u195 u196 u197 u198 u199 u200 u201 u202 u203 u204 u205 u206 u207 u208 u209 u210 u211 u212 u213 u214 u215 u216 u217 u218 u219 u220 u221 u222 u223 u224 u225 u226 u227 u228 u229 u230 u231 u232 u233 u234 u235 u236 u237 u238 u239 u240 u241 u242 u243 u244 u245 u246 u247 u248 u249 u250 u251 u252 u253 u254 u255 u256 u257 u258 u259 u260 u261 u262 u263 u264 u265 u266 u267 u268 u269 u270 u271 u272 u273 u274 u275 u276 u277 u278 u279 u280 u281 u282 u283 u284 u285 u286 u287 u288 u289 u290 u291 u292 u293 u294 u295 u296 u297 u298 u299 u300 u301 u302 u303 u304 u305 u306 u307 u308 u309 u310 u311 u312 u313 u314 u315 u316 u317 u318 u319 u320 u321 u322 u323 u324 : Value} (F13 : RowKit.Hid (Fv w g13 n1)) (F15 : RowKit.Hid (Fv w g15 n2)) (F19 : RowKit.Hid (∃ U c, w.cell? ⟨g19, 4, none⟩ = some (.slice U 4 c) ∧ Is w U 4 c [2, 1, 0, 0])) (M29 : RowKit.Hid (c29 ≤ 9223372036854775807 ∧ 2 ≤ c29)) (F35 : RowKit.Hid (Fv w g35 n5)) (XW : RowKit.Hid (Ext w0 w)) :
    (tailAt 18 (bodyOf Try.f3)).wp Try.prog (bodyPost Try.prog Try.f3 (fun e w' => e = .returned (.bool true) ∧ Ext w0 w')) { tmps := (u0 :: u1 :: u2 :: u3 :: u4 :: .pointer (some ⟨g5, 0, none⟩) :: .int .i64 0 :: u7 :: .int .i64 140 :: u9 :: .int .i64 140 :: u11 :: .int .i64 140 :: .pointer (some ⟨g13, 0, none⟩) :: .bool true :: .pointer (some ⟨g15, 0, none⟩) :: .bool true :: u17 :: .bool true :: .pointer (some ⟨g19, 0, none⟩) :: .bool true :: cptr bC3 :: .int .i64 0 :: cptr bC4 :: .int .i64 0 :: u25 :: .int .i64 40 :: u27 :: .int .i64 40 :: .slice A29 2 c29 :: .int .i64 0 :: u31 :: .int .i64 80 :: u33 :: .int .i64 140 :: .pointer (some ⟨g35, 0, none⟩) :: .int .i64 0 :: u37 :: u38 :: u39 :: u40 :: u41 :: u42 :: u43 :: u44 :: u45 :: u46 :: u47 :: u48 :: u49 :: u50 :: u51 :: u52 :: u53 :: u54 :: u55 :: u56 :: u57 :: u58 :: u59 :: u60 :: u61 :: u62 :: u63 :: u64 :: u65 :: u66 :: u67 :: u68 :: u69 :: u70 :: u71 :: u72 :: u73 :: u74 :: u75 :: u76 :: u77 :: u78 :: u79 :: u80 :: u81 :: u82 :: u83 :: u84 :: u85 :: u86 :: u87 :: u88 :: u89 :: u90 :: u91 :: u92 :: u93 :: u94 :: u95 :: u96 :: u97 :: u98 :: u99 :: u100 :: u101 :: u102 :: u103 :: u104 :: u105 :: u106 :: u107 :: u108 :: u109 :: u110 :: u111 :: u112 :: u113 :: u114 :: u115 :: u116 :: u117 :: u118 :: u119 :: u120 :: u121 :: u122 :: u123 :: u124 :: u125 :: u126 :: u127 :: u128 :: u129 :: u130 :: u131 :: u132 :: u133 :: u134 :: u135 :: u136 :: u137 :: u138 :: u139 :: u140 :: u141 :: u142 :: u143 :: u144 :: u145 :: u146 :: u147 :: u148 :: u149 :: u150 :: u151 :: u152 :: u153 :: u154 :: u155 :: u156 :: u157 :: u158 :: u159 :: u160 :: u161 :: u162 :: u163 :: u164 :: u165 :: u166 :: u167 :: u168 :: u169 :: u170 :: u171 :: u172 :: u173 :: u174 :: u175 :: u176 :: u177 :: u178 :: u179 :: u180 :: u181 :: u182 :: u183 :: u184 :: u185 :: u186 :: u187 :: u188 :: u189 :: u190 :: u191 :: u192 :: u193 :: u194 :: u195 :: u196 :: u197 :: u198 :: u199 :: u200 :: u201 :: u202 :: u203 :: u204 :: u205 :: u206 :: u207 :: u208 :: u209 :: u210 :: u211 :: u212 :: u213 :: u214 :: u215 :: u216 :: u217 :: u218 :: u219 :: u220 :: u221 :: u222 :: u223 :: u224 :: u225 :: u226 :: u227 :: u228 :: u229 :: u230 :: u231 :: u232 :: u233 :: u234 :: u235 :: u236 :: u237 :: u238 :: u239 :: u240 :: u241 :: u242 :: u243 :: u244 :: u245 :: u246 :: u247 :: u248 :: u249 :: u250 :: u251 :: u252 :: u253 :: u254 :: u255 :: u256 :: u257 :: u258 :: u259 :: u260 :: u261 :: u262 :: u263 :: u264 :: u265 :: u266 :: u267 :: u268 :: u269 :: u270 :: u271 :: u272 :: u273 :: u274 :: u275 :: u276 :: u277 :: u278 :: u279 :: u280 :: u281 :: u282 :: u283 :: u284 :: u285 :: u286 :: u287 :: u288 :: u289 :: u290 :: u291 :: u292 :: u293 :: u294 :: u295 :: u296 :: u297 :: u298 :: u299 :: u300 :: u301 :: u302 :: u303 :: u304 :: u305 :: u306 :: u307 :: u308 :: u309 :: u310 :: u311 :: u312 :: u313 :: u314 :: u315 :: u316 :: u317 :: u318 :: u319 :: u320 :: u321 :: u322 :: u323 :: u324 :: []).toArray, defers := [] } w := by
  dsimp only [tailAt, bodyOf, Try.f3, Option.getD]
  refine wp_seq_k (fun K HK0 => ?_)
  have HK := Lib.hid HK0
  clear HK0
  obtain ⟨A0, m0, c0, B0, d0, e0, C0, k0, l0, ld, fd0⟩ := F13.out.load
  have LD := Lib.hid ld
  have HT := Lib.hid (lose_nu _ _ _ _ _ _ _ _ _ _ fd0 0 n1 0 nu_lose.2.2.1 nu_lose.2.2.2.1)
  clear ld fd0
  go_wp2_with (first | ((with_reducible refine opIs ⟨some 183, .load 27 (.tmp 13), _, _, _, _⟩ ?_); refine wpList_loadR rfl 27 (.tmp 13) rfl rfl LD.out ?_))
  with_reducible refine HT.out.mono ?_
  rintro e w9 ⟨A, n, c, B, m, d, C, k, e9, rfl, hd, x9⟩
  obtain ⟨x, wa, wb, ra, sa, fv, xb⟩ := find_new w9 hd
  have RA := Lib.hid ra
  have SA := Lib.hid sa
  clear ra sa
  go_wp2_with (first
    | ((with_reducible refine opIs ⟨some 37, .alloc 27, _, _, _, _⟩ ?_); refine wpList_allocR rfl 27 rfl _ RA.out ?_)
    | ((with_reducible refine opIs ⟨none, .store 27 (.tmp 37) (.tmp 185), _, _, _, _⟩ ?_); refine wpList_storeR rfl 27 (.tmp 37) (.tmp 185) rfl rfl rfl SA.out ?_))
  exact HK.out _ _ (part25 (Lib.hid (F13.out.ext (x9.trans xb))) (Lib.hid (F15.out.ext (x9.trans xb))) (Lib.hid (by obtain ⟨U, c, h1, h2⟩ := F19.out; exact ⟨U, c, (x9.trans xb).cell h1, h2.ext (x9.trans xb)⟩)) M29 (Lib.hid (F35.out.ext (x9.trans xb))) (Lib.hid fv) (Lib.hid (XW.out.trans (x9.trans xb))))
end Go.Proofs.Ytfpglkacjecoeaa
