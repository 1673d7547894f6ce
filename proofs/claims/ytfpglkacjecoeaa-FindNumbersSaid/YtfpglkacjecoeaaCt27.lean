/- Several texts in one: FindNumbers' walk from region 30 on. FindNumbers' walk from region 29 on. FindNumbers' walk from region 28 on. -/
import Derived.Test.YtfpglkacjecoeaaCt26
import Derived.Test.YtfpglkacjecoeaaCt25
namespace Go.Proofs.Ytfpglkacjecoeaa
open Go.RowKit

set_option maxRecDepth 100000 in
set_option maxHeartbeats 4000000 in
theorem part30 {w0 w : World} {g5 : Nat} {g13 : Nat} {g15 : Nat} {g19 : Nat} {bC3 : Nat} {bC4 : Nat} {A29 : Option Addr} {c29 : Nat} {g35 : Nat} {g37 : Nat} {u0 u1 u2 u3 u4 u7 u9 u11 u17 u25 u27 u31 u33 u39 u43 u44 u45 u46 u47 u48 u49 u50 u51 u52 u53 u54 u55 u56 u57 u58 u59 u60 u61 u62 u63 u64 u65 u66 u67 u68 u69 u70 u71 u72 u73 u74 u75 u76 u77 u78 u79 u80 u81 u82 u83 u84 u85 u86 u87 u88 u89 u90 u91 u92 u93 u94 u95 u96 u97 u98 u99 u100 u101 u102 u103 u104 u105 u106 u107 u108 u109 u110 u111 u112 u113 u114 u115 u116 u117 u118 u119 u120 u121 u122 u123 u124 u125 u126 u127 u128 u129 u130 u131 u132 u133 u134 u135 u136 u137 u138 u139 u140 u141 u142 u143 u144 u145 u146 u147 u148 u149 u150 u151 u152 u153 u154 u155 u156 u157 u158 u159 u160 u161 u162 u163 u164 u165 u166 u167 u168 u169 u170 u171 u172 u173 u174 u175 u176 u177 u178 u179 u180 u181 u182 u183 u184 u185 u186 u187 u188 u189 u190 u191 u192 u193 u194 u195 u196 u197 u198 u199 u200 u201 u202 u203 u204 u205 u206 u207 u208 u209 u210 u211 u212 u213 u214 u215 u216 u217 u218 u219 u220 u221 u222 u223 u224 u225 u226 u227 u228 u229 u230 u231 u232 u233 u234 u235 u236 u237 u238 u239 u240 u241 u242 u243 u244 u245 u246 u247 u248 u249 u250 u251 u252 u253 u254 u255 u256 u257 u258 u259 u260 u261 u262 u263 u264 u265 u266 u267 u268 u269 u270 u271 u272 u273 u274 u275 u276 u277 u278 u279 u280 u281 u282 u283 u284 u285 u286 u287 u288 u289 u290 u291 u292 u293 u294 u295 u296 u297 u298 u299 u300 u301 u302 u303 u304 u305 u306 u307 u308 u309 u310 u311 u312 u313 u314 u315 u316 u317 u318 u319 u320 u321 u322 u323 u324 : Value} (F15 : RowKit.Hid (Fv w g15 n2)) (XW : RowKit.Hid (Ext w0 w)) :
    (tailAt 23 (bodyOf Try.f3)).wp Try.prog (bodyPost Try.prog Try.f3 (fun e w' => e = .returned (.bool true) ∧ Ext w0 w')) { tmps := (u0 :: u1 :: u2 :: u3 :: u4 :: .pointer (some ⟨g5, 0, none⟩) :: .int .i64 0 :: u7 :: .int .i64 140 :: u9 :: .int .i64 140 :: u11 :: .int .i64 140 :: .pointer (some ⟨g13, 0, none⟩) :: .bool true :: .pointer (some ⟨g15, 0, none⟩) :: .bool true :: u17 :: .bool true :: .pointer (some ⟨g19, 0, none⟩) :: .bool true :: cptr bC3 :: .int .i64 0 :: cptr bC4 :: .int .i64 0 :: u25 :: .int .i64 40 :: u27 :: .int .i64 40 :: .slice A29 2 c29 :: .int .i64 0 :: u31 :: .int .i64 80 :: u33 :: .int .i64 140 :: .pointer (some ⟨g35, 0, none⟩) :: .int .i64 0 :: .pointer (some ⟨g37, 0, none⟩) :: .int .i64 0 :: u39 :: .int .i64 140 :: .bool true :: .bool true :: u43 :: u44 :: u45 :: u46 :: u47 :: u48 :: u49 :: u50 :: u51 :: u52 :: u53 :: u54 :: u55 :: u56 :: u57 :: u58 :: u59 :: u60 :: u61 :: u62 :: u63 :: u64 :: u65 :: u66 :: u67 :: u68 :: u69 :: u70 :: u71 :: u72 :: u73 :: u74 :: u75 :: u76 :: u77 :: u78 :: u79 :: u80 :: u81 :: u82 :: u83 :: u84 :: u85 :: u86 :: u87 :: u88 :: u89 :: u90 :: u91 :: u92 :: u93 :: u94 :: u95 :: u96 :: u97 :: u98 :: u99 :: u100 :: u101 :: u102 :: u103 :: u104 :: u105 :: u106 :: u107 :: u108 :: u109 :: u110 :: u111 :: u112 :: u113 :: u114 :: u115 :: u116 :: u117 :: u118 :: u119 :: u120 :: u121 :: u122 :: u123 :: u124 :: u125 :: u126 :: u127 :: u128 :: u129 :: u130 :: u131 :: u132 :: u133 :: u134 :: u135 :: u136 :: u137 :: u138 :: u139 :: u140 :: u141 :: u142 :: u143 :: u144 :: u145 :: u146 :: u147 :: u148 :: u149 :: u150 :: u151 :: u152 :: u153 :: u154 :: u155 :: u156 :: u157 :: u158 :: u159 :: u160 :: u161 :: u162 :: u163 :: u164 :: u165 :: u166 :: u167 :: u168 :: u169 :: u170 :: u171 :: u172 :: u173 :: u174 :: u175 :: u176 :: u177 :: u178 :: u179 :: u180 :: u181 :: u182 :: u183 :: u184 :: u185 :: u186 :: u187 :: u188 :: u189 :: u190 :: u191 :: u192 :: u193 :: u194 :: u195 :: u196 :: u197 :: u198 :: u199 :: u200 :: u201 :: u202 :: u203 :: u204 :: u205 :: u206 :: u207 :: u208 :: u209 :: u210 :: u211 :: u212 :: u213 :: u214 :: u215 :: u216 :: u217 :: u218 :: u219 :: u220 :: u221 :: u222 :: u223 :: u224 :: u225 :: u226 :: u227 :: u228 :: u229 :: u230 :: u231 :: u232 :: u233 :: u234 :: u235 :: u236 :: u237 :: u238 :: u239 :: u240 :: u241 :: u242 :: u243 :: u244 :: u245 :: u246 :: u247 :: u248 :: u249 :: u250 :: u251 :: u252 :: u253 :: u254 :: u255 :: u256 :: u257 :: u258 :: u259 :: u260 :: u261 :: u262 :: u263 :: u264 :: u265 :: u266 :: u267 :: u268 :: u269 :: u270 :: u271 :: u272 :: u273 :: u274 :: u275 :: u276 :: u277 :: u278 :: u279 :: u280 :: u281 :: u282 :: u283 :: u284 :: u285 :: u286 :: u287 :: u288 :: u289 :: u290 :: u291 :: u292 :: u293 :: u294 :: u295 :: u296 :: u297 :: u298 :: u299 :: u300 :: u301 :: u302 :: u303 :: u304 :: u305 :: u306 :: u307 :: u308 :: u309 :: u310 :: u311 :: u312 :: u313 :: u314 :: u315 :: u316 :: u317 :: u318 :: u319 :: u320 :: u321 :: u322 :: u323 :: u324 :: []).toArray, defers := [] } w := by
  dsimp only [tailAt, bodyOf, Try.f3, Option.getD]
  refine wp_seq_k (fun K HK0 => ?_)
  have HK := Lib.hid HK0
  clear HK0
  obtain ⟨A6, a6, b6, B6, m6, d6, C6, k6, l6, fb6, fd6⟩ := F15.out
  have r0 := fb6.c0
  have r1 := fb6.c1
  have r2 := fb6.c2
  have r3 : w.cell? ⟨g15, 3, none⟩ = some (.int .i64 2) := fb6.c3
  have r4 := fb6.c4
  have r5 := fb6.c5
  have r6 := fb6.c6
  have hwa := fWants_any w n2 _ _ _ _ _ _ _ _ _ fd6 (fd_small fd6 (by decide) (by decide)).1 (fd_small fd6 (by decide) (by decide)).2
  rw [nu_rest.1] at hwa
  have hwa2 : Calls Try.prog 19 #[.agg #[.int .i64 n2.stripe, .int .i64 n2.version, .int .i64 n2.need, .int .i64 2, .slice A6 a6 b6, .slice B6 m6 d6, .slice C6 k6 l6]] w (GivesW [] w) := hwa
  have HWA := Lib.hid hwa2
  clear hwa hwa2 fb6 fd6
  go_wp2_with (fail)
  with_reducible refine HWA.out.mono ?_
  rintro e w1 ⟨A1, q1, c1, rfl, hws, x1⟩
  obtain rfl : q1 = 0 := hws.len.symm
  have g1 := hws.le
  have g2 := hws.max
  have X1 := Lib.hid x1
  clear hws x1 HWA r0 r1 r2 r3 r4 r5 r6
  have xl := Ext.alloc w1 (.cells #[.int .i64 2] 3)
  have il := Is.lit w1 _ rfl [2] #[.int .i64 2] 3 1 rfl rfl (by omega)
  obtain ⟨W2, h_W2⟩ : ∃ W2, w1.alloc (.cells #[.int .i64 2] 3) = W2 := ⟨_, rfl⟩
  rw [h_W2] at xl il
  obtain ⟨gz, h_gz⟩ : ∃ gz, w1.heap.size = gz := ⟨_, rfl⟩
  rw [h_gz] at il
  have hla := fLacks_any W2 ⟨0, 0, 0, 0, [2], [], []⟩ (some ⟨gz, 0, none⟩) 1 1 none 0 0 none 0 0 ⟨il, Is.none W2, Mx.none W2⟩ (by omega) (by omega)
  rw [nu_rest.2.2] at hla
  have hla2 : Calls Try.prog 18 #[.agg #[.int .i64 0, .int .i64 0, .int .i64 0, .int .i64 0, .slice (some ⟨gz, 0, none⟩) 1 1, .slice none 0 0, .slice none 0 0]] W2 fun r w' => ∃ v, r = .returned v ∧ NewInts W2 w' v [] := hla
  have HLA := Lib.hid hla2
  have XL := Lib.hid xl
  clear hla hla2 il xl
  go_wp2_with (fail)
  try rw [h_gz]
  try rw [h_W2]
  clear h_gz h_W2
  with_reducible refine HLA.out.mono ?_
  rintro e w3 ⟨v3, rfl, hv⟩
  obtain ⟨A3, e3, rfl, j1, j2⟩ := ownsRow_slice hv.own
  have X3 := Lib.hid (X1.out.trans (XL.out.trans hv.ext))
  clear hv HLA XL X1
  go_wp2_with (fail)
  with_reducible refine (awake_any13 _).mono ?_
  rintro e w4 ⟨rfl, x4⟩
  have X4 := Lib.hid (X3.out.trans x4)
  clear x4
  go_wp2_with (fail)
  refine HK.out _ _ ?_
  go_wp2_with (fail)
  go_ret
  exact ⟨rfl, XW.out.trans X4.out⟩
end Go.Proofs.Ytfpglkacjecoeaa
namespace Go.Proofs.Ytfpglkacjecoeaa
open Go.RowKit

set_option maxRecDepth 100000 in
set_option maxHeartbeats 4000000 in
theorem part29 {w0 w : World} {g5 : Nat} {g13 : Nat} {g15 : Nat} {g19 : Nat} {bC3 : Nat} {bC4 : Nat} {A29 : Option Addr} {c29 : Nat} {g35 : Nat} {g37 : Nat} {u0 u1 u2 u3 u4 u7 u9 u11 u17 u25 u27 u31 u33 u39 u42 u43 u44 u45 u46 u47 u48 u49 u50 u51 u52 u53 u54 u55 u56 u57 u58 u59 u60 u61 u62 u63 u64 u65 u66 u67 u68 u69 u70 u71 u72 u73 u74 u75 u76 u77 u78 u79 u80 u81 u82 u83 u84 u85 u86 u87 u88 u89 u90 u91 u92 u93 u94 u95 u96 u97 u98 u99 u100 u101 u102 u103 u104 u105 u106 u107 u108 u109 u110 u111 u112 u113 u114 u115 u116 u117 u118 u119 u120 u121 u122 u123 u124 u125 u126 u127 u128 u129 u130 u131 u132 u133 u134 u135 u136 u137 u138 u139 u140 u141 u142 u143 u144 u145 u146 u147 u148 u149 u150 u151 u152 u153 u154 u155 u156 u157 u158 u159 u160 u161 u162 u163 u164 u165 u166 u167 u168 u169 u170 u171 u172 u173 u174 u175 u176 u177 u178 u179 u180 u181 u182 u183 u184 u185 u186 u187 u188 u189 u190 u191 u192 u193 u194 u195 u196 u197 u198 u199 u200 u201 u202 u203 u204 u205 u206 u207 u208 u209 u210 u211 u212 u213 u214 u215 u216 u217 u218 u219 u220 u221 u222 u223 u224 u225 u226 u227 u228 u229 u230 u231 u232 u233 u234 u235 u236 u237 u238 u239 u240 u241 u242 u243 u244 u245 u246 u247 u248 u249 u250 u251 u252 u253 u254 u255 u256 u257 u258 u259 u260 u261 u262 u263 u264 u265 u266 u267 u268 u269 u270 u271 u272 u273 u274 u275 u276 u277 u278 u279 u280 u281 u282 u283 u284 u285 u286 u287 u288 u289 u290 u291 u292 u293 u294 u295 u296 u297 u298 u299 u300 u301 u302 u303 u304 u305 u306 u307 u308 u309 u310 u311 u312 u313 u314 u315 u316 u317 u318 u319 u320 u321 u322 u323 u324 : Value} (F15 : RowKit.Hid (Fv w g15 n2)) (F19 : RowKit.Hid (∃ U c, w.cell? ⟨g19, 4, none⟩ = some (.slice U 4 c) ∧ Is w U 4 c [2, 1, 0, 0])) (M29 : RowKit.Hid (c29 ≤ 9223372036854775807 ∧ 2 ≤ c29)) (XW : RowKit.Hid (Ext w0 w)) :
    (tailAt 22 (bodyOf Try.f3)).wp Try.prog (bodyPost Try.prog Try.f3 (fun e w' => e = .returned (.bool true) ∧ Ext w0 w')) { tmps := (u0 :: u1 :: u2 :: u3 :: u4 :: .pointer (some ⟨g5, 0, none⟩) :: .int .i64 0 :: u7 :: .int .i64 140 :: u9 :: .int .i64 140 :: u11 :: .int .i64 140 :: .pointer (some ⟨g13, 0, none⟩) :: .bool true :: .pointer (some ⟨g15, 0, none⟩) :: .bool true :: u17 :: .bool true :: .pointer (some ⟨g19, 0, none⟩) :: .bool true :: cptr bC3 :: .int .i64 0 :: cptr bC4 :: .int .i64 0 :: u25 :: .int .i64 40 :: u27 :: .int .i64 40 :: .slice A29 2 c29 :: .int .i64 0 :: u31 :: .int .i64 80 :: u33 :: .int .i64 140 :: .pointer (some ⟨g35, 0, none⟩) :: .int .i64 0 :: .pointer (some ⟨g37, 0, none⟩) :: .int .i64 0 :: u39 :: .int .i64 140 :: .bool true :: u42 :: u43 :: u44 :: u45 :: u46 :: u47 :: u48 :: u49 :: u50 :: u51 :: u52 :: u53 :: u54 :: u55 :: u56 :: u57 :: u58 :: u59 :: u60 :: u61 :: u62 :: u63 :: u64 :: u65 :: u66 :: u67 :: u68 :: u69 :: u70 :: u71 :: u72 :: u73 :: u74 :: u75 :: u76 :: u77 :: u78 :: u79 :: u80 :: u81 :: u82 :: u83 :: u84 :: u85 :: u86 :: u87 :: u88 :: u89 :: u90 :: u91 :: u92 :: u93 :: u94 :: u95 :: u96 :: u97 :: u98 :: u99 :: u100 :: u101 :: u102 :: u103 :: u104 :: u105 :: u106 :: u107 :: u108 :: u109 :: u110 :: u111 :: u112 :: u113 :: u114 :: u115 :: u116 :: u117 :: u118 :: u119 :: u120 :: u121 :: u122 :: u123 :: u124 :: u125 :: u126 :: u127 :: u128 :: u129 :: u130 :: u131 :: u132 :: u133 :: u134 :: u135 :: u136 :: u137 :: u138 :: u139 :: u140 :: u141 :: u142 :: u143 :: u144 :: u145 :: u146 :: u147 :: u148 :: u149 :: u150 :: u151 :: u152 :: u153 :: u154 :: u155 :: u156 :: u157 :: u158 :: u159 :: u160 :: u161 :: u162 :: u163 :: u164 :: u165 :: u166 :: u167 :: u168 :: u169 :: u170 :: u171 :: u172 :: u173 :: u174 :: u175 :: u176 :: u177 :: u178 :: u179 :: u180 :: u181 :: u182 :: u183 :: u184 :: u185 :: u186 :: u187 :: u188 :: u189 :: u190 :: u191 :: u192 :: u193 :: u194 :: u195 :: u196 :: u197 :: u198 :: u199 :: u200 :: u201 :: u202 :: u203 :: u204 :: u205 :: u206 :: u207 :: u208 :: u209 :: u210 :: u211 :: u212 :: u213 :: u214 :: u215 :: u216 :: u217 :: u218 :: u219 :: u220 :: u221 :: u222 :: u223 :: u224 :: u225 :: u226 :: u227 :: u228 :: u229 :: u230 :: u231 :: u232 :: u233 :: u234 :: u235 :: u236 :: u237 :: u238 :: u239 :: u240 :: u241 :: u242 :: u243 :: u244 :: u245 :: u246 :: u247 :: u248 :: u249 :: u250 :: u251 :: u252 :: u253 :: u254 :: u255 :: u256 :: u257 :: u258 :: u259 :: u260 :: u261 :: u262 :: u263 :: u264 :: u265 :: u266 :: u267 :: u268 :: u269 :: u270 :: u271 :: u272 :: u273 :: u274 :: u275 :: u276 :: u277 :: u278 :: u279 :: u280 :: u281 :: u282 :: u283 :: u284 :: u285 :: u286 :: u287 :: u288 :: u289 :: u290 :: u291 :: u292 :: u293 :: u294 :: u295 :: u296 :: u297 :: u298 :: u299 :: u300 :: u301 :: u302 :: u303 :: u304 :: u305 :: u306 :: u307 :: u308 :: u309 :: u310 :: u311 :: u312 :: u313 :: u314 :: u315 :: u316 :: u317 :: u318 :: u319 :: u320 :: u321 :: u322 :: u323 :: u324 :: []).toArray, defers := [] } w := by
  dsimp only [tailAt, bodyOf, Try.f3, Option.getD]
  refine wp_seq_k (fun K HK0 => ?_)
  have HK := Lib.hid HK0
  clear HK0
  obtain ⟨U9, c9, h4, hu⟩ := F19.out
  obtain ⟨p1, p2⟩ := M29.out
  have x_w1 := Ext.alloc w (.cells #[.int .i64 2, .int .i64 1, .int .i64 0, .int .i64 0] 3)
  have i_w1 := Is.lit w _ rfl [2, 1, 0, 0] #[.int .i64 2, .int .i64 1, .int .i64 0, .int .i64 0] 3 4 rfl rfl (by omega)
  obtain ⟨w1, h_w1⟩ : ∃ w1, w.alloc (.cells #[.int .i64 2, .int .i64 1, .int .i64 0, .int .i64 0] 3) = w1 := ⟨_, rfl⟩
  rw [h_w1] at x_w1 i_w1
  obtain ⟨g_w1, z_w1⟩ : ∃ g_w1, w.heap.size = g_w1 := ⟨_, rfl⟩
  rw [z_w1] at i_w1
  have t_w1 := sameInts_any w1 U9 (some ⟨g_w1, 0, none⟩) 4 c9 4 4 [2, 1, 0, 0] [2, 1, 0, 0] (hu.ext x_w1) i_w1
  rw [show decide (([2, 1, 0, 0] : List Int) = [2, 1, 0, 0]) = true from rfl] at t_w1
  have T_w1 := Lib.hid t_w1
  have X_w1 := Lib.hid x_w1
  clear t_w1 i_w1
  clear x_w1 hu
  go_wp2_with (fail)
  try rw [z_w1]
  try rw [h_w1]
  clear h_w1 z_w1
  with_reducible refine T_w1.out.mono ?_
  rintro e w2 ⟨rfl, dr2⟩
  have X2 := Lib.hid (X_w1.out.trans dr2.ext)
  clear dr2 h4 T_w1
  go_wp2_with (fail)
  exact HK.out _ _ (part30 (Lib.hid (F15.out.ext (X2.out))) (Lib.hid (XW.out.trans (X2.out))))
end Go.Proofs.Ytfpglkacjecoeaa
namespace Go.Proofs.Ytfpglkacjecoeaa
open Go.RowKit

set_option maxRecDepth 100000 in
set_option maxHeartbeats 4000000 in
theorem part28 {w0 w : World} {g5 : Nat} {g13 : Nat} {g15 : Nat} {g19 : Nat} {bC3 : Nat} {bC4 : Nat} {A29 : Option Addr} {c29 : Nat} {g35 : Nat} {g37 : Nat} {u0 u1 u2 u3 u4 u7 u9 u11 u17 u25 u27 u31 u33 u39 u41 u42 u43 u44 u45 u46 u47 u48 u49 u50 u51 u52 u53 u54 u55 u56 u57 u58 u59 u60 u61 u62 u63 u64 u65 u66 u67 u68 u69 u70 u71 u72 u73 u74 u75 u76 u77 u78 u79 u80 u81 u82 u83 u84 u85 u86 u87 u88 u89 u90 u91 u92 u93 u94 u95 u96 u97 u98 u99 u100 u101 u102 u103 u104 u105 u106 u107 u108 u109 u110 u111 u112 u113 u114 u115 u116 u117 u118 u119 u120 u121 u122 u123 u124 u125 u126 u127 u128 u129 u130 u131 u132 u133 u134 u135 u136 u137 u138 u139 u140 u141 u142 u143 u144 u145 u146 u147 u148 u149 u150 u151 u152 u153 u154 u155 u156 u157 u158 u159 u160 u161 u162 u163 u164 u165 u166 u167 u168 u169 u170 u171 u172 u173 u174 u175 u176 u177 u178 u179 u180 u181 u182 u183 u184 u185 u186 u187 u188 u189 u190 u191 u192 u193 u194 u195 u196 u197 u198 u199 u200 u201 u202 u203 u204 u205 u206 u207 u208 u209 u210 u211 u212 u213 u214 u215 u216 u217 u218 u219 u220 u221 u222 u223 u224 u225 u226 u227 u228 u229 u230 u231 u232 u233 u234 u235 u236 u237 u238 u239 u240 u241 u242 u243 u244 u245 u246 u247 u248 u249 u250 u251 u252 u253 u254 u255 u256 u257 u258 u259 u260 u261 u262 u263 u264 u265 u266 u267 u268 u269 u270 u271 u272 u273 u274 u275 u276 u277 u278 u279 u280 u281 u282 u283 u284 u285 u286 u287 u288 u289 u290 u291 u292 u293 u294 u295 u296 u297 u298 u299 u300 u301 u302 u303 u304 u305 u306 u307 u308 u309 u310 u311 u312 u313 u314 u315 u316 u317 u318 u319 u320 u321 u322 u323 u324 : Value} (F13 : RowKit.Hid (Fv w g13 n1)) (F15 : RowKit.Hid (Fv w g15 n2)) (F19 : RowKit.Hid (∃ U c, w.cell? ⟨g19, 4, none⟩ = some (.slice U 4 c) ∧ Is w U 4 c [2, 1, 0, 0])) (M29 : RowKit.Hid (c29 ≤ 9223372036854775807 ∧ 2 ≤ c29)) (XW : RowKit.Hid (Ext w0 w)) :
    (tailAt 21 (bodyOf Try.f3)).wp Try.prog (bodyPost Try.prog Try.f3 (fun e w' => e = .returned (.bool true) ∧ Ext w0 w')) { tmps := (u0 :: u1 :: u2 :: u3 :: u4 :: .pointer (some ⟨g5, 0, none⟩) :: .int .i64 0 :: u7 :: .int .i64 140 :: u9 :: .int .i64 140 :: u11 :: .int .i64 140 :: .pointer (some ⟨g13, 0, none⟩) :: .bool true :: .pointer (some ⟨g15, 0, none⟩) :: .bool true :: u17 :: .bool true :: .pointer (some ⟨g19, 0, none⟩) :: .bool true :: cptr bC3 :: .int .i64 0 :: cptr bC4 :: .int .i64 0 :: u25 :: .int .i64 40 :: u27 :: .int .i64 40 :: .slice A29 2 c29 :: .int .i64 0 :: u31 :: .int .i64 80 :: u33 :: .int .i64 140 :: .pointer (some ⟨g35, 0, none⟩) :: .int .i64 0 :: .pointer (some ⟨g37, 0, none⟩) :: .int .i64 0 :: u39 :: .int .i64 140 :: u41 :: u42 :: u43 :: u44 :: u45 :: u46 :: u47 :: u48 :: u49 :: u50 :: u51 :: u52 :: u53 :: u54 :: u55 :: u56 :: u57 :: u58 :: u59 :: u60 :: u61 :: u62 :: u63 :: u64 :: u65 :: u66 :: u67 :: u68 :: u69 :: u70 :: u71 :: u72 :: u73 :: u74 :: u75 :: u76 :: u77 :: u78 :: u79 :: u80 :: u81 :: u82 :: u83 :: u84 :: u85 :: u86 :: u87 :: u88 :: u89 :: u90 :: u91 :: u92 :: u93 :: u94 :: u95 :: u96 :: u97 :: u98 :: u99 :: u100 :: u101 :: u102 :: u103 :: u104 :: u105 :: u106 :: u107 :: u108 :: u109 :: u110 :: u111 :: u112 :: u113 :: u114 :: u115 :: u116 :: u117 :: u118 :: u119 :: u120 :: u121 :: u122 :: u123 :: u124 :: u125 :: u126 :: u127 :: u128 :: u129 :: u130 :: u131 :: u132 :: u133 :: u134 :: u135 :: u136 :: u137 :: u138 :: u139 :: u140 :: u141 :: u142 :: u143 :: u144 :: u145 :: u146 :: u147 :: u148 :: u149 :: u150 :: u151 :: u152 :: u153 :: u154 :: u155 :: u156 :: u157 :: u158 :: u159 :: u160 :: u161 :: u162 :: u163 :: u164 :: u165 :: u166 :: u167 :: u168 :: u169 :: u170 :: u171 :: u172 :: u173 :: u174 :: u175 :: u176 :: u177 :: u178 :: u179 :: u180 :: u181 :: u182 :: u183 :: u184 :: u185 :: u186 :: u187 :: u188 :: u189 :: u190 :: u191 :: u192 :: u193 :: u194 :: u195 :: u196 :: u197 :: u198 :: u199 :: u200 :: u201 :: u202 :: u203 :: u204 :: u205 :: u206 :: u207 :: u208 :: u209 :: u210 :: u211 :: u212 :: u213 :: u214 :: u215 :: u216 :: u217 :: u218 :: u219 :: u220 :: u221 :: u222 :: u223 :: u224 :: u225 :: u226 :: u227 :: u228 :: u229 :: u230 :: u231 :: u232 :: u233 :: u234 :: u235 :: u236 :: u237 :: u238 :: u239 :: u240 :: u241 :: u242 :: u243 :: u244 :: u245 :: u246 :: u247 :: u248 :: u249 :: u250 :: u251 :: u252 :: u253 :: u254 :: u255 :: u256 :: u257 :: u258 :: u259 :: u260 :: u261 :: u262 :: u263 :: u264 :: u265 :: u266 :: u267 :: u268 :: u269 :: u270 :: u271 :: u272 :: u273 :: u274 :: u275 :: u276 :: u277 :: u278 :: u279 :: u280 :: u281 :: u282 :: u283 :: u284 :: u285 :: u286 :: u287 :: u288 :: u289 :: u290 :: u291 :: u292 :: u293 :: u294 :: u295 :: u296 :: u297 :: u298 :: u299 :: u300 :: u301 :: u302 :: u303 :: u304 :: u305 :: u306 :: u307 :: u308 :: u309 :: u310 :: u311 :: u312 :: u313 :: u314 :: u315 :: u316 :: u317 :: u318 :: u319 :: u320 :: u321 :: u322 :: u323 :: u324 :: []).toArray, defers := [] } w := by
  dsimp only [tailAt, bodyOf, Try.f3, Option.getD]
  refine wp_seq_k (fun K HK0 => ?_)
  have HK := Lib.hid HK0
  clear HK0
  obtain ⟨A3, a3, b3, B3, m3, d3, C3, k3, l3, fb3, fd3⟩ := F13.out
  obtain ⟨A6, a6, b6, B6, m6, d6, C6, k6, l6, fb6, fd6⟩ := F15.out
  have HF3 := Lib.hid fd3
  have HF6 := Lib.hid fd6
  have HB6 := Lib.hid fb6
  have r0 := fb3.c0
  have r1 := fb3.c1
  have r2 := fb3.c2
  have r3 : w.cell? ⟨g13, 3, none⟩ = some (.int .i64 1) := fb3.c3
  have r4 := fb3.c4
  have r5 := fb3.c5
  have r6 := fb3.c6
  have hla := fLacks_any w n1 _ _ _ _ _ _ _ _ _ fd3 (fd_small fd3 (by decide) (by decide)).1 (fd_small fd3 (by decide) (by decide)).2
  rw [nu_rest.2.1] at hla
  have hla2 : Calls Try.prog 18 #[.agg #[.int .i64 n1.stripe, .int .i64 n1.version, .int .i64 n1.need, .int .i64 1, .slice A3 a3 b3, .slice B3 m3 d3, .slice C3 k3 l3]] w fun r w' => ∃ v, r = .returned v ∧ NewInts w w' v [1, 2] := hla
  have HLA := Lib.hid hla2
  clear hla2
  clear hla fd3 fd6 fb3 fb6
  go_wp2_with (fail)
  with_reducible refine HLA.out.mono ?_
  rintro e w1 ⟨v1, rfl, hv⟩
  obtain ⟨A1, e1, rfl, _, _⟩ := ownsRow_slice hv.own
  have HIS : RowKit.Hid (Is w1 A1 2 e1 [1, 2]) := Lib.hid (Own.ints (Own.mk (base := w.heap.size) (e := 3) hv.own))
  have X1 := Lib.hid hv.ext
  clear hv HLA r0 r1 r2 r3 r4 r5 r6
  have x_w2 := Ext.alloc w1 (.cells #[.int .i64 1, .int .i64 2] 3)
  have i_w2 := Is.lit w1 _ rfl [1, 2] #[.int .i64 1, .int .i64 2] 3 2 rfl rfl (by omega)
  obtain ⟨w2, h_w2⟩ : ∃ w2, w1.alloc (.cells #[.int .i64 1, .int .i64 2] 3) = w2 := ⟨_, rfl⟩
  rw [h_w2] at x_w2 i_w2
  obtain ⟨g_w2, z_w2⟩ : ∃ g_w2, w1.heap.size = g_w2 := ⟨_, rfl⟩
  rw [z_w2] at i_w2
  have t_w2 := sameInts_any w2 A1 (some ⟨g_w2, 0, none⟩) 2 e1 2 2 [1, 2] [1, 2] (HIS.out.ext x_w2) i_w2
  rw [show decide (([1, 2] : List Int) = [1, 2]) = true from rfl] at t_w2
  have T_w2 := Lib.hid t_w2
  have X_w2 := Lib.hid x_w2
  clear t_w2 i_w2
  clear x_w2
  go_wp2_with (fail)
  try rw [z_w2]
  try rw [h_w2]
  clear h_w2 z_w2
  with_reducible refine T_w2.out.mono ?_
  rintro e w3 ⟨rfl, dr3⟩
  have X3 := Lib.hid (X1.out.trans (X_w2.out.trans dr3.ext))
  clear dr3 T_w2
  have q3 : w3.cell? ⟨g15, 3, none⟩ = some (.int .i64 2) := (HB6.out.ext X3.out).c3
  have q5 := (HB6.out.ext X3.out).c5
  have x_w4 := Ext.alloc w3 (.cells #[.int .i64 0, .int .i64 3] 3)
  have i_w4 := Is.lit w3 _ rfl [0, 3] #[.int .i64 0, .int .i64 3] 3 2 rfl rfl (by omega)
  obtain ⟨w4, h_w4⟩ : ∃ w4, w3.alloc (.cells #[.int .i64 0, .int .i64 3] 3) = w4 := ⟨_, rfl⟩
  rw [h_w4] at x_w4 i_w4
  obtain ⟨g_w4, z_w4⟩ : ∃ g_w4, w3.heap.size = g_w4 := ⟨_, rfl⟩
  rw [z_w4] at i_w4
  have t_w4 := sameInts_any w4 B6 (some ⟨g_w4, 0, none⟩) m6 d6 2 2 [0, 3] [0, 3] ((HF6.out.v.ext X3.out).ext x_w4) i_w4
  rw [show decide (([0, 3] : List Int) = [0, 3]) = true from rfl] at t_w4
  have T_w4 := Lib.hid t_w4
  have X_w4 := Lib.hid x_w4
  clear t_w4 i_w4
  clear x_w4
  go_wp2_with (fail)
  try rw [z_w4]
  try rw [h_w4]
  clear h_w4 z_w4
  with_reducible refine T_w4.out.mono ?_
  rintro e w5 ⟨rfl, dr5⟩
  have X5 := Lib.hid (X3.out.trans (X_w4.out.trans dr5.ext))
  clear dr5 q3 q5 T_w4
  go_wp2_with (fail)
  exact HK.out _ _ (part29 (Lib.hid (F15.out.ext (X5.out))) (Lib.hid (by obtain ⟨U, c, h1, h2⟩ := F19.out; exact ⟨U, c, (X5.out).cell h1, h2.ext (X5.out)⟩)) M29 (Lib.hid (XW.out.trans (X5.out))))
end Go.Proofs.Ytfpglkacjecoeaa
