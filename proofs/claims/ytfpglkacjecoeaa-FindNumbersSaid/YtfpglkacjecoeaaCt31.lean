/- Several texts in one: FindNumbers' walk from region 17 on. FindNumbers' walk from region 16 on. FindNumbers' walk from region 15 on. -/
import Derived.Test.YtfpglkacjecoeaaCt30
import Derived.Test.YtfpglkacjecoeaaCt26
import Derived.Test.YtfpglkacjecoeaaCt25
namespace Go.Proofs.Ytfpglkacjecoeaa
open Go.RowKit

set_option maxRecDepth 100000 in
set_option maxHeartbeats 4000000 in
theorem part17 {w0 w : World} {g5 : Nat} {g13 : Nat} {g15 : Nat} {g19 : Nat} {bC3 : Nat} {fbC3 : Nat} {u0 u1 u2 u3 u4 u7 u9 u11 u17 u23 u24 u25 u26 u27 u28 u29 u30 u31 u32 u33 u34 u35 u36 u37 u38 u39 u40 u41 u42 u43 u44 u45 u46 u47 u48 u49 u50 u51 u52 u53 u54 u55 u56 u57 u58 u59 u60 u61 u62 u63 u64 u65 u66 u67 u68 u69 u70 u71 u72 u73 u74 u75 u76 u77 u78 u79 u80 u81 u82 u83 u84 u85 u86 u87 u88 u89 u90 u91 u92 u93 u94 u95 u96 u97 u98 u99 u100 u101 u102 u103 u104 u105 u106 u107 u108 u109 u110 u111 u112 u113 u114 u115 u116 u117 u118 u119 u120 u121 u122 u123 u124 u125 u126 u127 u128 u129 u130 u131 u132 u133 u134 u135 u136 u137 u138 u139 u140 u141 u142 u143 u144 u145 u146 u147 u148 u149 u150 u151 u152 u153 u154 u155 u156 u157 u158 u159 u160 u161 u162 u163 u164 u165 u166 u167 u168 u169 u170 u171 u172 u173 u174 u175 u176 u177 u178 u179 u180 u181 u182 u183 u184 u185 u186 u187 u188 u189 u190 u191 u192 u193 u194 u195 u196 u197 u198 u199 u200 u201 u202 u203 u204 u205 u206 u207 u208 u209 u210 u211 u212 u213 u214 u215 u216 u217 u218 u219 u220 u221 u222 u223 u224 u225 u226 u227 u228 u229 u230 u231 u232 u233 u234 u235 u236 u237 u238 u239 u240 u241 u242 u243 u244 u245 u246 u247 u248 u249 u250 u251 u252 u253 u254 u255 u256 u257 u258 u259 u260 u261 u262 u263 u264 u265 u266 u267 u268 u269 u270 u271 u272 u273 u274 u275 u276 u277 u278 u279 u280 u281 u282 u283 u284 u285 u286 u287 u288 u289 u290 u291 u292 u293 u294 u295 u296 u297 u298 u299 u300 u301 u302 u303 u304 u305 u306 u307 u308 u309 u310 u311 u312 u313 u314 u315 u316 u317 u318 u319 u320 u321 u322 u323 u324 : Value} (F13 : RowKit.Hid (Fv w g13 n1)) (F15 : RowKit.Hid (Fv w g15 n2)) (F19 : RowKit.Hid (∃ U c, w.cell? ⟨g19, 4, none⟩ = some (.slice U 4 c) ∧ Is w U 4 c [2, 1, 0, 0])) (C3 : RowKit.Hid (Cd w bC3 fbC3 2 3)) (XW : RowKit.Hid (Ext w0 w)) :
    (tailAt 11 (bodyOf Try.f3)).wp Try.prog (bodyPost Try.prog Try.f3 (fun e w' => e = .returned (.bool true) ∧ Ext w0 w')) { tmps := (u0 :: u1 :: u2 :: u3 :: u4 :: .pointer (some ⟨g5, 0, none⟩) :: .int .i64 0 :: u7 :: .int .i64 140 :: u9 :: .int .i64 140 :: u11 :: .int .i64 140 :: .pointer (some ⟨g13, 0, none⟩) :: .bool true :: .pointer (some ⟨g15, 0, none⟩) :: .bool true :: u17 :: .bool true :: .pointer (some ⟨g19, 0, none⟩) :: .bool true :: cptr bC3 :: .int .i64 0 :: u23 :: u24 :: u25 :: u26 :: u27 :: u28 :: u29 :: u30 :: u31 :: u32 :: u33 :: u34 :: u35 :: u36 :: u37 :: u38 :: u39 :: u40 :: u41 :: u42 :: u43 :: u44 :: u45 :: u46 :: u47 :: u48 :: u49 :: u50 :: u51 :: u52 :: u53 :: u54 :: u55 :: u56 :: u57 :: u58 :: u59 :: u60 :: u61 :: u62 :: u63 :: u64 :: u65 :: u66 :: u67 :: u68 :: u69 :: u70 :: u71 :: u72 :: u73 :: u74 :: u75 :: u76 :: u77 :: u78 :: u79 :: u80 :: u81 :: u82 :: u83 :: u84 :: u85 :: u86 :: u87 :: u88 :: u89 :: u90 :: u91 :: u92 :: u93 :: u94 :: u95 :: u96 :: u97 :: u98 :: u99 :: u100 :: u101 :: u102 :: u103 :: u104 :: u105 :: u106 :: u107 :: u108 :: u109 :: u110 :: u111 :: u112 :: u113 :: u114 :: u115 :: u116 :: u117 :: u118 :: u119 :: u120 :: u121 :: u122 :: u123 :: u124 :: u125 :: u126 :: u127 :: u128 :: u129 :: u130 :: u131 :: u132 :: u133 :: u134 :: u135 :: u136 :: u137 :: u138 :: u139 :: u140 :: u141 :: u142 :: u143 :: u144 :: u145 :: u146 :: u147 :: u148 :: u149 :: u150 :: u151 :: u152 :: u153 :: u154 :: u155 :: u156 :: u157 :: u158 :: u159 :: u160 :: u161 :: u162 :: u163 :: u164 :: u165 :: u166 :: u167 :: u168 :: u169 :: u170 :: u171 :: u172 :: u173 :: u174 :: u175 :: u176 :: u177 :: u178 :: u179 :: u180 :: u181 :: u182 :: u183 :: u184 :: u185 :: u186 :: u187 :: u188 :: u189 :: u190 :: u191 :: u192 :: u193 :: u194 :: u195 :: u196 :: u197 :: u198 :: u199 :: u200 :: u201 :: u202 :: u203 :: u204 :: u205 :: u206 :: u207 :: u208 :: u209 :: u210 :: u211 :: u212 :: u213 :: u214 :: u215 :: u216 :: u217 :: u218 :: u219 :: u220 :: u221 :: u222 :: u223 :: u224 :: u225 :: u226 :: u227 :: u228 :: u229 :: u230 :: u231 :: u232 :: u233 :: u234 :: u235 :: u236 :: u237 :: u238 :: u239 :: u240 :: u241 :: u242 :: u243 :: u244 :: u245 :: u246 :: u247 :: u248 :: u249 :: u250 :: u251 :: u252 :: u253 :: u254 :: u255 :: u256 :: u257 :: u258 :: u259 :: u260 :: u261 :: u262 :: u263 :: u264 :: u265 :: u266 :: u267 :: u268 :: u269 :: u270 :: u271 :: u272 :: u273 :: u274 :: u275 :: u276 :: u277 :: u278 :: u279 :: u280 :: u281 :: u282 :: u283 :: u284 :: u285 :: u286 :: u287 :: u288 :: u289 :: u290 :: u291 :: u292 :: u293 :: u294 :: u295 :: u296 :: u297 :: u298 :: u299 :: u300 :: u301 :: u302 :: u303 :: u304 :: u305 :: u306 :: u307 :: u308 :: u309 :: u310 :: u311 :: u312 :: u313 :: u314 :: u315 :: u316 :: u317 :: u318 :: u319 :: u320 :: u321 :: u322 :: u323 :: u324 :: []).toArray, defers := [] } w := by
  dsimp only [tailAt, bodyOf, Try.f3, Option.getD]
  refine wp_seq_k (fun K HK0 => ?_)
  have HK := Lib.hid HK0
  clear HK0
  go_wp2_with (fail)
  refine (new_any _).mono ?_
  rintro e w8 ⟨rfl, hf, y1⟩
  generalize hb : w.heap.size = fb at *
  have Hb := Lib.hid hb
  clear hb
  go_wp2_with (fail)
  refine (codeNew_ok fb _ 2 4 hf (by omega) (by omega) (by omega)).mono ?_
  rintro e w9 ⟨b1, rfl, hC, y2⟩
  have HC := Lib.hid hC
  have Y := Lib.hid (y1.trans y2)
  clear hC y1 y2 hf
  go_wp2_with (fail)
  exact HK.out _ _ (part18 (Lib.hid (F13.out.ext (Y.out))) (Lib.hid (F15.out.ext (Y.out))) (Lib.hid (by obtain ⟨U, c, h1, h2⟩ := F19.out; exact ⟨U, c, (Y.out).cell h1, h2.ext (Y.out)⟩)) (Lib.hid (C3.out.ext (Y.out))) HC (Lib.hid (XW.out.trans (Y.out))))
end Go.Proofs.Ytfpglkacjecoeaa
namespace Go.Proofs.Ytfpglkacjecoeaa
open Go.RowKit

set_option maxRecDepth 100000 in
set_option maxHeartbeats 4000000 in
theorem part16 {w0 w : World} {g5 : Nat} {g13 : Nat} {g15 : Nat} {g19 : Nat} {u0 u1 u2 u3 u4 u7 u9 u11 u17 u21 u22 u23 u24 u25 u26 u27 u28 u29 u30 u31 u32 u33 u34 u35 u36 u37 u38 u39 u40 u41 u42 u43 u44 u45 u46 u47 u48 u49 u50 u51 u52 u53 u54 u55 u56 u57 u58 u59 u60 u61 u62 u63 u64 u65 u66 u67 u68 u69 u70 u71 u72 u73 u74 u75 u76 u77 u78 u79 u80 u81 u82 u83 u84 u85 u86 u87 u88 u89 u90 u91 u92 u93 u94 u95 u96 u97 u98 u99 u100 u101 u102 u103 u104 u105 u106 u107 u108 u109 u110 u111 u112 u113 u114 u115 u116 u117 u118 u119 u120 u121 u122 u123 u124 u125 u126 u127 u128 u129 u130 u131 u132 u133 u134 u135 u136 u137 u138 u139 u140 u141 u142 u143 u144 u145 u146 u147 u148 u149 u150 u151 u152 u153 u154 u155 u156 u157 u158 u159 u160 u161 u162 u163 u164 u165 u166 u167 u168 u169 u170 u171 u172 u173 u174 u175 u176 u177 u178 u179 u180 u181 u182 u183 u184 u185 u186 u187 u188 u189 u190 u191 u192 u193 u194 u195 u196 u197 u198 u199 u200 u201 u202 u203 u204 u205 u206 u207 u208 u209 u210 u211 u212 u213 u214 u215 u216 u217 u218 u219 u220 u221 u222 u223 u224 u225 u226 u227 u228 u229 u230 u231 u232 u233 u234 u235 u236 u237 u238 u239 u240 u241 u242 u243 u244 u245 u246 u247 u248 u249 u250 u251 u252 u253 u254 u255 u256 u257 u258 u259 u260 u261 u262 u263 u264 u265 u266 u267 u268 u269 u270 u271 u272 u273 u274 u275 u276 u277 u278 u279 u280 u281 u282 u283 u284 u285 u286 u287 u288 u289 u290 u291 u292 u293 u294 u295 u296 u297 u298 u299 u300 u301 u302 u303 u304 u305 u306 u307 u308 u309 u310 u311 u312 u313 u314 u315 u316 u317 u318 u319 u320 u321 u322 u323 u324 : Value} (F13 : RowKit.Hid (Fv w g13 n1)) (F15 : RowKit.Hid (Fv w g15 n2)) (F19 : RowKit.Hid (∃ U c, w.cell? ⟨g19, 4, none⟩ = some (.slice U 4 c) ∧ Is w U 4 c [2, 1, 0, 0])) (XW : RowKit.Hid (Ext w0 w)) :
    (tailAt 10 (bodyOf Try.f3)).wp Try.prog (bodyPost Try.prog Try.f3 (fun e w' => e = .returned (.bool true) ∧ Ext w0 w')) { tmps := (u0 :: u1 :: u2 :: u3 :: u4 :: .pointer (some ⟨g5, 0, none⟩) :: .int .i64 0 :: u7 :: .int .i64 140 :: u9 :: .int .i64 140 :: u11 :: .int .i64 140 :: .pointer (some ⟨g13, 0, none⟩) :: .bool true :: .pointer (some ⟨g15, 0, none⟩) :: .bool true :: u17 :: .bool true :: .pointer (some ⟨g19, 0, none⟩) :: .bool true :: u21 :: u22 :: u23 :: u24 :: u25 :: u26 :: u27 :: u28 :: u29 :: u30 :: u31 :: u32 :: u33 :: u34 :: u35 :: u36 :: u37 :: u38 :: u39 :: u40 :: u41 :: u42 :: u43 :: u44 :: u45 :: u46 :: u47 :: u48 :: u49 :: u50 :: u51 :: u52 :: u53 :: u54 :: u55 :: u56 :: u57 :: u58 :: u59 :: u60 :: u61 :: u62 :: u63 :: u64 :: u65 :: u66 :: u67 :: u68 :: u69 :: u70 :: u71 :: u72 :: u73 :: u74 :: u75 :: u76 :: u77 :: u78 :: u79 :: u80 :: u81 :: u82 :: u83 :: u84 :: u85 :: u86 :: u87 :: u88 :: u89 :: u90 :: u91 :: u92 :: u93 :: u94 :: u95 :: u96 :: u97 :: u98 :: u99 :: u100 :: u101 :: u102 :: u103 :: u104 :: u105 :: u106 :: u107 :: u108 :: u109 :: u110 :: u111 :: u112 :: u113 :: u114 :: u115 :: u116 :: u117 :: u118 :: u119 :: u120 :: u121 :: u122 :: u123 :: u124 :: u125 :: u126 :: u127 :: u128 :: u129 :: u130 :: u131 :: u132 :: u133 :: u134 :: u135 :: u136 :: u137 :: u138 :: u139 :: u140 :: u141 :: u142 :: u143 :: u144 :: u145 :: u146 :: u147 :: u148 :: u149 :: u150 :: u151 :: u152 :: u153 :: u154 :: u155 :: u156 :: u157 :: u158 :: u159 :: u160 :: u161 :: u162 :: u163 :: u164 :: u165 :: u166 :: u167 :: u168 :: u169 :: u170 :: u171 :: u172 :: u173 :: u174 :: u175 :: u176 :: u177 :: u178 :: u179 :: u180 :: u181 :: u182 :: u183 :: u184 :: u185 :: u186 :: u187 :: u188 :: u189 :: u190 :: u191 :: u192 :: u193 :: u194 :: u195 :: u196 :: u197 :: u198 :: u199 :: u200 :: u201 :: u202 :: u203 :: u204 :: u205 :: u206 :: u207 :: u208 :: u209 :: u210 :: u211 :: u212 :: u213 :: u214 :: u215 :: u216 :: u217 :: u218 :: u219 :: u220 :: u221 :: u222 :: u223 :: u224 :: u225 :: u226 :: u227 :: u228 :: u229 :: u230 :: u231 :: u232 :: u233 :: u234 :: u235 :: u236 :: u237 :: u238 :: u239 :: u240 :: u241 :: u242 :: u243 :: u244 :: u245 :: u246 :: u247 :: u248 :: u249 :: u250 :: u251 :: u252 :: u253 :: u254 :: u255 :: u256 :: u257 :: u258 :: u259 :: u260 :: u261 :: u262 :: u263 :: u264 :: u265 :: u266 :: u267 :: u268 :: u269 :: u270 :: u271 :: u272 :: u273 :: u274 :: u275 :: u276 :: u277 :: u278 :: u279 :: u280 :: u281 :: u282 :: u283 :: u284 :: u285 :: u286 :: u287 :: u288 :: u289 :: u290 :: u291 :: u292 :: u293 :: u294 :: u295 :: u296 :: u297 :: u298 :: u299 :: u300 :: u301 :: u302 :: u303 :: u304 :: u305 :: u306 :: u307 :: u308 :: u309 :: u310 :: u311 :: u312 :: u313 :: u314 :: u315 :: u316 :: u317 :: u318 :: u319 :: u320 :: u321 :: u322 :: u323 :: u324 :: []).toArray, defers := [] } w := by
  dsimp only [tailAt, bodyOf, Try.f3, Option.getD]
  refine wp_seq_k (fun K HK0 => ?_)
  have HK := Lib.hid HK0
  clear HK0
  go_wp2_with (fail)
  refine (new_any _).mono ?_
  rintro e w8 ⟨rfl, hf, y1⟩
  generalize hb : w.heap.size = fb at *
  have Hb := Lib.hid hb
  clear hb
  go_wp2_with (fail)
  refine (codeNew_ok fb _ 2 3 hf (by omega) (by omega) (by omega)).mono ?_
  rintro e w9 ⟨b1, rfl, hC, y2⟩
  have HC := Lib.hid hC
  have Y := Lib.hid (y1.trans y2)
  clear hC y1 y2 hf
  go_wp2_with (fail)
  exact HK.out _ _ (part17 (Lib.hid (F13.out.ext (Y.out))) (Lib.hid (F15.out.ext (Y.out))) (Lib.hid (by obtain ⟨U, c, h1, h2⟩ := F19.out; exact ⟨U, c, (Y.out).cell h1, h2.ext (Y.out)⟩)) HC (Lib.hid (XW.out.trans (Y.out))))
end Go.Proofs.Ytfpglkacjecoeaa
namespace Go.Proofs.Ytfpglkacjecoeaa
open Go.RowKit

set_option maxRecDepth 100000 in
set_option maxHeartbeats 4000000 in
theorem part15 {w0 w : World} {g5 : Nat} {g13 : Nat} {g15 : Nat} {u0 u1 u2 u3 u4 u7 u9 u11 u17 u19 u20 u21 u22 u23 u24 u25 u26 u27 u28 u29 u30 u31 u32 u33 u34 u35 u36 u37 u38 u39 u40 u41 u42 u43 u44 u45 u46 u47 u48 u49 u50 u51 u52 u53 u54 u55 u56 u57 u58 u59 u60 u61 u62 u63 u64 u65 u66 u67 u68 u69 u70 u71 u72 u73 u74 u75 u76 u77 u78 u79 u80 u81 u82 u83 u84 u85 u86 u87 u88 u89 u90 u91 u92 u93 u94 u95 u96 u97 u98 u99 u100 u101 u102 u103 u104 u105 u106 u107 u108 u109 u110 u111 u112 u113 u114 u115 u116 u117 u118 u119 u120 u121 u122 u123 u124 u125 u126 u127 u128 u129 u130 u131 u132 u133 u134 u135 u136 u137 u138 u139 u140 u141 u142 u143 u144 u145 u146 u147 u148 u149 u150 u151 u152 u153 u154 u155 u156 u157 u158 u159 u160 u161 u162 u163 u164 u165 u166 u167 u168 u169 u170 u171 u172 u173 u174 u175 u176 u177 u178 u179 u180 u181 u182 u183 u184 u185 u186 u187 u188 u189 u190 u191 u192 u193 u194 u195 u196 u197 u198 u199 u200 u201 u202 u203 u204 u205 u206 u207 u208 u209 u210 u211 u212 u213 u214 u215 u216 u217 u218 u219 u220 u221 u222 u223 u224 u225 u226 u227 u228 u229 u230 u231 u232 u233 u234 u235 u236 u237 u238 u239 u240 u241 u242 u243 u244 u245 u246 u247 u248 u249 u250 u251 u252 u253 u254 u255 u256 u257 u258 u259 u260 u261 u262 u263 u264 u265 u266 u267 u268 u269 u270 u271 u272 u273 u274 u275 u276 u277 u278 u279 u280 u281 u282 u283 u284 u285 u286 u287 u288 u289 u290 u291 u292 u293 u294 u295 u296 u297 u298 u299 u300 u301 u302 u303 u304 u305 u306 u307 u308 u309 u310 u311 u312 u313 u314 u315 u316 u317 u318 u319 u320 u321 u322 u323 u324 : Value} (F5 : RowKit.Hid (Fv w g5 n0)) (F13 : RowKit.Hid (Fv w g13 n1)) (F15 : RowKit.Hid (Fv w g15 n2)) (XW : RowKit.Hid (Ext w0 w)) :
    (tailAt 9 (bodyOf Try.f3)).wp Try.prog (bodyPost Try.prog Try.f3 (fun e w' => e = .returned (.bool true) ∧ Ext w0 w')) { tmps := (u0 :: u1 :: u2 :: u3 :: u4 :: .pointer (some ⟨g5, 0, none⟩) :: .int .i64 0 :: u7 :: .int .i64 140 :: u9 :: .int .i64 140 :: u11 :: .int .i64 140 :: .pointer (some ⟨g13, 0, none⟩) :: .bool true :: .pointer (some ⟨g15, 0, none⟩) :: .bool true :: u17 :: .bool true :: u19 :: u20 :: u21 :: u22 :: u23 :: u24 :: u25 :: u26 :: u27 :: u28 :: u29 :: u30 :: u31 :: u32 :: u33 :: u34 :: u35 :: u36 :: u37 :: u38 :: u39 :: u40 :: u41 :: u42 :: u43 :: u44 :: u45 :: u46 :: u47 :: u48 :: u49 :: u50 :: u51 :: u52 :: u53 :: u54 :: u55 :: u56 :: u57 :: u58 :: u59 :: u60 :: u61 :: u62 :: u63 :: u64 :: u65 :: u66 :: u67 :: u68 :: u69 :: u70 :: u71 :: u72 :: u73 :: u74 :: u75 :: u76 :: u77 :: u78 :: u79 :: u80 :: u81 :: u82 :: u83 :: u84 :: u85 :: u86 :: u87 :: u88 :: u89 :: u90 :: u91 :: u92 :: u93 :: u94 :: u95 :: u96 :: u97 :: u98 :: u99 :: u100 :: u101 :: u102 :: u103 :: u104 :: u105 :: u106 :: u107 :: u108 :: u109 :: u110 :: u111 :: u112 :: u113 :: u114 :: u115 :: u116 :: u117 :: u118 :: u119 :: u120 :: u121 :: u122 :: u123 :: u124 :: u125 :: u126 :: u127 :: u128 :: u129 :: u130 :: u131 :: u132 :: u133 :: u134 :: u135 :: u136 :: u137 :: u138 :: u139 :: u140 :: u141 :: u142 :: u143 :: u144 :: u145 :: u146 :: u147 :: u148 :: u149 :: u150 :: u151 :: u152 :: u153 :: u154 :: u155 :: u156 :: u157 :: u158 :: u159 :: u160 :: u161 :: u162 :: u163 :: u164 :: u165 :: u166 :: u167 :: u168 :: u169 :: u170 :: u171 :: u172 :: u173 :: u174 :: u175 :: u176 :: u177 :: u178 :: u179 :: u180 :: u181 :: u182 :: u183 :: u184 :: u185 :: u186 :: u187 :: u188 :: u189 :: u190 :: u191 :: u192 :: u193 :: u194 :: u195 :: u196 :: u197 :: u198 :: u199 :: u200 :: u201 :: u202 :: u203 :: u204 :: u205 :: u206 :: u207 :: u208 :: u209 :: u210 :: u211 :: u212 :: u213 :: u214 :: u215 :: u216 :: u217 :: u218 :: u219 :: u220 :: u221 :: u222 :: u223 :: u224 :: u225 :: u226 :: u227 :: u228 :: u229 :: u230 :: u231 :: u232 :: u233 :: u234 :: u235 :: u236 :: u237 :: u238 :: u239 :: u240 :: u241 :: u242 :: u243 :: u244 :: u245 :: u246 :: u247 :: u248 :: u249 :: u250 :: u251 :: u252 :: u253 :: u254 :: u255 :: u256 :: u257 :: u258 :: u259 :: u260 :: u261 :: u262 :: u263 :: u264 :: u265 :: u266 :: u267 :: u268 :: u269 :: u270 :: u271 :: u272 :: u273 :: u274 :: u275 :: u276 :: u277 :: u278 :: u279 :: u280 :: u281 :: u282 :: u283 :: u284 :: u285 :: u286 :: u287 :: u288 :: u289 :: u290 :: u291 :: u292 :: u293 :: u294 :: u295 :: u296 :: u297 :: u298 :: u299 :: u300 :: u301 :: u302 :: u303 :: u304 :: u305 :: u306 :: u307 :: u308 :: u309 :: u310 :: u311 :: u312 :: u313 :: u314 :: u315 :: u316 :: u317 :: u318 :: u319 :: u320 :: u321 :: u322 :: u323 :: u324 :: []).toArray, defers := [] } w := by
  dsimp only [tailAt, bodyOf, Try.f3, Option.getD]
  refine wp_seq_k (fun K HK0 => ?_)
  have HK := Lib.hid HK0
  clear HK0
  obtain ⟨A0, m0, c0, B0, d0, e0, C0, k0, l0, sb0, fd0⟩ := F5.out
  have FB := Lib.hid (fun (Wx : World) (hx : Ext w Wx) => sb0.ext hx)
  have FD := Lib.hid (fun (Wx : World) (hx : Ext w Wx) => fd0.ext hx)
  clear sb0 fd0
  have hS0 : (fun Wx : World => Hid (Ext w Wx)) w.drew := Lib.hid (Ext.drew w)
  refine wp_region_T (S := (fun Wx : World => Hid (Ext w Wx))) 11 rfl rfl ?_
  refine takeC [] (i := 0) (v := ?_) rfl (by kernel_rfl) (by kernel_rfl) (by kernel_rfl) (by kernel_rfl) (by decide) (fun _ _ _ h => h) (by kernel_rfl) (Or.inl ⟨by kernel_rfl, ?_⟩) (by assumption) ?_
  rotate_left
  · (intro W9 hSw; (have b := FB.out _ hSw.out; have a0 := b.c0; have a1 := b.c1; have a2 := b.c2; have a3 := b.c3; have a4 := b.c4; have a5 := b.c5; have a6 := b.c6; clear b hSw; skip); go_simp; (try with_reducible rfl))
  try simp only [Act.put, List.getElem_toArray, List.getElem_cons_succ, List.getElem_cons_zero, List.setIfInBounds_toArray, List.set_cons_zero, List.set_cons_succ]
  refine threeT (i := 1) (j := 3) (k := 10) rfl rfl rfl (by kernel_rfl) (fun K hK => ?_) (fun K hK => ?_) (fun K hK => ?_)
  · rw [if_pos (by kernel_rfl)]
    obtain ⟨xm1, q1, rm, bm, xq⟩ := make_big w.drew 65537 (by omega)
    obtain ⟨z1, hz1, hl1⟩ : ∃ z : List UInt8, List.replicate 65537 0 = z ∧ RowKit.Hid (z.length = 65537) := ⟨_, rfl, Lib.hid List.length_replicate⟩
    rw [hz1] at bm
    clear hz1
    have rm : (Instr.makeSlice 35 (.int .i64 65537) (.int .i64 65537)).run Try.prog w.drew = .ok (.slice (some ⟨xm1, 0, none⟩) 65537 65537) q1 := rm
    have hS1 : (fun Wx : World => Hid (Ext w Wx)) q1 := Lib.hid (hS0.out.trans xq)
    have BM1 := Lib.hid bm
    clear bm xq
    go_wp2_with (fail)
    clear rm
    refine hK.out _ _ (fun _ => hS1) ?_
    clear hK K
    try simp only [Act.put, List.getElem_toArray, List.getElem_cons_succ, List.getElem_cons_zero, List.setIfInBounds_toArray, List.set_cons_zero, List.set_cons_succ]
    refine takeC [] (i := 2) (v := ?_) rfl (by kernel_rfl) (by kernel_rfl) (by kernel_rfl) (by kernel_rfl) (by decide) (fun _ _ _ h => h) (by kernel_rfl) (Or.inl ⟨by kernel_rfl, ?_⟩) (by assumption) ?_
    rotate_left
    · (intro W9 hSw; go_simp; (try with_reducible rfl))
    try simp only [Act.put, List.getElem_toArray, List.getElem_cons_succ, List.getElem_cons_zero, List.setIfInBounds_toArray, List.set_cons_zero, List.set_cons_succ]
    refine twoT (i := 3) (j := 10) rfl rfl (by kernel_rfl) (fun K hK => ?_) (fun K hK => ?_)
    · rw [if_pos (by kernel_rfl)]
      obtain ⟨xm3, q2, rm, bm, xq⟩ := make_big q1 65536 (by omega)
      obtain ⟨z3, hz3, hl3⟩ : ∃ z : List UInt8, List.replicate 65536 0 = z ∧ RowKit.Hid (z.length = 65536) := ⟨_, rfl, Lib.hid List.length_replicate⟩
      rw [hz3] at bm
      clear hz3
      have rm : (Instr.makeSlice 35 (.int .i64 65536) (.int .i64 65536)).run Try.prog q1 = .ok (.slice (some ⟨xm3, 0, none⟩) 65536 65536) q2 := rm
      have hS2 : (fun Wx : World => Hid (Ext w Wx)) q2 := Lib.hid (hS1.out.trans xq)
      have BM3 := Lib.hid bm
      have BM1 := Lib.hid (BM1.out.ext xq)
      clear bm xq
      go_wp2_with (fail)
      clear rm
      refine hK.out _ _ (fun _ => hS2) ?_
      clear hK K
      try simp only [Act.put, List.getElem_toArray, List.getElem_cons_succ, List.getElem_cons_zero, List.setIfInBounds_toArray, List.set_cons_zero, List.set_cons_succ]
      refine takeC [] (i := 4) (v := ?_) rfl (by kernel_rfl) (by kernel_rfl) (by kernel_rfl) (by kernel_rfl) (by decide) (fun _ _ _ h => h) (by kernel_rfl) (Or.inl ⟨by kernel_rfl, ?_⟩) (by assumption) ?_
      rotate_left
      · (intro W9 hSw; go_simp; (try with_reducible rfl))
      try simp only [Act.put, List.getElem_toArray, List.getElem_cons_succ, List.getElem_cons_zero, List.setIfInBounds_toArray, List.set_cons_zero, List.set_cons_succ]
      refine twoT (i := 5) (j := 10) rfl rfl (by kernel_rfl) (fun K hK => ?_) (fun K hK => ?_)
      · rw [if_pos (by kernel_rfl)]
        obtain ⟨q3, hq⟩ : ∃ q, q2.alloc (.cells #[.bool false, .int .i64 0, .int .i64 0, .slice (some ⟨xm1, 0, none⟩) 65537 65537, .bool false, .int .i64 1, .int .i64 0, .slice (some ⟨xm3, 0, none⟩) 65536 65536] 37) = q := ⟨_, rfl⟩
        have xq : Ext q2 q3 := by rw [← hq]; exact Ext.alloc _ _
        obtain ⟨go, hgo⟩ : ∃ go, q2.heap.size = go := ⟨_, rfl⟩
        obtain ⟨fo, ho, FO⟩ : ∃ fo : Nat → Op13, Os13 q3 (some ⟨go, 0, none⟩) 2 2 fo ∧ RowKit.Hid (fo 0 = ⟨false, 0, 0, some ⟨xm1, 0, none⟩, 65537, 65537, z1⟩ ∧ fo 1 = ⟨false, 1, 0, some ⟨xm3, 0, none⟩, 65536, 65536, z3⟩) := ⟨fun k => if k = 0 then ⟨false, 0, 0, some ⟨xm1, 0, none⟩, 65537, 65537, z1⟩ else if k = 1 then ⟨false, 1, 0, some ⟨xm3, 0, none⟩, 65536, 65536, z3⟩ else default, os_cells _ go _ (0, 0) (by rw [← hq, ← hgo]; exact heap_alloc_new _ _) 2 _ (by omega) (fun k hk => by
          match k, hk with
          | 0, _ => exact ⟨rfl, rfl, rfl, rfl, BM1.out.ext xq⟩
          | 1, _ => exact ⟨rfl, rfl, rfl, rfl, BM3.out.ext xq⟩), Lib.hid ⟨rfl, rfl⟩⟩
        have OO := Lib.hid ho
        clear ho
        have hS3 : (fun Wx : World => Hid (Ext w Wx)) q3 := Lib.hid (hS2.out.trans xq)
        have BM1 := Lib.hid (BM1.out.ext xq)
        have BM3 := Lib.hid (BM3.out.ext xq)
        clear xq
        go_wp2_with (fail)
        try rw [hgo]
        try rw [hq]
        clear hq hgo
        refine hK.out _ _ (fun _ => hS3) ?_
        clear hK K
        try simp only [Act.put, List.getElem_toArray, List.getElem_cons_succ, List.getElem_cons_zero, List.setIfInBounds_toArray, List.set_cons_zero, List.set_cons_succ]
        refine twoT (i := 6) (j := 10) rfl rfl (by kernel_rfl) (fun K hK => ?_) (fun K hK => ?_)
        · rw [if_pos (by kernel_rfl)]
          have hT := told13_any q3 n0 _ _ _ _ _ _ _ _ _ (FD.out _ hS3.out) nu_begin.2.2 _ _ _ _ OO.out (fun i hi => by
            have hi : i < 2 := hi
            rcases (show i = 0 ∨ i = 1 by omega) with rfl | rfl
            · rw [FO.out.1]
              show (0 : Int) ≤ 0 ∧ (0 : Int) < 4
              omega
            · rw [FO.out.2]
              show (0 : Int) ≤ 1 ∧ (1 : Int) < 4
              omega)
          have hN : tolds n0 fo 2 = n4 z3 := by
            show Finds.toldF (Finds.toldF n0 (fo 0).index (fo 0).e (fo 0).b) (fo 1).index (fo 1).e (fo 1).b = _
            rw [FO.out.1, FO.out.2]
            exact nu_big2 _ _ hl1.out hl3.out
          rw [hN] at hT
          have HT := Lib.hid hT
          clear hT
          go_wp2_with (fail)
          with_reducible refine HT.out.mono ?_
          rintro e q4 ⟨A, n, c, B, m, d, C, k, e9, rfl, hd, xq⟩
          have hS4 : (fun Wx : World => Hid (Ext w Wx)) q4 := Lib.hid (hS3.out.trans xq)
          have HD := Lib.hid hd
          have BM1 := Lib.hid (BM1.out.ext xq)
          have BM3 := Lib.hid (BM3.out.ext xq)
          have OO := Lib.hid (OO.out.ext xq)
          clear hd xq HT
          go_wp2_with (fail)
          refine hK.out _ _ (fun _ => hS4) ?_
          clear hK K
          try simp only [Act.put, List.getElem_toArray, List.getElem_cons_succ, List.getElem_cons_zero, List.setIfInBounds_toArray, List.set_cons_zero, List.set_cons_succ]
          refine takeC [] (i := 7) (v := ?_) rfl (by kernel_rfl) (by kernel_rfl) (by kernel_rfl) (by kernel_rfl) (by decide) (fun _ _ _ h => h) (by kernel_rfl) (Or.inl ⟨by kernel_rfl, ?_⟩) (by assumption) ?_
          rotate_left
          · (intro W9 hSw; go_simp; (try with_reducible rfl))
          try simp only [Act.put, List.getElem_toArray, List.getElem_cons_succ, List.getElem_cons_zero, List.setIfInBounds_toArray, List.set_cons_zero, List.set_cons_succ]
          refine takeC [] (i := 8) (v := ?_) rfl (by kernel_rfl) (by kernel_rfl) (by kernel_rfl) (by kernel_rfl) (by decide) (fun _ _ _ h => h) (by kernel_rfl) (Or.inl ⟨by kernel_rfl, ?_⟩) (by assumption) ?_
          rotate_left
          · (intro W9 hSw; go_simp; (try with_reducible rfl))
          try simp only [Act.put, List.getElem_toArray, List.getElem_cons_succ, List.getElem_cons_zero, List.setIfInBounds_toArray, List.set_cons_zero, List.set_cons_succ]
          refine pureT (i := 9) (v := ?_) rfl (by kernel_rfl) (by kernel_rfl) (by kernel_rfl) (by decide) (fun _ _ _ h => h) (Or.inl ⟨by kernel_rfl, ?_⟩) (fun _ => by assumption) ?_
          rotate_left
          · (intro W9 hSw; go_simp; (try with_reducible rfl))
          try simp only [Act.put, List.getElem_toArray, List.getElem_cons_succ, List.getElem_cons_zero, List.setIfInBounds_toArray, List.set_cons_zero, List.set_cons_succ]
          refine oneT (i := 10) rfl (by kernel_rfl) (fun K hK => ?_)
          rw [if_pos (by kernel_rfl)]
          have hra := run_alloc_find q4
          have zb := heap_alloc_new q4 zfind
          have xq := Ext.alloc q4 zfind
          obtain ⟨y, hy⟩ : ∃ y, q4.heap.size = y := ⟨_, rfl⟩
          obtain ⟨q5, hq⟩ : ∃ q, q4.alloc zfind = q := ⟨_, rfl⟩
          rw [hq, hy] at hra zb
          rw [hq] at xq
          have hS5 : (fun Wx : World => Hid (Ext w Wx)) q5 := Lib.hid (hS4.out.trans xq)
          have ZB := Lib.hid zb
          have YL := Lib.hid (show w.heap.size ≤ y by rw [← hy]; exact hS4.out.size)
          have RAY := Lib.hid hra
          have BM1 := Lib.hid (BM1.out.ext xq)
          have BM3 := Lib.hid (BM3.out.ext xq)
          have OO := Lib.hid (OO.out.ext xq)
          have HD := Lib.hid (HD.out.ext xq)
          clear hra zb xq hy hq
          refine wp_allocR 27 rfl _ RAY.out rfl ?_
          clear RAY
          refine hK.out _ _ (fun _ => hS5) ?_
          clear hK K
          try simp only [Act.put, List.getElem_toArray, List.getElem_cons_succ, List.getElem_cons_zero, List.setIfInBounds_toArray, List.set_cons_zero, List.set_cons_succ]
          refine oneT (i := 11) rfl (by kernel_rfl) (fun K hK => ?_)
          rw [if_pos (by kernel_rfl)]
          obtain ⟨wz, sa, xz, far, fb⟩ := find_put q5 ZB.out (n4 z3) A n c B m d C k e9
          refine wp_storeR 27 (.tmp 19) (.tmp 136) rfl rfl rfl sa rfl ?_
          clear sa
          refine hK.out _ _ (fun h => absurd (show true = false from h) (by decide)) ?_
          clear hK K
          try simp only [Act.put, List.getElem_toArray, List.getElem_cons_succ, List.getElem_cons_zero, List.setIfInBounds_toArray, List.set_cons_zero, List.set_cons_succ]
          refine oneT (i := 12) rfl (by kernel_rfl) (fun K hK => ?_)
          rw [if_pos (by kernel_rfl)]
          go_wp2_with (fail)
          refine hK.out _ _ (fun h => absurd (show true = false from h) (by decide)) ?_
          clear hK K
          try simp only [Act.put, List.getElem_toArray, List.getElem_cons_succ, List.getElem_cons_zero, List.setIfInBounds_toArray, List.set_cons_zero, List.set_cons_succ]
          refine doneT (by kernel_rfl) ?_ _
          go_wp2_with (fail)
          have XZ := Lib.hid (xz w hS5.out YL.out)
          have hu : Is _ A n c [2, 1, 0, 0] := HD.out.u
          have hn4 : n = 4 := hu.len.symm
          subst hn4
          have M19 : RowKit.Hid (∃ U c, wz.cell? ⟨y, 4, none⟩ = some (.slice U 4 c) ∧ Is wz U 4 c [2, 1, 0, 0]) := Lib.hid ⟨A, c, fb.c4, is_put hu (by omega) (by decide) ZB.out far⟩
          exact HK.out _ _ (part16 (Lib.hid (F13.out.ext (XZ.out))) (Lib.hid (F15.out.ext (XZ.out))) M19 (Lib.hid (XW.out.trans (XZ.out))))
        · rw [if_pos (by kernel_rfl)]
          have hra := run_alloc_find q3
          have zb := heap_alloc_new q3 zfind
          have xq := Ext.alloc q3 zfind
          obtain ⟨y, hy⟩ : ∃ y, q3.heap.size = y := ⟨_, rfl⟩
          obtain ⟨q4, hq⟩ : ∃ q, q3.alloc zfind = q := ⟨_, rfl⟩
          rw [hq, hy] at hra zb
          rw [hq] at xq
          have hS4 : (fun Wx : World => Hid (Ext w Wx)) q4 := Lib.hid (hS3.out.trans xq)
          have ZB := Lib.hid zb
          have YL := Lib.hid (show w.heap.size ≤ y by rw [← hy]; exact hS3.out.size)
          have RAY := Lib.hid hra
          have BM1 := Lib.hid (BM1.out.ext xq)
          have BM3 := Lib.hid (BM3.out.ext xq)
          have OO := Lib.hid (OO.out.ext xq)
          clear hra zb xq hy hq
          refine wp_allocR 27 rfl _ RAY.out rfl ?_
          clear RAY
          refine hK.out _ _ (fun _ => hS4) ?_
          clear hK K
          try simp only [Act.put, List.getElem_toArray, List.getElem_cons_succ, List.getElem_cons_zero, List.setIfInBounds_toArray, List.set_cons_zero, List.set_cons_succ]
          refine oneT (i := 6) rfl (by kernel_rfl) (fun K hK => ?_)
          rw [if_pos (by kernel_rfl)]
          have hT := told13_any q4 n0 _ _ _ _ _ _ _ _ _ (FD.out _ hS4.out) nu_begin.2.2 _ _ _ _ OO.out (fun i hi => by
            have hi : i < 2 := hi
            rcases (show i = 0 ∨ i = 1 by omega) with rfl | rfl
            · rw [FO.out.1]
              show (0 : Int) ≤ 0 ∧ (0 : Int) < 4
              omega
            · rw [FO.out.2]
              show (0 : Int) ≤ 1 ∧ (1 : Int) < 4
              omega)
          have hN : tolds n0 fo 2 = n4 z3 := by
            show Finds.toldF (Finds.toldF n0 (fo 0).index (fo 0).e (fo 0).b) (fo 1).index (fo 1).e (fo 1).b = _
            rw [FO.out.1, FO.out.2]
            exact nu_big2 _ _ hl1.out hl3.out
          rw [hN] at hT
          have HT := Lib.hid hT
          clear hT
          go_wp2_with (fail)
          with_reducible refine HT.out.mono ?_
          rintro e q5 ⟨A, n, c, B, m, d, C, k, e9, rfl, hd, xq⟩
          have hS5 : (fun Wx : World => Hid (Ext w Wx)) q5 := Lib.hid (hS4.out.trans xq)
          have HD := Lib.hid hd
          have BM1 := Lib.hid (BM1.out.ext xq)
          have BM3 := Lib.hid (BM3.out.ext xq)
          have OO := Lib.hid (OO.out.ext xq)
          have ZB := Lib.hid ((xq.block _ (Array.getElem?_eq_some_iff.1 ZB.out).1).trans ZB.out)
          clear hd xq HT
          go_wp2_with (fail)
          refine hK.out _ _ (fun _ => hS5) ?_
          clear hK K
          try simp only [Act.put, List.getElem_toArray, List.getElem_cons_succ, List.getElem_cons_zero, List.setIfInBounds_toArray, List.set_cons_zero, List.set_cons_succ]
          refine takeC [] (i := 7) (v := ?_) rfl (by kernel_rfl) (by kernel_rfl) (by kernel_rfl) (by kernel_rfl) (by decide) (fun _ _ _ h => h) (by kernel_rfl) (Or.inl ⟨by kernel_rfl, ?_⟩) (by assumption) ?_
          rotate_left
          · (intro W9 hSw; go_simp; (try with_reducible rfl))
          try simp only [Act.put, List.getElem_toArray, List.getElem_cons_succ, List.getElem_cons_zero, List.setIfInBounds_toArray, List.set_cons_zero, List.set_cons_succ]
          refine takeC [] (i := 8) (v := ?_) rfl (by kernel_rfl) (by kernel_rfl) (by kernel_rfl) (by kernel_rfl) (by decide) (fun _ _ _ h => h) (by kernel_rfl) (Or.inl ⟨by kernel_rfl, ?_⟩) (by assumption) ?_
          rotate_left
          · (intro W9 hSw; go_simp; (try with_reducible rfl))
          try simp only [Act.put, List.getElem_toArray, List.getElem_cons_succ, List.getElem_cons_zero, List.setIfInBounds_toArray, List.set_cons_zero, List.set_cons_succ]
          refine pureT (i := 9) (v := ?_) rfl (by kernel_rfl) (by kernel_rfl) (by kernel_rfl) (by decide) (fun _ _ _ h => h) (Or.inl ⟨by kernel_rfl, ?_⟩) (fun _ => by assumption) ?_
          rotate_left
          · (intro W9 hSw; go_simp; (try with_reducible rfl))
          try simp only [Act.put, List.getElem_toArray, List.getElem_cons_succ, List.getElem_cons_zero, List.setIfInBounds_toArray, List.set_cons_zero, List.set_cons_succ]
          refine oneT (i := 11) rfl (by kernel_rfl) (fun K hK => ?_)
          rw [if_pos (by kernel_rfl)]
          obtain ⟨wz, sa, xz, far, fb⟩ := find_put q5 ZB.out (n4 z3) A n c B m d C k e9
          refine wp_storeR 27 (.tmp 19) (.tmp 136) rfl rfl rfl sa rfl ?_
          clear sa
          refine hK.out _ _ (fun h => absurd (show true = false from h) (by decide)) ?_
          clear hK K
          try simp only [Act.put, List.getElem_toArray, List.getElem_cons_succ, List.getElem_cons_zero, List.setIfInBounds_toArray, List.set_cons_zero, List.set_cons_succ]
          refine oneT (i := 12) rfl (by kernel_rfl) (fun K hK => ?_)
          rw [if_pos (by kernel_rfl)]
          go_wp2_with (fail)
          refine hK.out _ _ (fun h => absurd (show true = false from h) (by decide)) ?_
          clear hK K
          try simp only [Act.put, List.getElem_toArray, List.getElem_cons_succ, List.getElem_cons_zero, List.setIfInBounds_toArray, List.set_cons_zero, List.set_cons_succ]
          refine doneT (by kernel_rfl) ?_ _
          go_wp2_with (fail)
          have XZ := Lib.hid (xz w hS5.out YL.out)
          have hu : Is _ A n c [2, 1, 0, 0] := HD.out.u
          have hn4 : n = 4 := hu.len.symm
          subst hn4
          have M19 : RowKit.Hid (∃ U c, wz.cell? ⟨y, 4, none⟩ = some (.slice U 4 c) ∧ Is wz U 4 c [2, 1, 0, 0]) := Lib.hid ⟨A, c, fb.c4, is_put hu (by omega) (by decide) ZB.out far⟩
          exact HK.out _ _ (part16 (Lib.hid (F13.out.ext (XZ.out))) (Lib.hid (F15.out.ext (XZ.out))) M19 (Lib.hid (XW.out.trans (XZ.out))))
      · rw [if_pos (by kernel_rfl)]
        have hra := run_alloc_find q2
        have zb := heap_alloc_new q2 zfind
        have xq := Ext.alloc q2 zfind
        obtain ⟨y, hy⟩ : ∃ y, q2.heap.size = y := ⟨_, rfl⟩
        obtain ⟨q3, hq⟩ : ∃ q, q2.alloc zfind = q := ⟨_, rfl⟩
        rw [hq, hy] at hra zb
        rw [hq] at xq
        have hS3 : (fun Wx : World => Hid (Ext w Wx)) q3 := Lib.hid (hS2.out.trans xq)
        have ZB := Lib.hid zb
        have YL := Lib.hid (show w.heap.size ≤ y by rw [← hy]; exact hS2.out.size)
        have RAY := Lib.hid hra
        have BM1 := Lib.hid (BM1.out.ext xq)
        have BM3 := Lib.hid (BM3.out.ext xq)
        clear hra zb xq hy hq
        refine wp_allocR 27 rfl _ RAY.out rfl ?_
        clear RAY
        refine hK.out _ _ (fun _ => hS3) ?_
        clear hK K
        try simp only [Act.put, List.getElem_toArray, List.getElem_cons_succ, List.getElem_cons_zero, List.setIfInBounds_toArray, List.set_cons_zero, List.set_cons_succ]
        refine oneT (i := 5) rfl (by kernel_rfl) (fun K hK => ?_)
        rw [if_pos (by kernel_rfl)]
        obtain ⟨q4, hq⟩ : ∃ q, q3.alloc (.cells #[.bool false, .int .i64 0, .int .i64 0, .slice (some ⟨xm1, 0, none⟩) 65537 65537, .bool false, .int .i64 1, .int .i64 0, .slice (some ⟨xm3, 0, none⟩) 65536 65536] 37) = q := ⟨_, rfl⟩
        have xq : Ext q3 q4 := by rw [← hq]; exact Ext.alloc _ _
        obtain ⟨go, hgo⟩ : ∃ go, q3.heap.size = go := ⟨_, rfl⟩
        obtain ⟨fo, ho, FO⟩ : ∃ fo : Nat → Op13, Os13 q4 (some ⟨go, 0, none⟩) 2 2 fo ∧ RowKit.Hid (fo 0 = ⟨false, 0, 0, some ⟨xm1, 0, none⟩, 65537, 65537, z1⟩ ∧ fo 1 = ⟨false, 1, 0, some ⟨xm3, 0, none⟩, 65536, 65536, z3⟩) := ⟨fun k => if k = 0 then ⟨false, 0, 0, some ⟨xm1, 0, none⟩, 65537, 65537, z1⟩ else if k = 1 then ⟨false, 1, 0, some ⟨xm3, 0, none⟩, 65536, 65536, z3⟩ else default, os_cells _ go _ (0, 0) (by rw [← hq, ← hgo]; exact heap_alloc_new _ _) 2 _ (by omega) (fun k hk => by
          match k, hk with
          | 0, _ => exact ⟨rfl, rfl, rfl, rfl, BM1.out.ext xq⟩
          | 1, _ => exact ⟨rfl, rfl, rfl, rfl, BM3.out.ext xq⟩), Lib.hid ⟨rfl, rfl⟩⟩
        have OO := Lib.hid ho
        clear ho
        have hS4 : (fun Wx : World => Hid (Ext w Wx)) q4 := Lib.hid (hS3.out.trans xq)
        have BM1 := Lib.hid (BM1.out.ext xq)
        have BM3 := Lib.hid (BM3.out.ext xq)
        have ZB := Lib.hid ((xq.block _ (Array.getElem?_eq_some_iff.1 ZB.out).1).trans ZB.out)
        clear xq
        go_wp2_with (fail)
        try rw [hgo]
        try rw [hq]
        clear hq hgo
        refine hK.out _ _ (fun _ => hS4) ?_
        clear hK K
        try simp only [Act.put, List.getElem_toArray, List.getElem_cons_succ, List.getElem_cons_zero, List.setIfInBounds_toArray, List.set_cons_zero, List.set_cons_succ]
        refine oneT (i := 6) rfl (by kernel_rfl) (fun K hK => ?_)
        rw [if_pos (by kernel_rfl)]
        have hT := told13_any q4 n0 _ _ _ _ _ _ _ _ _ (FD.out _ hS4.out) nu_begin.2.2 _ _ _ _ OO.out (fun i hi => by
          have hi : i < 2 := hi
          rcases (show i = 0 ∨ i = 1 by omega) with rfl | rfl
          · rw [FO.out.1]
            show (0 : Int) ≤ 0 ∧ (0 : Int) < 4
            omega
          · rw [FO.out.2]
            show (0 : Int) ≤ 1 ∧ (1 : Int) < 4
            omega)
        have hN : tolds n0 fo 2 = n4 z3 := by
          show Finds.toldF (Finds.toldF n0 (fo 0).index (fo 0).e (fo 0).b) (fo 1).index (fo 1).e (fo 1).b = _
          rw [FO.out.1, FO.out.2]
          exact nu_big2 _ _ hl1.out hl3.out
        rw [hN] at hT
        have HT := Lib.hid hT
        clear hT
        go_wp2_with (fail)
        with_reducible refine HT.out.mono ?_
        rintro e q5 ⟨A, n, c, B, m, d, C, k, e9, rfl, hd, xq⟩
        have hS5 : (fun Wx : World => Hid (Ext w Wx)) q5 := Lib.hid (hS4.out.trans xq)
        have HD := Lib.hid hd
        have BM1 := Lib.hid (BM1.out.ext xq)
        have BM3 := Lib.hid (BM3.out.ext xq)
        have ZB := Lib.hid ((xq.block _ (Array.getElem?_eq_some_iff.1 ZB.out).1).trans ZB.out)
        have OO := Lib.hid (OO.out.ext xq)
        clear hd xq HT
        go_wp2_with (fail)
        refine hK.out _ _ (fun _ => hS5) ?_
        clear hK K
        try simp only [Act.put, List.getElem_toArray, List.getElem_cons_succ, List.getElem_cons_zero, List.setIfInBounds_toArray, List.set_cons_zero, List.set_cons_succ]
        refine takeC [] (i := 7) (v := ?_) rfl (by kernel_rfl) (by kernel_rfl) (by kernel_rfl) (by kernel_rfl) (by decide) (fun _ _ _ h => h) (by kernel_rfl) (Or.inl ⟨by kernel_rfl, ?_⟩) (by assumption) ?_
        rotate_left
        · (intro W9 hSw; go_simp; (try with_reducible rfl))
        try simp only [Act.put, List.getElem_toArray, List.getElem_cons_succ, List.getElem_cons_zero, List.setIfInBounds_toArray, List.set_cons_zero, List.set_cons_succ]
        refine takeC [] (i := 8) (v := ?_) rfl (by kernel_rfl) (by kernel_rfl) (by kernel_rfl) (by kernel_rfl) (by decide) (fun _ _ _ h => h) (by kernel_rfl) (Or.inl ⟨by kernel_rfl, ?_⟩) (by assumption) ?_
        rotate_left
        · (intro W9 hSw; go_simp; (try with_reducible rfl))
        try simp only [Act.put, List.getElem_toArray, List.getElem_cons_succ, List.getElem_cons_zero, List.setIfInBounds_toArray, List.set_cons_zero, List.set_cons_succ]
        refine pureT (i := 9) (v := ?_) rfl (by kernel_rfl) (by kernel_rfl) (by kernel_rfl) (by decide) (fun _ _ _ h => h) (Or.inl ⟨by kernel_rfl, ?_⟩) (fun _ => by assumption) ?_
        rotate_left
        · (intro W9 hSw; go_simp; (try with_reducible rfl))
        try simp only [Act.put, List.getElem_toArray, List.getElem_cons_succ, List.getElem_cons_zero, List.setIfInBounds_toArray, List.set_cons_zero, List.set_cons_succ]
        refine oneT (i := 11) rfl (by kernel_rfl) (fun K hK => ?_)
        rw [if_pos (by kernel_rfl)]
        obtain ⟨wz, sa, xz, far, fb⟩ := find_put q5 ZB.out (n4 z3) A n c B m d C k e9
        refine wp_storeR 27 (.tmp 19) (.tmp 136) rfl rfl rfl sa rfl ?_
        clear sa
        refine hK.out _ _ (fun h => absurd (show true = false from h) (by decide)) ?_
        clear hK K
        try simp only [Act.put, List.getElem_toArray, List.getElem_cons_succ, List.getElem_cons_zero, List.setIfInBounds_toArray, List.set_cons_zero, List.set_cons_succ]
        refine oneT (i := 12) rfl (by kernel_rfl) (fun K hK => ?_)
        rw [if_pos (by kernel_rfl)]
        go_wp2_with (fail)
        refine hK.out _ _ (fun h => absurd (show true = false from h) (by decide)) ?_
        clear hK K
        try simp only [Act.put, List.getElem_toArray, List.getElem_cons_succ, List.getElem_cons_zero, List.setIfInBounds_toArray, List.set_cons_zero, List.set_cons_succ]
        refine doneT (by kernel_rfl) ?_ _
        go_wp2_with (fail)
        have XZ := Lib.hid (xz w hS5.out YL.out)
        have hu : Is _ A n c [2, 1, 0, 0] := HD.out.u
        have hn4 : n = 4 := hu.len.symm
        subst hn4
        have M19 : RowKit.Hid (∃ U c, wz.cell? ⟨y, 4, none⟩ = some (.slice U 4 c) ∧ Is wz U 4 c [2, 1, 0, 0]) := Lib.hid ⟨A, c, fb.c4, is_put hu (by omega) (by decide) ZB.out far⟩
        exact HK.out _ _ (part16 (Lib.hid (F13.out.ext (XZ.out))) (Lib.hid (F15.out.ext (XZ.out))) M19 (Lib.hid (XW.out.trans (XZ.out))))
    · rw [if_pos (by kernel_rfl)]
      have hra := run_alloc_find q1
      have zb := heap_alloc_new q1 zfind
      have xq := Ext.alloc q1 zfind
      obtain ⟨y, hy⟩ : ∃ y, q1.heap.size = y := ⟨_, rfl⟩
      obtain ⟨q2, hq⟩ : ∃ q, q1.alloc zfind = q := ⟨_, rfl⟩
      rw [hq, hy] at hra zb
      rw [hq] at xq
      have hS2 : (fun Wx : World => Hid (Ext w Wx)) q2 := Lib.hid (hS1.out.trans xq)
      have ZB := Lib.hid zb
      have YL := Lib.hid (show w.heap.size ≤ y by rw [← hy]; exact hS1.out.size)
      have RAY := Lib.hid hra
      have BM1 := Lib.hid (BM1.out.ext xq)
      clear hra zb xq hy hq
      refine wp_allocR 27 rfl _ RAY.out rfl ?_
      clear RAY
      refine hK.out _ _ (fun _ => hS2) ?_
      clear hK K
      try simp only [Act.put, List.getElem_toArray, List.getElem_cons_succ, List.getElem_cons_zero, List.setIfInBounds_toArray, List.set_cons_zero, List.set_cons_succ]
      refine oneT (i := 3) rfl (by kernel_rfl) (fun K hK => ?_)
      rw [if_pos (by kernel_rfl)]
      obtain ⟨xm3, q3, rm, bm, xq⟩ := make_big q2 65536 (by omega)
      obtain ⟨z3, hz3, hl3⟩ : ∃ z : List UInt8, List.replicate 65536 0 = z ∧ RowKit.Hid (z.length = 65536) := ⟨_, rfl, Lib.hid List.length_replicate⟩
      rw [hz3] at bm
      clear hz3
      have rm : (Instr.makeSlice 35 (.int .i64 65536) (.int .i64 65536)).run Try.prog q2 = .ok (.slice (some ⟨xm3, 0, none⟩) 65536 65536) q3 := rm
      have hS3 : (fun Wx : World => Hid (Ext w Wx)) q3 := Lib.hid (hS2.out.trans xq)
      have BM3 := Lib.hid bm
      have BM1 := Lib.hid (BM1.out.ext xq)
      have ZB := Lib.hid ((xq.block _ (Array.getElem?_eq_some_iff.1 ZB.out).1).trans ZB.out)
      clear bm xq
      go_wp2_with (fail)
      clear rm
      refine hK.out _ _ (fun _ => hS3) ?_
      clear hK K
      try simp only [Act.put, List.getElem_toArray, List.getElem_cons_succ, List.getElem_cons_zero, List.setIfInBounds_toArray, List.set_cons_zero, List.set_cons_succ]
      refine takeC [] (i := 4) (v := ?_) rfl (by kernel_rfl) (by kernel_rfl) (by kernel_rfl) (by kernel_rfl) (by decide) (fun _ _ _ h => h) (by kernel_rfl) (Or.inl ⟨by kernel_rfl, ?_⟩) (by assumption) ?_
      rotate_left
      · (intro W9 hSw; go_simp; (try with_reducible rfl))
      try simp only [Act.put, List.getElem_toArray, List.getElem_cons_succ, List.getElem_cons_zero, List.setIfInBounds_toArray, List.set_cons_zero, List.set_cons_succ]
      refine oneT (i := 5) rfl (by kernel_rfl) (fun K hK => ?_)
      rw [if_pos (by kernel_rfl)]
      obtain ⟨q4, hq⟩ : ∃ q, q3.alloc (.cells #[.bool false, .int .i64 0, .int .i64 0, .slice (some ⟨xm1, 0, none⟩) 65537 65537, .bool false, .int .i64 1, .int .i64 0, .slice (some ⟨xm3, 0, none⟩) 65536 65536] 37) = q := ⟨_, rfl⟩
      have xq : Ext q3 q4 := by rw [← hq]; exact Ext.alloc _ _
      obtain ⟨go, hgo⟩ : ∃ go, q3.heap.size = go := ⟨_, rfl⟩
      obtain ⟨fo, ho, FO⟩ : ∃ fo : Nat → Op13, Os13 q4 (some ⟨go, 0, none⟩) 2 2 fo ∧ RowKit.Hid (fo 0 = ⟨false, 0, 0, some ⟨xm1, 0, none⟩, 65537, 65537, z1⟩ ∧ fo 1 = ⟨false, 1, 0, some ⟨xm3, 0, none⟩, 65536, 65536, z3⟩) := ⟨fun k => if k = 0 then ⟨false, 0, 0, some ⟨xm1, 0, none⟩, 65537, 65537, z1⟩ else if k = 1 then ⟨false, 1, 0, some ⟨xm3, 0, none⟩, 65536, 65536, z3⟩ else default, os_cells _ go _ (0, 0) (by rw [← hq, ← hgo]; exact heap_alloc_new _ _) 2 _ (by omega) (fun k hk => by
        match k, hk with
        | 0, _ => exact ⟨rfl, rfl, rfl, rfl, BM1.out.ext xq⟩
        | 1, _ => exact ⟨rfl, rfl, rfl, rfl, BM3.out.ext xq⟩), Lib.hid ⟨rfl, rfl⟩⟩
      have OO := Lib.hid ho
      clear ho
      have hS4 : (fun Wx : World => Hid (Ext w Wx)) q4 := Lib.hid (hS3.out.trans xq)
      have BM1 := Lib.hid (BM1.out.ext xq)
      have ZB := Lib.hid ((xq.block _ (Array.getElem?_eq_some_iff.1 ZB.out).1).trans ZB.out)
      have BM3 := Lib.hid (BM3.out.ext xq)
      clear xq
      go_wp2_with (fail)
      try rw [hgo]
      try rw [hq]
      clear hq hgo
      refine hK.out _ _ (fun _ => hS4) ?_
      clear hK K
      try simp only [Act.put, List.getElem_toArray, List.getElem_cons_succ, List.getElem_cons_zero, List.setIfInBounds_toArray, List.set_cons_zero, List.set_cons_succ]
      refine oneT (i := 6) rfl (by kernel_rfl) (fun K hK => ?_)
      rw [if_pos (by kernel_rfl)]
      have hT := told13_any q4 n0 _ _ _ _ _ _ _ _ _ (FD.out _ hS4.out) nu_begin.2.2 _ _ _ _ OO.out (fun i hi => by
        have hi : i < 2 := hi
        rcases (show i = 0 ∨ i = 1 by omega) with rfl | rfl
        · rw [FO.out.1]
          show (0 : Int) ≤ 0 ∧ (0 : Int) < 4
          omega
        · rw [FO.out.2]
          show (0 : Int) ≤ 1 ∧ (1 : Int) < 4
          omega)
      have hN : tolds n0 fo 2 = n4 z3 := by
        show Finds.toldF (Finds.toldF n0 (fo 0).index (fo 0).e (fo 0).b) (fo 1).index (fo 1).e (fo 1).b = _
        rw [FO.out.1, FO.out.2]
        exact nu_big2 _ _ hl1.out hl3.out
      rw [hN] at hT
      have HT := Lib.hid hT
      clear hT
      go_wp2_with (fail)
      with_reducible refine HT.out.mono ?_
      rintro e q5 ⟨A, n, c, B, m, d, C, k, e9, rfl, hd, xq⟩
      have hS5 : (fun Wx : World => Hid (Ext w Wx)) q5 := Lib.hid (hS4.out.trans xq)
      have HD := Lib.hid hd
      have BM1 := Lib.hid (BM1.out.ext xq)
      have ZB := Lib.hid ((xq.block _ (Array.getElem?_eq_some_iff.1 ZB.out).1).trans ZB.out)
      have BM3 := Lib.hid (BM3.out.ext xq)
      have OO := Lib.hid (OO.out.ext xq)
      clear hd xq HT
      go_wp2_with (fail)
      refine hK.out _ _ (fun _ => hS5) ?_
      clear hK K
      try simp only [Act.put, List.getElem_toArray, List.getElem_cons_succ, List.getElem_cons_zero, List.setIfInBounds_toArray, List.set_cons_zero, List.set_cons_succ]
      refine takeC [] (i := 7) (v := ?_) rfl (by kernel_rfl) (by kernel_rfl) (by kernel_rfl) (by kernel_rfl) (by decide) (fun _ _ _ h => h) (by kernel_rfl) (Or.inl ⟨by kernel_rfl, ?_⟩) (by assumption) ?_
      rotate_left
      · (intro W9 hSw; go_simp; (try with_reducible rfl))
      try simp only [Act.put, List.getElem_toArray, List.getElem_cons_succ, List.getElem_cons_zero, List.setIfInBounds_toArray, List.set_cons_zero, List.set_cons_succ]
      refine takeC [] (i := 8) (v := ?_) rfl (by kernel_rfl) (by kernel_rfl) (by kernel_rfl) (by kernel_rfl) (by decide) (fun _ _ _ h => h) (by kernel_rfl) (Or.inl ⟨by kernel_rfl, ?_⟩) (by assumption) ?_
      rotate_left
      · (intro W9 hSw; go_simp; (try with_reducible rfl))
      try simp only [Act.put, List.getElem_toArray, List.getElem_cons_succ, List.getElem_cons_zero, List.setIfInBounds_toArray, List.set_cons_zero, List.set_cons_succ]
      refine pureT (i := 9) (v := ?_) rfl (by kernel_rfl) (by kernel_rfl) (by kernel_rfl) (by decide) (fun _ _ _ h => h) (Or.inl ⟨by kernel_rfl, ?_⟩) (fun _ => by assumption) ?_
      rotate_left
      · (intro W9 hSw; go_simp; (try with_reducible rfl))
      try simp only [Act.put, List.getElem_toArray, List.getElem_cons_succ, List.getElem_cons_zero, List.setIfInBounds_toArray, List.set_cons_zero, List.set_cons_succ]
      refine oneT (i := 11) rfl (by kernel_rfl) (fun K hK => ?_)
      rw [if_pos (by kernel_rfl)]
      obtain ⟨wz, sa, xz, far, fb⟩ := find_put q5 ZB.out (n4 z3) A n c B m d C k e9
      refine wp_storeR 27 (.tmp 19) (.tmp 136) rfl rfl rfl sa rfl ?_
      clear sa
      refine hK.out _ _ (fun h => absurd (show true = false from h) (by decide)) ?_
      clear hK K
      try simp only [Act.put, List.getElem_toArray, List.getElem_cons_succ, List.getElem_cons_zero, List.setIfInBounds_toArray, List.set_cons_zero, List.set_cons_succ]
      refine oneT (i := 12) rfl (by kernel_rfl) (fun K hK => ?_)
      rw [if_pos (by kernel_rfl)]
      go_wp2_with (fail)
      refine hK.out _ _ (fun h => absurd (show true = false from h) (by decide)) ?_
      clear hK K
      try simp only [Act.put, List.getElem_toArray, List.getElem_cons_succ, List.getElem_cons_zero, List.setIfInBounds_toArray, List.set_cons_zero, List.set_cons_succ]
      refine doneT (by kernel_rfl) ?_ _
      go_wp2_with (fail)
      have XZ := Lib.hid (xz w hS5.out YL.out)
      have hu : Is _ A n c [2, 1, 0, 0] := HD.out.u
      have hn4 : n = 4 := hu.len.symm
      subst hn4
      have M19 : RowKit.Hid (∃ U c, wz.cell? ⟨y, 4, none⟩ = some (.slice U 4 c) ∧ Is wz U 4 c [2, 1, 0, 0]) := Lib.hid ⟨A, c, fb.c4, is_put hu (by omega) (by decide) ZB.out far⟩
      exact HK.out _ _ (part16 (Lib.hid (F13.out.ext (XZ.out))) (Lib.hid (F15.out.ext (XZ.out))) M19 (Lib.hid (XW.out.trans (XZ.out))))
  · rw [if_pos (by kernel_rfl)]
    obtain ⟨xm3, q1, rm, bm, xq⟩ := make_big w.drew 65536 (by omega)
    obtain ⟨z3, hz3, hl3⟩ : ∃ z : List UInt8, List.replicate 65536 0 = z ∧ RowKit.Hid (z.length = 65536) := ⟨_, rfl, Lib.hid List.length_replicate⟩
    rw [hz3] at bm
    clear hz3
    have rm : (Instr.makeSlice 35 (.int .i64 65536) (.int .i64 65536)).run Try.prog w.drew = .ok (.slice (some ⟨xm3, 0, none⟩) 65536 65536) q1 := rm
    have hS1 : (fun Wx : World => Hid (Ext w Wx)) q1 := Lib.hid (hS0.out.trans xq)
    have BM3 := Lib.hid bm
    clear bm xq
    go_wp2_with (fail)
    clear rm
    refine hK.out _ _ (fun _ => hS1) ?_
    clear hK K
    try simp only [Act.put, List.getElem_toArray, List.getElem_cons_succ, List.getElem_cons_zero, List.setIfInBounds_toArray, List.set_cons_zero, List.set_cons_succ]
    refine takeC [] (i := 4) (v := ?_) rfl (by kernel_rfl) (by kernel_rfl) (by kernel_rfl) (by kernel_rfl) (by decide) (fun _ _ _ h => h) (by kernel_rfl) (Or.inl ⟨by kernel_rfl, ?_⟩) (by assumption) ?_
    rotate_left
    · (intro W9 hSw; go_simp; (try with_reducible rfl))
    try simp only [Act.put, List.getElem_toArray, List.getElem_cons_succ, List.getElem_cons_zero, List.setIfInBounds_toArray, List.set_cons_zero, List.set_cons_succ]
    refine twoT (i := 1) (j := 10) rfl rfl (by kernel_rfl) (fun K hK => ?_) (fun K hK => ?_)
    · rw [if_pos (by kernel_rfl)]
      obtain ⟨xm1, q2, rm, bm, xq⟩ := make_big q1 65537 (by omega)
      obtain ⟨z1, hz1, hl1⟩ : ∃ z : List UInt8, List.replicate 65537 0 = z ∧ RowKit.Hid (z.length = 65537) := ⟨_, rfl, Lib.hid List.length_replicate⟩
      rw [hz1] at bm
      clear hz1
      have rm : (Instr.makeSlice 35 (.int .i64 65537) (.int .i64 65537)).run Try.prog q1 = .ok (.slice (some ⟨xm1, 0, none⟩) 65537 65537) q2 := rm
      have hS2 : (fun Wx : World => Hid (Ext w Wx)) q2 := Lib.hid (hS1.out.trans xq)
      have BM1 := Lib.hid bm
      have BM3 := Lib.hid (BM3.out.ext xq)
      clear bm xq
      go_wp2_with (fail)
      clear rm
      refine hK.out _ _ (fun _ => hS2) ?_
      clear hK K
      try simp only [Act.put, List.getElem_toArray, List.getElem_cons_succ, List.getElem_cons_zero, List.setIfInBounds_toArray, List.set_cons_zero, List.set_cons_succ]
      refine takeC [] (i := 2) (v := ?_) rfl (by kernel_rfl) (by kernel_rfl) (by kernel_rfl) (by kernel_rfl) (by decide) (fun _ _ _ h => h) (by kernel_rfl) (Or.inl ⟨by kernel_rfl, ?_⟩) (by assumption) ?_
      rotate_left
      · (intro W9 hSw; go_simp; (try with_reducible rfl))
      try simp only [Act.put, List.getElem_toArray, List.getElem_cons_succ, List.getElem_cons_zero, List.setIfInBounds_toArray, List.set_cons_zero, List.set_cons_succ]
      refine twoT (i := 5) (j := 10) rfl rfl (by kernel_rfl) (fun K hK => ?_) (fun K hK => ?_)
      · rw [if_pos (by kernel_rfl)]
        obtain ⟨q3, hq⟩ : ∃ q, q2.alloc (.cells #[.bool false, .int .i64 0, .int .i64 0, .slice (some ⟨xm1, 0, none⟩) 65537 65537, .bool false, .int .i64 1, .int .i64 0, .slice (some ⟨xm3, 0, none⟩) 65536 65536] 37) = q := ⟨_, rfl⟩
        have xq : Ext q2 q3 := by rw [← hq]; exact Ext.alloc _ _
        obtain ⟨go, hgo⟩ : ∃ go, q2.heap.size = go := ⟨_, rfl⟩
        obtain ⟨fo, ho, FO⟩ : ∃ fo : Nat → Op13, Os13 q3 (some ⟨go, 0, none⟩) 2 2 fo ∧ RowKit.Hid (fo 0 = ⟨false, 0, 0, some ⟨xm1, 0, none⟩, 65537, 65537, z1⟩ ∧ fo 1 = ⟨false, 1, 0, some ⟨xm3, 0, none⟩, 65536, 65536, z3⟩) := ⟨fun k => if k = 0 then ⟨false, 0, 0, some ⟨xm1, 0, none⟩, 65537, 65537, z1⟩ else if k = 1 then ⟨false, 1, 0, some ⟨xm3, 0, none⟩, 65536, 65536, z3⟩ else default, os_cells _ go _ (0, 0) (by rw [← hq, ← hgo]; exact heap_alloc_new _ _) 2 _ (by omega) (fun k hk => by
          match k, hk with
          | 0, _ => exact ⟨rfl, rfl, rfl, rfl, BM1.out.ext xq⟩
          | 1, _ => exact ⟨rfl, rfl, rfl, rfl, BM3.out.ext xq⟩), Lib.hid ⟨rfl, rfl⟩⟩
        have OO := Lib.hid ho
        clear ho
        have hS3 : (fun Wx : World => Hid (Ext w Wx)) q3 := Lib.hid (hS2.out.trans xq)
        have BM3 := Lib.hid (BM3.out.ext xq)
        have BM1 := Lib.hid (BM1.out.ext xq)
        clear xq
        go_wp2_with (fail)
        try rw [hgo]
        try rw [hq]
        clear hq hgo
        refine hK.out _ _ (fun _ => hS3) ?_
        clear hK K
        try simp only [Act.put, List.getElem_toArray, List.getElem_cons_succ, List.getElem_cons_zero, List.setIfInBounds_toArray, List.set_cons_zero, List.set_cons_succ]
        refine twoT (i := 6) (j := 10) rfl rfl (by kernel_rfl) (fun K hK => ?_) (fun K hK => ?_)
        · rw [if_pos (by kernel_rfl)]
          have hT := told13_any q3 n0 _ _ _ _ _ _ _ _ _ (FD.out _ hS3.out) nu_begin.2.2 _ _ _ _ OO.out (fun i hi => by
            have hi : i < 2 := hi
            rcases (show i = 0 ∨ i = 1 by omega) with rfl | rfl
            · rw [FO.out.1]
              show (0 : Int) ≤ 0 ∧ (0 : Int) < 4
              omega
            · rw [FO.out.2]
              show (0 : Int) ≤ 1 ∧ (1 : Int) < 4
              omega)
          have hN : tolds n0 fo 2 = n4 z3 := by
            show Finds.toldF (Finds.toldF n0 (fo 0).index (fo 0).e (fo 0).b) (fo 1).index (fo 1).e (fo 1).b = _
            rw [FO.out.1, FO.out.2]
            exact nu_big2 _ _ hl1.out hl3.out
          rw [hN] at hT
          have HT := Lib.hid hT
          clear hT
          go_wp2_with (fail)
          with_reducible refine HT.out.mono ?_
          rintro e q4 ⟨A, n, c, B, m, d, C, k, e9, rfl, hd, xq⟩
          have hS4 : (fun Wx : World => Hid (Ext w Wx)) q4 := Lib.hid (hS3.out.trans xq)
          have HD := Lib.hid hd
          have BM3 := Lib.hid (BM3.out.ext xq)
          have BM1 := Lib.hid (BM1.out.ext xq)
          have OO := Lib.hid (OO.out.ext xq)
          clear hd xq HT
          go_wp2_with (fail)
          refine hK.out _ _ (fun _ => hS4) ?_
          clear hK K
          try simp only [Act.put, List.getElem_toArray, List.getElem_cons_succ, List.getElem_cons_zero, List.setIfInBounds_toArray, List.set_cons_zero, List.set_cons_succ]
          refine takeC [] (i := 7) (v := ?_) rfl (by kernel_rfl) (by kernel_rfl) (by kernel_rfl) (by kernel_rfl) (by decide) (fun _ _ _ h => h) (by kernel_rfl) (Or.inl ⟨by kernel_rfl, ?_⟩) (by assumption) ?_
          rotate_left
          · (intro W9 hSw; go_simp; (try with_reducible rfl))
          try simp only [Act.put, List.getElem_toArray, List.getElem_cons_succ, List.getElem_cons_zero, List.setIfInBounds_toArray, List.set_cons_zero, List.set_cons_succ]
          refine takeC [] (i := 8) (v := ?_) rfl (by kernel_rfl) (by kernel_rfl) (by kernel_rfl) (by kernel_rfl) (by decide) (fun _ _ _ h => h) (by kernel_rfl) (Or.inl ⟨by kernel_rfl, ?_⟩) (by assumption) ?_
          rotate_left
          · (intro W9 hSw; go_simp; (try with_reducible rfl))
          try simp only [Act.put, List.getElem_toArray, List.getElem_cons_succ, List.getElem_cons_zero, List.setIfInBounds_toArray, List.set_cons_zero, List.set_cons_succ]
          refine pureT (i := 9) (v := ?_) rfl (by kernel_rfl) (by kernel_rfl) (by kernel_rfl) (by decide) (fun _ _ _ h => h) (Or.inl ⟨by kernel_rfl, ?_⟩) (fun _ => by assumption) ?_
          rotate_left
          · (intro W9 hSw; go_simp; (try with_reducible rfl))
          try simp only [Act.put, List.getElem_toArray, List.getElem_cons_succ, List.getElem_cons_zero, List.setIfInBounds_toArray, List.set_cons_zero, List.set_cons_succ]
          refine oneT (i := 10) rfl (by kernel_rfl) (fun K hK => ?_)
          rw [if_pos (by kernel_rfl)]
          have hra := run_alloc_find q4
          have zb := heap_alloc_new q4 zfind
          have xq := Ext.alloc q4 zfind
          obtain ⟨y, hy⟩ : ∃ y, q4.heap.size = y := ⟨_, rfl⟩
          obtain ⟨q5, hq⟩ : ∃ q, q4.alloc zfind = q := ⟨_, rfl⟩
          rw [hq, hy] at hra zb
          rw [hq] at xq
          have hS5 : (fun Wx : World => Hid (Ext w Wx)) q5 := Lib.hid (hS4.out.trans xq)
          have ZB := Lib.hid zb
          have YL := Lib.hid (show w.heap.size ≤ y by rw [← hy]; exact hS4.out.size)
          have RAY := Lib.hid hra
          have BM3 := Lib.hid (BM3.out.ext xq)
          have BM1 := Lib.hid (BM1.out.ext xq)
          have OO := Lib.hid (OO.out.ext xq)
          have HD := Lib.hid (HD.out.ext xq)
          clear hra zb xq hy hq
          refine wp_allocR 27 rfl _ RAY.out rfl ?_
          clear RAY
          refine hK.out _ _ (fun _ => hS5) ?_
          clear hK K
          try simp only [Act.put, List.getElem_toArray, List.getElem_cons_succ, List.getElem_cons_zero, List.setIfInBounds_toArray, List.set_cons_zero, List.set_cons_succ]
          refine oneT (i := 11) rfl (by kernel_rfl) (fun K hK => ?_)
          rw [if_pos (by kernel_rfl)]
          obtain ⟨wz, sa, xz, far, fb⟩ := find_put q5 ZB.out (n4 z3) A n c B m d C k e9
          refine wp_storeR 27 (.tmp 19) (.tmp 136) rfl rfl rfl sa rfl ?_
          clear sa
          refine hK.out _ _ (fun h => absurd (show true = false from h) (by decide)) ?_
          clear hK K
          try simp only [Act.put, List.getElem_toArray, List.getElem_cons_succ, List.getElem_cons_zero, List.setIfInBounds_toArray, List.set_cons_zero, List.set_cons_succ]
          refine oneT (i := 12) rfl (by kernel_rfl) (fun K hK => ?_)
          rw [if_pos (by kernel_rfl)]
          go_wp2_with (fail)
          refine hK.out _ _ (fun h => absurd (show true = false from h) (by decide)) ?_
          clear hK K
          try simp only [Act.put, List.getElem_toArray, List.getElem_cons_succ, List.getElem_cons_zero, List.setIfInBounds_toArray, List.set_cons_zero, List.set_cons_succ]
          refine doneT (by kernel_rfl) ?_ _
          go_wp2_with (fail)
          have XZ := Lib.hid (xz w hS5.out YL.out)
          have hu : Is _ A n c [2, 1, 0, 0] := HD.out.u
          have hn4 : n = 4 := hu.len.symm
          subst hn4
          have M19 : RowKit.Hid (∃ U c, wz.cell? ⟨y, 4, none⟩ = some (.slice U 4 c) ∧ Is wz U 4 c [2, 1, 0, 0]) := Lib.hid ⟨A, c, fb.c4, is_put hu (by omega) (by decide) ZB.out far⟩
          exact HK.out _ _ (part16 (Lib.hid (F13.out.ext (XZ.out))) (Lib.hid (F15.out.ext (XZ.out))) M19 (Lib.hid (XW.out.trans (XZ.out))))
        · rw [if_pos (by kernel_rfl)]
          have hra := run_alloc_find q3
          have zb := heap_alloc_new q3 zfind
          have xq := Ext.alloc q3 zfind
          obtain ⟨y, hy⟩ : ∃ y, q3.heap.size = y := ⟨_, rfl⟩
          obtain ⟨q4, hq⟩ : ∃ q, q3.alloc zfind = q := ⟨_, rfl⟩
          rw [hq, hy] at hra zb
          rw [hq] at xq
          have hS4 : (fun Wx : World => Hid (Ext w Wx)) q4 := Lib.hid (hS3.out.trans xq)
          have ZB := Lib.hid zb
          have YL := Lib.hid (show w.heap.size ≤ y by rw [← hy]; exact hS3.out.size)
          have RAY := Lib.hid hra
          have BM3 := Lib.hid (BM3.out.ext xq)
          have BM1 := Lib.hid (BM1.out.ext xq)
          have OO := Lib.hid (OO.out.ext xq)
          clear hra zb xq hy hq
          refine wp_allocR 27 rfl _ RAY.out rfl ?_
          clear RAY
          refine hK.out _ _ (fun _ => hS4) ?_
          clear hK K
          try simp only [Act.put, List.getElem_toArray, List.getElem_cons_succ, List.getElem_cons_zero, List.setIfInBounds_toArray, List.set_cons_zero, List.set_cons_succ]
          refine oneT (i := 6) rfl (by kernel_rfl) (fun K hK => ?_)
          rw [if_pos (by kernel_rfl)]
          have hT := told13_any q4 n0 _ _ _ _ _ _ _ _ _ (FD.out _ hS4.out) nu_begin.2.2 _ _ _ _ OO.out (fun i hi => by
            have hi : i < 2 := hi
            rcases (show i = 0 ∨ i = 1 by omega) with rfl | rfl
            · rw [FO.out.1]
              show (0 : Int) ≤ 0 ∧ (0 : Int) < 4
              omega
            · rw [FO.out.2]
              show (0 : Int) ≤ 1 ∧ (1 : Int) < 4
              omega)
          have hN : tolds n0 fo 2 = n4 z3 := by
            show Finds.toldF (Finds.toldF n0 (fo 0).index (fo 0).e (fo 0).b) (fo 1).index (fo 1).e (fo 1).b = _
            rw [FO.out.1, FO.out.2]
            exact nu_big2 _ _ hl1.out hl3.out
          rw [hN] at hT
          have HT := Lib.hid hT
          clear hT
          go_wp2_with (fail)
          with_reducible refine HT.out.mono ?_
          rintro e q5 ⟨A, n, c, B, m, d, C, k, e9, rfl, hd, xq⟩
          have hS5 : (fun Wx : World => Hid (Ext w Wx)) q5 := Lib.hid (hS4.out.trans xq)
          have HD := Lib.hid hd
          have BM3 := Lib.hid (BM3.out.ext xq)
          have BM1 := Lib.hid (BM1.out.ext xq)
          have OO := Lib.hid (OO.out.ext xq)
          have ZB := Lib.hid ((xq.block _ (Array.getElem?_eq_some_iff.1 ZB.out).1).trans ZB.out)
          clear hd xq HT
          go_wp2_with (fail)
          refine hK.out _ _ (fun _ => hS5) ?_
          clear hK K
          try simp only [Act.put, List.getElem_toArray, List.getElem_cons_succ, List.getElem_cons_zero, List.setIfInBounds_toArray, List.set_cons_zero, List.set_cons_succ]
          refine takeC [] (i := 7) (v := ?_) rfl (by kernel_rfl) (by kernel_rfl) (by kernel_rfl) (by kernel_rfl) (by decide) (fun _ _ _ h => h) (by kernel_rfl) (Or.inl ⟨by kernel_rfl, ?_⟩) (by assumption) ?_
          rotate_left
          · (intro W9 hSw; go_simp; (try with_reducible rfl))
          try simp only [Act.put, List.getElem_toArray, List.getElem_cons_succ, List.getElem_cons_zero, List.setIfInBounds_toArray, List.set_cons_zero, List.set_cons_succ]
          refine takeC [] (i := 8) (v := ?_) rfl (by kernel_rfl) (by kernel_rfl) (by kernel_rfl) (by kernel_rfl) (by decide) (fun _ _ _ h => h) (by kernel_rfl) (Or.inl ⟨by kernel_rfl, ?_⟩) (by assumption) ?_
          rotate_left
          · (intro W9 hSw; go_simp; (try with_reducible rfl))
          try simp only [Act.put, List.getElem_toArray, List.getElem_cons_succ, List.getElem_cons_zero, List.setIfInBounds_toArray, List.set_cons_zero, List.set_cons_succ]
          refine pureT (i := 9) (v := ?_) rfl (by kernel_rfl) (by kernel_rfl) (by kernel_rfl) (by decide) (fun _ _ _ h => h) (Or.inl ⟨by kernel_rfl, ?_⟩) (fun _ => by assumption) ?_
          rotate_left
          · (intro W9 hSw; go_simp; (try with_reducible rfl))
          try simp only [Act.put, List.getElem_toArray, List.getElem_cons_succ, List.getElem_cons_zero, List.setIfInBounds_toArray, List.set_cons_zero, List.set_cons_succ]
          refine oneT (i := 11) rfl (by kernel_rfl) (fun K hK => ?_)
          rw [if_pos (by kernel_rfl)]
          obtain ⟨wz, sa, xz, far, fb⟩ := find_put q5 ZB.out (n4 z3) A n c B m d C k e9
          refine wp_storeR 27 (.tmp 19) (.tmp 136) rfl rfl rfl sa rfl ?_
          clear sa
          refine hK.out _ _ (fun h => absurd (show true = false from h) (by decide)) ?_
          clear hK K
          try simp only [Act.put, List.getElem_toArray, List.getElem_cons_succ, List.getElem_cons_zero, List.setIfInBounds_toArray, List.set_cons_zero, List.set_cons_succ]
          refine oneT (i := 12) rfl (by kernel_rfl) (fun K hK => ?_)
          rw [if_pos (by kernel_rfl)]
          go_wp2_with (fail)
          refine hK.out _ _ (fun h => absurd (show true = false from h) (by decide)) ?_
          clear hK K
          try simp only [Act.put, List.getElem_toArray, List.getElem_cons_succ, List.getElem_cons_zero, List.setIfInBounds_toArray, List.set_cons_zero, List.set_cons_succ]
          refine doneT (by kernel_rfl) ?_ _
          go_wp2_with (fail)
          have XZ := Lib.hid (xz w hS5.out YL.out)
          have hu : Is _ A n c [2, 1, 0, 0] := HD.out.u
          have hn4 : n = 4 := hu.len.symm
          subst hn4
          have M19 : RowKit.Hid (∃ U c, wz.cell? ⟨y, 4, none⟩ = some (.slice U 4 c) ∧ Is wz U 4 c [2, 1, 0, 0]) := Lib.hid ⟨A, c, fb.c4, is_put hu (by omega) (by decide) ZB.out far⟩
          exact HK.out _ _ (part16 (Lib.hid (F13.out.ext (XZ.out))) (Lib.hid (F15.out.ext (XZ.out))) M19 (Lib.hid (XW.out.trans (XZ.out))))
      · rw [if_pos (by kernel_rfl)]
        have hra := run_alloc_find q2
        have zb := heap_alloc_new q2 zfind
        have xq := Ext.alloc q2 zfind
        obtain ⟨y, hy⟩ : ∃ y, q2.heap.size = y := ⟨_, rfl⟩
        obtain ⟨q3, hq⟩ : ∃ q, q2.alloc zfind = q := ⟨_, rfl⟩
        rw [hq, hy] at hra zb
        rw [hq] at xq
        have hS3 : (fun Wx : World => Hid (Ext w Wx)) q3 := Lib.hid (hS2.out.trans xq)
        have ZB := Lib.hid zb
        have YL := Lib.hid (show w.heap.size ≤ y by rw [← hy]; exact hS2.out.size)
        have RAY := Lib.hid hra
        have BM3 := Lib.hid (BM3.out.ext xq)
        have BM1 := Lib.hid (BM1.out.ext xq)
        clear hra zb xq hy hq
        refine wp_allocR 27 rfl _ RAY.out rfl ?_
        clear RAY
        refine hK.out _ _ (fun _ => hS3) ?_
        clear hK K
        try simp only [Act.put, List.getElem_toArray, List.getElem_cons_succ, List.getElem_cons_zero, List.setIfInBounds_toArray, List.set_cons_zero, List.set_cons_succ]
        refine oneT (i := 5) rfl (by kernel_rfl) (fun K hK => ?_)
        rw [if_pos (by kernel_rfl)]
        obtain ⟨q4, hq⟩ : ∃ q, q3.alloc (.cells #[.bool false, .int .i64 0, .int .i64 0, .slice (some ⟨xm1, 0, none⟩) 65537 65537, .bool false, .int .i64 1, .int .i64 0, .slice (some ⟨xm3, 0, none⟩) 65536 65536] 37) = q := ⟨_, rfl⟩
        have xq : Ext q3 q4 := by rw [← hq]; exact Ext.alloc _ _
        obtain ⟨go, hgo⟩ : ∃ go, q3.heap.size = go := ⟨_, rfl⟩
        obtain ⟨fo, ho, FO⟩ : ∃ fo : Nat → Op13, Os13 q4 (some ⟨go, 0, none⟩) 2 2 fo ∧ RowKit.Hid (fo 0 = ⟨false, 0, 0, some ⟨xm1, 0, none⟩, 65537, 65537, z1⟩ ∧ fo 1 = ⟨false, 1, 0, some ⟨xm3, 0, none⟩, 65536, 65536, z3⟩) := ⟨fun k => if k = 0 then ⟨false, 0, 0, some ⟨xm1, 0, none⟩, 65537, 65537, z1⟩ else if k = 1 then ⟨false, 1, 0, some ⟨xm3, 0, none⟩, 65536, 65536, z3⟩ else default, os_cells _ go _ (0, 0) (by rw [← hq, ← hgo]; exact heap_alloc_new _ _) 2 _ (by omega) (fun k hk => by
          match k, hk with
          | 0, _ => exact ⟨rfl, rfl, rfl, rfl, BM1.out.ext xq⟩
          | 1, _ => exact ⟨rfl, rfl, rfl, rfl, BM3.out.ext xq⟩), Lib.hid ⟨rfl, rfl⟩⟩
        have OO := Lib.hid ho
        clear ho
        have hS4 : (fun Wx : World => Hid (Ext w Wx)) q4 := Lib.hid (hS3.out.trans xq)
        have BM3 := Lib.hid (BM3.out.ext xq)
        have BM1 := Lib.hid (BM1.out.ext xq)
        have ZB := Lib.hid ((xq.block _ (Array.getElem?_eq_some_iff.1 ZB.out).1).trans ZB.out)
        clear xq
        go_wp2_with (fail)
        try rw [hgo]
        try rw [hq]
        clear hq hgo
        refine hK.out _ _ (fun _ => hS4) ?_
        clear hK K
        try simp only [Act.put, List.getElem_toArray, List.getElem_cons_succ, List.getElem_cons_zero, List.setIfInBounds_toArray, List.set_cons_zero, List.set_cons_succ]
        refine oneT (i := 6) rfl (by kernel_rfl) (fun K hK => ?_)
        rw [if_pos (by kernel_rfl)]
        have hT := told13_any q4 n0 _ _ _ _ _ _ _ _ _ (FD.out _ hS4.out) nu_begin.2.2 _ _ _ _ OO.out (fun i hi => by
          have hi : i < 2 := hi
          rcases (show i = 0 ∨ i = 1 by omega) with rfl | rfl
          · rw [FO.out.1]
            show (0 : Int) ≤ 0 ∧ (0 : Int) < 4
            omega
          · rw [FO.out.2]
            show (0 : Int) ≤ 1 ∧ (1 : Int) < 4
            omega)
        have hN : tolds n0 fo 2 = n4 z3 := by
          show Finds.toldF (Finds.toldF n0 (fo 0).index (fo 0).e (fo 0).b) (fo 1).index (fo 1).e (fo 1).b = _
          rw [FO.out.1, FO.out.2]
          exact nu_big2 _ _ hl1.out hl3.out
        rw [hN] at hT
        have HT := Lib.hid hT
        clear hT
        go_wp2_with (fail)
        with_reducible refine HT.out.mono ?_
        rintro e q5 ⟨A, n, c, B, m, d, C, k, e9, rfl, hd, xq⟩
        have hS5 : (fun Wx : World => Hid (Ext w Wx)) q5 := Lib.hid (hS4.out.trans xq)
        have HD := Lib.hid hd
        have BM3 := Lib.hid (BM3.out.ext xq)
        have BM1 := Lib.hid (BM1.out.ext xq)
        have ZB := Lib.hid ((xq.block _ (Array.getElem?_eq_some_iff.1 ZB.out).1).trans ZB.out)
        have OO := Lib.hid (OO.out.ext xq)
        clear hd xq HT
        go_wp2_with (fail)
        refine hK.out _ _ (fun _ => hS5) ?_
        clear hK K
        try simp only [Act.put, List.getElem_toArray, List.getElem_cons_succ, List.getElem_cons_zero, List.setIfInBounds_toArray, List.set_cons_zero, List.set_cons_succ]
        refine takeC [] (i := 7) (v := ?_) rfl (by kernel_rfl) (by kernel_rfl) (by kernel_rfl) (by kernel_rfl) (by decide) (fun _ _ _ h => h) (by kernel_rfl) (Or.inl ⟨by kernel_rfl, ?_⟩) (by assumption) ?_
        rotate_left
        · (intro W9 hSw; go_simp; (try with_reducible rfl))
        try simp only [Act.put, List.getElem_toArray, List.getElem_cons_succ, List.getElem_cons_zero, List.setIfInBounds_toArray, List.set_cons_zero, List.set_cons_succ]
        refine takeC [] (i := 8) (v := ?_) rfl (by kernel_rfl) (by kernel_rfl) (by kernel_rfl) (by kernel_rfl) (by decide) (fun _ _ _ h => h) (by kernel_rfl) (Or.inl ⟨by kernel_rfl, ?_⟩) (by assumption) ?_
        rotate_left
        · (intro W9 hSw; go_simp; (try with_reducible rfl))
        try simp only [Act.put, List.getElem_toArray, List.getElem_cons_succ, List.getElem_cons_zero, List.setIfInBounds_toArray, List.set_cons_zero, List.set_cons_succ]
        refine pureT (i := 9) (v := ?_) rfl (by kernel_rfl) (by kernel_rfl) (by kernel_rfl) (by decide) (fun _ _ _ h => h) (Or.inl ⟨by kernel_rfl, ?_⟩) (fun _ => by assumption) ?_
        rotate_left
        · (intro W9 hSw; go_simp; (try with_reducible rfl))
        try simp only [Act.put, List.getElem_toArray, List.getElem_cons_succ, List.getElem_cons_zero, List.setIfInBounds_toArray, List.set_cons_zero, List.set_cons_succ]
        refine oneT (i := 11) rfl (by kernel_rfl) (fun K hK => ?_)
        rw [if_pos (by kernel_rfl)]
        obtain ⟨wz, sa, xz, far, fb⟩ := find_put q5 ZB.out (n4 z3) A n c B m d C k e9
        refine wp_storeR 27 (.tmp 19) (.tmp 136) rfl rfl rfl sa rfl ?_
        clear sa
        refine hK.out _ _ (fun h => absurd (show true = false from h) (by decide)) ?_
        clear hK K
        try simp only [Act.put, List.getElem_toArray, List.getElem_cons_succ, List.getElem_cons_zero, List.setIfInBounds_toArray, List.set_cons_zero, List.set_cons_succ]
        refine oneT (i := 12) rfl (by kernel_rfl) (fun K hK => ?_)
        rw [if_pos (by kernel_rfl)]
        go_wp2_with (fail)
        refine hK.out _ _ (fun h => absurd (show true = false from h) (by decide)) ?_
        clear hK K
        try simp only [Act.put, List.getElem_toArray, List.getElem_cons_succ, List.getElem_cons_zero, List.setIfInBounds_toArray, List.set_cons_zero, List.set_cons_succ]
        refine doneT (by kernel_rfl) ?_ _
        go_wp2_with (fail)
        have XZ := Lib.hid (xz w hS5.out YL.out)
        have hu : Is _ A n c [2, 1, 0, 0] := HD.out.u
        have hn4 : n = 4 := hu.len.symm
        subst hn4
        have M19 : RowKit.Hid (∃ U c, wz.cell? ⟨y, 4, none⟩ = some (.slice U 4 c) ∧ Is wz U 4 c [2, 1, 0, 0]) := Lib.hid ⟨A, c, fb.c4, is_put hu (by omega) (by decide) ZB.out far⟩
        exact HK.out _ _ (part16 (Lib.hid (F13.out.ext (XZ.out))) (Lib.hid (F15.out.ext (XZ.out))) M19 (Lib.hid (XW.out.trans (XZ.out))))
    · rw [if_pos (by kernel_rfl)]
      have hra := run_alloc_find q1
      have zb := heap_alloc_new q1 zfind
      have xq := Ext.alloc q1 zfind
      obtain ⟨y, hy⟩ : ∃ y, q1.heap.size = y := ⟨_, rfl⟩
      obtain ⟨q2, hq⟩ : ∃ q, q1.alloc zfind = q := ⟨_, rfl⟩
      rw [hq, hy] at hra zb
      rw [hq] at xq
      have hS2 : (fun Wx : World => Hid (Ext w Wx)) q2 := Lib.hid (hS1.out.trans xq)
      have ZB := Lib.hid zb
      have YL := Lib.hid (show w.heap.size ≤ y by rw [← hy]; exact hS1.out.size)
      have RAY := Lib.hid hra
      have BM3 := Lib.hid (BM3.out.ext xq)
      clear hra zb xq hy hq
      refine wp_allocR 27 rfl _ RAY.out rfl ?_
      clear RAY
      refine hK.out _ _ (fun _ => hS2) ?_
      clear hK K
      try simp only [Act.put, List.getElem_toArray, List.getElem_cons_succ, List.getElem_cons_zero, List.setIfInBounds_toArray, List.set_cons_zero, List.set_cons_succ]
      refine oneT (i := 1) rfl (by kernel_rfl) (fun K hK => ?_)
      rw [if_pos (by kernel_rfl)]
      obtain ⟨xm1, q3, rm, bm, xq⟩ := make_big q2 65537 (by omega)
      obtain ⟨z1, hz1, hl1⟩ : ∃ z : List UInt8, List.replicate 65537 0 = z ∧ RowKit.Hid (z.length = 65537) := ⟨_, rfl, Lib.hid List.length_replicate⟩
      rw [hz1] at bm
      clear hz1
      have rm : (Instr.makeSlice 35 (.int .i64 65537) (.int .i64 65537)).run Try.prog q2 = .ok (.slice (some ⟨xm1, 0, none⟩) 65537 65537) q3 := rm
      have hS3 : (fun Wx : World => Hid (Ext w Wx)) q3 := Lib.hid (hS2.out.trans xq)
      have BM1 := Lib.hid bm
      have BM3 := Lib.hid (BM3.out.ext xq)
      have ZB := Lib.hid ((xq.block _ (Array.getElem?_eq_some_iff.1 ZB.out).1).trans ZB.out)
      clear bm xq
      go_wp2_with (fail)
      clear rm
      refine hK.out _ _ (fun _ => hS3) ?_
      clear hK K
      try simp only [Act.put, List.getElem_toArray, List.getElem_cons_succ, List.getElem_cons_zero, List.setIfInBounds_toArray, List.set_cons_zero, List.set_cons_succ]
      refine takeC [] (i := 2) (v := ?_) rfl (by kernel_rfl) (by kernel_rfl) (by kernel_rfl) (by kernel_rfl) (by decide) (fun _ _ _ h => h) (by kernel_rfl) (Or.inl ⟨by kernel_rfl, ?_⟩) (by assumption) ?_
      rotate_left
      · (intro W9 hSw; go_simp; (try with_reducible rfl))
      try simp only [Act.put, List.getElem_toArray, List.getElem_cons_succ, List.getElem_cons_zero, List.setIfInBounds_toArray, List.set_cons_zero, List.set_cons_succ]
      refine oneT (i := 5) rfl (by kernel_rfl) (fun K hK => ?_)
      rw [if_pos (by kernel_rfl)]
      obtain ⟨q4, hq⟩ : ∃ q, q3.alloc (.cells #[.bool false, .int .i64 0, .int .i64 0, .slice (some ⟨xm1, 0, none⟩) 65537 65537, .bool false, .int .i64 1, .int .i64 0, .slice (some ⟨xm3, 0, none⟩) 65536 65536] 37) = q := ⟨_, rfl⟩
      have xq : Ext q3 q4 := by rw [← hq]; exact Ext.alloc _ _
      obtain ⟨go, hgo⟩ : ∃ go, q3.heap.size = go := ⟨_, rfl⟩
      obtain ⟨fo, ho, FO⟩ : ∃ fo : Nat → Op13, Os13 q4 (some ⟨go, 0, none⟩) 2 2 fo ∧ RowKit.Hid (fo 0 = ⟨false, 0, 0, some ⟨xm1, 0, none⟩, 65537, 65537, z1⟩ ∧ fo 1 = ⟨false, 1, 0, some ⟨xm3, 0, none⟩, 65536, 65536, z3⟩) := ⟨fun k => if k = 0 then ⟨false, 0, 0, some ⟨xm1, 0, none⟩, 65537, 65537, z1⟩ else if k = 1 then ⟨false, 1, 0, some ⟨xm3, 0, none⟩, 65536, 65536, z3⟩ else default, os_cells _ go _ (0, 0) (by rw [← hq, ← hgo]; exact heap_alloc_new _ _) 2 _ (by omega) (fun k hk => by
        match k, hk with
        | 0, _ => exact ⟨rfl, rfl, rfl, rfl, BM1.out.ext xq⟩
        | 1, _ => exact ⟨rfl, rfl, rfl, rfl, BM3.out.ext xq⟩), Lib.hid ⟨rfl, rfl⟩⟩
      have OO := Lib.hid ho
      clear ho
      have hS4 : (fun Wx : World => Hid (Ext w Wx)) q4 := Lib.hid (hS3.out.trans xq)
      have BM3 := Lib.hid (BM3.out.ext xq)
      have ZB := Lib.hid ((xq.block _ (Array.getElem?_eq_some_iff.1 ZB.out).1).trans ZB.out)
      have BM1 := Lib.hid (BM1.out.ext xq)
      clear xq
      go_wp2_with (fail)
      try rw [hgo]
      try rw [hq]
      clear hq hgo
      refine hK.out _ _ (fun _ => hS4) ?_
      clear hK K
      try simp only [Act.put, List.getElem_toArray, List.getElem_cons_succ, List.getElem_cons_zero, List.setIfInBounds_toArray, List.set_cons_zero, List.set_cons_succ]
      refine oneT (i := 6) rfl (by kernel_rfl) (fun K hK => ?_)
      rw [if_pos (by kernel_rfl)]
      have hT := told13_any q4 n0 _ _ _ _ _ _ _ _ _ (FD.out _ hS4.out) nu_begin.2.2 _ _ _ _ OO.out (fun i hi => by
        have hi : i < 2 := hi
        rcases (show i = 0 ∨ i = 1 by omega) with rfl | rfl
        · rw [FO.out.1]
          show (0 : Int) ≤ 0 ∧ (0 : Int) < 4
          omega
        · rw [FO.out.2]
          show (0 : Int) ≤ 1 ∧ (1 : Int) < 4
          omega)
      have hN : tolds n0 fo 2 = n4 z3 := by
        show Finds.toldF (Finds.toldF n0 (fo 0).index (fo 0).e (fo 0).b) (fo 1).index (fo 1).e (fo 1).b = _
        rw [FO.out.1, FO.out.2]
        exact nu_big2 _ _ hl1.out hl3.out
      rw [hN] at hT
      have HT := Lib.hid hT
      clear hT
      go_wp2_with (fail)
      with_reducible refine HT.out.mono ?_
      rintro e q5 ⟨A, n, c, B, m, d, C, k, e9, rfl, hd, xq⟩
      have hS5 : (fun Wx : World => Hid (Ext w Wx)) q5 := Lib.hid (hS4.out.trans xq)
      have HD := Lib.hid hd
      have BM3 := Lib.hid (BM3.out.ext xq)
      have ZB := Lib.hid ((xq.block _ (Array.getElem?_eq_some_iff.1 ZB.out).1).trans ZB.out)
      have BM1 := Lib.hid (BM1.out.ext xq)
      have OO := Lib.hid (OO.out.ext xq)
      clear hd xq HT
      go_wp2_with (fail)
      refine hK.out _ _ (fun _ => hS5) ?_
      clear hK K
      try simp only [Act.put, List.getElem_toArray, List.getElem_cons_succ, List.getElem_cons_zero, List.setIfInBounds_toArray, List.set_cons_zero, List.set_cons_succ]
      refine takeC [] (i := 7) (v := ?_) rfl (by kernel_rfl) (by kernel_rfl) (by kernel_rfl) (by kernel_rfl) (by decide) (fun _ _ _ h => h) (by kernel_rfl) (Or.inl ⟨by kernel_rfl, ?_⟩) (by assumption) ?_
      rotate_left
      · (intro W9 hSw; go_simp; (try with_reducible rfl))
      try simp only [Act.put, List.getElem_toArray, List.getElem_cons_succ, List.getElem_cons_zero, List.setIfInBounds_toArray, List.set_cons_zero, List.set_cons_succ]
      refine takeC [] (i := 8) (v := ?_) rfl (by kernel_rfl) (by kernel_rfl) (by kernel_rfl) (by kernel_rfl) (by decide) (fun _ _ _ h => h) (by kernel_rfl) (Or.inl ⟨by kernel_rfl, ?_⟩) (by assumption) ?_
      rotate_left
      · (intro W9 hSw; go_simp; (try with_reducible rfl))
      try simp only [Act.put, List.getElem_toArray, List.getElem_cons_succ, List.getElem_cons_zero, List.setIfInBounds_toArray, List.set_cons_zero, List.set_cons_succ]
      refine pureT (i := 9) (v := ?_) rfl (by kernel_rfl) (by kernel_rfl) (by kernel_rfl) (by decide) (fun _ _ _ h => h) (Or.inl ⟨by kernel_rfl, ?_⟩) (fun _ => by assumption) ?_
      rotate_left
      · (intro W9 hSw; go_simp; (try with_reducible rfl))
      try simp only [Act.put, List.getElem_toArray, List.getElem_cons_succ, List.getElem_cons_zero, List.setIfInBounds_toArray, List.set_cons_zero, List.set_cons_succ]
      refine oneT (i := 11) rfl (by kernel_rfl) (fun K hK => ?_)
      rw [if_pos (by kernel_rfl)]
      obtain ⟨wz, sa, xz, far, fb⟩ := find_put q5 ZB.out (n4 z3) A n c B m d C k e9
      refine wp_storeR 27 (.tmp 19) (.tmp 136) rfl rfl rfl sa rfl ?_
      clear sa
      refine hK.out _ _ (fun h => absurd (show true = false from h) (by decide)) ?_
      clear hK K
      try simp only [Act.put, List.getElem_toArray, List.getElem_cons_succ, List.getElem_cons_zero, List.setIfInBounds_toArray, List.set_cons_zero, List.set_cons_succ]
      refine oneT (i := 12) rfl (by kernel_rfl) (fun K hK => ?_)
      rw [if_pos (by kernel_rfl)]
      go_wp2_with (fail)
      refine hK.out _ _ (fun h => absurd (show true = false from h) (by decide)) ?_
      clear hK K
      try simp only [Act.put, List.getElem_toArray, List.getElem_cons_succ, List.getElem_cons_zero, List.setIfInBounds_toArray, List.set_cons_zero, List.set_cons_succ]
      refine doneT (by kernel_rfl) ?_ _
      go_wp2_with (fail)
      have XZ := Lib.hid (xz w hS5.out YL.out)
      have hu : Is _ A n c [2, 1, 0, 0] := HD.out.u
      have hn4 : n = 4 := hu.len.symm
      subst hn4
      have M19 : RowKit.Hid (∃ U c, wz.cell? ⟨y, 4, none⟩ = some (.slice U 4 c) ∧ Is wz U 4 c [2, 1, 0, 0]) := Lib.hid ⟨A, c, fb.c4, is_put hu (by omega) (by decide) ZB.out far⟩
      exact HK.out _ _ (part16 (Lib.hid (F13.out.ext (XZ.out))) (Lib.hid (F15.out.ext (XZ.out))) M19 (Lib.hid (XW.out.trans (XZ.out))))
  · rw [if_pos (by kernel_rfl)]
    have hra := run_alloc_find w.drew
    have zb := heap_alloc_new w.drew zfind
    have xq := Ext.alloc w.drew zfind
    obtain ⟨y, hy⟩ : ∃ y, w.drew.heap.size = y := ⟨_, rfl⟩
    obtain ⟨q1, hq⟩ : ∃ q, w.drew.alloc zfind = q := ⟨_, rfl⟩
    rw [hq, hy] at hra zb
    rw [hq] at xq
    have hS1 : (fun Wx : World => Hid (Ext w Wx)) q1 := Lib.hid (hS0.out.trans xq)
    have ZB := Lib.hid zb
    have YL := Lib.hid (show w.heap.size ≤ y by rw [← hy]; exact hS0.out.size)
    have RAY := Lib.hid hra
    clear hra zb xq hy hq
    refine wp_allocR 27 rfl _ RAY.out rfl ?_
    clear RAY
    refine hK.out _ _ (fun _ => hS1) ?_
    clear hK K
    try simp only [Act.put, List.getElem_toArray, List.getElem_cons_succ, List.getElem_cons_zero, List.setIfInBounds_toArray, List.set_cons_zero, List.set_cons_succ]
    refine twoT (i := 1) (j := 3) rfl rfl (by kernel_rfl) (fun K hK => ?_) (fun K hK => ?_)
    · rw [if_pos (by kernel_rfl)]
      obtain ⟨xm1, q2, rm, bm, xq⟩ := make_big q1 65537 (by omega)
      obtain ⟨z1, hz1, hl1⟩ : ∃ z : List UInt8, List.replicate 65537 0 = z ∧ RowKit.Hid (z.length = 65537) := ⟨_, rfl, Lib.hid List.length_replicate⟩
      rw [hz1] at bm
      clear hz1
      have rm : (Instr.makeSlice 35 (.int .i64 65537) (.int .i64 65537)).run Try.prog q1 = .ok (.slice (some ⟨xm1, 0, none⟩) 65537 65537) q2 := rm
      have hS2 : (fun Wx : World => Hid (Ext w Wx)) q2 := Lib.hid (hS1.out.trans xq)
      have BM1 := Lib.hid bm
      have ZB := Lib.hid ((xq.block _ (Array.getElem?_eq_some_iff.1 ZB.out).1).trans ZB.out)
      clear bm xq
      go_wp2_with (fail)
      clear rm
      refine hK.out _ _ (fun _ => hS2) ?_
      clear hK K
      try simp only [Act.put, List.getElem_toArray, List.getElem_cons_succ, List.getElem_cons_zero, List.setIfInBounds_toArray, List.set_cons_zero, List.set_cons_succ]
      refine takeC [] (i := 2) (v := ?_) rfl (by kernel_rfl) (by kernel_rfl) (by kernel_rfl) (by kernel_rfl) (by decide) (fun _ _ _ h => h) (by kernel_rfl) (Or.inl ⟨by kernel_rfl, ?_⟩) (by assumption) ?_
      rotate_left
      · (intro W9 hSw; go_simp; (try with_reducible rfl))
      try simp only [Act.put, List.getElem_toArray, List.getElem_cons_succ, List.getElem_cons_zero, List.setIfInBounds_toArray, List.set_cons_zero, List.set_cons_succ]
      refine oneT (i := 3) rfl (by kernel_rfl) (fun K hK => ?_)
      rw [if_pos (by kernel_rfl)]
      obtain ⟨xm3, q3, rm, bm, xq⟩ := make_big q2 65536 (by omega)
      obtain ⟨z3, hz3, hl3⟩ : ∃ z : List UInt8, List.replicate 65536 0 = z ∧ RowKit.Hid (z.length = 65536) := ⟨_, rfl, Lib.hid List.length_replicate⟩
      rw [hz3] at bm
      clear hz3
      have rm : (Instr.makeSlice 35 (.int .i64 65536) (.int .i64 65536)).run Try.prog q2 = .ok (.slice (some ⟨xm3, 0, none⟩) 65536 65536) q3 := rm
      have hS3 : (fun Wx : World => Hid (Ext w Wx)) q3 := Lib.hid (hS2.out.trans xq)
      have BM3 := Lib.hid bm
      have ZB := Lib.hid ((xq.block _ (Array.getElem?_eq_some_iff.1 ZB.out).1).trans ZB.out)
      have BM1 := Lib.hid (BM1.out.ext xq)
      clear bm xq
      go_wp2_with (fail)
      clear rm
      refine hK.out _ _ (fun _ => hS3) ?_
      clear hK K
      try simp only [Act.put, List.getElem_toArray, List.getElem_cons_succ, List.getElem_cons_zero, List.setIfInBounds_toArray, List.set_cons_zero, List.set_cons_succ]
      refine takeC [] (i := 4) (v := ?_) rfl (by kernel_rfl) (by kernel_rfl) (by kernel_rfl) (by kernel_rfl) (by decide) (fun _ _ _ h => h) (by kernel_rfl) (Or.inl ⟨by kernel_rfl, ?_⟩) (by assumption) ?_
      rotate_left
      · (intro W9 hSw; go_simp; (try with_reducible rfl))
      try simp only [Act.put, List.getElem_toArray, List.getElem_cons_succ, List.getElem_cons_zero, List.setIfInBounds_toArray, List.set_cons_zero, List.set_cons_succ]
      refine oneT (i := 5) rfl (by kernel_rfl) (fun K hK => ?_)
      rw [if_pos (by kernel_rfl)]
      obtain ⟨q4, hq⟩ : ∃ q, q3.alloc (.cells #[.bool false, .int .i64 0, .int .i64 0, .slice (some ⟨xm1, 0, none⟩) 65537 65537, .bool false, .int .i64 1, .int .i64 0, .slice (some ⟨xm3, 0, none⟩) 65536 65536] 37) = q := ⟨_, rfl⟩
      have xq : Ext q3 q4 := by rw [← hq]; exact Ext.alloc _ _
      obtain ⟨go, hgo⟩ : ∃ go, q3.heap.size = go := ⟨_, rfl⟩
      obtain ⟨fo, ho, FO⟩ : ∃ fo : Nat → Op13, Os13 q4 (some ⟨go, 0, none⟩) 2 2 fo ∧ RowKit.Hid (fo 0 = ⟨false, 0, 0, some ⟨xm1, 0, none⟩, 65537, 65537, z1⟩ ∧ fo 1 = ⟨false, 1, 0, some ⟨xm3, 0, none⟩, 65536, 65536, z3⟩) := ⟨fun k => if k = 0 then ⟨false, 0, 0, some ⟨xm1, 0, none⟩, 65537, 65537, z1⟩ else if k = 1 then ⟨false, 1, 0, some ⟨xm3, 0, none⟩, 65536, 65536, z3⟩ else default, os_cells _ go _ (0, 0) (by rw [← hq, ← hgo]; exact heap_alloc_new _ _) 2 _ (by omega) (fun k hk => by
        match k, hk with
        | 0, _ => exact ⟨rfl, rfl, rfl, rfl, BM1.out.ext xq⟩
        | 1, _ => exact ⟨rfl, rfl, rfl, rfl, BM3.out.ext xq⟩), Lib.hid ⟨rfl, rfl⟩⟩
      have OO := Lib.hid ho
      clear ho
      have hS4 : (fun Wx : World => Hid (Ext w Wx)) q4 := Lib.hid (hS3.out.trans xq)
      have ZB := Lib.hid ((xq.block _ (Array.getElem?_eq_some_iff.1 ZB.out).1).trans ZB.out)
      have BM1 := Lib.hid (BM1.out.ext xq)
      have BM3 := Lib.hid (BM3.out.ext xq)
      clear xq
      go_wp2_with (fail)
      try rw [hgo]
      try rw [hq]
      clear hq hgo
      refine hK.out _ _ (fun _ => hS4) ?_
      clear hK K
      try simp only [Act.put, List.getElem_toArray, List.getElem_cons_succ, List.getElem_cons_zero, List.setIfInBounds_toArray, List.set_cons_zero, List.set_cons_succ]
      refine oneT (i := 6) rfl (by kernel_rfl) (fun K hK => ?_)
      rw [if_pos (by kernel_rfl)]
      have hT := told13_any q4 n0 _ _ _ _ _ _ _ _ _ (FD.out _ hS4.out) nu_begin.2.2 _ _ _ _ OO.out (fun i hi => by
        have hi : i < 2 := hi
        rcases (show i = 0 ∨ i = 1 by omega) with rfl | rfl
        · rw [FO.out.1]
          show (0 : Int) ≤ 0 ∧ (0 : Int) < 4
          omega
        · rw [FO.out.2]
          show (0 : Int) ≤ 1 ∧ (1 : Int) < 4
          omega)
      have hN : tolds n0 fo 2 = n4 z3 := by
        show Finds.toldF (Finds.toldF n0 (fo 0).index (fo 0).e (fo 0).b) (fo 1).index (fo 1).e (fo 1).b = _
        rw [FO.out.1, FO.out.2]
        exact nu_big2 _ _ hl1.out hl3.out
      rw [hN] at hT
      have HT := Lib.hid hT
      clear hT
      go_wp2_with (fail)
      with_reducible refine HT.out.mono ?_
      rintro e q5 ⟨A, n, c, B, m, d, C, k, e9, rfl, hd, xq⟩
      have hS5 : (fun Wx : World => Hid (Ext w Wx)) q5 := Lib.hid (hS4.out.trans xq)
      have HD := Lib.hid hd
      have ZB := Lib.hid ((xq.block _ (Array.getElem?_eq_some_iff.1 ZB.out).1).trans ZB.out)
      have BM1 := Lib.hid (BM1.out.ext xq)
      have BM3 := Lib.hid (BM3.out.ext xq)
      have OO := Lib.hid (OO.out.ext xq)
      clear hd xq HT
      go_wp2_with (fail)
      refine hK.out _ _ (fun _ => hS5) ?_
      clear hK K
      try simp only [Act.put, List.getElem_toArray, List.getElem_cons_succ, List.getElem_cons_zero, List.setIfInBounds_toArray, List.set_cons_zero, List.set_cons_succ]
      refine takeC [] (i := 7) (v := ?_) rfl (by kernel_rfl) (by kernel_rfl) (by kernel_rfl) (by kernel_rfl) (by decide) (fun _ _ _ h => h) (by kernel_rfl) (Or.inl ⟨by kernel_rfl, ?_⟩) (by assumption) ?_
      rotate_left
      · (intro W9 hSw; go_simp; (try with_reducible rfl))
      try simp only [Act.put, List.getElem_toArray, List.getElem_cons_succ, List.getElem_cons_zero, List.setIfInBounds_toArray, List.set_cons_zero, List.set_cons_succ]
      refine takeC [] (i := 8) (v := ?_) rfl (by kernel_rfl) (by kernel_rfl) (by kernel_rfl) (by kernel_rfl) (by decide) (fun _ _ _ h => h) (by kernel_rfl) (Or.inl ⟨by kernel_rfl, ?_⟩) (by assumption) ?_
      rotate_left
      · (intro W9 hSw; go_simp; (try with_reducible rfl))
      try simp only [Act.put, List.getElem_toArray, List.getElem_cons_succ, List.getElem_cons_zero, List.setIfInBounds_toArray, List.set_cons_zero, List.set_cons_succ]
      refine pureT (i := 9) (v := ?_) rfl (by kernel_rfl) (by kernel_rfl) (by kernel_rfl) (by decide) (fun _ _ _ h => h) (Or.inl ⟨by kernel_rfl, ?_⟩) (fun _ => by assumption) ?_
      rotate_left
      · (intro W9 hSw; go_simp; (try with_reducible rfl))
      try simp only [Act.put, List.getElem_toArray, List.getElem_cons_succ, List.getElem_cons_zero, List.setIfInBounds_toArray, List.set_cons_zero, List.set_cons_succ]
      refine oneT (i := 11) rfl (by kernel_rfl) (fun K hK => ?_)
      rw [if_pos (by kernel_rfl)]
      obtain ⟨wz, sa, xz, far, fb⟩ := find_put q5 ZB.out (n4 z3) A n c B m d C k e9
      refine wp_storeR 27 (.tmp 19) (.tmp 136) rfl rfl rfl sa rfl ?_
      clear sa
      refine hK.out _ _ (fun h => absurd (show true = false from h) (by decide)) ?_
      clear hK K
      try simp only [Act.put, List.getElem_toArray, List.getElem_cons_succ, List.getElem_cons_zero, List.setIfInBounds_toArray, List.set_cons_zero, List.set_cons_succ]
      refine oneT (i := 12) rfl (by kernel_rfl) (fun K hK => ?_)
      rw [if_pos (by kernel_rfl)]
      go_wp2_with (fail)
      refine hK.out _ _ (fun h => absurd (show true = false from h) (by decide)) ?_
      clear hK K
      try simp only [Act.put, List.getElem_toArray, List.getElem_cons_succ, List.getElem_cons_zero, List.setIfInBounds_toArray, List.set_cons_zero, List.set_cons_succ]
      refine doneT (by kernel_rfl) ?_ _
      go_wp2_with (fail)
      have XZ := Lib.hid (xz w hS5.out YL.out)
      have hu : Is _ A n c [2, 1, 0, 0] := HD.out.u
      have hn4 : n = 4 := hu.len.symm
      subst hn4
      have M19 : RowKit.Hid (∃ U c, wz.cell? ⟨y, 4, none⟩ = some (.slice U 4 c) ∧ Is wz U 4 c [2, 1, 0, 0]) := Lib.hid ⟨A, c, fb.c4, is_put hu (by omega) (by decide) ZB.out far⟩
      exact HK.out _ _ (part16 (Lib.hid (F13.out.ext (XZ.out))) (Lib.hid (F15.out.ext (XZ.out))) M19 (Lib.hid (XW.out.trans (XZ.out))))
    · rw [if_pos (by kernel_rfl)]
      obtain ⟨xm3, q2, rm, bm, xq⟩ := make_big q1 65536 (by omega)
      obtain ⟨z3, hz3, hl3⟩ : ∃ z : List UInt8, List.replicate 65536 0 = z ∧ RowKit.Hid (z.length = 65536) := ⟨_, rfl, Lib.hid List.length_replicate⟩
      rw [hz3] at bm
      clear hz3
      have rm : (Instr.makeSlice 35 (.int .i64 65536) (.int .i64 65536)).run Try.prog q1 = .ok (.slice (some ⟨xm3, 0, none⟩) 65536 65536) q2 := rm
      have hS2 : (fun Wx : World => Hid (Ext w Wx)) q2 := Lib.hid (hS1.out.trans xq)
      have BM3 := Lib.hid bm
      have ZB := Lib.hid ((xq.block _ (Array.getElem?_eq_some_iff.1 ZB.out).1).trans ZB.out)
      clear bm xq
      go_wp2_with (fail)
      clear rm
      refine hK.out _ _ (fun _ => hS2) ?_
      clear hK K
      try simp only [Act.put, List.getElem_toArray, List.getElem_cons_succ, List.getElem_cons_zero, List.setIfInBounds_toArray, List.set_cons_zero, List.set_cons_succ]
      refine takeC [] (i := 4) (v := ?_) rfl (by kernel_rfl) (by kernel_rfl) (by kernel_rfl) (by kernel_rfl) (by decide) (fun _ _ _ h => h) (by kernel_rfl) (Or.inl ⟨by kernel_rfl, ?_⟩) (by assumption) ?_
      rotate_left
      · (intro W9 hSw; go_simp; (try with_reducible rfl))
      try simp only [Act.put, List.getElem_toArray, List.getElem_cons_succ, List.getElem_cons_zero, List.setIfInBounds_toArray, List.set_cons_zero, List.set_cons_succ]
      refine oneT (i := 1) rfl (by kernel_rfl) (fun K hK => ?_)
      rw [if_pos (by kernel_rfl)]
      obtain ⟨xm1, q3, rm, bm, xq⟩ := make_big q2 65537 (by omega)
      obtain ⟨z1, hz1, hl1⟩ : ∃ z : List UInt8, List.replicate 65537 0 = z ∧ RowKit.Hid (z.length = 65537) := ⟨_, rfl, Lib.hid List.length_replicate⟩
      rw [hz1] at bm
      clear hz1
      have rm : (Instr.makeSlice 35 (.int .i64 65537) (.int .i64 65537)).run Try.prog q2 = .ok (.slice (some ⟨xm1, 0, none⟩) 65537 65537) q3 := rm
      have hS3 : (fun Wx : World => Hid (Ext w Wx)) q3 := Lib.hid (hS2.out.trans xq)
      have BM1 := Lib.hid bm
      have ZB := Lib.hid ((xq.block _ (Array.getElem?_eq_some_iff.1 ZB.out).1).trans ZB.out)
      have BM3 := Lib.hid (BM3.out.ext xq)
      clear bm xq
      go_wp2_with (fail)
      clear rm
      refine hK.out _ _ (fun _ => hS3) ?_
      clear hK K
      try simp only [Act.put, List.getElem_toArray, List.getElem_cons_succ, List.getElem_cons_zero, List.setIfInBounds_toArray, List.set_cons_zero, List.set_cons_succ]
      refine takeC [] (i := 2) (v := ?_) rfl (by kernel_rfl) (by kernel_rfl) (by kernel_rfl) (by kernel_rfl) (by decide) (fun _ _ _ h => h) (by kernel_rfl) (Or.inl ⟨by kernel_rfl, ?_⟩) (by assumption) ?_
      rotate_left
      · (intro W9 hSw; go_simp; (try with_reducible rfl))
      try simp only [Act.put, List.getElem_toArray, List.getElem_cons_succ, List.getElem_cons_zero, List.setIfInBounds_toArray, List.set_cons_zero, List.set_cons_succ]
      refine oneT (i := 5) rfl (by kernel_rfl) (fun K hK => ?_)
      rw [if_pos (by kernel_rfl)]
      obtain ⟨q4, hq⟩ : ∃ q, q3.alloc (.cells #[.bool false, .int .i64 0, .int .i64 0, .slice (some ⟨xm1, 0, none⟩) 65537 65537, .bool false, .int .i64 1, .int .i64 0, .slice (some ⟨xm3, 0, none⟩) 65536 65536] 37) = q := ⟨_, rfl⟩
      have xq : Ext q3 q4 := by rw [← hq]; exact Ext.alloc _ _
      obtain ⟨go, hgo⟩ : ∃ go, q3.heap.size = go := ⟨_, rfl⟩
      obtain ⟨fo, ho, FO⟩ : ∃ fo : Nat → Op13, Os13 q4 (some ⟨go, 0, none⟩) 2 2 fo ∧ RowKit.Hid (fo 0 = ⟨false, 0, 0, some ⟨xm1, 0, none⟩, 65537, 65537, z1⟩ ∧ fo 1 = ⟨false, 1, 0, some ⟨xm3, 0, none⟩, 65536, 65536, z3⟩) := ⟨fun k => if k = 0 then ⟨false, 0, 0, some ⟨xm1, 0, none⟩, 65537, 65537, z1⟩ else if k = 1 then ⟨false, 1, 0, some ⟨xm3, 0, none⟩, 65536, 65536, z3⟩ else default, os_cells _ go _ (0, 0) (by rw [← hq, ← hgo]; exact heap_alloc_new _ _) 2 _ (by omega) (fun k hk => by
        match k, hk with
        | 0, _ => exact ⟨rfl, rfl, rfl, rfl, BM1.out.ext xq⟩
        | 1, _ => exact ⟨rfl, rfl, rfl, rfl, BM3.out.ext xq⟩), Lib.hid ⟨rfl, rfl⟩⟩
      have OO := Lib.hid ho
      clear ho
      have hS4 : (fun Wx : World => Hid (Ext w Wx)) q4 := Lib.hid (hS3.out.trans xq)
      have ZB := Lib.hid ((xq.block _ (Array.getElem?_eq_some_iff.1 ZB.out).1).trans ZB.out)
      have BM3 := Lib.hid (BM3.out.ext xq)
      have BM1 := Lib.hid (BM1.out.ext xq)
      clear xq
      go_wp2_with (fail)
      try rw [hgo]
      try rw [hq]
      clear hq hgo
      refine hK.out _ _ (fun _ => hS4) ?_
      clear hK K
      try simp only [Act.put, List.getElem_toArray, List.getElem_cons_succ, List.getElem_cons_zero, List.setIfInBounds_toArray, List.set_cons_zero, List.set_cons_succ]
      refine oneT (i := 6) rfl (by kernel_rfl) (fun K hK => ?_)
      rw [if_pos (by kernel_rfl)]
      have hT := told13_any q4 n0 _ _ _ _ _ _ _ _ _ (FD.out _ hS4.out) nu_begin.2.2 _ _ _ _ OO.out (fun i hi => by
        have hi : i < 2 := hi
        rcases (show i = 0 ∨ i = 1 by omega) with rfl | rfl
        · rw [FO.out.1]
          show (0 : Int) ≤ 0 ∧ (0 : Int) < 4
          omega
        · rw [FO.out.2]
          show (0 : Int) ≤ 1 ∧ (1 : Int) < 4
          omega)
      have hN : tolds n0 fo 2 = n4 z3 := by
        show Finds.toldF (Finds.toldF n0 (fo 0).index (fo 0).e (fo 0).b) (fo 1).index (fo 1).e (fo 1).b = _
        rw [FO.out.1, FO.out.2]
        exact nu_big2 _ _ hl1.out hl3.out
      rw [hN] at hT
      have HT := Lib.hid hT
      clear hT
      go_wp2_with (fail)
      with_reducible refine HT.out.mono ?_
      rintro e q5 ⟨A, n, c, B, m, d, C, k, e9, rfl, hd, xq⟩
      have hS5 : (fun Wx : World => Hid (Ext w Wx)) q5 := Lib.hid (hS4.out.trans xq)
      have HD := Lib.hid hd
      have ZB := Lib.hid ((xq.block _ (Array.getElem?_eq_some_iff.1 ZB.out).1).trans ZB.out)
      have BM3 := Lib.hid (BM3.out.ext xq)
      have BM1 := Lib.hid (BM1.out.ext xq)
      have OO := Lib.hid (OO.out.ext xq)
      clear hd xq HT
      go_wp2_with (fail)
      refine hK.out _ _ (fun _ => hS5) ?_
      clear hK K
      try simp only [Act.put, List.getElem_toArray, List.getElem_cons_succ, List.getElem_cons_zero, List.setIfInBounds_toArray, List.set_cons_zero, List.set_cons_succ]
      refine takeC [] (i := 7) (v := ?_) rfl (by kernel_rfl) (by kernel_rfl) (by kernel_rfl) (by kernel_rfl) (by decide) (fun _ _ _ h => h) (by kernel_rfl) (Or.inl ⟨by kernel_rfl, ?_⟩) (by assumption) ?_
      rotate_left
      · (intro W9 hSw; go_simp; (try with_reducible rfl))
      try simp only [Act.put, List.getElem_toArray, List.getElem_cons_succ, List.getElem_cons_zero, List.setIfInBounds_toArray, List.set_cons_zero, List.set_cons_succ]
      refine takeC [] (i := 8) (v := ?_) rfl (by kernel_rfl) (by kernel_rfl) (by kernel_rfl) (by kernel_rfl) (by decide) (fun _ _ _ h => h) (by kernel_rfl) (Or.inl ⟨by kernel_rfl, ?_⟩) (by assumption) ?_
      rotate_left
      · (intro W9 hSw; go_simp; (try with_reducible rfl))
      try simp only [Act.put, List.getElem_toArray, List.getElem_cons_succ, List.getElem_cons_zero, List.setIfInBounds_toArray, List.set_cons_zero, List.set_cons_succ]
      refine pureT (i := 9) (v := ?_) rfl (by kernel_rfl) (by kernel_rfl) (by kernel_rfl) (by decide) (fun _ _ _ h => h) (Or.inl ⟨by kernel_rfl, ?_⟩) (fun _ => by assumption) ?_
      rotate_left
      · (intro W9 hSw; go_simp; (try with_reducible rfl))
      try simp only [Act.put, List.getElem_toArray, List.getElem_cons_succ, List.getElem_cons_zero, List.setIfInBounds_toArray, List.set_cons_zero, List.set_cons_succ]
      refine oneT (i := 11) rfl (by kernel_rfl) (fun K hK => ?_)
      rw [if_pos (by kernel_rfl)]
      obtain ⟨wz, sa, xz, far, fb⟩ := find_put q5 ZB.out (n4 z3) A n c B m d C k e9
      refine wp_storeR 27 (.tmp 19) (.tmp 136) rfl rfl rfl sa rfl ?_
      clear sa
      refine hK.out _ _ (fun h => absurd (show true = false from h) (by decide)) ?_
      clear hK K
      try simp only [Act.put, List.getElem_toArray, List.getElem_cons_succ, List.getElem_cons_zero, List.setIfInBounds_toArray, List.set_cons_zero, List.set_cons_succ]
      refine oneT (i := 12) rfl (by kernel_rfl) (fun K hK => ?_)
      rw [if_pos (by kernel_rfl)]
      go_wp2_with (fail)
      refine hK.out _ _ (fun h => absurd (show true = false from h) (by decide)) ?_
      clear hK K
      try simp only [Act.put, List.getElem_toArray, List.getElem_cons_succ, List.getElem_cons_zero, List.setIfInBounds_toArray, List.set_cons_zero, List.set_cons_succ]
      refine doneT (by kernel_rfl) ?_ _
      go_wp2_with (fail)
      have XZ := Lib.hid (xz w hS5.out YL.out)
      have hu : Is _ A n c [2, 1, 0, 0] := HD.out.u
      have hn4 : n = 4 := hu.len.symm
      subst hn4
      have M19 : RowKit.Hid (∃ U c, wz.cell? ⟨y, 4, none⟩ = some (.slice U 4 c) ∧ Is wz U 4 c [2, 1, 0, 0]) := Lib.hid ⟨A, c, fb.c4, is_put hu (by omega) (by decide) ZB.out far⟩
      exact HK.out _ _ (part16 (Lib.hid (F13.out.ext (XZ.out))) (Lib.hid (F15.out.ext (XZ.out))) M19 (Lib.hid (XW.out.trans (XZ.out))))
end Go.Proofs.Ytfpglkacjecoeaa
