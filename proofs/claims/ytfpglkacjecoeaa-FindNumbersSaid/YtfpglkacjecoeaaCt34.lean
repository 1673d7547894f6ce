/- Several texts in one: FindNumbers' walk from region 8 on. Rows of four numbers: the first loop of FindNumbers. No statement of the seat is proved here. FindNumbers' walk from region 1 on. -/
import Derived.Test.YtfpglkacjecoeaaCt33
import Derived.Test.YtfpglkacjecoeaaCt26
import Derived.Test.YtfpglkacjecoeaaCt25
namespace Go.Proofs.Ytfpglkacjecoeaa
open Go.RowKit

set_option maxRecDepth 100000 in
set_option maxHeartbeats 4000000 in
theorem part8 {w0 w : World}  {u0 u1 u2 u3 u4 u5 u6 u7 u8 u9 u10 u11 u12 u13 u14 u15 u16 u17 u18 u19 u20 u21 u22 u23 u24 u25 u26 u27 u28 u29 u30 u31 u32 u33 u34 u35 u36 u37 u38 u39 u40 u41 u42 u43 u44 u45 u46 u47 u48 u49 u50 u51 u52 u53 u54 u55 u56 u57 u58 u59 u60 u61 u62 u63 u64 u65 u66 u67 u68 u69 u70 u71 u72 u73 u74 u75 u76 u77 u78 u79 u80 u81 u82 u83 u84 u85 u86 u87 u88 u89 u90 u91 u92 u93 u94 u95 u96 u97 u98 u99 u100 u101 u102 u103 u104 u105 u106 u107 u108 u109 u110 u111 u112 u113 u114 u115 u116 u117 u118 u119 u120 u121 u122 u123 u124 u125 u126 u127 u128 u129 u130 u131 u132 u133 u134 u135 u136 u137 u138 u139 u140 u141 u142 u143 u144 u145 u146 u147 u148 u149 u150 u151 u152 u153 u154 u155 u156 u157 u158 u159 u160 u161 u162 u163 u164 u165 u166 u167 u168 u169 u170 u171 u172 u173 u174 u175 u176 u177 u178 u179 u180 u181 u182 u183 u184 u185 u186 u187 u188 u189 u190 u191 u192 u193 u194 u195 u196 u197 u198 u199 u200 u201 u202 u203 u204 u205 u206 u207 u208 u209 u210 u211 u212 u213 u214 u215 u216 u217 u218 u219 u220 u221 u222 u223 u224 u225 u226 u227 u228 u229 u230 u231 u232 u233 u234 u235 u236 u237 u238 u239 u240 u241 u242 u243 u244 u245 u246 u247 u248 u249 u250 u251 u252 u253 u254 u255 u256 u257 u258 u259 u260 u261 u262 u263 u264 u265 u266 u267 u268 u269 u270 u271 u272 u273 u274 u275 u276 u277 u278 u279 u280 u281 u282 u283 u284 u285 u286 u287 u288 u289 u290 u291 u292 u293 u294 u295 u296 u297 u298 u299 u300 u301 u302 u303 u304 u305 u306 u307 u308 u309 u310 u311 u312 u313 u314 u315 u316 u317 u318 u319 u320 u321 u322 u323 u324 : Value}  (XW : RowKit.Hid (Ext w0 w)) :
    (tailAt 2 (bodyOf Try.f3)).wp Try.prog (bodyPost Try.prog Try.f3 (fun e w' => e = .returned (.bool true) ∧ Ext w0 w')) { tmps := (u0 :: u1 :: u2 :: u3 :: u4 :: u5 :: u6 :: u7 :: u8 :: u9 :: u10 :: u11 :: u12 :: u13 :: u14 :: u15 :: u16 :: u17 :: u18 :: u19 :: u20 :: u21 :: u22 :: u23 :: u24 :: u25 :: u26 :: u27 :: u28 :: u29 :: u30 :: u31 :: u32 :: u33 :: u34 :: u35 :: u36 :: u37 :: u38 :: u39 :: u40 :: u41 :: u42 :: u43 :: u44 :: u45 :: u46 :: u47 :: u48 :: u49 :: u50 :: u51 :: u52 :: u53 :: u54 :: u55 :: u56 :: u57 :: u58 :: u59 :: u60 :: u61 :: u62 :: u63 :: u64 :: u65 :: u66 :: u67 :: u68 :: u69 :: u70 :: u71 :: u72 :: u73 :: u74 :: u75 :: u76 :: u77 :: u78 :: u79 :: u80 :: u81 :: u82 :: u83 :: u84 :: u85 :: u86 :: u87 :: u88 :: u89 :: u90 :: u91 :: u92 :: u93 :: u94 :: u95 :: u96 :: u97 :: u98 :: u99 :: u100 :: u101 :: u102 :: u103 :: u104 :: u105 :: u106 :: u107 :: u108 :: u109 :: u110 :: u111 :: u112 :: u113 :: u114 :: u115 :: u116 :: u117 :: u118 :: u119 :: u120 :: u121 :: u122 :: u123 :: u124 :: u125 :: u126 :: u127 :: u128 :: u129 :: u130 :: u131 :: u132 :: u133 :: u134 :: u135 :: u136 :: u137 :: u138 :: u139 :: u140 :: u141 :: u142 :: u143 :: u144 :: u145 :: u146 :: u147 :: u148 :: u149 :: u150 :: u151 :: u152 :: u153 :: u154 :: u155 :: u156 :: u157 :: u158 :: u159 :: u160 :: u161 :: u162 :: u163 :: u164 :: u165 :: u166 :: u167 :: u168 :: u169 :: u170 :: u171 :: u172 :: u173 :: u174 :: u175 :: u176 :: u177 :: u178 :: u179 :: u180 :: u181 :: u182 :: u183 :: u184 :: u185 :: u186 :: u187 :: u188 :: u189 :: u190 :: u191 :: u192 :: u193 :: u194 :: u195 :: u196 :: u197 :: u198 :: u199 :: u200 :: u201 :: u202 :: u203 :: u204 :: u205 :: u206 :: u207 :: u208 :: u209 :: u210 :: u211 :: u212 :: u213 :: u214 :: u215 :: u216 :: u217 :: u218 :: u219 :: u220 :: u221 :: u222 :: u223 :: u224 :: u225 :: u226 :: u227 :: u228 :: u229 :: u230 :: u231 :: u232 :: u233 :: u234 :: u235 :: u236 :: u237 :: u238 :: u239 :: u240 :: u241 :: u242 :: u243 :: u244 :: u245 :: u246 :: u247 :: u248 :: u249 :: u250 :: u251 :: u252 :: u253 :: u254 :: u255 :: u256 :: u257 :: u258 :: u259 :: u260 :: u261 :: u262 :: u263 :: u264 :: u265 :: u266 :: u267 :: u268 :: u269 :: u270 :: u271 :: u272 :: u273 :: u274 :: u275 :: u276 :: u277 :: u278 :: u279 :: u280 :: u281 :: u282 :: u283 :: u284 :: u285 :: u286 :: u287 :: u288 :: u289 :: u290 :: u291 :: u292 :: u293 :: u294 :: u295 :: u296 :: u297 :: u298 :: u299 :: u300 :: u301 :: u302 :: u303 :: u304 :: u305 :: u306 :: u307 :: u308 :: u309 :: u310 :: u311 :: u312 :: u313 :: u314 :: u315 :: u316 :: u317 :: u318 :: u319 :: u320 :: u321 :: u322 :: u323 :: u324 :: []).toArray, defers := [] } w := by
  dsimp only [tailAt, bodyOf, Try.f3, Option.getD]
  refine wp_seq_k (fun K HK0 => ?_)
  have HK := Lib.hid HK0
  clear HK0
  go_wp2_with (fail)
  with_reducible refine (begin_nu _).mono ?_
  rintro e w9 ⟨A, n, c, B, m, d, C, k, e9, rfl, hd, x9⟩
  obtain ⟨x, wa, wb, ra, sa, fv, xb⟩ := find_new w9 hd
  have RA := Lib.hid ra
  have SA := Lib.hid sa
  clear ra sa
  go_wp2_with (first
    | ((with_reducible refine opIs ⟨some 5, .alloc 27, _, _, _, _⟩ ?_); refine wpList_allocR rfl 27 rfl _ RA.out ?_)
    | ((with_reducible refine opIs ⟨none, .store 27 (.tmp 5) (.tmp 82), _, _, _, _⟩ ?_); refine wpList_storeR rfl 27 (.tmp 5) (.tmp 82) rfl rfl rfl SA.out ?_))
  exact HK.out _ _ (part9 (Lib.hid fv) (Lib.hid (XW.out.trans (x9.trans xb))))
end Go.Proofs.Ytfpglkacjecoeaa
namespace Go.Proofs.Ytfpglkacjecoeaa
open Go.RowKit

theorem four_under : ∃ d, Try.prog.underlying 22 = some d ∧ d.isRow = true := ⟨_, Try.underlying22, rfl⟩
theorem four_info : (Try.prog.info? 22).map (·.size) = some 4 := by kernel_rfl
abbrev four (a b c d : Int) : List Value := [.int .i64 a, .int .i64 b, .int .i64 c, .int .i64 d]
set_option maxRecDepth 100000 in
theorem four_load {w : World} {p off : Nat} {a b c d : Int} (c0 : w.cell? ⟨p, off, none⟩ = some (.int .i64 a)) (c1 : w.cell? ⟨p, off + 1, none⟩ = some (.int .i64 b)) (c2 : w.cell? ⟨p, off + 2, none⟩ = some (.int .i64 c)) (c3 : w.cell? ⟨p, off + 3, none⟩ = some (.int .i64 d)) :
    (Instr.loadAt 22 (.pointer (some ⟨p, off, none⟩))).run Try.prog w = .ok (.agg (four a b c d).toArray) w := by
  obtain ⟨dd, hd, hr⟩ := four_under
  have hi : (Try.prog.info? 22).map (·.size) = some (four a b c d).length := four_info
  have hrg : w.rangeAt p off (four a b c d) := fun j v hv => by
    match j with
    | 0 => injection hv with hv; rw [← hv]; exact c0
    | 1 => injection hv with hv; rw [← hv]; exact c1
    | 2 => injection hv with hv; rw [← hv]; exact c2
    | 3 => injection hv with hv; rw [← hv]; exact c3
    | j + 4 => cases hv
  simp only [Instr.loadAt, Instr.sureAddr, Sem.run_bind, Sem.run_pure, Result.andThen_ok, run_loadVar_mid w p off 22 (four a b c d) dd hrg hd hr hi]
def zfour : Obj := .cells #[.int .i64 0, .int .i64 0, .int .i64 0, .int .i64 0] 22 (0, 0)
theorem run_alloc_four (w : World) : (Instr.alloc 22 true (.tuple #[])).run Try.prog w = .ok (.pointer (some ⟨w.heap.size, 0, none⟩)) (w.alloc zfour) := by kernel_rfl
/-- A new variable of four numbers, written. -/
theorem four_new (w : World) (a b c d : Int) : ∃ x w1 w2, (Instr.alloc 22 true (.tuple #[])).run Try.prog w = .ok (.pointer (some ⟨x, 0, none⟩)) w1 ∧ (Instr.storeAt 22 (.pointer (some ⟨x, 0, none⟩)) (.agg (four a b c d).toArray)).run Try.prog w1 = .ok () w2 ∧
    w2.cell? ⟨x, 0, none⟩ = some (.int .i64 a) ∧ w2.cell? ⟨x, 1, none⟩ = some (.int .i64 b) ∧ w2.cell? ⟨x, 2, none⟩ = some (.int .i64 c) ∧ w2.cell? ⟨x, 3, none⟩ = some (.int .i64 d) ∧ Ext w w2 := by
  have hb := heap_alloc_new w zfour
  have hth : (w.alloc zfour).there w.heap.size 0 4 := fun j hj => ⟨by
    rw [cell_of_row _ _ _ _ _ _ hb]
    have hl : 0 + j < (#[.int .i64 0, .int .i64 0, .int .i64 0, .int .i64 0] : Array Value).size := by show 0 + j < 4; omega
    rw [Array.getElem?_eq_getElem hl]; rfl, frozen_of_row _ _ _ _ _ hb⟩
  have hall : (four a b c d).toArray.all (·.oneCell') = true := all_oneCell_toArray (fun v hv => by
    simp only [four, List.mem_cons, List.not_mem_nil, or_false] at hv
    rcases hv with rfl | rfl | rfl | rfl <;> rfl)
  have hr := run_storeVar_mid (P := Try.prog) (w.alloc zfour) w.heap.size 0 22 (four a b c d).toArray hth four_info hall
  have h1 := heap_setCell_same _ w.heap.size 0 _ _ (.int .i64 a) hb
  have h2 := heap_setCell_same _ w.heap.size 1 _ _ (.int .i64 b) h1
  have h3 := heap_setCell_same _ w.heap.size 2 _ _ (.int .i64 c) h2
  have h4 := heap_setCell_same _ w.heap.size 3 _ _ (.int .i64 d) h3
  refine ⟨w.heap.size, _, (w.alloc zfour).setCells w.heap.size 0 (four a b c d), run_alloc_four w, by simp only [Instr.storeAt, Instr.sureAddr, Sem.run_bind, Sem.run_pure, Result.andThen_ok, hr], ?_, ?_, ?_, ?_, setCells_far _ _ _ _ _ _ (Ext.alloc w _) (Nat.le_refl _)⟩
  · exact (cell_of_row _ _ _ _ _ _ h4).trans rfl
  · exact (cell_of_row _ _ _ _ _ _ h4).trans rfl
  · exact (cell_of_row _ _ _ _ _ _ h4).trans rfl
  · exact (cell_of_row _ _ _ _ _ _ h4).trans rfl
/-- What may not be begun. -/
def nots : List (Int × Int × Int × Int) := [(-1, 1, 1, 1), (1099511627777, 1, 1, 1), (0, 0, 1, 1), (0, 1099511627777, 1, 1), (0, 1, 0, 0), (0, 1, 256, 1), (0, 1, 3, 0), (0, 1, 3, 4), (0, 1, -1, 1)]
theorem nots_not : ∀ k, k < 9 → ¬ Finds.named (nots.getD k (0, 0, 0, 0)).1 (nots.getD k (0, 0, 0, 0)).2.1 (nots.getD k (0, 0, 0, 0)).2.2.1 (nots.getD k (0, 0, 0, 0)).2.2.2 := by decide
/-- The rows, laid. -/
theorem nots_cells (w : World) (k : Nat) (hk : k < 9) (W : World) (hx : Ext (w.alloc (.cells #[.int .i64 (-1), .int .i64 1, .int .i64 1, .int .i64 1, .int .i64 1099511627777, .int .i64 1, .int .i64 1, .int .i64 1, .int .i64 0, .int .i64 0, .int .i64 1, .int .i64 1, .int .i64 0, .int .i64 1099511627777, .int .i64 1, .int .i64 1, .int .i64 0, .int .i64 1, .int .i64 0, .int .i64 0, .int .i64 0, .int .i64 1, .int .i64 256, .int .i64 1, .int .i64 0, .int .i64 1, .int .i64 3, .int .i64 0, .int .i64 0, .int .i64 1, .int .i64 3, .int .i64 4, .int .i64 0, .int .i64 1, .int .i64 (-1), .int .i64 1] 22)) W) :
    (Instr.loadAt 22 (.pointer (some ⟨w.heap.size, k * 4, none⟩))).run Try.prog W = .ok (.agg (four (nots.getD k (0, 0, 0, 0)).1 (nots.getD k (0, 0, 0, 0)).2.1 (nots.getD k (0, 0, 0, 0)).2.2.1 (nots.getD k (0, 0, 0, 0)).2.2.2).toArray) W := by
  have hb := heap_alloc_new w (.cells #[.int .i64 (-1), .int .i64 1, .int .i64 1, .int .i64 1, .int .i64 1099511627777, .int .i64 1, .int .i64 1, .int .i64 1, .int .i64 0, .int .i64 0, .int .i64 1, .int .i64 1, .int .i64 0, .int .i64 1099511627777, .int .i64 1, .int .i64 1, .int .i64 0, .int .i64 1, .int .i64 0, .int .i64 0, .int .i64 0, .int .i64 1, .int .i64 256, .int .i64 1, .int .i64 0, .int .i64 1, .int .i64 3, .int .i64 0, .int .i64 0, .int .i64 1, .int .i64 3, .int .i64 4, .int .i64 0, .int .i64 1, .int .i64 (-1), .int .i64 1] 22)
  have hc : ∀ i v, (#[.int .i64 (-1), .int .i64 1, .int .i64 1, .int .i64 1, .int .i64 1099511627777, .int .i64 1, .int .i64 1, .int .i64 1, .int .i64 0, .int .i64 0, .int .i64 1, .int .i64 1, .int .i64 0, .int .i64 1099511627777, .int .i64 1, .int .i64 1, .int .i64 0, .int .i64 1, .int .i64 0, .int .i64 0, .int .i64 0, .int .i64 1, .int .i64 256, .int .i64 1, .int .i64 0, .int .i64 1, .int .i64 3, .int .i64 0, .int .i64 0, .int .i64 1, .int .i64 3, .int .i64 4, .int .i64 0, .int .i64 1, .int .i64 (-1), .int .i64 1] : Array Value)[i]? = some v → W.cell? ⟨w.heap.size, i, none⟩ = some v := fun i v hv => hx.cell (by rw [cell_of_row _ _ _ _ _ _ hb]; exact hv)
  match k, hk with
  | 0, _ => exact four_load (hc 0 _ rfl) (hc 1 _ rfl) (hc 2 _ rfl) (hc 3 _ rfl)
  | 1, _ => exact four_load (hc 4 _ rfl) (hc 5 _ rfl) (hc 6 _ rfl) (hc 7 _ rfl)
  | 2, _ => exact four_load (hc 8 _ rfl) (hc 9 _ rfl) (hc 10 _ rfl) (hc 11 _ rfl)
  | 3, _ => exact four_load (hc 12 _ rfl) (hc 13 _ rfl) (hc 14 _ rfl) (hc 15 _ rfl)
  | 4, _ => exact four_load (hc 16 _ rfl) (hc 17 _ rfl) (hc 18 _ rfl) (hc 19 _ rfl)
  | 5, _ => exact four_load (hc 20 _ rfl) (hc 21 _ rfl) (hc 22 _ rfl) (hc 23 _ rfl)
  | 6, _ => exact four_load (hc 24 _ rfl) (hc 25 _ rfl) (hc 26 _ rfl) (hc 27 _ rfl)
  | 7, _ => exact four_load (hc 28 _ rfl) (hc 29 _ rfl) (hc 30 _ rfl) (hc 31 _ rfl)
  | 8, _ => exact four_load (hc 32 _ rfl) (hc 33 _ rfl) (hc 34 _ rfl) (hc 35 _ rfl)
end Go.Proofs.Ytfpglkacjecoeaa
namespace Go.Proofs.Ytfpglkacjecoeaa
open Go.RowKit

set_option maxRecDepth 100000 in
set_option maxHeartbeats 4000000 in
theorem part1 {w0 w : World}  {u0 u1 u2 u3 u4 u5 u6 u7 u8 u9 u10 u11 u12 u13 u14 u15 u16 u17 u18 u19 u20 u21 u22 u23 u24 u25 u26 u27 u28 u29 u30 u31 u32 u33 u34 u35 u36 u37 u38 u39 u40 u41 u42 u43 u44 u45 u46 u47 u48 u49 u50 u51 u52 u53 u54 u55 u56 u57 u58 u59 u60 u61 u62 u63 u64 u65 u66 u67 u68 u69 u70 u71 u72 u73 u74 u75 u76 u77 u78 u79 u80 u81 u82 u83 u84 u85 u86 u87 u88 u89 u90 u91 u92 u93 u94 u95 u96 u97 u98 u99 u100 u101 u102 u103 u104 u105 u106 u107 u108 u109 u110 u111 u112 u113 u114 u115 u116 u117 u118 u119 u120 u121 u122 u123 u124 u125 u126 u127 u128 u129 u130 u131 u132 u133 u134 u135 u136 u137 u138 u139 u140 u141 u142 u143 u144 u145 u146 u147 u148 u149 u150 u151 u152 u153 u154 u155 u156 u157 u158 u159 u160 u161 u162 u163 u164 u165 u166 u167 u168 u169 u170 u171 u172 u173 u174 u175 u176 u177 u178 u179 u180 u181 u182 u183 u184 u185 u186 u187 u188 u189 u190 u191 u192 u193 u194 u195 u196 u197 u198 u199 u200 u201 u202 u203 u204 u205 u206 u207 u208 u209 u210 u211 u212 u213 u214 u215 u216 u217 u218 u219 u220 u221 u222 u223 u224 u225 u226 u227 u228 u229 u230 u231 u232 u233 u234 u235 u236 u237 u238 u239 u240 u241 u242 u243 u244 u245 u246 u247 u248 u249 u250 u251 u252 u253 u254 u255 u256 u257 u258 u259 u260 u261 u262 u263 u264 u265 u266 u267 u268 u269 u270 u271 u272 u273 u274 u275 u276 u277 u278 u279 u280 u281 u282 u283 u284 u285 u286 u287 u288 u289 u290 u291 u292 u293 u294 u295 u296 u297 u298 u299 u300 u301 u302 u303 u304 u305 u306 u307 u308 u309 u310 u311 u312 u313 u314 u315 u316 u317 u318 u319 u320 u321 u322 u323 u324 : Value}  (XW : RowKit.Hid (Ext w0 w)) :
    (tailAt 1 (bodyOf Try.f3)).wp Try.prog (bodyPost Try.prog Try.f3 (fun e w' => e = .returned (.bool true) ∧ Ext w0 w')) { tmps := (u0 :: u1 :: u2 :: u3 :: u4 :: u5 :: u6 :: u7 :: u8 :: u9 :: u10 :: u11 :: u12 :: u13 :: u14 :: u15 :: u16 :: u17 :: u18 :: u19 :: u20 :: u21 :: u22 :: u23 :: u24 :: u25 :: u26 :: u27 :: u28 :: u29 :: u30 :: u31 :: u32 :: u33 :: u34 :: u35 :: u36 :: u37 :: u38 :: u39 :: u40 :: u41 :: u42 :: u43 :: u44 :: u45 :: u46 :: u47 :: u48 :: u49 :: u50 :: u51 :: u52 :: u53 :: u54 :: u55 :: u56 :: u57 :: u58 :: u59 :: u60 :: u61 :: u62 :: u63 :: u64 :: u65 :: u66 :: u67 :: u68 :: u69 :: u70 :: u71 :: u72 :: u73 :: u74 :: u75 :: u76 :: u77 :: u78 :: u79 :: u80 :: u81 :: u82 :: u83 :: u84 :: u85 :: u86 :: u87 :: u88 :: u89 :: u90 :: u91 :: u92 :: u93 :: u94 :: u95 :: u96 :: u97 :: u98 :: u99 :: u100 :: u101 :: u102 :: u103 :: u104 :: u105 :: u106 :: u107 :: u108 :: u109 :: u110 :: u111 :: u112 :: u113 :: u114 :: u115 :: u116 :: u117 :: u118 :: u119 :: u120 :: u121 :: u122 :: u123 :: u124 :: u125 :: u126 :: u127 :: u128 :: u129 :: u130 :: u131 :: u132 :: u133 :: u134 :: u135 :: u136 :: u137 :: u138 :: u139 :: u140 :: u141 :: u142 :: u143 :: u144 :: u145 :: u146 :: u147 :: u148 :: u149 :: u150 :: u151 :: u152 :: u153 :: u154 :: u155 :: u156 :: u157 :: u158 :: u159 :: u160 :: u161 :: u162 :: u163 :: u164 :: u165 :: u166 :: u167 :: u168 :: u169 :: u170 :: u171 :: u172 :: u173 :: u174 :: u175 :: u176 :: u177 :: u178 :: u179 :: u180 :: u181 :: u182 :: u183 :: u184 :: u185 :: u186 :: u187 :: u188 :: u189 :: u190 :: u191 :: u192 :: u193 :: u194 :: u195 :: u196 :: u197 :: u198 :: u199 :: u200 :: u201 :: u202 :: u203 :: u204 :: u205 :: u206 :: u207 :: u208 :: u209 :: u210 :: u211 :: u212 :: u213 :: u214 :: u215 :: u216 :: u217 :: u218 :: u219 :: u220 :: u221 :: u222 :: u223 :: u224 :: u225 :: u226 :: u227 :: u228 :: u229 :: u230 :: u231 :: u232 :: u233 :: u234 :: u235 :: u236 :: u237 :: u238 :: u239 :: u240 :: u241 :: u242 :: u243 :: u244 :: u245 :: u246 :: u247 :: u248 :: u249 :: u250 :: u251 :: u252 :: u253 :: u254 :: u255 :: u256 :: u257 :: u258 :: u259 :: u260 :: u261 :: u262 :: u263 :: u264 :: u265 :: u266 :: u267 :: u268 :: u269 :: u270 :: u271 :: u272 :: u273 :: u274 :: u275 :: u276 :: u277 :: u278 :: u279 :: u280 :: u281 :: u282 :: u283 :: u284 :: u285 :: u286 :: u287 :: u288 :: u289 :: u290 :: u291 :: u292 :: u293 :: u294 :: u295 :: u296 :: u297 :: u298 :: u299 :: u300 :: u301 :: u302 :: u303 :: u304 :: u305 :: u306 :: u307 :: u308 :: u309 :: u310 :: u311 :: u312 :: u313 :: u314 :: u315 :: u316 :: u317 :: u318 :: u319 :: u320 :: u321 :: u322 :: u323 :: u324 :: []).toArray, defers := [] } w := by
  dsimp only [tailAt, bodyOf, Try.f3, Option.getD]
  refine wp_seq_k (fun K HK0 => ?_)
  have HK := Lib.hid HK0
  clear HK0
  go_wp2_with (fail)
  have hxx := Ext.alloc w (.cells #[.int .i64 (-1), .int .i64 1, .int .i64 1, .int .i64 1, .int .i64 1099511627777, .int .i64 1, .int .i64 1, .int .i64 1, .int .i64 0, .int .i64 0, .int .i64 1, .int .i64 1, .int .i64 0, .int .i64 1099511627777, .int .i64 1, .int .i64 1, .int .i64 0, .int .i64 1, .int .i64 0, .int .i64 0, .int .i64 0, .int .i64 1, .int .i64 256, .int .i64 1, .int .i64 0, .int .i64 1, .int .i64 3, .int .i64 0, .int .i64 0, .int .i64 1, .int .i64 3, .int .i64 4, .int .i64 0, .int .i64 1, .int .i64 (-1), .int .i64 1] 22)
  obtain ⟨W1, h_W1⟩ : ∃ W1, w.alloc (.cells #[.int .i64 (-1), .int .i64 1, .int .i64 1, .int .i64 1, .int .i64 1099511627777, .int .i64 1, .int .i64 1, .int .i64 1, .int .i64 0, .int .i64 0, .int .i64 1, .int .i64 1, .int .i64 0, .int .i64 1099511627777, .int .i64 1, .int .i64 1, .int .i64 0, .int .i64 1, .int .i64 0, .int .i64 0, .int .i64 0, .int .i64 1, .int .i64 256, .int .i64 1, .int .i64 0, .int .i64 1, .int .i64 3, .int .i64 0, .int .i64 0, .int .i64 1, .int .i64 3, .int .i64 4, .int .i64 0, .int .i64 1, .int .i64 (-1), .int .i64 1] 22) = W1 := ⟨_, rfl⟩
  have NC := Lib.hid (fun (k : Nat) (hk : k < 9) (W : World) (hx : Ext W1 W) => nots_cells w k hk W (by rw [h_W1]; exact hx))
  rw [h_W1] at hxx ⊢
  obtain ⟨gz, h_gz⟩ : ∃ gz, w.heap.size = gz := ⟨_, rfl⟩
  rw [h_gz] at NC ⊢
  have XX := Lib.hid (XW.out.trans hxx)
  clear h_gz h_W1 hxx
  go_loopw [54] (fun u wr => ∃ k : Nat, k ≤ 9 ∧ u = .int .i64 (k : Int) ∧ RowKit.Hid (Ext W1 wr)) (fun u _ => 9 - (intOf u).toNat)
  case atStart => exact ⟨0, by omega, rfl, Lib.hid (Ext.refl _)⟩
  case round =>
    obtain ⟨k, hk, rfl, HX⟩ := hrel
    by_cases hlt : k < 9
    · have r1 : (k : Int) < 9 := by omega
      have ld := NC.out k hlt wr HX.out
      have hno := nots_not k hlt
      obtain ⟨⟨y0, y1, y2, y3⟩, hy⟩ : ∃ y, nots.getD k (0, 0, 0, 0) = y := ⟨_, rfl⟩
      rw [hy] at ld hno
      obtain ⟨x, wa, wb, ra, sa, c0, c1, c2, c3, xb⟩ := four_new wr y0 y1 y2 y3
      have LD := Lib.hid ld
      have RA := Lib.hid ra
      have SA := Lib.hid sa
      have HB := Lib.hid (begin_not wb y0 y1 y2 y3 hno)
      have XB := Lib.hid xb
      clear hy ld ra sa hno xb
      go_wp2_with (first
        | ((with_reducible refine opIs ⟨some 58, .load 22 (.tmp 57), _, _, _, _⟩ ?_); refine wpList_loadR rfl 22 (.tmp 57) rfl rfl LD.out ?_)
        | ((with_reducible refine opIs ⟨some 2, .alloc 22, _, _, _, _⟩ ?_); refine wpList_allocR rfl 22 rfl _ RA.out ?_)
        | ((with_reducible refine opIs ⟨none, .store 22 (.tmp 2) (.tmp 58), _, _, _, _⟩ ?_); refine wpList_storeR rfl 22 (.tmp 2) (.tmp 58) rfl rfl rfl SA.out ?_))
      with_reducible refine HB.out.mono ?_
      rintro e w9 ⟨A, n, c, B, m, d, C, k9, e9, rfl, hd, x9⟩
      have HN := Lib.hid (show decide (Finds.right Finds.nought) = false from decide_eq_false nu_nought)
      obtain ⟨xf, wc, wd, rc, sc, fv, xd⟩ := find_new w9 hd
      obtain ⟨A0, m0, c0', B0, d0, e0, C0, k0, l0, fb0, fd0⟩ := fv
      have r0 : wd.cell? ⟨xf, 0, none⟩ = some (.int .i64 0) := fb0.c0
      have r1' : wd.cell? ⟨xf, 1, none⟩ = some (.int .i64 0) := fb0.c1
      have r2 : wd.cell? ⟨xf, 2, none⟩ = some (.int .i64 0) := fb0.c2
      have r3 : wd.cell? ⟨xf, 3, none⟩ = some (.int .i64 0) := fb0.c3
      have r4 := fb0.c4
      have r5 := fb0.c5
      have r6 := fb0.c6
      have hri := fRight_any wd Finds.nought _ _ _ _ _ _ _ _ _ fd0 (fd_small fd0 (by decide) (by decide)).1 (fd_small fd0 (by decide) (by decide)).2
      rw [HN.out] at hri
      have hri2 : Calls Try.prog 9 #[.agg #[.int .i64 0, .int .i64 0, .int .i64 0, .int .i64 0, .slice A0 m0 c0', .slice B0 d0 e0, .slice C0 k0 l0]] wd (fun r w' => r = .returned (.bool false) ∧ Ext wd w') := hri
      have HRI := Lib.hid hri2
      have RC := Lib.hid rc
      have SC := Lib.hid sc
      have XD := Lib.hid (HX.out.trans (XB.out.trans (x9.trans xd)))
      clear hd x9 rc sc xd fb0 fd0 hri hri2 c0 c1 c2 c3 LD RA SA HB XB
      go_wp2_with (first
        | ((with_reducible refine opIs ⟨some 3, .alloc 27, _, _, _, _⟩ ?_); refine wpList_allocR rfl 27 rfl _ RC.out ?_)
        | ((with_reducible refine opIs ⟨none, .store 27 (.tmp 3) (.tmp 69), _, _, _, _⟩ ?_); refine wpList_storeR rfl 27 (.tmp 3) (.tmp 69) rfl rfl rfl SC.out ?_))
      with_reducible refine HRI.out.mono ?_
      rintro e w8 ⟨rfl, x8⟩
      have X8 := Lib.hid (XD.out.trans x8)
      clear x8 RC SC HRI XD r0 r1' r2 r3 r4 r5 r6
      go_wp2_with (fail)
      exact ⟨⟨k + 1, by omega, by go_num, X8⟩, by simp [intOf]; omega⟩
    · have r1 : ¬ (k : Int) < 9 := by omega
      go_wp2_with (fail)
      exact HK.out _ _ (part8 (Lib.hid (XX.out.trans HX.out)))
end Go.Proofs.Ytfpglkacjecoeaa
