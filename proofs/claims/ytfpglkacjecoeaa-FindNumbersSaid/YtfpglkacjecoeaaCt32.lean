/- Several texts in one: FindNumbers' walk from region 14 on. FindNumbers' walk from region 13 on. FindNumbers' walk from region 12 on. -/
import Derived.Test.YtfpglkacjecoeaaCt31
import Derived.Test.YtfpglkacjecoeaaCt26
import Derived.Test.YtfpglkacjecoeaaCt25
namespace Go.Proofs.Ytfpglkacjecoeaa
open Go.RowKit

set_option maxRecDepth 100000 in
set_option maxHeartbeats 4000000 in
theorem part14 {w0 w : World} {g5 : Nat} {g13 : Nat} {g15 : Nat} {u0 u1 u2 u3 u4 u7 u9 u11 u17 u18 u19 u20 u21 u22 u23 u24 u25 u26 u27 u28 u29 u30 u31 u32 u33 u34 u35 u36 u37 u38 u39 u40 u41 u42 u43 u44 u45 u46 u47 u48 u49 u50 u51 u52 u53 u54 u55 u56 u57 u58 u59 u60 u61 u62 u63 u64 u65 u66 u67 u68 u69 u70 u71 u72 u73 u74 u75 u76 u77 u78 u79 u80 u81 u82 u83 u84 u85 u86 u87 u88 u89 u90 u91 u92 u93 u94 u95 u96 u97 u98 u99 u100 u101 u102 u103 u104 u105 u106 u107 u108 u109 u110 u111 u112 u113 u114 u115 u116 u117 u118 u119 u120 u121 u122 u123 u124 u125 u126 u127 u128 u129 u130 u131 u132 u133 u134 u135 u136 u137 u138 u139 u140 u141 u142 u143 u144 u145 u146 u147 u148 u149 u150 u151 u152 u153 u154 u155 u156 u157 u158 u159 u160 u161 u162 u163 u164 u165 u166 u167 u168 u169 u170 u171 u172 u173 u174 u175 u176 u177 u178 u179 u180 u181 u182 u183 u184 u185 u186 u187 u188 u189 u190 u191 u192 u193 u194 u195 u196 u197 u198 u199 u200 u201 u202 u203 u204 u205 u206 u207 u208 u209 u210 u211 u212 u213 u214 u215 u216 u217 u218 u219 u220 u221 u222 u223 u224 u225 u226 u227 u228 u229 u230 u231 u232 u233 u234 u235 u236 u237 u238 u239 u240 u241 u242 u243 u244 u245 u246 u247 u248 u249 u250 u251 u252 u253 u254 u255 u256 u257 u258 u259 u260 u261 u262 u263 u264 u265 u266 u267 u268 u269 u270 u271 u272 u273 u274 u275 u276 u277 u278 u279 u280 u281 u282 u283 u284 u285 u286 u287 u288 u289 u290 u291 u292 u293 u294 u295 u296 u297 u298 u299 u300 u301 u302 u303 u304 u305 u306 u307 u308 u309 u310 u311 u312 u313 u314 u315 u316 u317 u318 u319 u320 u321 u322 u323 u324 : Value} (F5 : RowKit.Hid (Fv w g5 n0)) (F13 : RowKit.Hid (Fv w g13 n1)) (F15 : RowKit.Hid (Fv w g15 n2)) (XW : RowKit.Hid (Ext w0 w)) :
    (tailAt 8 (bodyOf Try.f3)).wp Try.prog (bodyPost Try.prog Try.f3 (fun e w' => e = .returned (.bool true) ∧ Ext w0 w')) { tmps := (u0 :: u1 :: u2 :: u3 :: u4 :: .pointer (some ⟨g5, 0, none⟩) :: .int .i64 0 :: u7 :: .int .i64 140 :: u9 :: .int .i64 140 :: u11 :: .int .i64 140 :: .pointer (some ⟨g13, 0, none⟩) :: .bool true :: .pointer (some ⟨g15, 0, none⟩) :: .bool true :: u17 :: u18 :: u19 :: u20 :: u21 :: u22 :: u23 :: u24 :: u25 :: u26 :: u27 :: u28 :: u29 :: u30 :: u31 :: u32 :: u33 :: u34 :: u35 :: u36 :: u37 :: u38 :: u39 :: u40 :: u41 :: u42 :: u43 :: u44 :: u45 :: u46 :: u47 :: u48 :: u49 :: u50 :: u51 :: u52 :: u53 :: u54 :: u55 :: u56 :: u57 :: u58 :: u59 :: u60 :: u61 :: u62 :: u63 :: u64 :: u65 :: u66 :: u67 :: u68 :: u69 :: u70 :: u71 :: u72 :: u73 :: u74 :: u75 :: u76 :: u77 :: u78 :: u79 :: u80 :: u81 :: u82 :: u83 :: u84 :: u85 :: u86 :: u87 :: u88 :: u89 :: u90 :: u91 :: u92 :: u93 :: u94 :: u95 :: u96 :: u97 :: u98 :: u99 :: u100 :: u101 :: u102 :: u103 :: u104 :: u105 :: u106 :: u107 :: u108 :: u109 :: u110 :: u111 :: u112 :: u113 :: u114 :: u115 :: u116 :: u117 :: u118 :: u119 :: u120 :: u121 :: u122 :: u123 :: u124 :: u125 :: u126 :: u127 :: u128 :: u129 :: u130 :: u131 :: u132 :: u133 :: u134 :: u135 :: u136 :: u137 :: u138 :: u139 :: u140 :: u141 :: u142 :: u143 :: u144 :: u145 :: u146 :: u147 :: u148 :: u149 :: u150 :: u151 :: u152 :: u153 :: u154 :: u155 :: u156 :: u157 :: u158 :: u159 :: u160 :: u161 :: u162 :: u163 :: u164 :: u165 :: u166 :: u167 :: u168 :: u169 :: u170 :: u171 :: u172 :: u173 :: u174 :: u175 :: u176 :: u177 :: u178 :: u179 :: u180 :: u181 :: u182 :: u183 :: u184 :: u185 :: u186 :: u187 :: u188 :: u189 :: u190 :: u191 :: u192 :: u193 :: u194 :: u195 :: u196 :: u197 :: u198 :: u199 :: u200 :: u201 :: u202 :: u203 :: u204 :: u205 :: u206 :: u207 :: u208 :: u209 :: u210 :: u211 :: u212 :: u213 :: u214 :: u215 :: u216 :: u217 :: u218 :: u219 :: u220 :: u221 :: u222 :: u223 :: u224 :: u225 :: u226 :: u227 :: u228 :: u229 :: u230 :: u231 :: u232 :: u233 :: u234 :: u235 :: u236 :: u237 :: u238 :: u239 :: u240 :: u241 :: u242 :: u243 :: u244 :: u245 :: u246 :: u247 :: u248 :: u249 :: u250 :: u251 :: u252 :: u253 :: u254 :: u255 :: u256 :: u257 :: u258 :: u259 :: u260 :: u261 :: u262 :: u263 :: u264 :: u265 :: u266 :: u267 :: u268 :: u269 :: u270 :: u271 :: u272 :: u273 :: u274 :: u275 :: u276 :: u277 :: u278 :: u279 :: u280 :: u281 :: u282 :: u283 :: u284 :: u285 :: u286 :: u287 :: u288 :: u289 :: u290 :: u291 :: u292 :: u293 :: u294 :: u295 :: u296 :: u297 :: u298 :: u299 :: u300 :: u301 :: u302 :: u303 :: u304 :: u305 :: u306 :: u307 :: u308 :: u309 :: u310 :: u311 :: u312 :: u313 :: u314 :: u315 :: u316 :: u317 :: u318 :: u319 :: u320 :: u321 :: u322 :: u323 :: u324 :: []).toArray, defers := [] } w := by
  dsimp only [tailAt, bodyOf, Try.f3, Option.getD]
  refine wp_seq_k (fun K HK0 => ?_)
  have HK := Lib.hid HK0
  clear HK0
  obtain ⟨A0, m0, c0, B0, d0, e0, C0, k0, l0, sb0, fd0⟩ := F5.out
  have FB := Lib.hid (fun (Wx : World) (hx : Ext w Wx) => sb0.ext hx)
  have FD := Lib.hid (fun (Wx : World) (hx : Ext w Wx) => fd0.ext hx)
  clear sb0 fd0
  have hS0 : (fun Wx : World => Hid (Ext w Wx)) w.drew := Lib.hid (Ext.drew w)
  refine wp_region_T (S := (fun Wx : World => Hid (Ext w Wx))) 9 rfl rfl ?_
  refine takeC [] (i := 0) (v := ?_) rfl (by kernel_rfl) (by kernel_rfl) (by kernel_rfl) (by kernel_rfl) (by decide) (fun _ _ _ h => h) (by kernel_rfl) (Or.inl ⟨by kernel_rfl, ?_⟩) (by assumption) ?_
  rotate_left
  · (intro W9 hSw; (have b := FB.out _ hSw.out; have a0 := b.c0; have a1 := b.c1; have a2 := b.c2; have a3 := b.c3; have a4 := b.c4; have a5 := b.c5; have a6 := b.c6; clear b hSw; skip); go_simp; (try with_reducible rfl))
  try simp only [Act.put, List.getElem_toArray, List.getElem_cons_succ, List.getElem_cons_zero, List.setIfInBounds_toArray, List.set_cons_zero, List.set_cons_succ]
  refine twoT (i := 1) (j := 8) rfl rfl (by kernel_rfl) (fun K hK => ?_) (fun K hK => ?_)
  · rw [if_pos (by kernel_rfl)]
    obtain ⟨xm1, q1, rm, bm, xq⟩ := make_big w.drew 65537 (by omega)
    obtain ⟨z1, hz1, hl1⟩ : ∃ z : List UInt8, List.replicate 65537 0 = z ∧ RowKit.Hid (z.length = 65537) := ⟨_, rfl, Lib.hid List.length_replicate⟩
    rw [hz1] at bm
    clear hz1
    have rm : (Instr.makeSlice 35 (.int .i64 65537) (.int .i64 65537)).run Try.prog w.drew = .ok (.slice (some ⟨xm1, 0, none⟩) 65537 65537) q1 := rm
    have hS1 : (fun Wx : World => Hid (Ext w Wx)) q1 := Lib.hid (hS0.out.trans xq)
    have BM1 := Lib.hid bm
    clear bm xq
    go_wp2_with (fail)
    clear rm
    refine hK.out _ _ (fun _ => hS1) ?_
    clear hK K
    try simp only [Act.put, List.getElem_toArray, List.getElem_cons_succ, List.getElem_cons_zero, List.setIfInBounds_toArray, List.set_cons_zero, List.set_cons_succ]
    refine takeC [] (i := 2) (v := ?_) rfl (by kernel_rfl) (by kernel_rfl) (by kernel_rfl) (by kernel_rfl) (by decide) (fun _ _ _ h => h) (by kernel_rfl) (Or.inl ⟨by kernel_rfl, ?_⟩) (by assumption) ?_
    rotate_left
    · (intro W9 hSw; go_simp; (try with_reducible rfl))
    try simp only [Act.put, List.getElem_toArray, List.getElem_cons_succ, List.getElem_cons_zero, List.setIfInBounds_toArray, List.set_cons_zero, List.set_cons_succ]
    refine twoT (i := 3) (j := 8) rfl rfl (by kernel_rfl) (fun K hK => ?_) (fun K hK => ?_)
    · rw [if_pos (by kernel_rfl)]
      obtain ⟨q2, hq⟩ : ∃ q, q1.alloc (.cells #[.bool false, .int .i64 0, .int .i64 0, .slice (some ⟨xm1, 0, none⟩) 65537 65537] 37) = q := ⟨_, rfl⟩
      have xq : Ext q1 q2 := by rw [← hq]; exact Ext.alloc _ _
      obtain ⟨go, hgo⟩ : ∃ go, q1.heap.size = go := ⟨_, rfl⟩
      obtain ⟨fo, ho, FO⟩ : ∃ fo : Nat → Op13, Os13 q2 (some ⟨go, 0, none⟩) 1 1 fo ∧ RowKit.Hid (fo 0 = ⟨false, 0, 0, some ⟨xm1, 0, none⟩, 65537, 65537, z1⟩) := ⟨fun k => if k = 0 then ⟨false, 0, 0, some ⟨xm1, 0, none⟩, 65537, 65537, z1⟩ else default, os_cells _ go _ (0, 0) (by rw [← hq, ← hgo]; exact heap_alloc_new _ _) 1 _ (by omega) (fun k hk => by
        match k, hk with
        | 0, _ => exact ⟨rfl, rfl, rfl, rfl, BM1.out.ext xq⟩), Lib.hid rfl⟩
      have OO := Lib.hid ho
      clear ho
      have hS2 : (fun Wx : World => Hid (Ext w Wx)) q2 := Lib.hid (hS1.out.trans xq)
      have BM1 := Lib.hid (BM1.out.ext xq)
      clear xq
      go_wp2_with (fail)
      try rw [hgo]
      try rw [hq]
      clear hq hgo
      refine hK.out _ _ (fun _ => hS2) ?_
      clear hK K
      try simp only [Act.put, List.getElem_toArray, List.getElem_cons_succ, List.getElem_cons_zero, List.setIfInBounds_toArray, List.set_cons_zero, List.set_cons_succ]
      refine twoT (i := 4) (j := 8) rfl rfl (by kernel_rfl) (fun K hK => ?_) (fun K hK => ?_)
      · rw [if_pos (by kernel_rfl)]
        have hT := told13_any q2 n0 _ _ _ _ _ _ _ _ _ (FD.out _ hS2.out) nu_begin.2.2 _ _ _ _ OO.out (fun i hi => by
          have hi : i < 1 := hi
          obtain rfl : i = 0 := by omega
          rw [FO.out]
          show (0 : Int) ≤ 0 ∧ (0 : Int) < 4
          omega)
        have hN : tolds n0 fo 1 = n3 := by
          show Finds.toldF n0 (fo 0).index (fo 0).e (fo 0).b = n3
          rw [FO.out]
          exact (nu_big _ hl1.out).1
        rw [hN] at hT
        have HT := Lib.hid hT
        clear hT
        go_wp2_with (fail)
        with_reducible refine HT.out.mono ?_
        rintro e q3 ⟨A, n, c, B, m, d, C, k, e9, rfl, hd, xq⟩
        have hS3 : (fun Wx : World => Hid (Ext w Wx)) q3 := Lib.hid (hS2.out.trans xq)
        have HD := Lib.hid hd
        have BM1 := Lib.hid (BM1.out.ext xq)
        have OO := Lib.hid (OO.out.ext xq)
        clear hd xq HT
        go_wp2_with (fail)
        refine hK.out _ _ (fun _ => hS3) ?_
        clear hK K
        try simp only [Act.put, List.getElem_toArray, List.getElem_cons_succ, List.getElem_cons_zero, List.setIfInBounds_toArray, List.set_cons_zero, List.set_cons_succ]
        refine takeC [] (i := 5) (v := ?_) rfl (by kernel_rfl) (by kernel_rfl) (by kernel_rfl) (by kernel_rfl) (by decide) (fun _ _ _ h => h) (by kernel_rfl) (Or.inl ⟨by kernel_rfl, ?_⟩) (by assumption) ?_
        rotate_left
        · (intro W9 hSw; go_simp; (try with_reducible rfl))
        try simp only [Act.put, List.getElem_toArray, List.getElem_cons_succ, List.getElem_cons_zero, List.setIfInBounds_toArray, List.set_cons_zero, List.set_cons_succ]
        refine takeC [] (i := 6) (v := ?_) rfl (by kernel_rfl) (by kernel_rfl) (by kernel_rfl) (by kernel_rfl) (by decide) (fun _ _ _ h => h) (by kernel_rfl) (Or.inl ⟨by kernel_rfl, ?_⟩) (by assumption) ?_
        rotate_left
        · (intro W9 hSw; go_simp; (try with_reducible rfl))
        try simp only [Act.put, List.getElem_toArray, List.getElem_cons_succ, List.getElem_cons_zero, List.setIfInBounds_toArray, List.set_cons_zero, List.set_cons_succ]
        refine pureT (i := 7) (v := ?_) rfl (by kernel_rfl) (by kernel_rfl) (by kernel_rfl) (by decide) (fun _ _ _ h => h) (Or.inl ⟨by kernel_rfl, ?_⟩) (fun _ => by assumption) ?_
        rotate_left
        · (intro W9 hSw; go_simp; (try with_reducible rfl))
        try simp only [Act.put, List.getElem_toArray, List.getElem_cons_succ, List.getElem_cons_zero, List.setIfInBounds_toArray, List.set_cons_zero, List.set_cons_succ]
        refine oneT (i := 8) rfl (by kernel_rfl) (fun K hK => ?_)
        rw [if_pos (by kernel_rfl)]
        have hra := run_alloc_find q3
        have zb := heap_alloc_new q3 zfind
        have xq := Ext.alloc q3 zfind
        obtain ⟨y, hy⟩ : ∃ y, q3.heap.size = y := ⟨_, rfl⟩
        obtain ⟨q4, hq⟩ : ∃ q, q3.alloc zfind = q := ⟨_, rfl⟩
        rw [hq, hy] at hra zb
        rw [hq] at xq
        have hS4 : (fun Wx : World => Hid (Ext w Wx)) q4 := Lib.hid (hS3.out.trans xq)
        have ZB := Lib.hid zb
        have YL := Lib.hid (show w.heap.size ≤ y by rw [← hy]; exact hS3.out.size)
        have RAY := Lib.hid hra
        have BM1 := Lib.hid (BM1.out.ext xq)
        have OO := Lib.hid (OO.out.ext xq)
        have HD := Lib.hid (HD.out.ext xq)
        clear hra zb xq hy hq
        refine wp_allocR 27 rfl _ RAY.out rfl ?_
        clear RAY
        refine hK.out _ _ (fun _ => hS4) ?_
        clear hK K
        try simp only [Act.put, List.getElem_toArray, List.getElem_cons_succ, List.getElem_cons_zero, List.setIfInBounds_toArray, List.set_cons_zero, List.set_cons_succ]
        refine oneT (i := 9) rfl (by kernel_rfl) (fun K hK => ?_)
        rw [if_pos (by kernel_rfl)]
        obtain ⟨wz, sa, xz, _⟩ := find_put q4 ZB.out n3 A n c B m d C k e9
        refine wp_storeR 27 (.tmp 17) (.tmp 126) rfl rfl rfl sa rfl ?_
        clear sa
        refine hK.out _ _ (fun h => absurd (show true = false from h) (by decide)) ?_
        clear hK K
        try simp only [Act.put, List.getElem_toArray, List.getElem_cons_succ, List.getElem_cons_zero, List.setIfInBounds_toArray, List.set_cons_zero, List.set_cons_succ]
        refine oneT (i := 10) rfl (by kernel_rfl) (fun K hK => ?_)
        rw [if_pos (by kernel_rfl)]
        go_wp2_with (fail)
        refine hK.out _ _ (fun h => absurd (show true = false from h) (by decide)) ?_
        clear hK K
        try simp only [Act.put, List.getElem_toArray, List.getElem_cons_succ, List.getElem_cons_zero, List.setIfInBounds_toArray, List.set_cons_zero, List.set_cons_succ]
        refine doneT (by kernel_rfl) ?_ _
        go_wp2_with (fail)
        have XZ := Lib.hid (xz w hS4.out YL.out)
        exact HK.out _ _ (part15 (Lib.hid (F5.out.ext (XZ.out))) (Lib.hid (F13.out.ext (XZ.out))) (Lib.hid (F15.out.ext (XZ.out))) (Lib.hid (XW.out.trans (XZ.out))))
      · rw [if_pos (by kernel_rfl)]
        have hra := run_alloc_find q2
        have zb := heap_alloc_new q2 zfind
        have xq := Ext.alloc q2 zfind
        obtain ⟨y, hy⟩ : ∃ y, q2.heap.size = y := ⟨_, rfl⟩
        obtain ⟨q3, hq⟩ : ∃ q, q2.alloc zfind = q := ⟨_, rfl⟩
        rw [hq, hy] at hra zb
        rw [hq] at xq
        have hS3 : (fun Wx : World => Hid (Ext w Wx)) q3 := Lib.hid (hS2.out.trans xq)
        have ZB := Lib.hid zb
        have YL := Lib.hid (show w.heap.size ≤ y by rw [← hy]; exact hS2.out.size)
        have RAY := Lib.hid hra
        have BM1 := Lib.hid (BM1.out.ext xq)
        have OO := Lib.hid (OO.out.ext xq)
        clear hra zb xq hy hq
        refine wp_allocR 27 rfl _ RAY.out rfl ?_
        clear RAY
        refine hK.out _ _ (fun _ => hS3) ?_
        clear hK K
        try simp only [Act.put, List.getElem_toArray, List.getElem_cons_succ, List.getElem_cons_zero, List.setIfInBounds_toArray, List.set_cons_zero, List.set_cons_succ]
        refine oneT (i := 4) rfl (by kernel_rfl) (fun K hK => ?_)
        rw [if_pos (by kernel_rfl)]
        have hT := told13_any q3 n0 _ _ _ _ _ _ _ _ _ (FD.out _ hS3.out) nu_begin.2.2 _ _ _ _ OO.out (fun i hi => by
          have hi : i < 1 := hi
          obtain rfl : i = 0 := by omega
          rw [FO.out]
          show (0 : Int) ≤ 0 ∧ (0 : Int) < 4
          omega)
        have hN : tolds n0 fo 1 = n3 := by
          show Finds.toldF n0 (fo 0).index (fo 0).e (fo 0).b = n3
          rw [FO.out]
          exact (nu_big _ hl1.out).1
        rw [hN] at hT
        have HT := Lib.hid hT
        clear hT
        go_wp2_with (fail)
        with_reducible refine HT.out.mono ?_
        rintro e q4 ⟨A, n, c, B, m, d, C, k, e9, rfl, hd, xq⟩
        have hS4 : (fun Wx : World => Hid (Ext w Wx)) q4 := Lib.hid (hS3.out.trans xq)
        have HD := Lib.hid hd
        have BM1 := Lib.hid (BM1.out.ext xq)
        have OO := Lib.hid (OO.out.ext xq)
        have ZB := Lib.hid ((xq.block _ (Array.getElem?_eq_some_iff.1 ZB.out).1).trans ZB.out)
        clear hd xq HT
        go_wp2_with (fail)
        refine hK.out _ _ (fun _ => hS4) ?_
        clear hK K
        try simp only [Act.put, List.getElem_toArray, List.getElem_cons_succ, List.getElem_cons_zero, List.setIfInBounds_toArray, List.set_cons_zero, List.set_cons_succ]
        refine takeC [] (i := 5) (v := ?_) rfl (by kernel_rfl) (by kernel_rfl) (by kernel_rfl) (by kernel_rfl) (by decide) (fun _ _ _ h => h) (by kernel_rfl) (Or.inl ⟨by kernel_rfl, ?_⟩) (by assumption) ?_
        rotate_left
        · (intro W9 hSw; go_simp; (try with_reducible rfl))
        try simp only [Act.put, List.getElem_toArray, List.getElem_cons_succ, List.getElem_cons_zero, List.setIfInBounds_toArray, List.set_cons_zero, List.set_cons_succ]
        refine takeC [] (i := 6) (v := ?_) rfl (by kernel_rfl) (by kernel_rfl) (by kernel_rfl) (by kernel_rfl) (by decide) (fun _ _ _ h => h) (by kernel_rfl) (Or.inl ⟨by kernel_rfl, ?_⟩) (by assumption) ?_
        rotate_left
        · (intro W9 hSw; go_simp; (try with_reducible rfl))
        try simp only [Act.put, List.getElem_toArray, List.getElem_cons_succ, List.getElem_cons_zero, List.setIfInBounds_toArray, List.set_cons_zero, List.set_cons_succ]
        refine pureT (i := 7) (v := ?_) rfl (by kernel_rfl) (by kernel_rfl) (by kernel_rfl) (by decide) (fun _ _ _ h => h) (Or.inl ⟨by kernel_rfl, ?_⟩) (fun _ => by assumption) ?_
        rotate_left
        · (intro W9 hSw; go_simp; (try with_reducible rfl))
        try simp only [Act.put, List.getElem_toArray, List.getElem_cons_succ, List.getElem_cons_zero, List.setIfInBounds_toArray, List.set_cons_zero, List.set_cons_succ]
        refine oneT (i := 9) rfl (by kernel_rfl) (fun K hK => ?_)
        rw [if_pos (by kernel_rfl)]
        obtain ⟨wz, sa, xz, _⟩ := find_put q4 ZB.out n3 A n c B m d C k e9
        refine wp_storeR 27 (.tmp 17) (.tmp 126) rfl rfl rfl sa rfl ?_
        clear sa
        refine hK.out _ _ (fun h => absurd (show true = false from h) (by decide)) ?_
        clear hK K
        try simp only [Act.put, List.getElem_toArray, List.getElem_cons_succ, List.getElem_cons_zero, List.setIfInBounds_toArray, List.set_cons_zero, List.set_cons_succ]
        refine oneT (i := 10) rfl (by kernel_rfl) (fun K hK => ?_)
        rw [if_pos (by kernel_rfl)]
        go_wp2_with (fail)
        refine hK.out _ _ (fun h => absurd (show true = false from h) (by decide)) ?_
        clear hK K
        try simp only [Act.put, List.getElem_toArray, List.getElem_cons_succ, List.getElem_cons_zero, List.setIfInBounds_toArray, List.set_cons_zero, List.set_cons_succ]
        refine doneT (by kernel_rfl) ?_ _
        go_wp2_with (fail)
        have XZ := Lib.hid (xz w hS4.out YL.out)
        exact HK.out _ _ (part15 (Lib.hid (F5.out.ext (XZ.out))) (Lib.hid (F13.out.ext (XZ.out))) (Lib.hid (F15.out.ext (XZ.out))) (Lib.hid (XW.out.trans (XZ.out))))
    · rw [if_pos (by kernel_rfl)]
      have hra := run_alloc_find q1
      have zb := heap_alloc_new q1 zfind
      have xq := Ext.alloc q1 zfind
      obtain ⟨y, hy⟩ : ∃ y, q1.heap.size = y := ⟨_, rfl⟩
      obtain ⟨q2, hq⟩ : ∃ q, q1.alloc zfind = q := ⟨_, rfl⟩
      rw [hq, hy] at hra zb
      rw [hq] at xq
      have hS2 : (fun Wx : World => Hid (Ext w Wx)) q2 := Lib.hid (hS1.out.trans xq)
      have ZB := Lib.hid zb
      have YL := Lib.hid (show w.heap.size ≤ y by rw [← hy]; exact hS1.out.size)
      have RAY := Lib.hid hra
      have BM1 := Lib.hid (BM1.out.ext xq)
      clear hra zb xq hy hq
      refine wp_allocR 27 rfl _ RAY.out rfl ?_
      clear RAY
      refine hK.out _ _ (fun _ => hS2) ?_
      clear hK K
      try simp only [Act.put, List.getElem_toArray, List.getElem_cons_succ, List.getElem_cons_zero, List.setIfInBounds_toArray, List.set_cons_zero, List.set_cons_succ]
      refine oneT (i := 3) rfl (by kernel_rfl) (fun K hK => ?_)
      rw [if_pos (by kernel_rfl)]
      obtain ⟨q3, hq⟩ : ∃ q, q2.alloc (.cells #[.bool false, .int .i64 0, .int .i64 0, .slice (some ⟨xm1, 0, none⟩) 65537 65537] 37) = q := ⟨_, rfl⟩
      have xq : Ext q2 q3 := by rw [← hq]; exact Ext.alloc _ _
      obtain ⟨go, hgo⟩ : ∃ go, q2.heap.size = go := ⟨_, rfl⟩
      obtain ⟨fo, ho, FO⟩ : ∃ fo : Nat → Op13, Os13 q3 (some ⟨go, 0, none⟩) 1 1 fo ∧ RowKit.Hid (fo 0 = ⟨false, 0, 0, some ⟨xm1, 0, none⟩, 65537, 65537, z1⟩) := ⟨fun k => if k = 0 then ⟨false, 0, 0, some ⟨xm1, 0, none⟩, 65537, 65537, z1⟩ else default, os_cells _ go _ (0, 0) (by rw [← hq, ← hgo]; exact heap_alloc_new _ _) 1 _ (by omega) (fun k hk => by
        match k, hk with
        | 0, _ => exact ⟨rfl, rfl, rfl, rfl, BM1.out.ext xq⟩), Lib.hid rfl⟩
      have OO := Lib.hid ho
      clear ho
      have hS3 : (fun Wx : World => Hid (Ext w Wx)) q3 := Lib.hid (hS2.out.trans xq)
      have BM1 := Lib.hid (BM1.out.ext xq)
      have ZB := Lib.hid ((xq.block _ (Array.getElem?_eq_some_iff.1 ZB.out).1).trans ZB.out)
      clear xq
      go_wp2_with (fail)
      try rw [hgo]
      try rw [hq]
      clear hq hgo
      refine hK.out _ _ (fun _ => hS3) ?_
      clear hK K
      try simp only [Act.put, List.getElem_toArray, List.getElem_cons_succ, List.getElem_cons_zero, List.setIfInBounds_toArray, List.set_cons_zero, List.set_cons_succ]
      refine oneT (i := 4) rfl (by kernel_rfl) (fun K hK => ?_)
      rw [if_pos (by kernel_rfl)]
      have hT := told13_any q3 n0 _ _ _ _ _ _ _ _ _ (FD.out _ hS3.out) nu_begin.2.2 _ _ _ _ OO.out (fun i hi => by
        have hi : i < 1 := hi
        obtain rfl : i = 0 := by omega
        rw [FO.out]
        show (0 : Int) ≤ 0 ∧ (0 : Int) < 4
        omega)
      have hN : tolds n0 fo 1 = n3 := by
        show Finds.toldF n0 (fo 0).index (fo 0).e (fo 0).b = n3
        rw [FO.out]
        exact (nu_big _ hl1.out).1
      rw [hN] at hT
      have HT := Lib.hid hT
      clear hT
      go_wp2_with (fail)
      with_reducible refine HT.out.mono ?_
      rintro e q4 ⟨A, n, c, B, m, d, C, k, e9, rfl, hd, xq⟩
      have hS4 : (fun Wx : World => Hid (Ext w Wx)) q4 := Lib.hid (hS3.out.trans xq)
      have HD := Lib.hid hd
      have BM1 := Lib.hid (BM1.out.ext xq)
      have ZB := Lib.hid ((xq.block _ (Array.getElem?_eq_some_iff.1 ZB.out).1).trans ZB.out)
      have OO := Lib.hid (OO.out.ext xq)
      clear hd xq HT
      go_wp2_with (fail)
      refine hK.out _ _ (fun _ => hS4) ?_
      clear hK K
      try simp only [Act.put, List.getElem_toArray, List.getElem_cons_succ, List.getElem_cons_zero, List.setIfInBounds_toArray, List.set_cons_zero, List.set_cons_succ]
      refine takeC [] (i := 5) (v := ?_) rfl (by kernel_rfl) (by kernel_rfl) (by kernel_rfl) (by kernel_rfl) (by decide) (fun _ _ _ h => h) (by kernel_rfl) (Or.inl ⟨by kernel_rfl, ?_⟩) (by assumption) ?_
      rotate_left
      · (intro W9 hSw; go_simp; (try with_reducible rfl))
      try simp only [Act.put, List.getElem_toArray, List.getElem_cons_succ, List.getElem_cons_zero, List.setIfInBounds_toArray, List.set_cons_zero, List.set_cons_succ]
      refine takeC [] (i := 6) (v := ?_) rfl (by kernel_rfl) (by kernel_rfl) (by kernel_rfl) (by kernel_rfl) (by decide) (fun _ _ _ h => h) (by kernel_rfl) (Or.inl ⟨by kernel_rfl, ?_⟩) (by assumption) ?_
      rotate_left
      · (intro W9 hSw; go_simp; (try with_reducible rfl))
      try simp only [Act.put, List.getElem_toArray, List.getElem_cons_succ, List.getElem_cons_zero, List.setIfInBounds_toArray, List.set_cons_zero, List.set_cons_succ]
      refine pureT (i := 7) (v := ?_) rfl (by kernel_rfl) (by kernel_rfl) (by kernel_rfl) (by decide) (fun _ _ _ h => h) (Or.inl ⟨by kernel_rfl, ?_⟩) (fun _ => by assumption) ?_
      rotate_left
      · (intro W9 hSw; go_simp; (try with_reducible rfl))
      try simp only [Act.put, List.getElem_toArray, List.getElem_cons_succ, List.getElem_cons_zero, List.setIfInBounds_toArray, List.set_cons_zero, List.set_cons_succ]
      refine oneT (i := 9) rfl (by kernel_rfl) (fun K hK => ?_)
      rw [if_pos (by kernel_rfl)]
      obtain ⟨wz, sa, xz, _⟩ := find_put q4 ZB.out n3 A n c B m d C k e9
      refine wp_storeR 27 (.tmp 17) (.tmp 126) rfl rfl rfl sa rfl ?_
      clear sa
      refine hK.out _ _ (fun h => absurd (show true = false from h) (by decide)) ?_
      clear hK K
      try simp only [Act.put, List.getElem_toArray, List.getElem_cons_succ, List.getElem_cons_zero, List.setIfInBounds_toArray, List.set_cons_zero, List.set_cons_succ]
      refine oneT (i := 10) rfl (by kernel_rfl) (fun K hK => ?_)
      rw [if_pos (by kernel_rfl)]
      go_wp2_with (fail)
      refine hK.out _ _ (fun h => absurd (show true = false from h) (by decide)) ?_
      clear hK K
      try simp only [Act.put, List.getElem_toArray, List.getElem_cons_succ, List.getElem_cons_zero, List.setIfInBounds_toArray, List.set_cons_zero, List.set_cons_succ]
      refine doneT (by kernel_rfl) ?_ _
      go_wp2_with (fail)
      have XZ := Lib.hid (xz w hS4.out YL.out)
      exact HK.out _ _ (part15 (Lib.hid (F5.out.ext (XZ.out))) (Lib.hid (F13.out.ext (XZ.out))) (Lib.hid (F15.out.ext (XZ.out))) (Lib.hid (XW.out.trans (XZ.out))))
  · rw [if_pos (by kernel_rfl)]
    have hra := run_alloc_find w.drew
    have zb := heap_alloc_new w.drew zfind
    have xq := Ext.alloc w.drew zfind
    obtain ⟨y, hy⟩ : ∃ y, w.drew.heap.size = y := ⟨_, rfl⟩
    obtain ⟨q1, hq⟩ : ∃ q, w.drew.alloc zfind = q := ⟨_, rfl⟩
    rw [hq, hy] at hra zb
    rw [hq] at xq
    have hS1 : (fun Wx : World => Hid (Ext w Wx)) q1 := Lib.hid (hS0.out.trans xq)
    have ZB := Lib.hid zb
    have YL := Lib.hid (show w.heap.size ≤ y by rw [← hy]; exact hS0.out.size)
    have RAY := Lib.hid hra
    clear hra zb xq hy hq
    refine wp_allocR 27 rfl _ RAY.out rfl ?_
    clear RAY
    refine hK.out _ _ (fun _ => hS1) ?_
    clear hK K
    try simp only [Act.put, List.getElem_toArray, List.getElem_cons_succ, List.getElem_cons_zero, List.setIfInBounds_toArray, List.set_cons_zero, List.set_cons_succ]
    refine oneT (i := 1) rfl (by kernel_rfl) (fun K hK => ?_)
    rw [if_pos (by kernel_rfl)]
    obtain ⟨xm1, q2, rm, bm, xq⟩ := make_big q1 65537 (by omega)
    obtain ⟨z1, hz1, hl1⟩ : ∃ z : List UInt8, List.replicate 65537 0 = z ∧ RowKit.Hid (z.length = 65537) := ⟨_, rfl, Lib.hid List.length_replicate⟩
    rw [hz1] at bm
    clear hz1
    have rm : (Instr.makeSlice 35 (.int .i64 65537) (.int .i64 65537)).run Try.prog q1 = .ok (.slice (some ⟨xm1, 0, none⟩) 65537 65537) q2 := rm
    have hS2 : (fun Wx : World => Hid (Ext w Wx)) q2 := Lib.hid (hS1.out.trans xq)
    have BM1 := Lib.hid bm
    have ZB := Lib.hid ((xq.block _ (Array.getElem?_eq_some_iff.1 ZB.out).1).trans ZB.out)
    clear bm xq
    go_wp2_with (fail)
    clear rm
    refine hK.out _ _ (fun _ => hS2) ?_
    clear hK K
    try simp only [Act.put, List.getElem_toArray, List.getElem_cons_succ, List.getElem_cons_zero, List.setIfInBounds_toArray, List.set_cons_zero, List.set_cons_succ]
    refine takeC [] (i := 2) (v := ?_) rfl (by kernel_rfl) (by kernel_rfl) (by kernel_rfl) (by kernel_rfl) (by decide) (fun _ _ _ h => h) (by kernel_rfl) (Or.inl ⟨by kernel_rfl, ?_⟩) (by assumption) ?_
    rotate_left
    · (intro W9 hSw; go_simp; (try with_reducible rfl))
    try simp only [Act.put, List.getElem_toArray, List.getElem_cons_succ, List.getElem_cons_zero, List.setIfInBounds_toArray, List.set_cons_zero, List.set_cons_succ]
    refine oneT (i := 3) rfl (by kernel_rfl) (fun K hK => ?_)
    rw [if_pos (by kernel_rfl)]
    obtain ⟨q3, hq⟩ : ∃ q, q2.alloc (.cells #[.bool false, .int .i64 0, .int .i64 0, .slice (some ⟨xm1, 0, none⟩) 65537 65537] 37) = q := ⟨_, rfl⟩
    have xq : Ext q2 q3 := by rw [← hq]; exact Ext.alloc _ _
    obtain ⟨go, hgo⟩ : ∃ go, q2.heap.size = go := ⟨_, rfl⟩
    obtain ⟨fo, ho, FO⟩ : ∃ fo : Nat → Op13, Os13 q3 (some ⟨go, 0, none⟩) 1 1 fo ∧ RowKit.Hid (fo 0 = ⟨false, 0, 0, some ⟨xm1, 0, none⟩, 65537, 65537, z1⟩) := ⟨fun k => if k = 0 then ⟨false, 0, 0, some ⟨xm1, 0, none⟩, 65537, 65537, z1⟩ else default, os_cells _ go _ (0, 0) (by rw [← hq, ← hgo]; exact heap_alloc_new _ _) 1 _ (by omega) (fun k hk => by
      match k, hk with
      | 0, _ => exact ⟨rfl, rfl, rfl, rfl, BM1.out.ext xq⟩), Lib.hid rfl⟩
    have OO := Lib.hid ho
    clear ho
    have hS3 : (fun Wx : World => Hid (Ext w Wx)) q3 := Lib.hid (hS2.out.trans xq)
    have ZB := Lib.hid ((xq.block _ (Array.getElem?_eq_some_iff.1 ZB.out).1).trans ZB.out)
    have BM1 := Lib.hid (BM1.out.ext xq)
    clear xq
    go_wp2_with (fail)
    try rw [hgo]
    try rw [hq]
    clear hq hgo
    refine hK.out _ _ (fun _ => hS3) ?_
    clear hK K
    try simp only [Act.put, List.getElem_toArray, List.getElem_cons_succ, List.getElem_cons_zero, List.setIfInBounds_toArray, List.set_cons_zero, List.set_cons_succ]
    refine oneT (i := 4) rfl (by kernel_rfl) (fun K hK => ?_)
    rw [if_pos (by kernel_rfl)]
    have hT := told13_any q3 n0 _ _ _ _ _ _ _ _ _ (FD.out _ hS3.out) nu_begin.2.2 _ _ _ _ OO.out (fun i hi => by
      have hi : i < 1 := hi
      obtain rfl : i = 0 := by omega
      rw [FO.out]
      show (0 : Int) ≤ 0 ∧ (0 : Int) < 4
      omega)
    have hN : tolds n0 fo 1 = n3 := by
      show Finds.toldF n0 (fo 0).index (fo 0).e (fo 0).b = n3
      rw [FO.out]
      exact (nu_big _ hl1.out).1
    rw [hN] at hT
    have HT := Lib.hid hT
    clear hT
    go_wp2_with (fail)
    with_reducible refine HT.out.mono ?_
    rintro e q4 ⟨A, n, c, B, m, d, C, k, e9, rfl, hd, xq⟩
    have hS4 : (fun Wx : World => Hid (Ext w Wx)) q4 := Lib.hid (hS3.out.trans xq)
    have HD := Lib.hid hd
    have ZB := Lib.hid ((xq.block _ (Array.getElem?_eq_some_iff.1 ZB.out).1).trans ZB.out)
    have BM1 := Lib.hid (BM1.out.ext xq)
    have OO := Lib.hid (OO.out.ext xq)
    clear hd xq HT
    go_wp2_with (fail)
    refine hK.out _ _ (fun _ => hS4) ?_
    clear hK K
    try simp only [Act.put, List.getElem_toArray, List.getElem_cons_succ, List.getElem_cons_zero, List.setIfInBounds_toArray, List.set_cons_zero, List.set_cons_succ]
    refine takeC [] (i := 5) (v := ?_) rfl (by kernel_rfl) (by kernel_rfl) (by kernel_rfl) (by kernel_rfl) (by decide) (fun _ _ _ h => h) (by kernel_rfl) (Or.inl ⟨by kernel_rfl, ?_⟩) (by assumption) ?_
    rotate_left
    · (intro W9 hSw; go_simp; (try with_reducible rfl))
    try simp only [Act.put, List.getElem_toArray, List.getElem_cons_succ, List.getElem_cons_zero, List.setIfInBounds_toArray, List.set_cons_zero, List.set_cons_succ]
    refine takeC [] (i := 6) (v := ?_) rfl (by kernel_rfl) (by kernel_rfl) (by kernel_rfl) (by kernel_rfl) (by decide) (fun _ _ _ h => h) (by kernel_rfl) (Or.inl ⟨by kernel_rfl, ?_⟩) (by assumption) ?_
    rotate_left
    · (intro W9 hSw; go_simp; (try with_reducible rfl))
    try simp only [Act.put, List.getElem_toArray, List.getElem_cons_succ, List.getElem_cons_zero, List.setIfInBounds_toArray, List.set_cons_zero, List.set_cons_succ]
    refine pureT (i := 7) (v := ?_) rfl (by kernel_rfl) (by kernel_rfl) (by kernel_rfl) (by decide) (fun _ _ _ h => h) (Or.inl ⟨by kernel_rfl, ?_⟩) (fun _ => by assumption) ?_
    rotate_left
    · (intro W9 hSw; go_simp; (try with_reducible rfl))
    try simp only [Act.put, List.getElem_toArray, List.getElem_cons_succ, List.getElem_cons_zero, List.setIfInBounds_toArray, List.set_cons_zero, List.set_cons_succ]
    refine oneT (i := 9) rfl (by kernel_rfl) (fun K hK => ?_)
    rw [if_pos (by kernel_rfl)]
    obtain ⟨wz, sa, xz, _⟩ := find_put q4 ZB.out n3 A n c B m d C k e9
    refine wp_storeR 27 (.tmp 17) (.tmp 126) rfl rfl rfl sa rfl ?_
    clear sa
    refine hK.out _ _ (fun h => absurd (show true = false from h) (by decide)) ?_
    clear hK K
    try simp only [Act.put, List.getElem_toArray, List.getElem_cons_succ, List.getElem_cons_zero, List.setIfInBounds_toArray, List.set_cons_zero, List.set_cons_succ]
    refine oneT (i := 10) rfl (by kernel_rfl) (fun K hK => ?_)
    rw [if_pos (by kernel_rfl)]
    go_wp2_with (fail)
    refine hK.out _ _ (fun h => absurd (show true = false from h) (by decide)) ?_
    clear hK K
    try simp only [Act.put, List.getElem_toArray, List.getElem_cons_succ, List.getElem_cons_zero, List.setIfInBounds_toArray, List.set_cons_zero, List.set_cons_succ]
    refine doneT (by kernel_rfl) ?_ _
    go_wp2_with (fail)
    have XZ := Lib.hid (xz w hS4.out YL.out)
    exact HK.out _ _ (part15 (Lib.hid (F5.out.ext (XZ.out))) (Lib.hid (F13.out.ext (XZ.out))) (Lib.hid (F15.out.ext (XZ.out))) (Lib.hid (XW.out.trans (XZ.out))))
end Go.Proofs.Ytfpglkacjecoeaa
namespace Go.Proofs.Ytfpglkacjecoeaa
open Go.RowKit

set_option maxRecDepth 100000 in
set_option maxHeartbeats 4000000 in
theorem part13 {w0 w : World} {g5 : Nat} {g13 : Nat} {u0 u1 u2 u3 u4 u7 u9 u11 u15 u16 u17 u18 u19 u20 u21 u22 u23 u24 u25 u26 u27 u28 u29 u30 u31 u32 u33 u34 u35 u36 u37 u38 u39 u40 u41 u42 u43 u44 u45 u46 u47 u48 u49 u50 u51 u52 u53 u54 u55 u56 u57 u58 u59 u60 u61 u62 u63 u64 u65 u66 u67 u68 u69 u70 u71 u72 u73 u74 u75 u76 u77 u78 u79 u80 u81 u82 u83 u84 u85 u86 u87 u88 u89 u90 u91 u92 u93 u94 u95 u96 u97 u98 u99 u100 u101 u102 u103 u104 u105 u106 u107 u108 u109 u110 u111 u112 u113 u114 u115 u116 u117 u118 u119 u120 u121 u122 u123 u124 u125 u126 u127 u128 u129 u130 u131 u132 u133 u134 u135 u136 u137 u138 u139 u140 u141 u142 u143 u144 u145 u146 u147 u148 u149 u150 u151 u152 u153 u154 u155 u156 u157 u158 u159 u160 u161 u162 u163 u164 u165 u166 u167 u168 u169 u170 u171 u172 u173 u174 u175 u176 u177 u178 u179 u180 u181 u182 u183 u184 u185 u186 u187 u188 u189 u190 u191 u192 u193 u194 u195 u196 u197 u198 u199 u200 u201 u202 u203 u204 u205 u206 u207 u208 u209 u210 u211 u212 u213 u214 u215 u216 u217 u218 u219 u220 u221 u222 u223 u224 u225 u226 u227 u228 u229 u230 u231 u232 u233 u234 u235 u236 u237 u238 u239 u240 u241 u242 u243 u244 u245 u246 u247 u248 u249 u250 u251 u252 u253 u254 u255 u256 u257 u258 u259 u260 u261 u262 u263 u264 u265 u266 u267 u268 u269 u270 u271 u272 u273 u274 u275 u276 u277 u278 u279 u280 u281 u282 u283 u284 u285 u286 u287 u288 u289 u290 u291 u292 u293 u294 u295 u296 u297 u298 u299 u300 u301 u302 u303 u304 u305 u306 u307 u308 u309 u310 u311 u312 u313 u314 u315 u316 u317 u318 u319 u320 u321 u322 u323 u324 : Value} (F5 : RowKit.Hid (Fv w g5 n0)) (F13 : RowKit.Hid (Fv w g13 n1)) (XW : RowKit.Hid (Ext w0 w)) :
    (tailAt 7 (bodyOf Try.f3)).wp Try.prog (bodyPost Try.prog Try.f3 (fun e w' => e = .returned (.bool true) ∧ Ext w0 w')) { tmps := (u0 :: u1 :: u2 :: u3 :: u4 :: .pointer (some ⟨g5, 0, none⟩) :: .int .i64 0 :: u7 :: .int .i64 140 :: u9 :: .int .i64 140 :: u11 :: .int .i64 140 :: .pointer (some ⟨g13, 0, none⟩) :: .bool true :: u15 :: u16 :: u17 :: u18 :: u19 :: u20 :: u21 :: u22 :: u23 :: u24 :: u25 :: u26 :: u27 :: u28 :: u29 :: u30 :: u31 :: u32 :: u33 :: u34 :: u35 :: u36 :: u37 :: u38 :: u39 :: u40 :: u41 :: u42 :: u43 :: u44 :: u45 :: u46 :: u47 :: u48 :: u49 :: u50 :: u51 :: u52 :: u53 :: u54 :: u55 :: u56 :: u57 :: u58 :: u59 :: u60 :: u61 :: u62 :: u63 :: u64 :: u65 :: u66 :: u67 :: u68 :: u69 :: u70 :: u71 :: u72 :: u73 :: u74 :: u75 :: u76 :: u77 :: u78 :: u79 :: u80 :: u81 :: u82 :: u83 :: u84 :: u85 :: u86 :: u87 :: u88 :: u89 :: u90 :: u91 :: u92 :: u93 :: u94 :: u95 :: u96 :: u97 :: u98 :: u99 :: u100 :: u101 :: u102 :: u103 :: u104 :: u105 :: u106 :: u107 :: u108 :: u109 :: u110 :: u111 :: u112 :: u113 :: u114 :: u115 :: u116 :: u117 :: u118 :: u119 :: u120 :: u121 :: u122 :: u123 :: u124 :: u125 :: u126 :: u127 :: u128 :: u129 :: u130 :: u131 :: u132 :: u133 :: u134 :: u135 :: u136 :: u137 :: u138 :: u139 :: u140 :: u141 :: u142 :: u143 :: u144 :: u145 :: u146 :: u147 :: u148 :: u149 :: u150 :: u151 :: u152 :: u153 :: u154 :: u155 :: u156 :: u157 :: u158 :: u159 :: u160 :: u161 :: u162 :: u163 :: u164 :: u165 :: u166 :: u167 :: u168 :: u169 :: u170 :: u171 :: u172 :: u173 :: u174 :: u175 :: u176 :: u177 :: u178 :: u179 :: u180 :: u181 :: u182 :: u183 :: u184 :: u185 :: u186 :: u187 :: u188 :: u189 :: u190 :: u191 :: u192 :: u193 :: u194 :: u195 :: u196 :: u197 :: u198 :: u199 :: u200 :: u201 :: u202 :: u203 :: u204 :: u205 :: u206 :: u207 :: u208 :: u209 :: u210 :: u211 :: u212 :: u213 :: u214 :: u215 :: u216 :: u217 :: u218 :: u219 :: u220 :: u221 :: u222 :: u223 :: u224 :: u225 :: u226 :: u227 :: u228 :: u229 :: u230 :: u231 :: u232 :: u233 :: u234 :: u235 :: u236 :: u237 :: u238 :: u239 :: u240 :: u241 :: u242 :: u243 :: u244 :: u245 :: u246 :: u247 :: u248 :: u249 :: u250 :: u251 :: u252 :: u253 :: u254 :: u255 :: u256 :: u257 :: u258 :: u259 :: u260 :: u261 :: u262 :: u263 :: u264 :: u265 :: u266 :: u267 :: u268 :: u269 :: u270 :: u271 :: u272 :: u273 :: u274 :: u275 :: u276 :: u277 :: u278 :: u279 :: u280 :: u281 :: u282 :: u283 :: u284 :: u285 :: u286 :: u287 :: u288 :: u289 :: u290 :: u291 :: u292 :: u293 :: u294 :: u295 :: u296 :: u297 :: u298 :: u299 :: u300 :: u301 :: u302 :: u303 :: u304 :: u305 :: u306 :: u307 :: u308 :: u309 :: u310 :: u311 :: u312 :: u313 :: u314 :: u315 :: u316 :: u317 :: u318 :: u319 :: u320 :: u321 :: u322 :: u323 :: u324 :: []).toArray, defers := [] } w := by
  dsimp only [tailAt, bodyOf, Try.f3, Option.getD]
  refine wp_seq_k (fun K HK0 => ?_)
  have HK := Lib.hid HK0
  clear HK0
  obtain ⟨A0, m0, c0, B0, d0, e0, C0, k0, l0, ld, fd0⟩ := F13.out.load
  have LD := Lib.hid ld
  have HT := Lib.hid (told_h _ _ _ _ _ _ _ _ _ _ fd0)
  clear ld fd0
  go_wp2_with (first | ((with_reducible refine opIs ⟨some 112, .load 27 (.tmp 13), _, _, _, _⟩ ?_); refine wpList_loadR rfl 27 (.tmp 13) rfl rfl LD.out ?_))
  with_reducible refine HT.out.mono ?_
  rintro e w9 ⟨A, n, c, B, m, d, C, k, e9, rfl, hd, x9⟩
  obtain ⟨x, wa, wb, ra, sa, fv, xb⟩ := find_new w9 hd
  have RA := Lib.hid ra
  have SA := Lib.hid sa
  clear ra sa
  go_wp2_with (first
    | ((with_reducible refine opIs ⟨some 15, .alloc 27, _, _, _, _⟩ ?_); refine wpList_allocR rfl 27 rfl _ RA.out ?_)
    | ((with_reducible refine opIs ⟨none, .store 27 (.tmp 15) (.tmp 118), _, _, _, _⟩ ?_); refine wpList_storeR rfl 27 (.tmp 15) (.tmp 118) rfl rfl rfl SA.out ?_))
  exact HK.out _ _ (part14 (Lib.hid (F5.out.ext (((by first | exact ((Ext.alloc _ _).thenAlloc _).thenAlloc _ | exact Ext.alloc _ _ : Ext w _).trans x9).trans xb))) (Lib.hid (F13.out.ext (((by first | exact ((Ext.alloc _ _).thenAlloc _).thenAlloc _ | exact Ext.alloc _ _ : Ext w _).trans x9).trans xb))) (Lib.hid fv) (Lib.hid (XW.out.trans (((by first | exact ((Ext.alloc _ _).thenAlloc _).thenAlloc _ | exact Ext.alloc _ _ : Ext w _).trans x9).trans xb))))
end Go.Proofs.Ytfpglkacjecoeaa
namespace Go.Proofs.Ytfpglkacjecoeaa
open Go.RowKit

set_option maxRecDepth 100000 in
set_option maxHeartbeats 4000000 in
theorem part12 {w0 w : World} {g5 : Nat} {u0 u1 u2 u3 u4 u7 u9 u11 u13 u14 u15 u16 u17 u18 u19 u20 u21 u22 u23 u24 u25 u26 u27 u28 u29 u30 u31 u32 u33 u34 u35 u36 u37 u38 u39 u40 u41 u42 u43 u44 u45 u46 u47 u48 u49 u50 u51 u52 u53 u54 u55 u56 u57 u58 u59 u60 u61 u62 u63 u64 u65 u66 u67 u68 u69 u70 u71 u72 u73 u74 u75 u76 u77 u78 u79 u80 u81 u82 u83 u84 u85 u86 u87 u88 u89 u90 u91 u92 u93 u94 u95 u96 u97 u98 u99 u100 u101 u102 u103 u104 u105 u106 u107 u108 u109 u110 u111 u112 u113 u114 u115 u116 u117 u118 u119 u120 u121 u122 u123 u124 u125 u126 u127 u128 u129 u130 u131 u132 u133 u134 u135 u136 u137 u138 u139 u140 u141 u142 u143 u144 u145 u146 u147 u148 u149 u150 u151 u152 u153 u154 u155 u156 u157 u158 u159 u160 u161 u162 u163 u164 u165 u166 u167 u168 u169 u170 u171 u172 u173 u174 u175 u176 u177 u178 u179 u180 u181 u182 u183 u184 u185 u186 u187 u188 u189 u190 u191 u192 u193 u194 u195 u196 u197 u198 u199 u200 u201 u202 u203 u204 u205 u206 u207 u208 u209 u210 u211 u212 u213 u214 u215 u216 u217 u218 u219 u220 u221 u222 u223 u224 u225 u226 u227 u228 u229 u230 u231 u232 u233 u234 u235 u236 u237 u238 u239 u240 u241 u242 u243 u244 u245 u246 u247 u248 u249 u250 u251 u252 u253 u254 u255 u256 u257 u258 u259 u260 u261 u262 u263 u264 u265 u266 u267 u268 u269 u270 u271 u272 u273 u274 u275 u276 u277 u278 u279 u280 u281 u282 u283 u284 u285 u286 u287 u288 u289 u290 u291 u292 u293 u294 u295 u296 u297 u298 u299 u300 u301 u302 u303 u304 u305 u306 u307 u308 u309 u310 u311 u312 u313 u314 u315 u316 u317 u318 u319 u320 u321 u322 u323 u324 : Value} (F5 : RowKit.Hid (Fv w g5 n0)) (XW : RowKit.Hid (Ext w0 w)) :
    (tailAt 6 (bodyOf Try.f3)).wp Try.prog (bodyPost Try.prog Try.f3 (fun e w' => e = .returned (.bool true) ∧ Ext w0 w')) { tmps := (u0 :: u1 :: u2 :: u3 :: u4 :: .pointer (some ⟨g5, 0, none⟩) :: .int .i64 0 :: u7 :: .int .i64 140 :: u9 :: .int .i64 140 :: u11 :: .int .i64 140 :: u13 :: u14 :: u15 :: u16 :: u17 :: u18 :: u19 :: u20 :: u21 :: u22 :: u23 :: u24 :: u25 :: u26 :: u27 :: u28 :: u29 :: u30 :: u31 :: u32 :: u33 :: u34 :: u35 :: u36 :: u37 :: u38 :: u39 :: u40 :: u41 :: u42 :: u43 :: u44 :: u45 :: u46 :: u47 :: u48 :: u49 :: u50 :: u51 :: u52 :: u53 :: u54 :: u55 :: u56 :: u57 :: u58 :: u59 :: u60 :: u61 :: u62 :: u63 :: u64 :: u65 :: u66 :: u67 :: u68 :: u69 :: u70 :: u71 :: u72 :: u73 :: u74 :: u75 :: u76 :: u77 :: u78 :: u79 :: u80 :: u81 :: u82 :: u83 :: u84 :: u85 :: u86 :: u87 :: u88 :: u89 :: u90 :: u91 :: u92 :: u93 :: u94 :: u95 :: u96 :: u97 :: u98 :: u99 :: u100 :: u101 :: u102 :: u103 :: u104 :: u105 :: u106 :: u107 :: u108 :: u109 :: u110 :: u111 :: u112 :: u113 :: u114 :: u115 :: u116 :: u117 :: u118 :: u119 :: u120 :: u121 :: u122 :: u123 :: u124 :: u125 :: u126 :: u127 :: u128 :: u129 :: u130 :: u131 :: u132 :: u133 :: u134 :: u135 :: u136 :: u137 :: u138 :: u139 :: u140 :: u141 :: u142 :: u143 :: u144 :: u145 :: u146 :: u147 :: u148 :: u149 :: u150 :: u151 :: u152 :: u153 :: u154 :: u155 :: u156 :: u157 :: u158 :: u159 :: u160 :: u161 :: u162 :: u163 :: u164 :: u165 :: u166 :: u167 :: u168 :: u169 :: u170 :: u171 :: u172 :: u173 :: u174 :: u175 :: u176 :: u177 :: u178 :: u179 :: u180 :: u181 :: u182 :: u183 :: u184 :: u185 :: u186 :: u187 :: u188 :: u189 :: u190 :: u191 :: u192 :: u193 :: u194 :: u195 :: u196 :: u197 :: u198 :: u199 :: u200 :: u201 :: u202 :: u203 :: u204 :: u205 :: u206 :: u207 :: u208 :: u209 :: u210 :: u211 :: u212 :: u213 :: u214 :: u215 :: u216 :: u217 :: u218 :: u219 :: u220 :: u221 :: u222 :: u223 :: u224 :: u225 :: u226 :: u227 :: u228 :: u229 :: u230 :: u231 :: u232 :: u233 :: u234 :: u235 :: u236 :: u237 :: u238 :: u239 :: u240 :: u241 :: u242 :: u243 :: u244 :: u245 :: u246 :: u247 :: u248 :: u249 :: u250 :: u251 :: u252 :: u253 :: u254 :: u255 :: u256 :: u257 :: u258 :: u259 :: u260 :: u261 :: u262 :: u263 :: u264 :: u265 :: u266 :: u267 :: u268 :: u269 :: u270 :: u271 :: u272 :: u273 :: u274 :: u275 :: u276 :: u277 :: u278 :: u279 :: u280 :: u281 :: u282 :: u283 :: u284 :: u285 :: u286 :: u287 :: u288 :: u289 :: u290 :: u291 :: u292 :: u293 :: u294 :: u295 :: u296 :: u297 :: u298 :: u299 :: u300 :: u301 :: u302 :: u303 :: u304 :: u305 :: u306 :: u307 :: u308 :: u309 :: u310 :: u311 :: u312 :: u313 :: u314 :: u315 :: u316 :: u317 :: u318 :: u319 :: u320 :: u321 :: u322 :: u323 :: u324 :: []).toArray, defers := [] } w := by
  dsimp only [tailAt, bodyOf, Try.f3, Option.getD]
  refine wp_seq_k (fun K HK0 => ?_)
  have HK := Lib.hid HK0
  clear HK0
  obtain ⟨A0, m0, c0, B0, d0, e0, C0, k0, l0, ld, fd0⟩ := F5.out.load
  have LD := Lib.hid ld
  have HT := Lib.hid (told_g _ _ _ _ _ _ _ _ _ _ fd0)
  clear ld fd0
  go_wp2_with (first | ((with_reducible refine opIs ⟨some 100, .load 27 (.tmp 5), _, _, _, _⟩ ?_); refine wpList_loadR rfl 27 (.tmp 5) rfl rfl LD.out ?_))
  with_reducible refine HT.out.mono ?_
  rintro e w9 ⟨A, n, c, B, m, d, C, k, e9, rfl, hd, x9⟩
  obtain ⟨x, wa, wb, ra, sa, fv, xb⟩ := find_new w9 hd
  have RA := Lib.hid ra
  have SA := Lib.hid sa
  clear ra sa
  go_wp2_with (first
    | ((with_reducible refine opIs ⟨some 13, .alloc 27, _, _, _, _⟩ ?_); refine wpList_allocR rfl 27 rfl _ RA.out ?_)
    | ((with_reducible refine opIs ⟨none, .store 27 (.tmp 13) (.tmp 109), _, _, _, _⟩ ?_); refine wpList_storeR rfl 27 (.tmp 13) (.tmp 109) rfl rfl rfl SA.out ?_))
  exact HK.out _ _ (part13 (Lib.hid (F5.out.ext (((by first | exact ((Ext.alloc _ _).thenAlloc _).thenAlloc _ | exact Ext.alloc _ _ : Ext w _).trans x9).trans xb))) (Lib.hid fv) (Lib.hid (XW.out.trans (((by first | exact ((Ext.alloc _ _).thenAlloc _).thenAlloc _ | exact Ext.alloc _ _ : Ext w _).trans x9).trans xb))))
end Go.Proofs.Ytfpglkacjecoeaa
