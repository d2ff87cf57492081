/- ChaseMore: one of the four chases, as a declaration of its own. Conditions: sizes. -/
import Derived.Test.YtbeglemohfbdfaaLzK
import Derived.Test.YtbeglemohfbdfaaLzH
import Derived.Deep.DeepCutAuto
import Derived.Deep.CutBlock
namespace Go.Proofs.Ytbeglemohfbdfaa
open Go.RowKit

/-- What is told of one of the four chases. -/
def MoreOne (w : World) (c q : Value) (n p i : Nat) (e0 N cl ch s : Int) : Prop := ∃ (g M dl dh : Int) (x y : Nat), (x < 8 ∧ y < 8 ∧ (i < 2 → sizeN x ≤ sizeN y) ∧ (i = 2 → x = y) ∧ (i = 3 → sizeN x = sizeN y)) ∧ ((g = 0 ∨ g = 10) ∧ (2 ≤ i → g = e0)) ∧
  (g = 0 → e0 = 0 ∧ ((-100000 ≤ cl ∧ cl ≤ 100000) ∧ (-100000 ≤ ch ∧ ch ≤ 100000) ∧ 0 ≤ s ∧ s ≤ 100000) ∧ (M ≤ N ∧ cl + s ≤ dl ∧ dh ≤ ch + s) ∧ (2 ≤ i → M = N ∧ dl = cl + s ∧ dh = ch + s) ∧ ∀ r, r < n → MorePair w c q i s r) ∧
  (∀ V, Grow w V → Calls Try.prog 23 #[q] V fun e V2 => e = .returned (.tuple #[.agg #[.int .i64 dl, .int .i64 dh], .int .i64 g]) ∧ Grow V V2) ∧
  (∀ V, Grow w V → Calls Try.prog 24 #[q] V fun e V2 => e = .returned (.tuple #[.int .i64 M, .int .i64 g]) ∧ Grow V V2) ∧
  (∀ V, Grow w V → Calls Try.prog 16 #[c, .int .i64 p] V fun e V2 => e = .returned (.tuple #[.int .i64 (x : Nat), .int .i64 0]) ∧ Grow V V2) ∧
  (∀ V, Grow w V → Calls Try.prog 16 #[q, .int .i64 p] V fun e V2 => e = .returned (.tuple #[.int .i64 (y : Nat), .int .i64 0]) ∧ Grow V V2)
theorem MorePair.grow {w w' : World} {c q : Value} {i r : Nat} {s : Int} (h : MorePair w c q i s r) (hg : Grow w w') : MorePair w' c q i s r := by
  obtain ⟨a0, a1, b0, b1, u0, u1, w0, w1, f, g, h1, h2, h3, q1, q2, q3, q4, q5, q6⟩ := h
  exact ⟨a0, a1, b0, b1, u0, u1, w0, w1, f, g, h1, h2, h3, fun V hV => q1 V (hg.trans hV), fun V hV => q2 V (hg.trans hV), fun V hV => q3 V (hg.trans hV), fun V hV => q4 V (hg.trans hV), fun V hV => q5 V (hg.trans hV), fun V hV => q6 V (hg.trans hV)⟩
noncomputable def more5 : Code := (Try.f9.body.bind (blockNo 5)).getD .skip
set_option maxRecDepth 1000000 in
set_option maxHeartbeats 8000000 in
theorem wp_more5a (E E2 F m e0 N cl ch : Int) (a a2 : Option Addr) (n cap n2 cap2 p i B CC AR : Nat) (edge bv : Bool) {c0 c1 c2 c3 c5 c6 c7 c8 c10 c11 c12 c13 c16 c17 c18 c19 c20 c21 c22 c26 c28 c29 c30 c31 c32 c33 c34 c35 c36 c37 c38 c39 c40 c41 c42 c43 c44 c45 c46 c47 c48 c49 c50 c51 c52 c53 c54 c55 c56 c57 c58 c59 c60 c61 c62 c63 c64 c65 c66 c67 c68 c69 c70 c71 c72 c73 c74 c75 c76 c77 c78 c79 c80 c81 c82 c83 c84 c85 c86 c87 c88 c89 c90 c91 c92 c93 c94 c95 c96 c97 c98 c99 c100 c101 c102 c103 c104 c105 c106 c107 c108 c109 c110 c111 c112 c113 c114 c115 c116 c117 c118 c119 c120 c121 c122 c123 c124 c125 c126 c127 c128 c129 c130 c131 c132 c133 c134 c135 c136 c137 c138 c139 c140 c141 c142 c143 c144 c145 c146 c147 c148 c149 c150 c151 c152 c153 c154 c155 c156 c157 c158 c159 c160 c161 c162 c163 c164 c165 c166 c167 c168 c169 c170 c171 c172 c173 c174 c175 c177 c179 c180 c181 c182 c183 c184 c185 c186 c187 c188 c189 c190 c191 c192 c193 c194 c195 c196 c197 c198 c199 c200 c201 c202 c203 c204 c205 c206 c207 c208 c209 c210 c211 c212 c213 c214 c215 c216 c217 c218 c219 c220 c221 c222 c223 c224 c225 c226 c227 c228 c229 c230 c231 c232 c233 c234 c235 c236 c237 c238 c239 c240 c241 c242 c243 c244 c245 c246 c247 c248 c249 c250 c251 c252 c253 c254 c255 c256 c257 c258 c259 c260 c261 c262 c263 c264 c265 c266 c267 c268 c269 c270 c271 c272 c273 c274 c275 c276 c277 c278 c279 c280 c281 c282 c283 c284 c285 c286 c287 c288 c289 c290 c291 c292 c293 c294 c295 c296 c297 c298 c299 c300 c301 c302 c303 c304 c305 c306 c307 c308 c309 c310 c311 c312 c313 c314 c315 c316 c317 c318 c319 c320 c321 c322 c323 c324 c325 c326 c327 c328 c329 c330 c331 c332 c333 c334 c335 c336 c337 c338 c339 c340 c341 c342 c343 c344 c345 c346 c347 c348 c349 c350 c351 c352 c353 c354 c355 c356 c357 c358 c359 c360 c361 c362 c363 c364 c365 c366 c367 c368 c369 c370 c371 c372 c373 c374 c375 c376 c377 c378 c379 c380 c381 c382 c383 c384 c385 c386 c387 c388 c389 c390 c391 c392 c393 c394 c395 c396 c397 c398 c399 c400 c401 c402 c403 c404 c405 c406 c407 c408 c409 c410 c411 c412 c413 c414 c415 c416 c417 c418 c419 c420 c421 c422 c423 c424 c425 c426 c427 c428 c429 c430 c431 c432 c433 c434 c435 c436 c437 c438 c439 c440 c441 c442 c443 c444 c445 c446 c447 c448 c449 c450 c451 c452 c453 c454 c455 c456 c457 c458 c459 c460 c461 c462 c463 c464 c465 c466 c467 c468 c469 c470 c471 c472 c473 c474 c475 c476 c477 c478 c479 c480 c481 c482 c483 c484 c485 c486 : Value} (w : World) (Q : Exit → Act → World → Prop)
    (hc : w.cell? ⟨B, 0, none⟩ = some (.int .i64 E) ∧ w.cell? ⟨B, 1, none⟩ = some (.int .i64 F) ∧ w.cell? ⟨B, 2, none⟩ = some (.slice a n cap))
    (hq : w.cell? ⟨AR, i * 3, none⟩ = some (.int .i64 E2) ∧ w.cell? ⟨AR, i * 3 + 1, none⟩ = some (.int .i64 F) ∧ w.cell? ⟨AR, i * 3 + 2, none⟩ = some (.slice a2 n2 cap2))
    (hk : w.cell? ⟨CC, 0, none⟩ = some (.int .i64 cl) ∧ w.cell? ⟨CC, 1, none⟩ = some (.int .i64 ch)) (hn : n ≤ 6) (hi : i < 2)
    (hB : ∀ V, Grow w V → Calls Try.prog 29 #[.agg #[.int .i64 E2, .int .i64 F, .slice a2 n2 cap2]] V fun e V2 => e = .returned (.bool bv) ∧ Grow V V2)
    (hA : bv = true → MoreOne w (.agg #[.int .i64 E, .int .i64 F, .slice a n cap]) (.agg #[.int .i64 E2, .int .i64 F, .slice a2 n2 cap2]) n p i e0 N cl ch 0)
    (hK : ∀ (u8 u28 u29 u30 u31 u32 u33 u34 u35 u36 u37 u38 u39 u40 u41 u42 u43 u44 u45 u46 u47 u48 u49 u50 u51 u179 u180 u181 u182 u183 u184 u185 u186 u187 u188 u189 u190 u191 u192 u193 u194 u195 u196 u197 u198 u199 u200 u201 u202 u203 u204 u205 u206 u207 u208 u209 u210 u211 u212 u213 u214 u215 u216 u217 u218 u219 u220 u221 u222 u223 u224 u225 u226 u227 u228 u229 u230 u231 u232 u233 u234 u235 u236 u237 u238 u239 u240 u241 u242 u243 u244 u245 u246 u247 u248 u249 u250 u251 u252 u253 u254 u255 u256 u257 u258 u259 u260 u261 u262 u263 u264 u265 u266 u267 u268 u269 u270 u271 u272 u273 u274 u275 u276 u277 u278 u279 u280 u281 u282 u283 u284 u285 u286 u287 u288 u289 u290 u291 u292 u293 u294 u295 u296 u297 u298 u299 u300 u301 u302 u303 u304 u305 u306 u307 u308 u309 u310 u311 u312 u313 u314 u315 u316 u317 u318 u319 u320 u321 u322 u323 u324 u325 u326 u327 u328 u329 u330 u331 u332 u333 u334 u335 u336 u337 u338 u339 u340 u341 u342 u343 u344 u345 u346 u347 u348 u349 u350 u351 u352 u353 u354 u355 u356 u357 u358 u359 u360 u361 u362 u363 u364 u365 u366 u367 u368 u369 u370 u371 u372 u373 u374 u375 u376 u377 u378 u379 u380 u381 u382 u383 u384 u385 u386 u387 u388 u389 u390 u391 u392 u393 u394 u395 u396 u397 u398 u399 u400 u401 u402 u403 u404 u405 u406 u407 u408 u409 u410 u411 u412 u413 u414 u415 u416 u417 u418 u419 u420 u421 u422 u423 u424 u425 u426 u427 u428 u429 u430 u431 u432 u433 u434 u435 u436 u437 u438 u439 u440 u441 u442 u443 u444 u445 u446 u447 u448 u449 u450 u451 u452 u453 u454 u455 u456 u457 u458 u459 u460 u461 u462 u463 u464 u465 u466 u467 u468 : Value) (V : World), Grow w V → Q .normal ⟨#[c0, c1, c2, c3, .pointer (some ⟨B, 0, none⟩), c5, c6, c7, u8, .int .i64 p, c10, c11, c12, c13, .int .i64 m, .bool edge, c16, c17, c18, c19, c20, c21, c22, .pointer (some ⟨CC, 0, none⟩), .int .i64 e0, .int .i64 N, c26, .func (.func 32) #[] #[], u28, u29, u30, u31, u32, u33, u34, u35, u36, u37, u38, u39, u40, u41, u42, u43, u44, u45, u46, u47, u48, u49, u50, u51, c52, c53, c54, c55, c56, c57, c58, c59, c60, c61, c62, c63, c64, c65, c66, c67, c68, c69, c70, c71, c72, c73, c74, c75, c76, c77, c78, c79, c80, c81, c82, c83, c84, c85, c86, c87, c88, c89, c90, c91, c92, c93, c94, c95, c96, c97, c98, c99, c100, c101, c102, c103, c104, c105, c106, c107, c108, c109, c110, c111, c112, c113, c114, c115, c116, c117, c118, c119, c120, c121, c122, c123, c124, c125, c126, c127, c128, c129, c130, c131, c132, c133, c134, c135, c136, c137, c138, c139, c140, c141, c142, c143, c144, c145, c146, c147, c148, c149, c150, c151, c152, c153, c154, c155, c156, c157, c158, c159, c160, c161, c162, c163, c164, c165, c166, c167, c168, c169, c170, c171, c172, c173, c174, c175, .slice (some ⟨AR, 0, none⟩) 4 4, c177, .int .i64 (i : Nat), u179, u180, u181, u182, u183, u184, u185, u186, u187, u188, u189, u190, u191, u192, u193, u194, u195, u196, u197, u198, u199, u200, u201, u202, u203, u204, u205, u206, u207, u208, u209, u210, u211, u212, u213, u214, u215, u216, u217, u218, u219, u220, u221, u222, u223, u224, u225, u226, u227, u228, u229, u230, u231, u232, u233, u234, u235, u236, u237, u238, u239, u240, u241, u242, u243, u244, u245, u246, u247, u248, u249, u250, u251, u252, u253, u254, u255, u256, u257, u258, u259, u260, u261, u262, u263, u264, u265, u266, u267, u268, u269, u270, u271, u272, u273, u274, u275, u276, u277, u278, u279, u280, u281, u282, u283, u284, u285, u286, u287, u288, u289, u290, u291, u292, u293, u294, u295, u296, u297, u298, u299, u300, u301, u302, u303, u304, u305, u306, u307, u308, u309, u310, u311, u312, u313, u314, u315, u316, u317, u318, u319, u320, u321, u322, u323, u324, u325, u326, u327, u328, u329, u330, u331, u332, u333, u334, u335, u336, u337, u338, u339, u340, u341, u342, u343, u344, u345, u346, u347, u348, u349, u350, u351, u352, u353, u354, u355, u356, u357, u358, u359, u360, u361, u362, u363, u364, u365, u366, u367, u368, u369, u370, u371, u372, u373, u374, u375, u376, u377, u378, u379, u380, u381, u382, u383, u384, u385, u386, u387, u388, u389, u390, u391, u392, u393, u394, u395, u396, u397, u398, u399, u400, u401, u402, u403, u404, u405, u406, u407, u408, u409, u410, u411, u412, u413, u414, u415, u416, u417, u418, u419, u420, u421, u422, u423, u424, u425, u426, u427, u428, u429, u430, u431, u432, u433, u434, u435, u436, u437, u438, u439, u440, u441, u442, u443, u444, u445, u446, u447, u448, u449, u450, u451, u452, u453, u454, u455, u456, u457, u458, u459, u460, u461, u462, u463, u464, u465, u466, u467, u468, c469, c470, c471, c472, c473, c474, c475, c476, c477, c478, c479, c480, c481, c482, c483, c484, c485, c486], []⟩ V) :
    Code.wp Try.prog more5 Q ⟨#[c0, c1, c2, c3, .pointer (some ⟨B, 0, none⟩), c5, c6, c7, c8, .int .i64 p, c10, c11, c12, c13, .int .i64 m, .bool edge, c16, c17, c18, c19, c20, c21, c22, .pointer (some ⟨CC, 0, none⟩), .int .i64 e0, .int .i64 N, c26, .func (.func 32) #[] #[], c28, c29, c30, c31, c32, c33, c34, c35, c36, c37, c38, c39, c40, c41, c42, c43, c44, c45, c46, c47, c48, c49, c50, c51, c52, c53, c54, c55, c56, c57, c58, c59, c60, c61, c62, c63, c64, c65, c66, c67, c68, c69, c70, c71, c72, c73, c74, c75, c76, c77, c78, c79, c80, c81, c82, c83, c84, c85, c86, c87, c88, c89, c90, c91, c92, c93, c94, c95, c96, c97, c98, c99, c100, c101, c102, c103, c104, c105, c106, c107, c108, c109, c110, c111, c112, c113, c114, c115, c116, c117, c118, c119, c120, c121, c122, c123, c124, c125, c126, c127, c128, c129, c130, c131, c132, c133, c134, c135, c136, c137, c138, c139, c140, c141, c142, c143, c144, c145, c146, c147, c148, c149, c150, c151, c152, c153, c154, c155, c156, c157, c158, c159, c160, c161, c162, c163, c164, c165, c166, c167, c168, c169, c170, c171, c172, c173, c174, c175, .slice (some ⟨AR, 0, none⟩) 4 4, c177, .int .i64 (i : Nat), c179, c180, c181, c182, c183, c184, c185, c186, c187, c188, c189, c190, c191, c192, c193, c194, c195, c196, c197, c198, c199, c200, c201, c202, c203, c204, c205, c206, c207, c208, c209, c210, c211, c212, c213, c214, c215, c216, c217, c218, c219, c220, c221, c222, c223, c224, c225, c226, c227, c228, c229, c230, c231, c232, c233, c234, c235, c236, c237, c238, c239, c240, c241, c242, c243, c244, c245, c246, c247, c248, c249, c250, c251, c252, c253, c254, c255, c256, c257, c258, c259, c260, c261, c262, c263, c264, c265, c266, c267, c268, c269, c270, c271, c272, c273, c274, c275, c276, c277, c278, c279, c280, c281, c282, c283, c284, c285, c286, c287, c288, c289, c290, c291, c292, c293, c294, c295, c296, c297, c298, c299, c300, c301, c302, c303, c304, c305, c306, c307, c308, c309, c310, c311, c312, c313, c314, c315, c316, c317, c318, c319, c320, c321, c322, c323, c324, c325, c326, c327, c328, c329, c330, c331, c332, c333, c334, c335, c336, c337, c338, c339, c340, c341, c342, c343, c344, c345, c346, c347, c348, c349, c350, c351, c352, c353, c354, c355, c356, c357, c358, c359, c360, c361, c362, c363, c364, c365, c366, c367, c368, c369, c370, c371, c372, c373, c374, c375, c376, c377, c378, c379, c380, c381, c382, c383, c384, c385, c386, c387, c388, c389, c390, c391, c392, c393, c394, c395, c396, c397, c398, c399, c400, c401, c402, c403, c404, c405, c406, c407, c408, c409, c410, c411, c412, c413, c414, c415, c416, c417, c418, c419, c420, c421, c422, c423, c424, c425, c426, c427, c428, c429, c430, c431, c432, c433, c434, c435, c436, c437, c438, c439, c440, c441, c442, c443, c444, c445, c446, c447, c448, c449, c450, c451, c452, c453, c454, c455, c456, c457, c458, c459, c460, c461, c462, c463, c464, c465, c466, c467, c468, c469, c470, c471, c472, c473, c474, c475, c476, c477, c478, c479, c480, c481, c482, c483, c484, c485, c486], []⟩ w := by
  have HK := Lib.hid hK
  have HB := Lib.hid hB
  have HA := Lib.hid hA
  obtain ⟨hc0, hc1, hc2⟩ := hc
  obtain ⟨hq0, hq1, hq2⟩ := hq
  obtain ⟨hk0, hk1⟩ := hk
  have lc := lt_of_cell hc0
  have lk := lt_of_cell hk0
  have lq := lt_of_cell hq0
  clear hK hB hA
  conv => arg 2; whnf
  have i1 : decide ((2 : Int) ≤ i) = false := decide_eq_false (by omega)
  have i2 : ((i : Int) == 2) = false := by rw [beq_eq_false_iff_ne]; omega
  have i3 : ((i : Int) == 3) = false := by rw [beq_eq_false_iff_ne]; omega
  have i4 : decide ((i : Int) < 2) = true := decide_eq_true (by omega)
  have i5 : (i : Int) < 4 := by omega
  go_upto_region 30 with fail
  obtain ⟨QB, hQB⟩ : ∃ z, w.heap.size = z := ⟨_, rfl⟩
  obtain ⟨v0, hv0⟩ : ∃ z, w.alloc (.cells #[.int .i64 E2, .int .i64 F, .slice a2 n2 cap2] 32) = z := ⟨_, rfl⟩
  have g0 : Grow w v0 := by rw [← hv0]; exact (Grow.refl _).alloc _
  have d0 : v0.cell? ⟨QB, 0, none⟩ = some (.int .i64 E2) := by rw [← hv0]; exact cell_new hQB.symm rfl
  have d1 : v0.cell? ⟨QB, 1, none⟩ = some (.int .i64 F) := by rw [← hv0]; exact cell_new hQB.symm rfl
  have d2 : v0.cell? ⟨QB, 2, none⟩ = some (.slice a2 n2 cap2) := by rw [← hv0]; exact cell_new hQB.symm rfl
  rw [hv0, hQB]
  have c0 := g0.keeps hc0
  have c1 := g0.keeps hc1
  have c2 := g0.keeps hc2
  have k0 := g0.keeps hk0
  have k1 := g0.keeps hk1
  clear lc lk lq
  have lc := lt_of_cell c0
  have ld := lt_of_cell d0
  clear hv0 hQB hq0 hq1 hq2 hc0 hc1 hc2 hk0 hk1
  cases bv
  case false =>
    go_wp2_with (go_at_call 29; refine (HB.out _ g0).mono ?_; rintro e v1 ⟨rfl, g1⟩; dsimp only)
    exact HK.out _ _ _ _ _ _ _ _ _ _ _ _ _ _ _ _ _ _ _ _ _ _ _ _ _ _ _ _ _ _ _ _ _ _ _ _ _ _ _ _ _ _ _ _ _ _ _ _ _ _ _ _ _ _ _ _ _ _ _ _ _ _ _ _ _ _ _ _ _ _ _ _ _ _ _ _ _ _ _ _ _ _ _ _ _ _ _ _ _ _ _ _ _ _ _ _ _ _ _ _ _ _ _ _ _ _ _ _ _ _ _ _ _ _ _ _ _ _ _ _ _ _ _ _ _ _ _ _ _ _ _ _ _ _ _ _ _ _ _ _ _ _ _ _ _ _ _ _ _ _ _ _ _ _ _ _ _ _ _ _ _ _ _ _ _ _ _ _ _ _ _ _ _ _ _ _ _ _ _ _ _ _ _ _ _ _ _ _ _ _ _ _ _ _ _ _ _ _ _ _ _ _ _ _ _ _ _ _ _ _ _ _ _ _ _ _ _ _ _ _ _ _ _ _ _ _ _ _ _ _ _ _ _ _ _ _ _ _ _ _ _ _ _ _ _ _ _ _ _ _ _ _ _ _ _ _ _ _ _ _ _ _ _ _ _ _ _ _ _ _ _ _ _ _ _ _ _ _ _ _ _ _ _ _ _ _ _ _ _ _ _ _ _ _ _ _ _ _ _ _ _ _ _ _ _ _ _ _ _ _ _ _ _ _ _ _ (g0.trans g1)
  case true =>
    obtain ⟨g, M, dl, dh, x, y, ⟨hx8, hy8, hs2, hxy, hs3⟩, ⟨hg, hge⟩, hG, q1, q2, q3, q4⟩ := HA.out rfl
    have Q1 := Lib.hid q1
    have Q2 := Lib.hid q2
    have Q3 := Lib.hid q3
    have Q4 := Lib.hid q4
    have HG := Lib.hid hG
    have x0 : decide ((x : Int) < 0) = false := decide_eq_false (by omega)
    have y0 : decide ((y : Int) < 0) = false := decide_eq_false (by omega)
    clear q1 q2 q3 q4 hG HA
    go_upto_region 31 with (go_at_call 29; refine (HB.out _ g0).mono ?_; rintro e v1 ⟨rfl, g1⟩; dsimp only)
    have GA := g0.trans g1
    replace c0 := g1.keeps c0
    replace c1 := g1.keeps c1
    replace c2 := g1.keeps c2
    replace k0 := g1.keeps k0
    replace k1 := g1.keeps k1
    replace d0 := g1.keeps d0
    replace d1 := g1.keeps d1
    replace d2 := g1.keeps d2
    clear lc ld
    have lc := lt_of_cell c0
    have ld := lt_of_cell d0
    clear g1 g0 HB
    go_upto_region 32 with (go_at_call 23; refine (Q1.out _ GA).mono ?_; rintro e v2 ⟨rfl, g1⟩; dsimp only)
    obtain ⟨DD, hDD⟩ : ∃ z, v2.heap.size = z := ⟨_, rfl⟩
    obtain ⟨v3, hv3⟩ : ∃ z, v2.alloc (.cells #[.int .i64 dl, .int .i64 dh] 23) = z := ⟨_, rfl⟩
    have g2 : Grow v2 v3 := by rw [← hv3]; exact (Grow.refl _).alloc _
    have m0 : v3.cell? ⟨DD, 0, none⟩ = some (.int .i64 dl) := by rw [← hv3]; exact cell_new hDD.symm rfl
    have m1 : v3.cell? ⟨DD, 1, none⟩ = some (.int .i64 dh) := by rw [← hv3]; exact cell_new hDD.symm rfl
    rw [hv3, hDD]
    have gs := g1.trans g2
    have GB := GA.trans gs
    replace c0 := gs.keeps c0
    replace c1 := gs.keeps c1
    replace c2 := gs.keeps c2
    replace k0 := gs.keeps k0
    replace k1 := gs.keeps k1
    replace d0 := gs.keeps d0
    replace d1 := gs.keeps d1
    replace d2 := gs.keeps d2
    clear lc ld
    have lc := lt_of_cell c0
    have ld := lt_of_cell d0
    clear hv3 hDD g1 g2 gs GA Q1
    have hsz : decide (((sizeN y : Nat) : Int) < (sizeN x : Nat)) = false := decide_eq_false (by have := hs2 hi; omega)
    obtain hg | hg := hg
    · subst hg
      obtain ⟨he0, hbb, hr1, hr2, hP⟩ := HG.out rfl
      subst he0
      have HP := Lib.hid hP
      have Hr1 := Lib.hid hr1
      have Hr2 := Lib.hid hr2
      have Hbb := Lib.hid hbb
      clear HG hP hr1 hr2 hbb
      go_upto_region 33 with (go_at_call 24; refine (Q2.out _ GB).mono ?_; rintro e v4 ⟨rfl, g1⟩; dsimp only)
      have GC := GB.trans g1
      replace c0 := g1.keeps c0
      replace c1 := g1.keeps c1
      replace c2 := g1.keeps c2
      replace k0 := g1.keeps k0
      replace k1 := g1.keeps k1
      replace d0 := g1.keeps d0
      replace d1 := g1.keeps d1
      replace d2 := g1.keeps d2
      replace m0 := g1.keeps m0
      replace m1 := g1.keeps m1
      clear lc ld
      have lc := lt_of_cell c0
      have ld := lt_of_cell d0
      clear g1 GB Q2
      go_upto_region 36 with (go_at_call 16; refine (Q3.out _ GC).mono ?_; rintro e v5 ⟨rfl, g1⟩; dsimp only)
      have GD := GC.trans g1
      replace c0 := g1.keeps c0
      replace c1 := g1.keeps c1
      replace c2 := g1.keeps c2
      replace k0 := g1.keeps k0
      replace k1 := g1.keeps k1
      replace d0 := g1.keeps d0
      replace d1 := g1.keeps d1
      replace d2 := g1.keeps d2
      replace m0 := g1.keeps m0
      replace m1 := g1.keeps m1
      clear lc ld
      have lc := lt_of_cell c0
      have ld := lt_of_cell d0
      clear g1 GC Q3
      go_upto_region 37 with (go_at_call 16; refine (Q4.out _ GD).mono ?_; rintro e v6 ⟨rfl, g1⟩; dsimp only)
      replace GD := GD.trans g1
      replace c0 := g1.keeps c0
      replace c1 := g1.keeps c1
      replace c2 := g1.keeps c2
      replace k0 := g1.keeps k0
      replace k1 := g1.keeps k1
      replace d0 := g1.keeps d0
      replace d1 := g1.keeps d1
      replace d2 := g1.keeps d2
      replace m0 := g1.keeps m0
      replace m1 := g1.keeps m1
      clear lc ld
      have lc := lt_of_cell c0
      have ld := lt_of_cell d0
      clear g1 Q4
      go_upto_region 43 with first | fail | (go_at_call 32; refine (rSize_any _ (by first | exact hy8 | exact hx8) _).mono ?_; rintro e v7 ⟨rfl, g7⟩; dsimp only; replace GD := GD.trans g7; replace c0 := g7.keeps c0; replace c1 := g7.keeps c1; replace c2 := g7.keeps c2; replace k0 := g7.keeps k0; replace k1 := g7.keeps k1; replace d0 := g7.keeps d0; replace d1 := g7.keeps d1; replace d2 := g7.keeps d2; replace m0 := g7.keeps m0; replace m1 := g7.keeps m1; clear lc ld; have lc := lt_of_cell c0; have ld := lt_of_cell d0; clear g7)
      refine wp_more43a i CC DD N M cl ch dl dh 0 _ _ k0 k1 m0 m1 hi Hr1.out.1 Hr1.out.2.1 Hr1.out.2.2 Hbb.out ?_
      intro x289 x290 x291 x292 x293 x294 x295 x296 x297 x298 x299 x300 x301 x302 x303 x304 x305 x306 x307 x308 x309 x310 x311 x312 x313 x314 x315 x316 x317 x318 x319 x320 x321 x322 x323 x324 x325 x326 x327 x328 x329 x330 x331 x332 x333 x334 v9 g9
      have GE := GD.trans g9
      replace c0 := g9.keeps c0
      replace c1 := g9.keeps c1
      replace c2 := g9.keeps c2
      replace k0 := g9.keeps k0
      replace k1 := g9.keeps k1
      replace d0 := g9.keeps d0
      replace d1 := g9.keeps d1
      replace d2 := g9.keeps d2
      clear lc ld
      have lc := lt_of_cell c0
      have ld := lt_of_cell d0
      clear g9 GD k0 k1 m0 m1
      go_upto_block 6 with fail
      refine wp_moreB6 E E2 F 0 a a2 n cap n2 cap2 i B QB _ _ ⟨c0, c1, c2⟩ ⟨d0, d1, d2⟩ hn (fun r hr => (HP.out r hr).grow GE) ?_
      intro y8 y39 y40 y41 y42 y43 y44 y45 y46 y47 y48 y49 y50 y51 y339 y340 y341 y342 y343 y344 y345 y346 y347 y348 y349 y350 y351 y352 y353 y354 y355 y356 y357 y358 y359 y360 y361 y362 y363 y364 y365 y366 y367 y368 y369 y370 y371 y372 y373 y374 y375 y376 y377 y378 y379 y380 y381 y382 y383 y384 y385 y386 y387 y388 y389 y390 y391 y392 y393 y394 y395 y396 y397 y398 y399 y400 y401 y402 y403 y404 y405 y406 y407 y408 y409 y410 y411 y412 y413 y414 y415 y416 y417 y418 y419 y420 y421 y422 y423 y424 y425 y426 y427 y428 y429 y430 y431 y432 y433 y434 y435 y436 y437 y438 y439 y440 y441 y442 y443 y444 y445 y446 y447 y448 y449 y450 y451 y452 y453 y454 y455 y456 y457 y458 y459 y460 y461 y462 y463 y464 y465 y466 y467 y468 v10 g10
      have GF := GE.trans g10
      (try go_wp2_with fail)
      exact HK.out _ _ _ _ _ _ _ _ _ _ _ _ _ _ _ _ _ _ _ _ _ _ _ _ _ _ _ _ _ _ _ _ _ _ _ _ _ _ _ _ _ _ _ _ _ _ _ _ _ _ _ _ _ _ _ _ _ _ _ _ _ _ _ _ _ _ _ _ _ _ _ _ _ _ _ _ _ _ _ _ _ _ _ _ _ _ _ _ _ _ _ _ _ _ _ _ _ _ _ _ _ _ _ _ _ _ _ _ _ _ _ _ _ _ _ _ _ _ _ _ _ _ _ _ _ _ _ _ _ _ _ _ _ _ _ _ _ _ _ _ _ _ _ _ _ _ _ _ _ _ _ _ _ _ _ _ _ _ _ _ _ _ _ _ _ _ _ _ _ _ _ _ _ _ _ _ _ _ _ _ _ _ _ _ _ _ _ _ _ _ _ _ _ _ _ _ _ _ _ _ _ _ _ _ _ _ _ _ _ _ _ _ _ _ _ _ _ _ _ _ _ _ _ _ _ _ _ _ _ _ _ _ _ _ _ _ _ _ _ _ _ _ _ _ _ _ _ _ _ _ _ _ _ _ _ _ _ _ _ _ _ _ _ _ _ _ _ _ _ _ _ _ _ _ _ _ _ _ _ _ _ _ _ _ _ _ _ _ _ _ _ _ _ _ _ _ _ _ _ _ _ _ _ _ _ _ _ _ _ _ _ _ _ _ _ _ GF
    · subst hg
      clear HG
      go_upto_region 33 with (go_at_call 24; refine (Q2.out _ GB).mono ?_; rintro e v4 ⟨rfl, g1⟩; dsimp only)
      have GC := GB.trans g1
      replace c0 := g1.keeps c0
      replace c1 := g1.keeps c1
      replace c2 := g1.keeps c2
      replace k0 := g1.keeps k0
      replace k1 := g1.keeps k1
      replace d0 := g1.keeps d0
      replace d1 := g1.keeps d1
      replace d2 := g1.keeps d2
      replace m0 := g1.keeps m0
      replace m1 := g1.keeps m1
      clear lc ld
      have lc := lt_of_cell c0
      have ld := lt_of_cell d0
      clear g1 GB Q2
      go_upto_region 36 with (go_at_call 16; refine (Q3.out _ GC).mono ?_; rintro e v5 ⟨rfl, g1⟩; dsimp only)
      have GD := GC.trans g1
      replace c0 := g1.keeps c0
      replace c1 := g1.keeps c1
      replace c2 := g1.keeps c2
      replace k0 := g1.keeps k0
      replace k1 := g1.keeps k1
      replace d0 := g1.keeps d0
      replace d1 := g1.keeps d1
      replace d2 := g1.keeps d2
      replace m0 := g1.keeps m0
      replace m1 := g1.keeps m1
      clear lc ld
      have lc := lt_of_cell c0
      have ld := lt_of_cell d0
      clear g1 GC Q3
      go_upto_region 37 with (go_at_call 16; refine (Q4.out _ GD).mono ?_; rintro e v6 ⟨rfl, g1⟩; dsimp only)
      replace GD := GD.trans g1
      replace c0 := g1.keeps c0
      replace c1 := g1.keeps c1
      replace c2 := g1.keeps c2
      replace k0 := g1.keeps k0
      replace k1 := g1.keeps k1
      replace d0 := g1.keeps d0
      replace d1 := g1.keeps d1
      replace d2 := g1.keeps d2
      replace m0 := g1.keeps m0
      replace m1 := g1.keeps m1
      clear lc ld
      have lc := lt_of_cell c0
      have ld := lt_of_cell d0
      clear g1 Q4
      go_wp2_with first | fail | (go_at_call 32; refine (rSize_any _ (by first | exact hy8 | exact hx8) _).mono ?_; rintro e v7 ⟨rfl, g7⟩; dsimp only; replace GD := GD.trans g7; replace c0 := g7.keeps c0; replace c1 := g7.keeps c1; replace c2 := g7.keeps c2; replace k0 := g7.keeps k0; replace k1 := g7.keeps k1; replace d0 := g7.keeps d0; replace d1 := g7.keeps d1; replace d2 := g7.keeps d2; replace m0 := g7.keeps m0; replace m1 := g7.keeps m1; clear lc ld; have lc := lt_of_cell c0; have ld := lt_of_cell d0; clear g7)
      exact HK.out _ _ _ _ _ _ _ _ _ _ _ _ _ _ _ _ _ _ _ _ _ _ _ _ _ _ _ _ _ _ _ _ _ _ _ _ _ _ _ _ _ _ _ _ _ _ _ _ _ _ _ _ _ _ _ _ _ _ _ _ _ _ _ _ _ _ _ _ _ _ _ _ _ _ _ _ _ _ _ _ _ _ _ _ _ _ _ _ _ _ _ _ _ _ _ _ _ _ _ _ _ _ _ _ _ _ _ _ _ _ _ _ _ _ _ _ _ _ _ _ _ _ _ _ _ _ _ _ _ _ _ _ _ _ _ _ _ _ _ _ _ _ _ _ _ _ _ _ _ _ _ _ _ _ _ _ _ _ _ _ _ _ _ _ _ _ _ _ _ _ _ _ _ _ _ _ _ _ _ _ _ _ _ _ _ _ _ _ _ _ _ _ _ _ _ _ _ _ _ _ _ _ _ _ _ _ _ _ _ _ _ _ _ _ _ _ _ _ _ _ _ _ _ _ _ _ _ _ _ _ _ _ _ _ _ _ _ _ _ _ _ _ _ _ _ _ _ _ _ _ _ _ _ _ _ _ _ _ _ _ _ _ _ _ _ _ _ _ _ _ _ _ _ _ _ _ _ _ _ _ _ _ _ _ _ _ _ _ _ _ _ _ _ _ _ _ _ _ _ _ _ _ _ _ _ _ _ _ _ _ _ _ _ _ _ _ GD
end Go.Proofs.Ytbeglemohfbdfaa
