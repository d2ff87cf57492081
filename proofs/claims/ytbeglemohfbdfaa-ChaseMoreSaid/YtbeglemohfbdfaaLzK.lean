/- ChaseMore: the loop over the pairs, as a declaration of its own. Conditions: sizes. -/
import Derived.Test.YtbeglemohfbdfaaLzG
import Derived.Test.YtbeglemohfbdfaaLzI
import Derived.Test.YtbeglemohfbdfaaLzJ
import Derived.Deep.DeepCutAuto
namespace Go.Proofs.Ytbeglemohfbdfaa
open Go.RowKit

/-- What is told of a pair of both chases. -/
def MorePair (w : World) (c q : Value) (i : Nat) (s : Int) (r : Nat) : Prop := ∃ a0 a1 b0 b1 u0 u1 w0 w1 f g : Int, ((-100000 ≤ u0 ∧ u0 ≤ 100000) ∧ (-100000 ≤ u1 ∧ u1 ≤ 100000) ∧ 0 ≤ s ∧ s ≤ 100000) ∧ (a0 ≤ b0 ∧ b1 ≤ a1 ∧ u0 + s ≤ w0 ∧ w1 ≤ u1 + s ∧ (¬ f = 1 → g = f)) ∧ (2 ≤ i → b0 = a0 ∧ b1 = a1 ∧ w0 = u0 + s ∧ w1 = u1 + s ∧ g = f) ∧
  (∀ V, Grow w V → Calls Try.prog 13 #[c, .int .i64 (r : Nat)] V fun e V2 => e = .returned (.tuple #[.agg #[.int .i64 a0, .int .i64 a1], .int .i64 0]) ∧ Grow V V2) ∧ (∀ V, Grow w V → Calls Try.prog 13 #[q, .int .i64 (r : Nat)] V fun e V2 => e = .returned (.tuple #[.agg #[.int .i64 b0, .int .i64 b1], .int .i64 0]) ∧ Grow V V2) ∧ (∀ V, Grow w V → Calls Try.prog 11 #[c, .int .i64 (r : Nat)] V fun e V2 => e = .returned (.tuple #[.agg #[.int .i64 u0, .int .i64 u1], .int .i64 0]) ∧ Grow V V2) ∧ (∀ V, Grow w V → Calls Try.prog 11 #[q, .int .i64 (r : Nat)] V fun e V2 => e = .returned (.tuple #[.agg #[.int .i64 w0, .int .i64 w1], .int .i64 0]) ∧ Grow V V2) ∧ (∀ V, Grow w V → Calls Try.prog 14 #[c, .int .i64 (r : Nat)] V fun e V2 => e = .returned (.tuple #[.int .i64 f, .int .i64 0]) ∧ Grow V V2) ∧ (∀ V, Grow w V → Calls Try.prog 14 #[q, .int .i64 (r : Nat)] V fun e V2 => e = .returned (.tuple #[.int .i64 g, .int .i64 0]) ∧ Grow V V2)
noncomputable def moreB6 : Code := (Try.f9.body.bind (blockNo 6)).getD .skip
set_option maxRecDepth 1000000 in
set_option maxHeartbeats 8000000 in
theorem wp_moreB6 (E E2 F s : Int) (a a2 : Option Addr) (n cap n2 cap2 i B QB : Nat) {c0 c1 c2 c3 c5 c6 c7 c8 c9 c10 c11 c12 c13 c14 c15 c16 c17 c18 c19 c20 c21 c22 c23 c24 c25 c26 c27 c30 c31 c32 c33 c34 c35 c36 c37 c39 c40 c41 c42 c43 c44 c45 c46 c47 c48 c49 c50 c51 c52 c53 c54 c55 c56 c57 c58 c59 c60 c61 c62 c63 c64 c65 c66 c67 c68 c69 c70 c71 c72 c73 c74 c75 c76 c77 c78 c79 c80 c81 c82 c83 c84 c85 c86 c87 c88 c89 c90 c91 c92 c93 c94 c95 c96 c97 c98 c99 c100 c101 c102 c103 c104 c105 c106 c107 c108 c109 c110 c111 c112 c113 c114 c115 c116 c117 c118 c119 c120 c121 c122 c123 c124 c125 c126 c127 c128 c129 c130 c131 c132 c133 c134 c135 c136 c137 c138 c139 c140 c141 c142 c143 c144 c145 c146 c147 c148 c149 c150 c151 c152 c153 c154 c155 c156 c157 c158 c159 c160 c161 c162 c163 c164 c165 c166 c167 c168 c169 c170 c171 c172 c173 c174 c175 c176 c177 c178 c179 c180 c181 c182 c183 c184 c185 c186 c187 c188 c189 c190 c191 c192 c193 c194 c195 c196 c197 c198 c199 c200 c201 c202 c203 c204 c205 c206 c207 c208 c209 c210 c211 c212 c213 c214 c215 c216 c217 c218 c219 c220 c221 c222 c223 c224 c225 c226 c227 c228 c229 c230 c231 c232 c233 c234 c235 c236 c237 c238 c239 c240 c241 c242 c243 c244 c245 c246 c247 c248 c249 c250 c251 c252 c253 c254 c255 c256 c257 c258 c259 c260 c261 c262 c263 c264 c265 c266 c267 c268 c269 c270 c271 c272 c273 c274 c275 c276 c277 c278 c279 c280 c281 c282 c283 c284 c285 c286 c287 c288 c289 c290 c291 c292 c293 c294 c295 c296 c297 c298 c299 c300 c301 c302 c303 c304 c305 c306 c307 c308 c309 c310 c311 c312 c313 c314 c315 c316 c317 c318 c319 c320 c321 c322 c323 c324 c325 c326 c327 c328 c329 c330 c331 c332 c333 c334 c335 c336 c337 c340 c341 c342 c343 c344 c345 c346 c347 c348 c349 c350 c351 c352 c353 c354 c355 c356 c357 c358 c359 c360 c361 c362 c363 c364 c365 c366 c367 c368 c369 c370 c371 c372 c373 c374 c375 c376 c377 c378 c379 c380 c381 c382 c383 c384 c385 c386 c387 c388 c389 c390 c391 c392 c393 c394 c395 c396 c397 c398 c399 c400 c401 c402 c403 c404 c405 c406 c407 c408 c409 c410 c411 c412 c413 c414 c415 c416 c417 c418 c419 c420 c421 c422 c423 c424 c425 c426 c427 c428 c429 c430 c431 c432 c433 c434 c435 c436 c437 c438 c439 c440 c441 c442 c443 c444 c445 c446 c447 c448 c449 c450 c451 c452 c453 c454 c455 c456 c457 c458 c459 c460 c461 c462 c463 c464 c465 c466 c467 c468 c469 c470 c471 c472 c473 c474 c475 c476 c477 c478 c479 c480 c481 c482 c483 c484 c485 c486 : Value} (w : World) (Q : Exit → Act → World → Prop)
    (hc : w.cell? ⟨B, 0, none⟩ = some (.int .i64 E) ∧ w.cell? ⟨B, 1, none⟩ = some (.int .i64 F) ∧ w.cell? ⟨B, 2, none⟩ = some (.slice a n cap))
    (hq : w.cell? ⟨QB, 0, none⟩ = some (.int .i64 E2) ∧ w.cell? ⟨QB, 1, none⟩ = some (.int .i64 F) ∧ w.cell? ⟨QB, 2, none⟩ = some (.slice a2 n2 cap2))
    (hn : n ≤ 6) (hP : ∀ r, r < n → MorePair w (.agg #[.int .i64 E, .int .i64 F, .slice a n cap]) (.agg #[.int .i64 E2, .int .i64 F, .slice a2 n2 cap2]) i s r)
    (hK : ∀ (u8 u39 u40 u41 u42 u43 u44 u45 u46 u47 u48 u49 u50 u51 u339 u340 u341 u342 u343 u344 u345 u346 u347 u348 u349 u350 u351 u352 u353 u354 u355 u356 u357 u358 u359 u360 u361 u362 u363 u364 u365 u366 u367 u368 u369 u370 u371 u372 u373 u374 u375 u376 u377 u378 u379 u380 u381 u382 u383 u384 u385 u386 u387 u388 u389 u390 u391 u392 u393 u394 u395 u396 u397 u398 u399 u400 u401 u402 u403 u404 u405 u406 u407 u408 u409 u410 u411 u412 u413 u414 u415 u416 u417 u418 u419 u420 u421 u422 u423 u424 u425 u426 u427 u428 u429 u430 u431 u432 u433 u434 u435 u436 u437 u438 u439 u440 u441 u442 u443 u444 u445 u446 u447 u448 u449 u450 u451 u452 u453 u454 u455 u456 u457 u458 u459 u460 u461 u462 u463 u464 u465 u466 u467 u468 : Value) (V : World), Grow w V → Q .normal ⟨#[c0, c1, c2, c3, .pointer (some ⟨B, 0, none⟩), c5, c6, c7, u8, c9, c10, c11, c12, c13, c14, c15, c16, c17, c18, c19, c20, c21, c22, c23, c24, c25, c26, c27, .int .i64 i, .pointer (some ⟨QB, 0, none⟩), c30, c31, c32, c33, c34, c35, c36, c37, .int .i64 s, u39, u40, u41, u42, u43, u44, u45, u46, u47, u48, u49, u50, u51, c52, c53, c54, c55, c56, c57, c58, c59, c60, c61, c62, c63, c64, c65, c66, c67, c68, c69, c70, c71, c72, c73, c74, c75, c76, c77, c78, c79, c80, c81, c82, c83, c84, c85, c86, c87, c88, c89, c90, c91, c92, c93, c94, c95, c96, c97, c98, c99, c100, c101, c102, c103, c104, c105, c106, c107, c108, c109, c110, c111, c112, c113, c114, c115, c116, c117, c118, c119, c120, c121, c122, c123, c124, c125, c126, c127, c128, c129, c130, c131, c132, c133, c134, c135, c136, c137, c138, c139, c140, c141, c142, c143, c144, c145, c146, c147, c148, c149, c150, c151, c152, c153, c154, c155, c156, c157, c158, c159, c160, c161, c162, c163, c164, c165, c166, c167, c168, c169, c170, c171, c172, c173, c174, c175, c176, c177, c178, c179, c180, c181, c182, c183, c184, c185, c186, c187, c188, c189, c190, c191, c192, c193, c194, c195, c196, c197, c198, c199, c200, c201, c202, c203, c204, c205, c206, c207, c208, c209, c210, c211, c212, c213, c214, c215, c216, c217, c218, c219, c220, c221, c222, c223, c224, c225, c226, c227, c228, c229, c230, c231, c232, c233, c234, c235, c236, c237, c238, c239, c240, c241, c242, c243, c244, c245, c246, c247, c248, c249, c250, c251, c252, c253, c254, c255, c256, c257, c258, c259, c260, c261, c262, c263, c264, c265, c266, c267, c268, c269, c270, c271, c272, c273, c274, c275, c276, c277, c278, c279, c280, c281, c282, c283, c284, c285, c286, c287, c288, c289, c290, c291, c292, c293, c294, c295, c296, c297, c298, c299, c300, c301, c302, c303, c304, c305, c306, c307, c308, c309, c310, c311, c312, c313, c314, c315, c316, c317, c318, c319, c320, c321, c322, c323, c324, c325, c326, c327, c328, c329, c330, c331, c332, c333, c334, c335, c336, c337, .int .i64 n, u339, u340, u341, u342, u343, u344, u345, u346, u347, u348, u349, u350, u351, u352, u353, u354, u355, u356, u357, u358, u359, u360, u361, u362, u363, u364, u365, u366, u367, u368, u369, u370, u371, u372, u373, u374, u375, u376, u377, u378, u379, u380, u381, u382, u383, u384, u385, u386, u387, u388, u389, u390, u391, u392, u393, u394, u395, u396, u397, u398, u399, u400, u401, u402, u403, u404, u405, u406, u407, u408, u409, u410, u411, u412, u413, u414, u415, u416, u417, u418, u419, u420, u421, u422, u423, u424, u425, u426, u427, u428, u429, u430, u431, u432, u433, u434, u435, u436, u437, u438, u439, u440, u441, u442, u443, u444, u445, u446, u447, u448, u449, u450, u451, u452, u453, u454, u455, u456, u457, u458, u459, u460, u461, u462, u463, u464, u465, u466, u467, u468, c469, c470, c471, c472, c473, c474, c475, c476, c477, c478, c479, c480, c481, c482, c483, c484, c485, c486], []⟩ V) :
    Code.wp Try.prog moreB6 Q ⟨#[c0, c1, c2, c3, .pointer (some ⟨B, 0, none⟩), c5, c6, c7, c8, c9, c10, c11, c12, c13, c14, c15, c16, c17, c18, c19, c20, c21, c22, c23, c24, c25, c26, c27, .int .i64 i, .pointer (some ⟨QB, 0, none⟩), c30, c31, c32, c33, c34, c35, c36, c37, .int .i64 s, c39, c40, c41, c42, c43, c44, c45, c46, c47, c48, c49, c50, c51, c52, c53, c54, c55, c56, c57, c58, c59, c60, c61, c62, c63, c64, c65, c66, c67, c68, c69, c70, c71, c72, c73, c74, c75, c76, c77, c78, c79, c80, c81, c82, c83, c84, c85, c86, c87, c88, c89, c90, c91, c92, c93, c94, c95, c96, c97, c98, c99, c100, c101, c102, c103, c104, c105, c106, c107, c108, c109, c110, c111, c112, c113, c114, c115, c116, c117, c118, c119, c120, c121, c122, c123, c124, c125, c126, c127, c128, c129, c130, c131, c132, c133, c134, c135, c136, c137, c138, c139, c140, c141, c142, c143, c144, c145, c146, c147, c148, c149, c150, c151, c152, c153, c154, c155, c156, c157, c158, c159, c160, c161, c162, c163, c164, c165, c166, c167, c168, c169, c170, c171, c172, c173, c174, c175, c176, c177, c178, c179, c180, c181, c182, c183, c184, c185, c186, c187, c188, c189, c190, c191, c192, c193, c194, c195, c196, c197, c198, c199, c200, c201, c202, c203, c204, c205, c206, c207, c208, c209, c210, c211, c212, c213, c214, c215, c216, c217, c218, c219, c220, c221, c222, c223, c224, c225, c226, c227, c228, c229, c230, c231, c232, c233, c234, c235, c236, c237, c238, c239, c240, c241, c242, c243, c244, c245, c246, c247, c248, c249, c250, c251, c252, c253, c254, c255, c256, c257, c258, c259, c260, c261, c262, c263, c264, c265, c266, c267, c268, c269, c270, c271, c272, c273, c274, c275, c276, c277, c278, c279, c280, c281, c282, c283, c284, c285, c286, c287, c288, c289, c290, c291, c292, c293, c294, c295, c296, c297, c298, c299, c300, c301, c302, c303, c304, c305, c306, c307, c308, c309, c310, c311, c312, c313, c314, c315, c316, c317, c318, c319, c320, c321, c322, c323, c324, c325, c326, c327, c328, c329, c330, c331, c332, c333, c334, c335, c336, c337, .int .i64 n, .int .i64 0, c340, c341, c342, c343, c344, c345, c346, c347, c348, c349, c350, c351, c352, c353, c354, c355, c356, c357, c358, c359, c360, c361, c362, c363, c364, c365, c366, c367, c368, c369, c370, c371, c372, c373, c374, c375, c376, c377, c378, c379, c380, c381, c382, c383, c384, c385, c386, c387, c388, c389, c390, c391, c392, c393, c394, c395, c396, c397, c398, c399, c400, c401, c402, c403, c404, c405, c406, c407, c408, c409, c410, c411, c412, c413, c414, c415, c416, c417, c418, c419, c420, c421, c422, c423, c424, c425, c426, c427, c428, c429, c430, c431, c432, c433, c434, c435, c436, c437, c438, c439, c440, c441, c442, c443, c444, c445, c446, c447, c448, c449, c450, c451, c452, c453, c454, c455, c456, c457, c458, c459, c460, c461, c462, c463, c464, c465, c466, c467, c468, c469, c470, c471, c472, c473, c474, c475, c476, c477, c478, c479, c480, c481, c482, c483, c484, c485, c486], []⟩ w := by
  have HK := Lib.hid hK
  have HP := Lib.hid hP
  obtain ⟨hc0, hc1, hc2⟩ := hc
  obtain ⟨hq0, hq1, hq2⟩ := hq
  clear hK hP
  conv => arg 2; whnf
  go_wp2_with fail
  go_loopw [339] (fun i wr => ∃ k : Nat, k ≤ n ∧ i = .int .i64 k ∧ Grow w wr) (fun i _ => n - (intOf i).toNat)
  case atStart => exact ⟨0, Nat.zero_le _, rfl, Grow.refl _⟩
  case round =>
    obtain ⟨r, hr, rfl, hg⟩ := hrel
    by_cases hrn : r < n
    · obtain ⟨a0, a1, b0, b1, u0, u1, w0, w1, f, g, hb, hrel, hge, q1, q2, q3, q4, q5, q6⟩ := HP.out r hrn
      have Q1 := Lib.hid q1
      have Q2 := Lib.hid q2
      have Q3 := Lib.hid q3
      have Q4 := Lib.hid q4
      have Q5 := Lib.hid q5
      have Q6 := Lib.hid q6
      have Hrel := Lib.hid hrel
      have Hge := Lib.hid hge
      have c0 := hg.keeps hc0
      have c1 := hg.keeps hc1
      have c2 := hg.keeps hc2
      have d0 := hg.keeps hq0
      have d1 := hg.keeps hq1
      have d2 := hg.keeps hq2
      have lc := lt_of_cell c0
      have ld := lt_of_cell d0
      have hrI : (r : Int) < n := by omega
      clear q1 q2 q3 q4 q5 q6 hrel hge
      go_upto_region 49 with (go_at_call 13; refine (Q1.out _ hg).mono ?_; rintro e v1 ⟨rfl, g1⟩)
      obtain ⟨PA, hPA⟩ : ∃ z, v1.heap.size = z := ⟨_, rfl⟩
      obtain ⟨vA, hvA⟩ : ∃ z, v1.alloc (.cells #[.int .i64 a0, .int .i64 a1] 23) = z := ⟨_, rfl⟩
      have ga : Grow v1 vA := by rw [← hvA]; exact (Grow.refl _).alloc _
      have kA0 : vA.cell? ⟨PA, 0, none⟩ = some (.int .i64 a0) := by rw [← hvA]; exact cell_new hPA.symm rfl
      have kA1 : vA.cell? ⟨PA, 1, none⟩ = some (.int .i64 a1) := by rw [← hvA]; exact cell_new hPA.symm rfl
      rw [hvA, hPA]
      clear hvA hPA
      have gs := g1.trans ga
      have GA := hg.trans gs
      replace c0 := gs.keeps c0
      replace c1 := gs.keeps c1
      replace c2 := gs.keeps c2
      replace d0 := gs.keeps d0
      replace d1 := gs.keeps d1
      replace d2 := gs.keeps d2
      clear lc ld
      have lc := lt_of_cell c0
      have ld := lt_of_cell d0
      clear gs g1 ga
      go_upto_region 50 with (go_at_call 13; refine (Q2.out _ GA).mono ?_; rintro e v1 ⟨rfl, g1⟩)
      obtain ⟨PB, hPB⟩ : ∃ z, v1.heap.size = z := ⟨_, rfl⟩
      obtain ⟨vB, hvB⟩ : ∃ z, v1.alloc (.cells #[.int .i64 b0, .int .i64 b1] 23) = z := ⟨_, rfl⟩
      have ga : Grow v1 vB := by rw [← hvB]; exact (Grow.refl _).alloc _
      have kB0 : vB.cell? ⟨PB, 0, none⟩ = some (.int .i64 b0) := by rw [← hvB]; exact cell_new hPB.symm rfl
      have kB1 : vB.cell? ⟨PB, 1, none⟩ = some (.int .i64 b1) := by rw [← hvB]; exact cell_new hPB.symm rfl
      rw [hvB, hPB]
      clear hvB hPB
      have gs := g1.trans ga
      have GB := GA.trans gs
      replace c0 := gs.keeps c0
      replace c1 := gs.keeps c1
      replace c2 := gs.keeps c2
      replace d0 := gs.keeps d0
      replace d1 := gs.keeps d1
      replace d2 := gs.keeps d2
      replace kA0 := gs.keeps kA0
      replace kA1 := gs.keeps kA1
      clear lc ld
      have lc := lt_of_cell c0
      have ld := lt_of_cell d0
      clear gs g1 ga
      go_upto_region 51 with (go_at_call 11; refine (Q3.out _ GB).mono ?_; rintro e v1 ⟨rfl, g1⟩)
      obtain ⟨PC, hPC⟩ : ∃ z, v1.heap.size = z := ⟨_, rfl⟩
      obtain ⟨vC, hvC⟩ : ∃ z, v1.alloc (.cells #[.int .i64 u0, .int .i64 u1] 23) = z := ⟨_, rfl⟩
      have ga : Grow v1 vC := by rw [← hvC]; exact (Grow.refl _).alloc _
      have kC0 : vC.cell? ⟨PC, 0, none⟩ = some (.int .i64 u0) := by rw [← hvC]; exact cell_new hPC.symm rfl
      have kC1 : vC.cell? ⟨PC, 1, none⟩ = some (.int .i64 u1) := by rw [← hvC]; exact cell_new hPC.symm rfl
      rw [hvC, hPC]
      clear hvC hPC
      have gs := g1.trans ga
      have GC := GB.trans gs
      replace c0 := gs.keeps c0
      replace c1 := gs.keeps c1
      replace c2 := gs.keeps c2
      replace d0 := gs.keeps d0
      replace d1 := gs.keeps d1
      replace d2 := gs.keeps d2
      replace kA0 := gs.keeps kA0
      replace kA1 := gs.keeps kA1
      replace kB0 := gs.keeps kB0
      replace kB1 := gs.keeps kB1
      clear lc ld
      have lc := lt_of_cell c0
      have ld := lt_of_cell d0
      clear gs g1 ga
      go_upto_region 52 with (go_at_call 11; refine (Q4.out _ GC).mono ?_; rintro e v1 ⟨rfl, g1⟩)
      obtain ⟨PD, hPD⟩ : ∃ z, v1.heap.size = z := ⟨_, rfl⟩
      obtain ⟨vD, hvD⟩ : ∃ z, v1.alloc (.cells #[.int .i64 w0, .int .i64 w1] 23) = z := ⟨_, rfl⟩
      have ga : Grow v1 vD := by rw [← hvD]; exact (Grow.refl _).alloc _
      have kD0 : vD.cell? ⟨PD, 0, none⟩ = some (.int .i64 w0) := by rw [← hvD]; exact cell_new hPD.symm rfl
      have kD1 : vD.cell? ⟨PD, 1, none⟩ = some (.int .i64 w1) := by rw [← hvD]; exact cell_new hPD.symm rfl
      rw [hvD, hPD]
      clear hvD hPD
      have gs := g1.trans ga
      have GD := GC.trans gs
      replace c0 := gs.keeps c0
      replace c1 := gs.keeps c1
      replace c2 := gs.keeps c2
      replace d0 := gs.keeps d0
      replace d1 := gs.keeps d1
      replace d2 := gs.keeps d2
      replace kA0 := gs.keeps kA0
      replace kA1 := gs.keeps kA1
      replace kB0 := gs.keeps kB0
      replace kB1 := gs.keeps kB1
      replace kC0 := gs.keeps kC0
      replace kC1 := gs.keeps kC1
      clear lc ld
      have lc := lt_of_cell c0
      have ld := lt_of_cell d0
      clear gs g1 ga
      go_upto_region 53 with (go_at_call 14; refine (Q5.out _ GD).mono ?_; rintro e v1 ⟨rfl, g1⟩)
      obtain ⟨vE, hvE⟩ : ∃ z, v1 = z := ⟨_, rfl⟩
      subst hvE
      have gs := g1
      have GE := GD.trans gs
      replace c0 := gs.keeps c0
      replace c1 := gs.keeps c1
      replace c2 := gs.keeps c2
      replace d0 := gs.keeps d0
      replace d1 := gs.keeps d1
      replace d2 := gs.keeps d2
      replace kA0 := gs.keeps kA0
      replace kA1 := gs.keeps kA1
      replace kB0 := gs.keeps kB0
      replace kB1 := gs.keeps kB1
      replace kC0 := gs.keeps kC0
      replace kC1 := gs.keeps kC1
      replace kD0 := gs.keeps kD0
      replace kD1 := gs.keeps kD1
      clear lc ld
      have lc := lt_of_cell c0
      have ld := lt_of_cell d0
      clear gs g1
      go_upto_region 54 with (go_at_call 14; refine (Q6.out _ GE).mono ?_; rintro e v1 ⟨rfl, g1⟩)
      have GF := GE.trans g1
      replace kA0 := g1.keeps kA0
      replace kA1 := g1.keeps kA1
      replace kB0 := g1.keeps kB0
      replace kB1 := g1.keeps kB1
      replace kC0 := g1.keeps kC0
      replace kC1 := g1.keeps kC1
      replace kD0 := g1.keeps kD0
      replace kD1 := g1.keeps kD1
      clear g1 Q1 Q2 Q3 Q4 Q5 Q6 GA GB GC GD GE
      obtain ⟨r1, r2, r3, r4, r5⟩ := Hrel.out
      by_cases hi2 : 2 ≤ i
      · obtain ⟨rfl, rfl, rfl, rfl, rfl⟩ := Hge.out hi2
        by_cases hf : g = 1
        · subst hf
          refine wp_more54b1 i PA PB PC PD _ _ _ _ _ _ _ kA0 kA1 kB0 kB1 kC0 kC1 kD0 kD1 hi2 hb ?_
          intro x378 x379 x380 x381 x382 x383 x384 x385 x386 x387 x388 x389 x390 x391 x392 x393 x394 x395 x396 x397 x398 x399 x400 x401 x402 x403 x404 x405 x406 x407 x408 x409 x410 x411 x412 x413 x414 x415 x416 x417 x418 x419 x420 x421 x422 x423 x424 x425 x426 x427 x428 x429 x430 x431 x432 x433 x434 x435 x436 x437 x438 x439 x440 x441 x442 x443 x444 x445 x446 x447 x448 x449 x450 x451 x452 x453 x454 x455 x456 x457 x458 x459 x460 x461 x462 x463 x464 x465 x466 V9 hg9
          have GG := GF.trans hg9
          go_wp2_with fail
          exact ⟨⟨r + 1, by omega, by go_num, GG⟩, by simp [intOf]; omega⟩
        · refine wp_more54b0 i PA PB PC PD _ _ _ _ _ _ _ _ kA0 kA1 kB0 kB1 kC0 kC1 kD0 kD1 hf hi2 hb ?_
          intro x378 x379 x380 x381 x382 x383 x384 x385 x386 x387 x388 x389 x390 x391 x392 x393 x394 x395 x396 x397 x398 x399 x400 x401 x402 x403 x404 x405 x406 x407 x408 x409 x410 x411 x412 x413 x414 x415 x416 x417 x418 x419 x420 x421 x422 x423 x424 x425 x426 x427 x428 x429 x430 x431 x432 x433 x434 x435 x436 x437 x438 x439 x440 x441 x442 x443 x444 x445 x446 x447 x448 x449 x450 x451 x452 x453 x454 x455 x456 x457 x458 x459 x460 x461 x462 x463 x464 x465 x466 V9 hg9
          have GG := GF.trans hg9
          go_wp2_with fail
          exact ⟨⟨r + 1, by omega, by go_num, GG⟩, by simp [intOf]; omega⟩
      · by_cases hf : f = 1
        · subst hf
          refine wp_more54a1 i PA PB PC PD _ _ _ _ _ _ _ _ _ _ _ _ kA0 kA1 kB0 kB1 kC0 kC1 kD0 kD1 (by omega) r1 r2 r3 r4 hb ?_
          intro x378 x379 x380 x381 x382 x383 x384 x385 x386 x387 x388 x389 x390 x391 x392 x393 x394 x395 x396 x397 x398 x399 x400 x401 x402 x403 x404 x405 x406 x407 x408 x409 x410 x411 x412 x413 x414 x415 x416 x417 x418 x419 x420 x421 x422 x423 x424 x425 x426 x427 x428 x429 x430 x431 x432 x433 x434 x435 x436 x437 x438 x439 x440 x441 x442 x443 x444 x445 x446 x447 x448 x449 x450 x451 x452 x453 x454 x455 x456 x457 x458 x459 x460 x461 x462 x463 x464 x465 x466 V9 hg9
          have GG := GF.trans hg9
          go_wp2_with fail
          exact ⟨⟨r + 1, by omega, by go_num, GG⟩, by simp [intOf]; omega⟩
        · obtain rfl := r5 hf
          refine wp_more54a0 i PA PB PC PD _ _ _ _ _ _ _ _ _ _ _ _ kA0 kA1 kB0 kB1 kC0 kC1 kD0 kD1 hf (by omega) r1 r2 r3 r4 hb ?_
          intro x378 x379 x380 x381 x382 x383 x384 x385 x386 x387 x388 x389 x390 x391 x392 x393 x394 x395 x396 x397 x398 x399 x400 x401 x402 x403 x404 x405 x406 x407 x408 x409 x410 x411 x412 x413 x414 x415 x416 x417 x418 x419 x420 x421 x422 x423 x424 x425 x426 x427 x428 x429 x430 x431 x432 x433 x434 x435 x436 x437 x438 x439 x440 x441 x442 x443 x444 x445 x446 x447 x448 x449 x450 x451 x452 x453 x454 x455 x456 x457 x458 x459 x460 x461 x462 x463 x464 x465 x466 V9 hg9
          have GG := GF.trans hg9
          go_wp2_with fail
          exact ⟨⟨r + 1, by omega, by go_num, GG⟩, by simp [intOf]; omega⟩
    · obtain rfl : r = n := by omega
      go_wp2_with fail
      exact HK.out _ _ _ _ _ _ _ _ _ _ _ _ _ _ _ _ _ _ _ _ _ _ _ _ _ _ _ _ _ _ _ _ _ _ _ _ _ _ _ _ _ _ _ _ _ _ _ _ _ _ _ _ _ _ _ _ _ _ _ _ _ _ _ _ _ _ _ _ _ _ _ _ _ _ _ _ _ _ _ _ _ _ _ _ _ _ _ _ _ _ _ _ _ _ _ _ _ _ _ _ _ _ _ _ _ _ _ _ _ _ _ _ _ _ _ _ _ _ _ _ _ _ _ _ _ _ _ _ _ _ _ _ _ _ _ _ _ _ _ _ _ _ _ _ wr hg
end Go.Proofs.Ytbeglemohfbdfaa
