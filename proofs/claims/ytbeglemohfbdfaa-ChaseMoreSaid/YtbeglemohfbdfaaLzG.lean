/- ChaseMore: the first loop, as a declaration of its own. Conditions: sizes. -/
import Derived.Test.YtbeglemohfbdfaaLzD
import Derived.Test.YtbeglemohfbdfaaLzEF
import Derived.Deep.DeepCutAuto
namespace Go.Proofs.Ytbeglemohfbdfaa
open Go.RowKit

/-- The block of a number, out of a text. -/
def blockNo (n : Nat) : Code → Option Code
  | .block m c => if m = n then some (.block m c) else blockNo n c
  | .seq a b => match blockNo n a with
    | some c => some c
    | none => blockNo n b
  | .scope c => blockNo n c
  | .loop c => blockNo n c
  | .cond _ a b => match blockNo n a with
    | some c => some c
    | none => blockNo n b
  | _ => none
def edgeL (l : List Int) : Bool := l.any fun x => decide (x < 3)
def edgeB (ss : List (List Int)) : Bool := ss.any edgeL
theorem edgeL_snoc {l : List Int} {j : Nat} {x : Int} (h : l[j]? = some x) : edgeL (l.take (j + 1)) = (edgeL (l.take j) || decide (x < 3)) := by rw [take_get h]; simp [edgeL]
theorem edgeB_snoc {ss : List (List Int)} {k : Nat} {l : List Int} (h : ss[k]? = some l) : edgeB (ss.take (k + 1)) = (edgeB (ss.take k) || edgeL l) := by rw [take_get h]; simp [edgeB]
theorem map_snoc {α β : Type} (f : α → β) {l : List α} {j : Nat} {x : α} (h : l[j]? = some x) : (l.take (j + 1)).map f = (l.take j).map f ++ [f x] := by rw [take_get h, List.map_append]; rfl
theorem listT_nil (V : World) (ow : Nat → Nat) (t u D : Nat) (E : TypeId) : ListT V ow t u D E (.slice none 0 0) [] [] := ⟨⟨Own.nil _ _ _, fun b h => by simp [Value.ownBlock] at h⟩, rfl, fun i x l h => by simp at h⟩
/-- A list that is new. -/
theorem intT_new {w V : World} {ow : Nat → Nat} {E : TypeId} {v : Value} {l : List Int} (hE : E = 3) (h : Own V w.heap.size E v (l.map (Value.int .i64))) (hl : l.length ≤ 1000) : IntT V (tagNew w ow 6) 6 v l := by
  subst hE
  refine ⟨h.ints (by omega), fun b hb => ⟨(h.lt b hb).2, ?_⟩⟩
  have := h.base b hb
  exact if_neg (by omega)
noncomputable def moreB0 : Code := (Try.f9.body.bind (blockNo 0)).getD .skip
/-- What stands while the first loop goes on. -/
def B0Inv (w : World) (D O3 O4 : Nat) (E F m : Int) (ss : List (List Int)) (k : Nat) (kv : Value) (V : World) : Prop :=
  ∃ (ow : Nat → Nat) (zv tv : Value) (vz vt vk : List Value), (ListT V ow 1 6 D 40 zv vz ((ss.take k).map fun l => l.map (· + m)) ∧ ListT V ow 2 6 D 40 tv vt ((ss.take k).map List.reverse) ∧ ListT V ow 5 6 D 40 kv vk (ss.take k)) ∧
    CellT V ow 3 O3 (.int .i64 E) (.int .i64 F) zv ∧ CellT V ow 4 O4 (.int .i64 E) (.int .i64 F) tv ∧ OldBut w D O3 O4 V
theorem B0Inv.step {w V : World} {D O3 O4 k : Nat} {E F m : Int} {ss : List (List Int)} {l : List Int} {kv zv tv : Value} {vz vt vk : List Value} {ow : Nat → Nat} (hl : ss[k]? = some l)
    (h : ListT V ow 1 6 D 40 zv vz (((ss.take k).map fun l => l.map (· + m)) ++ [l.map (· + m)]) ∧ ListT V ow 2 6 D 40 tv vt ((ss.take k).map List.reverse ++ [l.reverse]) ∧ ListT V ow 5 6 D 40 kv vk (ss.take k ++ [l]))
    (h3 : CellT V ow 3 O3 (.int .i64 E) (.int .i64 F) zv) (h4 : CellT V ow 4 O4 (.int .i64 E) (.int .i64 F) tv) (hO : OldBut w D O3 O4 V) : B0Inv w D O3 O4 E F m ss (k + 1) kv V := by
  refine ⟨ow, zv, tv, vz, vt, vk, ?_, h3, h4, hO⟩
  rw [map_snoc _ hl, map_snoc _ hl, take_get hl]
  exact h
set_option maxRecDepth 1000000 in
set_option maxHeartbeats 4000000 in
theorem wp_moreB0 (E F m : Int) (D O3 O4 ab ao cap : Nat) (ss : List (List Int)) {c0 c1 c2 c3 c4 c5 c6 c7 c8 c9 c10 c11 c17 c18 c19 c20 c21 c22 c23 c24 c25 c26 c27 c28 c29 c30 c31 c32 c33 c34 c35 c36 c37 c38 c39 c40 c41 c42 c43 c44 c45 c46 c47 c48 c49 c50 c51 c52 c53 c54 c55 c56 c57 c58 c59 c60 c61 c62 c63 c64 c65 c66 c67 c68 c69 c70 c71 c72 c73 c74 c75 c76 c77 c78 c79 c80 c81 c82 c83 c84 c85 c86 c87 c88 c89 c90 c91 c92 c93 c94 c95 c96 c97 c98 c99 c100 c101 c102 c103 c107 c108 c109 c110 c111 c112 c113 c114 c115 c116 c117 c118 c119 c120 c121 c122 c123 c124 c125 c126 c127 c128 c129 c130 c131 c132 c133 c134 c135 c136 c137 c138 c139 c140 c141 c142 c143 c144 c145 c146 c147 c148 c149 c150 c151 c152 c153 c154 c155 c156 c157 c158 c159 c160 c161 c162 c163 c164 c165 c166 c167 c168 c169 c170 c171 c172 c173 c174 c175 c176 c177 c178 c179 c180 c181 c182 c183 c184 c185 c186 c187 c188 c189 c190 c191 c192 c193 c194 c195 c196 c197 c198 c199 c200 c201 c202 c203 c204 c205 c206 c207 c208 c209 c210 c211 c212 c213 c214 c215 c216 c217 c218 c219 c220 c221 c222 c223 c224 c225 c226 c227 c228 c229 c230 c231 c232 c233 c234 c235 c236 c237 c238 c239 c240 c241 c242 c243 c244 c245 c246 c247 c248 c249 c250 c251 c252 c253 c254 c255 c256 c257 c258 c259 c260 c261 c262 c263 c264 c265 c266 c267 c268 c269 c270 c271 c272 c273 c274 c275 c276 c277 c278 c279 c280 c281 c282 c283 c284 c285 c286 c287 c288 c289 c290 c291 c292 c293 c294 c295 c296 c297 c298 c299 c300 c301 c302 c303 c304 c305 c306 c307 c308 c309 c310 c311 c312 c313 c314 c315 c316 c317 c318 c319 c320 c321 c322 c323 c324 c325 c326 c327 c328 c329 c330 c331 c332 c333 c334 c335 c336 c337 c338 c339 c340 c341 c342 c343 c344 c345 c346 c347 c348 c349 c350 c351 c352 c353 c354 c355 c356 c357 c358 c359 c360 c361 c362 c363 c364 c365 c366 c367 c368 c369 c370 c371 c372 c373 c374 c375 c376 c377 c378 c379 c380 c381 c382 c383 c384 c385 c386 c387 c388 c389 c390 c391 c392 c393 c394 c395 c396 c397 c398 c399 c400 c401 c402 c403 c404 c405 c406 c407 c408 c409 c410 c411 c412 c413 c414 c415 c416 c417 c418 c419 c420 c421 c422 c423 c424 c425 c426 c427 c428 c429 c430 c431 c432 c433 c434 c435 c436 c437 c438 c439 c440 c441 c442 c443 c444 c445 c446 c447 c448 c449 c450 c451 c452 c453 c454 c455 c456 c457 c458 c459 c460 c461 c462 c463 c464 c465 c466 c467 c468 c469 c470 c471 c472 c473 c474 c475 c476 c477 c478 c479 c480 c481 c482 c483 c484 c485 c486 : Value} (w : World) (Q : Exit → Act → World → Prop)
    (hD : w.heap.size = D) (hab : ab < D ∧ ab ≠ O3 ∧ ab ≠ O4) (hne : O3 ≠ O4) (hsh : ∀ (i : Nat) (l : List Int), ss[i]? = some l → (1 ≤ l.length ∧ l.length ≤ 3) ∧ (∀ x ∈ l, 0 ≤ x ∧ x ≤ 200) ∧ ∃ lb lo lc, w.cell? ⟨ab, ao + i, none⟩ = some (.slice (some ⟨lb, lo, none⟩) l.length lc) ∧ IsInts w (.slice (some ⟨lb, lo, none⟩) l.length lc) l ∧ lb < D ∧ lb ≠ O3 ∧ lb ≠ O4)
    (hlen : ss.length ≤ 6) (hm : 0 ≤ m ∧ m ≤ 20)
    (h3 : w.cell? ⟨O3, 0, none⟩ = some (.int .i64 E) ∧ w.cell? ⟨O3, 1, none⟩ = some (.int .i64 F) ∧ w.cell? ⟨O3, 2, none⟩ = some (.slice none 0 0) ∧ ∀ o, w.frozen? ⟨O3, o, none⟩ = false)
    (h4 : w.cell? ⟨O4, 0, none⟩ = some (.int .i64 E) ∧ w.cell? ⟨O4, 1, none⟩ = some (.int .i64 F) ∧ w.cell? ⟨O4, 2, none⟩ = some (.slice none 0 0) ∧ ∀ o, w.frozen? ⟨O4, o, none⟩ = false)
    (hK : ∀ (u16 u18 u19 u20 u21 u22 u106 u107 u108 u109 u110 u111 u112 u113 u114 u115 u116 u117 u118 u119 u120 u121 u122 u123 u124 u125 u126 u127 u128 u129 u130 u131 u132 u133 u134 u135 u136 u137 u138 u139 u140 u141 u142 u143 u144 u145 u146 u147 u148 u149 u150 u151 u152 u153 u154 u155 u156 u157 u158 : Value) (V : World), B0Inv w D O3 O4 E F m ss ss.length u16 V → Q .normal ⟨#[c0, c1, c2, c3, c4, c5, c6, c7, c8, c9, c10, c11, .pointer (some ⟨O3, 0, none⟩), .pointer (some ⟨O4, 0, none⟩), .int .i64 m, .bool (edgeB ss), u16, c17, u18, u19, u20, u21, u22, c23, c24, c25, c26, c27, c28, c29, c30, c31, c32, c33, c34, c35, c36, c37, c38, c39, c40, c41, c42, c43, c44, c45, c46, c47, c48, c49, c50, c51, c52, c53, c54, c55, c56, c57, c58, c59, c60, c61, c62, c63, c64, c65, c66, c67, c68, c69, c70, c71, c72, c73, c74, c75, c76, c77, c78, c79, c80, c81, c82, c83, c84, c85, c86, c87, c88, c89, c90, c91, c92, c93, c94, c95, c96, c97, c98, c99, c100, c101, c102, c103, (.slice (some ⟨ab, ao, none⟩) ss.length cap), .int .i64 ss.length, u106, u107, u108, u109, u110, u111, u112, u113, u114, u115, u116, u117, u118, u119, u120, u121, u122, u123, u124, u125, u126, u127, u128, u129, u130, u131, u132, u133, u134, u135, u136, u137, u138, u139, u140, u141, u142, u143, u144, u145, u146, u147, u148, u149, u150, u151, u152, u153, u154, u155, u156, u157, u158, c159, c160, c161, c162, c163, c164, c165, c166, c167, c168, c169, c170, c171, c172, c173, c174, c175, c176, c177, c178, c179, c180, c181, c182, c183, c184, c185, c186, c187, c188, c189, c190, c191, c192, c193, c194, c195, c196, c197, c198, c199, c200, c201, c202, c203, c204, c205, c206, c207, c208, c209, c210, c211, c212, c213, c214, c215, c216, c217, c218, c219, c220, c221, c222, c223, c224, c225, c226, c227, c228, c229, c230, c231, c232, c233, c234, c235, c236, c237, c238, c239, c240, c241, c242, c243, c244, c245, c246, c247, c248, c249, c250, c251, c252, c253, c254, c255, c256, c257, c258, c259, c260, c261, c262, c263, c264, c265, c266, c267, c268, c269, c270, c271, c272, c273, c274, c275, c276, c277, c278, c279, c280, c281, c282, c283, c284, c285, c286, c287, c288, c289, c290, c291, c292, c293, c294, c295, c296, c297, c298, c299, c300, c301, c302, c303, c304, c305, c306, c307, c308, c309, c310, c311, c312, c313, c314, c315, c316, c317, c318, c319, c320, c321, c322, c323, c324, c325, c326, c327, c328, c329, c330, c331, c332, c333, c334, c335, c336, c337, c338, c339, c340, c341, c342, c343, c344, c345, c346, c347, c348, c349, c350, c351, c352, c353, c354, c355, c356, c357, c358, c359, c360, c361, c362, c363, c364, c365, c366, c367, c368, c369, c370, c371, c372, c373, c374, c375, c376, c377, c378, c379, c380, c381, c382, c383, c384, c385, c386, c387, c388, c389, c390, c391, c392, c393, c394, c395, c396, c397, c398, c399, c400, c401, c402, c403, c404, c405, c406, c407, c408, c409, c410, c411, c412, c413, c414, c415, c416, c417, c418, c419, c420, c421, c422, c423, c424, c425, c426, c427, c428, c429, c430, c431, c432, c433, c434, c435, c436, c437, c438, c439, c440, c441, c442, c443, c444, c445, c446, c447, c448, c449, c450, c451, c452, c453, c454, c455, c456, c457, c458, c459, c460, c461, c462, c463, c464, c465, c466, c467, c468, c469, c470, c471, c472, c473, c474, c475, c476, c477, c478, c479, c480, c481, c482, c483, c484, c485, c486], []⟩ V) :
    Code.wp Try.prog moreB0 Q ⟨#[c0, c1, c2, c3, c4, c5, c6, c7, c8, c9, c10, c11, .pointer (some ⟨O3, 0, none⟩), .pointer (some ⟨O4, 0, none⟩), .int .i64 m, .bool false, .slice none 0 0, c17, c18, c19, c20, c21, c22, c23, c24, c25, c26, c27, c28, c29, c30, c31, c32, c33, c34, c35, c36, c37, c38, c39, c40, c41, c42, c43, c44, c45, c46, c47, c48, c49, c50, c51, c52, c53, c54, c55, c56, c57, c58, c59, c60, c61, c62, c63, c64, c65, c66, c67, c68, c69, c70, c71, c72, c73, c74, c75, c76, c77, c78, c79, c80, c81, c82, c83, c84, c85, c86, c87, c88, c89, c90, c91, c92, c93, c94, c95, c96, c97, c98, c99, c100, c101, c102, c103, (.slice (some ⟨ab, ao, none⟩) ss.length cap), .int .i64 ss.length, .int .i64 0, c107, c108, c109, c110, c111, c112, c113, c114, c115, c116, c117, c118, c119, c120, c121, c122, c123, c124, c125, c126, c127, c128, c129, c130, c131, c132, c133, c134, c135, c136, c137, c138, c139, c140, c141, c142, c143, c144, c145, c146, c147, c148, c149, c150, c151, c152, c153, c154, c155, c156, c157, c158, c159, c160, c161, c162, c163, c164, c165, c166, c167, c168, c169, c170, c171, c172, c173, c174, c175, c176, c177, c178, c179, c180, c181, c182, c183, c184, c185, c186, c187, c188, c189, c190, c191, c192, c193, c194, c195, c196, c197, c198, c199, c200, c201, c202, c203, c204, c205, c206, c207, c208, c209, c210, c211, c212, c213, c214, c215, c216, c217, c218, c219, c220, c221, c222, c223, c224, c225, c226, c227, c228, c229, c230, c231, c232, c233, c234, c235, c236, c237, c238, c239, c240, c241, c242, c243, c244, c245, c246, c247, c248, c249, c250, c251, c252, c253, c254, c255, c256, c257, c258, c259, c260, c261, c262, c263, c264, c265, c266, c267, c268, c269, c270, c271, c272, c273, c274, c275, c276, c277, c278, c279, c280, c281, c282, c283, c284, c285, c286, c287, c288, c289, c290, c291, c292, c293, c294, c295, c296, c297, c298, c299, c300, c301, c302, c303, c304, c305, c306, c307, c308, c309, c310, c311, c312, c313, c314, c315, c316, c317, c318, c319, c320, c321, c322, c323, c324, c325, c326, c327, c328, c329, c330, c331, c332, c333, c334, c335, c336, c337, c338, c339, c340, c341, c342, c343, c344, c345, c346, c347, c348, c349, c350, c351, c352, c353, c354, c355, c356, c357, c358, c359, c360, c361, c362, c363, c364, c365, c366, c367, c368, c369, c370, c371, c372, c373, c374, c375, c376, c377, c378, c379, c380, c381, c382, c383, c384, c385, c386, c387, c388, c389, c390, c391, c392, c393, c394, c395, c396, c397, c398, c399, c400, c401, c402, c403, c404, c405, c406, c407, c408, c409, c410, c411, c412, c413, c414, c415, c416, c417, c418, c419, c420, c421, c422, c423, c424, c425, c426, c427, c428, c429, c430, c431, c432, c433, c434, c435, c436, c437, c438, c439, c440, c441, c442, c443, c444, c445, c446, c447, c448, c449, c450, c451, c452, c453, c454, c455, c456, c457, c458, c459, c460, c461, c462, c463, c464, c465, c466, c467, c468, c469, c470, c471, c472, c473, c474, c475, c476, c477, c478, c479, c480, c481, c482, c483, c484, c485, c486], []⟩ w := by
  have HK := Lib.hid hK
  have Hsh := Lib.hid hsh
  clear hK hsh
  conv => arg 2; whnf
  have hl3 := lt_of_cell h3.1
  have hl4 := lt_of_cell h4.1
  have h0 : B0Inv w D O3 O4 E F m ss 0 (.slice none 0 0) w := ⟨fun b => if b = O3 then 3 else if b = O4 then 4 else 0, _, _, [], [], [], ⟨listT_nil _ _ _ _ _ _, listT_nil _ _ _ _ _ _, listT_nil _ _ _ _ _ _⟩, ⟨h3, if_pos rfl⟩, ⟨h4, (if_neg (Ne.symm hne)).trans (if_pos rfl)⟩, ⟨rfl, rfl, rfl, Nat.le_refl _⟩, fun _ _ _ _ => rfl⟩
  have H0 := Lib.hid h0
  clear h0 h3 h4
  go_wp2_with fail
  go_loopw [15, 16, 106] (fun e kv i wr => ∃ k : Nat, k ≤ ss.length ∧ i = .int .i64 k ∧ e = .bool (edgeB (ss.take k)) ∧ B0Inv w D O3 O4 E F m ss k kv wr) (fun _ _ i _ => ss.length - (intOf i).toNat)
  case atStart => exact ⟨0, Nat.zero_le _, rfl, rfl, H0.out⟩
  case round =>
    obtain ⟨k, hk, rfl, rfl, hI⟩ := hrel
    have HI := Lib.hid hI
    clear hI H0
    by_cases hkn : k < ss.length
    · obtain ⟨l, hl⟩ : ∃ l, ss[k]? = some l := ⟨ss[k], List.getElem?_eq_getElem hkn⟩
      obtain ⟨hl1, hlx, lb, lo, lc, hcl, hil, hlb⟩ := Hsh.out k l hl
      obtain ⟨ow, zv, tv, vz, vt, vk, ⟨L1, L2, L3⟩, C3, C4, hO⟩ := HI.out
      have c1 := hO.cell hcl hab.1 hab.2.1 hab.2.2
      have Hl := Lib.hid hl
      have Hil := Lib.hid hil
      have Hlx := Lib.hid hlx
      have HL := Lib.hid (And.intro L1 (And.intro L2 L3))
      have HC := Lib.hid (And.intro C3 C4)
      have HO := Lib.hid hO
      have hWD := hO.1.2.2.2
      obtain ⟨eb, heb⟩ : ∃ e, edgeB (ss.take k) = e := ⟨_, rfl⟩
      have Heb := Lib.hid heb
      rw [heb]
      clear heb hl hil hlx L1 L2 L3 C3 C4 hO hcl HI
      go_wp2_with fail
      obtain ⟨wO, hwO⟩ : ∃ z, z = wr := ⟨_, rfl⟩
      subst hwO
      go_loopw [15, 19, 20, 112] (fun e xv yv i wr => ∃ j : Nat, j ≤ l.length ∧ i = .int .i64 j ∧ e = .bool (eb || edgeL (l.take j)) ∧ XY wr wO.heap.size xv ((l.take j).map (· + m)) yv (l.reverse.take j) ∧ Grow wO wr) (fun _ _ _ i _ => l.length - (intOf i).toNat)
      case atStart => exact ⟨0, Nat.zero_le _, rfl, by simp [edgeL], XY.nil _ _, Grow.refl _⟩
      case round =>
        obtain ⟨j, hj, rfl, rfl, hxy, hg⟩ := hrel
        have Hxy := Lib.hid hxy
        clear hxy
        by_cases hjl : j < l.length
        · obtain ⟨x, hx⟩ : ∃ x, l[j]? = some x := ⟨l[j], List.getElem?_eq_getElem hjl⟩
          obtain ⟨jj, hjj⟩ : ∃ jj, l.length - 1 - j = jj := ⟨_, rfl⟩
          obtain ⟨y, hy⟩ : ∃ y, l[jj]? = some y := ⟨l[jj]'(by omega), List.getElem?_eq_getElem (by omega)⟩
          have hrx := Hlx.out x (List.mem_of_getElem? hx)
          have hcell : ∀ (i : Nat) (z : Int), l[i]? = some z → wO.cell? ⟨lb, lo + i, none⟩ = some (.int .i64 z) := fun i z hz => by
            obtain ⟨a1, c1, e1, _, _, hr⟩ := id Hil.out
            obtain ⟨b, o, e2, h2⟩ := hr i (.int .i64 z) (by rw [List.getElem?_map, hz]; rfl)
            injection e1 with e1 _ _
            rw [e2] at e1
            injection e1 with e1
            injection e1 with e1 e3 _
            subst e1
            subst e3
            exact HO.out.cell h2 hlb.1 hlb.2.1 hlb.2.2
          have cx := hg.keeps (hcell j x hx)
          have cy := hcell jj y hy
          have hry : l.reverse[j]? = some y := by rw [List.getElem?_reverse (by omega), hjj]; exact hy
          have Hx := Lib.hid hx
          have Hry := Lib.hid hry
          have hjI : (j : Int) < l.length := by omega
          obtain ⟨eb2, heb2⟩ : ∃ e, (eb || edgeL (l.take j)) = e := ⟨_, rfl⟩
          have Heb2 := Lib.hid heb2
          rw [heb2]
          clear heb2 hx hy hry hcell
          go_upto_region 17 with fail
          refine wp_more17 wO wO.heap.size lb lo l.length lc j jj m x (x + m) y _ _ ((l.take j).map (· + m)) (l.reverse.take j) wr _ Hxy.out hg rfl cy (by omega) (by omega) rfl (by omega) (by simp; omega) ?_
          intro x9 y9 u117 u118 u119 u120 u121 u122 u123 u124 u125 u126 u127 u128 u129 u130 u131 u132 u133 V9 hxy9 hg9
          have Hxy9 := Lib.hid hxy9
          clear hxy9
          have hfin : XY V9 wO.heap.size x9 ((l.take (j + 1)).map (· + m)) y9 (l.reverse.take (j + 1)) := by
            rw [map_snoc _ Hx.out, take_get Hry.out]
            exact Hxy9.out
          have Hfin := Lib.hid hfin
          clear hfin Hxy9
          cases eb2
          · by_cases hx3 : x < 3
            · have he : (eb || edgeL (l.take (j + 1))) = true := by rw [edgeL_snoc Hx.out, ← Bool.or_assoc, Heb2.out]; simpa using hx3
              have He := Lib.hid he
              clear he
              go_wp2_with fail
              exact ⟨⟨j + 1, by omega, by go_num, by rw [He.out], Hfin.out, hg9⟩, by simp [intOf]; omega⟩
            · have he : (eb || edgeL (l.take (j + 1))) = false := by rw [edgeL_snoc Hx.out, ← Bool.or_assoc, Heb2.out]; simpa using hx3
              have He := Lib.hid he
              clear he
              go_wp2_with fail
              exact ⟨⟨j + 1, by omega, by go_num, by rw [He.out], Hfin.out, hg9⟩, by simp [intOf]; omega⟩
          · have he : (eb || edgeL (l.take (j + 1))) = true := by rw [edgeL_snoc Hx.out, ← Bool.or_assoc, Heb2.out]; rfl
            have He := Lib.hid he
            clear he
            go_wp2_with fail
            exact ⟨⟨j + 1, by omega, by go_num, by rw [He.out], Hfin.out, hg9⟩, by simp [intOf]; omega⟩
        · obtain rfl : j = l.length := by omega
          obtain ⟨⟨_, hox⟩, ⟨_, hoy⟩⟩ : (True ∧ Own wr wO.heap.size 3 _ _) ∧ (True ∧ Own wr wO.heap.size 3 _ _) := ⟨⟨trivial, Hxy.out.1⟩, ⟨trivial, Hxy.out.2.1⟩⟩
          rw [List.take_length] at hox
          rw [List.take_of_length_le (by simp)] at hoy
          obtain ⟨xa, xc, rfl, _⟩ := hox.row
          obtain ⟨ya, yc, rfl, _⟩ := hoy.row
          have hE : Ext 99 wO ow wr (tagNew wO ow 6) := Ext.new hg 99 6
          have M1 := HL.out.1.ext hE (by decide) (by decide)
          have M2 := HL.out.2.1.ext hE (by decide) (by decide)
          have M3 := HL.out.2.2.ext hE (by decide) (by decide)
          have N3 := HC.out.1.ext hE (by decide)
          have N4 := HC.out.2.ext hE (by decide)
          have I1 := intT_new (ow := ow) rfl hox (by simp; omega)
          have I2 := intT_new (ow := ow) rfl hoy (by simp; omega)
          have O9 := HO.out.by' (hg.grownBy none) (fun _ h => nomatch h) (by omega)
          have hn1 := M1.2.1
          have hn2 := M2.2.1
          have hn3 := M3.2.1
          simp only [List.length_map, List.length_take] at hn1 hn2 hn3
          go_upto_region 20 with fail
          refine wp_more20 E F w D O3 O4 lb lo lc l (l.map (· + m)) l.reverse zv tv _ vz vt vk _ _ _ xa _ xc ya _ yc wr (tagNew wO ow 6) _ M1 M2 M3 I1 I2 N3 N4 O9 Hil.out hlb (by omega) (by omega) ?_
          intro ow9 k9 u140 u141 u142 u143 u144 u145 u146 u147 u148 u149 u150 u151 u152 u153 u154 u155 u156 u157 V9 hL9 hC9 hD9 hO9
          have HL9 := Lib.hid hL9
          have HC9 := Lib.hid hC9
          have HD9 := Lib.hid hD9
          have HO9 := Lib.hid hO9
          clear hL9 hC9 hD9 hO9 M1 M2 M3 N3 N4 I1 I2 O9 hE
          have he : edgeB (ss.take (k + 1)) = (eb || edgeL (l.take l.length)) := by rw [edgeB_snoc Hl.out, Heb.out, List.take_length]
          have He := Lib.hid he
          clear he
          have hfin := B0Inv.step Hl.out HL9.out HC9.out HD9.out HO9.out
          have Hfin := Lib.hid hfin
          clear hfin
          go_wp2_with fail
          exact ⟨⟨k + 1, by omega, by go_num, by rw [He.out], Hfin.out⟩, by simp [intOf]; omega⟩
    · obtain rfl : k = ss.length := by omega
      have hI := HI.out
      have he : edgeB (ss.take ss.length) = edgeB ss := by rw [List.take_length]
      rw [he]
      clear he
      have HI := Lib.hid hI
      go_wp2_with fail
      exact HK.out _ _ _ _ _ _ _ _ _ _ _ _ _ _ _ _ _ _ _ _ _ _ _ _ _ _ _ _ _ _ _ _ _ _ _ _ _ _ _ _ _ _ _ _ _ _ _ _ _ _ _ _ _ _ _ _ _ _ _ wr HI.out
end Go.Proofs.Ytbeglemohfbdfaa
