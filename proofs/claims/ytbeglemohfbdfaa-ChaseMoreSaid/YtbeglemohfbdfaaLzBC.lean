/- ChaseMore: the region that makes four variables, as a declaration of its own. Conditions: none. -/
import Derived.Test.YtbeglemohfbdfaaLibX
import Derived.Deep.AppendLies
namespace Go.Proofs.Ytbeglemohfbdfaa
open Go.RowKit

/-- The region of a number, out of a text. -/
def regionNo (n : Nat) : Code → Option Code
  | .region m ops b => if m = n then some (.region m ops b) else none
  | .seq a b => match regionNo n a with
    | some c => some c
    | none => regionNo n b
  | .block _ c => regionNo n c
  | .scope c => regionNo n c
  | .loop c => regionNo n c
  | .cond _ a b => match regionNo n a with
    | some c => some c
    | none => regionNo n b
  | _ => none
/-- A new variable of three cells. -/
def Bx1 (wS V : World) (E F : Int) (pv : Value) (d : Prop) (v : Value) : Prop :=
  ∃ O : Nat, v = .pointer (some ⟨O, 0, none⟩) ∧ wS.heap.size ≤ O ∧ (∀ o, V.frozen? ⟨O, o, none⟩ = false) ∧ ∃ x y z, V.cell? ⟨O, 0, none⟩ = some x ∧ V.cell? ⟨O, 1, none⟩ = some y ∧ V.cell? ⟨O, 2, none⟩ = some z ∧ (d → x = .int .i64 E ∧ y = .int .i64 F ∧ z = pv)
def T1box (wS V : World) (E F : Int) (pv : Value) (p d : Prop) (v : Value) : Prop := (p ∧ Bx1 wS V E F pv d v) ∨ (¬ p ∧ ¬ d ∧ v = undef)
def set3 (V : World) (O : Nat) (x y z : Value) : World := ((V.setCell ⟨O, 0, none⟩ x).setCell ⟨O, 1, none⟩ y).setCell ⟨O, 2, none⟩ z
def DsV (v u : Value) : Prop := v ≠ u ∨ v = undef ∨ u = undef
section
variable {wS V V' : World} {E F : Int} {pv v u : Value} {p p' d d' : Prop}
theorem lt_cell {b o : Nat} {x : Value} (h : V.cell? ⟨b, o, none⟩ = some x) : b < V.heap.size := lt_of_cell h
theorem Bx1.grow (h : Bx1 wS V E F pv d v) (hg : Grow V V') (hd : d' → d) : Bx1 wS V' E F pv d' v := by
  obtain ⟨O, h1, h2, h3, x, y, z, h4, h5, h6, h7⟩ := h
  exact ⟨O, h1, h2, fun o => (hg.marks _ _ (lt_of_cell h4)).trans (h3 o), x, y, z, hg.keeps h4, hg.keeps h5, hg.keeps h6, fun k => h7 (hd k)⟩
theorem T1box.grow (h : T1box wS V E F pv p d v) (hg : Grow V V') (hp : p' ↔ p) (hd : d' ↔ d) : T1box wS V' E F pv p' d' v := by
  rcases h with ⟨h1, h2⟩ | ⟨h1, h2, h3⟩
  · exact .inl ⟨hp.2 h1, h2.grow hg hd.1⟩
  · exact .inr ⟨fun k => h1 (hp.1 k), fun k => h2 (hd.1 k), h3⟩
theorem T1box.new (h : T1box wS V E F pv p d v) (hs : wS.heap.size ≤ V.heap.size) (hn : ¬ p) (hp : p') (hd : d' ↔ d) (x y z : Value) (e : TypeId) : T1box wS (V.alloc (.cells #[x, y, z] e)) E F pv p' d' (.pointer (some ⟨V.heap.size, 0, none⟩)) := by
  rcases h with ⟨h1, _⟩ | ⟨_, h2, _⟩
  · exact absurd h1 hn
  · exact .inl ⟨hp, V.heap.size, rfl, hs, fun o => hot_new rfl, x, y, z, cell_new rfl rfl, cell_new rfl rfl, cell_new rfl rfl, fun k => absurd (hd.1 k) h2⟩
theorem T1box.ne (h : T1box wS V E F pv p d v) : DsV v (.pointer (some ⟨V.heap.size, 0, none⟩)) := by
  rcases h with ⟨_, O, rfl, _, _, x, y, z, h4, _⟩ | ⟨_, _, h3⟩
  · refine .inl fun e => ?_
    injection e with e
    injection e with e
    injection e with e
    have := lt_of_cell h4
    omega
  · exact .inr (.inl h3)
theorem set3_by (O : Nat) (x y z : Value) : V.grownBy (set3 V O x y z) (some O) := byStore (byStore (bySet V O 0 x) 1 y) 2 z
theorem set3_grow {O : Nat} (h : Grow wS V) (hO : wS.heap.size ≤ O) (x y z : Value) : Grow wS (set3 V O x y z) := Below.trans h (grownBy_below (set3_by O x y z) (fun k hk => by injection hk with hk; omega) h.size)
theorem T1box.far (h : T1box wS V E F pv p d v) {O : Nat} (hO : DsV (.pointer (some ⟨O, 0, none⟩)) v) (x y z : Value) (hp : p' ↔ p) (hd : d' ↔ d) : T1box wS (set3 V O x y z) E F pv p' d' v := by
  rcases h with ⟨h1, U, rfl, h2, h3, a, b, c, h4, h5, h6, h7⟩ | ⟨h1, h2, h3⟩
  · have hne : some O ≠ some U := fun e => by
      injection e with e
      subst e
      rcases hO with h | h | h
      · exact h rfl
      · cases h
      · cases h
    have hg := set3_by (V := V) O x y z
    exact .inl ⟨hp.2 h1, U, rfl, h2, fun o => (hg.frozen_far ⟨U, o, none⟩ (lt_of_cell h4) fun e => hne e.symm).trans (h3 o), a, b, c, byCell1 hg h4 hne, byCell1 hg h5 hne, byCell1 hg h6 hne, fun k => h7 (hd.1 k)⟩
  · exact .inr ⟨fun k => h1 (hp.1 k), fun k => h2 (hd.1 k), h3⟩
theorem T1box.at {O : Nat} {a b c : Value} (hp : p') (hO : wS.heap.size ≤ O) (hf : ∀ o, V.frozen? ⟨O, o, none⟩ = false) (h0 : V.cell? ⟨O, 0, none⟩ = some a) (h1 : V.cell? ⟨O, 1, none⟩ = some b) (h2 : V.cell? ⟨O, 2, none⟩ = some c) : T1box wS (set3 V O (.int .i64 E) (.int .i64 F) pv) E F pv p' d' (.pointer (some ⟨O, 0, none⟩)) := by
  have k : ∀ {W : World} {i j : Nat} {u t : Value}, i ≠ j → W.cell? ⟨O, j, none⟩ = some t → (W.setCell ⟨O, i, none⟩ u).cell? ⟨O, j, none⟩ = some t := fun {W i j u t} hij h => by
    rw [World.cell?_setCell_other _ _ _ _ (by intro e; injection e with e1 e2; exact hij e2)]; exact h
  have q : ∀ {W : World} {i : Nat} {u t : Value}, W.cell? ⟨O, i, none⟩ = some t → (W.setCell ⟨O, i, none⟩ u).cell? ⟨O, i, none⟩ = some u := fun {W i u t} h => World.cell?_setCell_same' _ _ _ (by rw [h]; rfl)
  refine .inl ⟨hp, O, rfl, hO, fun o => ?_, .int .i64 E, .int .i64 F, pv, ?_, ?_, ?_, fun _ => ⟨rfl, rfl, rfl⟩⟩
  · unfold set3; rw [World.frozen?_setCell, World.frozen?_setCell, World.frozen?_setCell]; exact hf o
  · exact k (by decide) (k (by decide) (q h0))
  · exact k (by decide) (q (k (by decide) h1))
  · exact q (k (by decide) (k (by decide) h2))
theorem DsV.symm (h : DsV v u) : DsV u v := by
  rcases h with h | h | h
  · exact .inl fun e => h e.symm
  · exact .inr (.inr h)
  · exact .inr (.inl h)
end

/-- What holds, whichever operations are over. -/
def Inv4 (wS : World) (E F : Int) (pa : Option Addr) (pn pc B : Nat) (c0 c1 c2 c3 c5 c6 c7 c8 c9 c14 c15 c16 c17 c18 c19 c20 c21 c22 c23 c24 c25 c26 c27 c28 c29 c30 c31 c32 c33 c34 c35 c36 c37 c38 c39 c40 c41 c42 c43 c44 c45 c46 c47 c48 c49 c50 c51 c52 c53 c54 c55 c56 c57 c58 c59 c60 c61 c62 c63 c64 c65 c66 c67 c72 c73 c74 c75 c76 c77 c78 c79 c80 c81 c82 c83 c84 c85 c86 c87 c88 c89 c90 c91 c92 c93 c94 c95 c96 c97 c98 c99 c100 c101 c102 c103 c104 c105 c106 c107 c108 c109 c110 c111 c112 c113 c114 c115 c116 c117 c118 c119 c120 c121 c122 c123 c124 c125 c126 c127 c128 c129 c130 c131 c132 c133 c134 c135 c136 c137 c138 c139 c140 c141 c142 c143 c144 c145 c146 c147 c148 c149 c150 c151 c152 c153 c154 c155 c156 c157 c158 c159 c160 c161 c162 c163 c164 c165 c166 c167 c168 c169 c170 c171 c172 c173 c174 c175 c176 c177 c178 c179 c180 c181 c182 c183 c184 c185 c186 c187 c188 c189 c190 c191 c192 c193 c194 c195 c196 c197 c198 c199 c200 c201 c202 c203 c204 c205 c206 c207 c208 c209 c210 c211 c212 c213 c214 c215 c216 c217 c218 c219 c220 c221 c222 c223 c224 c225 c226 c227 c228 c229 c230 c231 c232 c233 c234 c235 c236 c237 c238 c239 c240 c241 c242 c243 c244 c245 c246 c247 c248 c249 c250 c251 c252 c253 c254 c255 c256 c257 c258 c259 c260 c261 c262 c263 c264 c265 c266 c267 c268 c269 c270 c271 c272 c273 c274 c275 c276 c277 c278 c279 c280 c281 c282 c283 c284 c285 c286 c287 c288 c289 c290 c291 c292 c293 c294 c295 c296 c297 c298 c299 c300 c301 c302 c303 c304 c305 c306 c307 c308 c309 c310 c311 c312 c313 c314 c315 c316 c317 c318 c319 c320 c321 c322 c323 c324 c325 c326 c327 c328 c329 c330 c331 c332 c333 c334 c335 c336 c337 c338 c339 c340 c341 c342 c343 c344 c345 c346 c347 c348 c349 c350 c351 c352 c353 c354 c355 c356 c357 c358 c359 c360 c361 c362 c363 c364 c365 c366 c367 c368 c369 c370 c371 c372 c373 c374 c375 c376 c377 c378 c379 c380 c381 c382 c383 c384 c385 c386 c387 c388 c389 c390 c391 c392 c393 c394 c395 c396 c397 c398 c399 c400 c401 c402 c403 c404 c405 c406 c407 c408 c409 c410 c411 c412 c413 c414 c415 c416 c417 c418 c419 c420 c421 c422 c423 c424 c425 c426 c427 c428 c429 c430 c431 c432 c433 c434 c435 c436 c437 c438 c439 c440 c441 c442 c443 c444 c445 c446 c447 c448 c449 c450 c451 c452 c453 c454 c455 c456 c457 c458 c459 c460 c461 c462 c463 c464 c465 c466 c467 c468 c469 c470 c471 c472 c473 c474 c475 c476 c477 c478 c479 c480 c481 c482 c483 c484 c485 c486 : Value) (L : Array Bool) (A : Act) (V : World) : Prop :=
  ∃ v10 v11 v12 v13 v68 v69 v70 v71 : Value, A = { tmps := #[c0, c1, c2, c3, .pointer (some ⟨B, 0, none⟩), c5, c6, c7, c8, c9, v10, v11, v12, v13, c14, c15, c16, c17, c18, c19, c20, c21, c22, c23, c24, c25, c26, c27, c28, c29, c30, c31, c32, c33, c34, c35, c36, c37, c38, c39, c40, c41, c42, c43, c44, c45, c46, c47, c48, c49, c50, c51, c52, c53, c54, c55, c56, c57, c58, c59, c60, c61, c62, c63, c64, c65, c66, c67, v68, v69, v70, v71, c72, c73, c74, c75, c76, c77, c78, c79, c80, c81, c82, c83, c84, c85, c86, c87, c88, c89, c90, c91, c92, c93, c94, c95, c96, c97, c98, c99, c100, c101, c102, c103, c104, c105, c106, c107, c108, c109, c110, c111, c112, c113, c114, c115, c116, c117, c118, c119, c120, c121, c122, c123, c124, c125, c126, c127, c128, c129, c130, c131, c132, c133, c134, c135, c136, c137, c138, c139, c140, c141, c142, c143, c144, c145, c146, c147, c148, c149, c150, c151, c152, c153, c154, c155, c156, c157, c158, c159, c160, c161, c162, c163, c164, c165, c166, c167, c168, c169, c170, c171, c172, c173, c174, c175, c176, c177, c178, c179, c180, c181, c182, c183, c184, c185, c186, c187, c188, c189, c190, c191, c192, c193, c194, c195, c196, c197, c198, c199, c200, c201, c202, c203, c204, c205, c206, c207, c208, c209, c210, c211, c212, c213, c214, c215, c216, c217, c218, c219, c220, c221, c222, c223, c224, c225, c226, c227, c228, c229, c230, c231, c232, c233, c234, c235, c236, c237, c238, c239, c240, c241, c242, c243, c244, c245, c246, c247, c248, c249, c250, c251, c252, c253, c254, c255, c256, c257, c258, c259, c260, c261, c262, c263, c264, c265, c266, c267, c268, c269, c270, c271, c272, c273, c274, c275, c276, c277, c278, c279, c280, c281, c282, c283, c284, c285, c286, c287, c288, c289, c290, c291, c292, c293, c294, c295, c296, c297, c298, c299, c300, c301, c302, c303, c304, c305, c306, c307, c308, c309, c310, c311, c312, c313, c314, c315, c316, c317, c318, c319, c320, c321, c322, c323, c324, c325, c326, c327, c328, c329, c330, c331, c332, c333, c334, c335, c336, c337, c338, c339, c340, c341, c342, c343, c344, c345, c346, c347, c348, c349, c350, c351, c352, c353, c354, c355, c356, c357, c358, c359, c360, c361, c362, c363, c364, c365, c366, c367, c368, c369, c370, c371, c372, c373, c374, c375, c376, c377, c378, c379, c380, c381, c382, c383, c384, c385, c386, c387, c388, c389, c390, c391, c392, c393, c394, c395, c396, c397, c398, c399, c400, c401, c402, c403, c404, c405, c406, c407, c408, c409, c410, c411, c412, c413, c414, c415, c416, c417, c418, c419, c420, c421, c422, c423, c424, c425, c426, c427, c428, c429, c430, c431, c432, c433, c434, c435, c436, c437, c438, c439, c440, c441, c442, c443, c444, c445, c446, c447, c448, c449, c450, c451, c452, c453, c454, c455, c456, c457, c458, c459, c460, c461, c462, c463, c464, c465, c466, c467, c468, c469, c470, c471, c472, c473, c474, c475, c476, c477, c478, c479, c480, c481, c482, c483, c484, c485, c486], defers := [] } ∧ Grow wS V ∧ (Over L 0 → v68 = .agg #[.int .i64 E, .int .i64 F, (.slice pa pn pc)]) ∧ (Over L 1 → v69 = .agg #[.int .i64 E, .int .i64 F, (.slice pa pn pc)]) ∧ (Over L 2 → v70 = .agg #[.int .i64 E, .int .i64 F, (.slice pa pn pc)]) ∧ (Over L 3 → v71 = .agg #[.int .i64 E, .int .i64 F, (.slice pa pn pc)]) ∧ T1box wS V E F (.slice pa pn pc) (Over L 4) (Over L 8) v10 ∧ T1box wS V E F (.slice pa pn pc) (Over L 5) (Over L 9) v11 ∧ T1box wS V E F (.slice pa pn pc) (Over L 6) (Over L 10) v12 ∧ T1box wS V E F (.slice pa pn pc) (Over L 7) (Over L 11) v13 ∧ DsV v10 v11 ∧ DsV v10 v12 ∧ DsV v10 v13 ∧ DsV v11 v12 ∧ DsV v11 v13 ∧ DsV v12 v13
noncomputable def more4 : Code := (Try.f9.body.bind (regionNo 4)).getD .skip
set_option maxRecDepth 1000000 in
set_option maxHeartbeats 4000000 in
theorem wp_more4 (E F : Int) (pa : Option Addr) (pn pc B : Nat) {c0 c1 c2 c3 c5 c6 c7 c8 c9 c14 c15 c16 c17 c18 c19 c20 c21 c22 c23 c24 c25 c26 c27 c28 c29 c30 c31 c32 c33 c34 c35 c36 c37 c38 c39 c40 c41 c42 c43 c44 c45 c46 c47 c48 c49 c50 c51 c52 c53 c54 c55 c56 c57 c58 c59 c60 c61 c62 c63 c64 c65 c66 c67 c68 c69 c70 c71 c72 c73 c74 c75 c76 c77 c78 c79 c80 c81 c82 c83 c84 c85 c86 c87 c88 c89 c90 c91 c92 c93 c94 c95 c96 c97 c98 c99 c100 c101 c102 c103 c104 c105 c106 c107 c108 c109 c110 c111 c112 c113 c114 c115 c116 c117 c118 c119 c120 c121 c122 c123 c124 c125 c126 c127 c128 c129 c130 c131 c132 c133 c134 c135 c136 c137 c138 c139 c140 c141 c142 c143 c144 c145 c146 c147 c148 c149 c150 c151 c152 c153 c154 c155 c156 c157 c158 c159 c160 c161 c162 c163 c164 c165 c166 c167 c168 c169 c170 c171 c172 c173 c174 c175 c176 c177 c178 c179 c180 c181 c182 c183 c184 c185 c186 c187 c188 c189 c190 c191 c192 c193 c194 c195 c196 c197 c198 c199 c200 c201 c202 c203 c204 c205 c206 c207 c208 c209 c210 c211 c212 c213 c214 c215 c216 c217 c218 c219 c220 c221 c222 c223 c224 c225 c226 c227 c228 c229 c230 c231 c232 c233 c234 c235 c236 c237 c238 c239 c240 c241 c242 c243 c244 c245 c246 c247 c248 c249 c250 c251 c252 c253 c254 c255 c256 c257 c258 c259 c260 c261 c262 c263 c264 c265 c266 c267 c268 c269 c270 c271 c272 c273 c274 c275 c276 c277 c278 c279 c280 c281 c282 c283 c284 c285 c286 c287 c288 c289 c290 c291 c292 c293 c294 c295 c296 c297 c298 c299 c300 c301 c302 c303 c304 c305 c306 c307 c308 c309 c310 c311 c312 c313 c314 c315 c316 c317 c318 c319 c320 c321 c322 c323 c324 c325 c326 c327 c328 c329 c330 c331 c332 c333 c334 c335 c336 c337 c338 c339 c340 c341 c342 c343 c344 c345 c346 c347 c348 c349 c350 c351 c352 c353 c354 c355 c356 c357 c358 c359 c360 c361 c362 c363 c364 c365 c366 c367 c368 c369 c370 c371 c372 c373 c374 c375 c376 c377 c378 c379 c380 c381 c382 c383 c384 c385 c386 c387 c388 c389 c390 c391 c392 c393 c394 c395 c396 c397 c398 c399 c400 c401 c402 c403 c404 c405 c406 c407 c408 c409 c410 c411 c412 c413 c414 c415 c416 c417 c418 c419 c420 c421 c422 c423 c424 c425 c426 c427 c428 c429 c430 c431 c432 c433 c434 c435 c436 c437 c438 c439 c440 c441 c442 c443 c444 c445 c446 c447 c448 c449 c450 c451 c452 c453 c454 c455 c456 c457 c458 c459 c460 c461 c462 c463 c464 c465 c466 c467 c468 c469 c470 c471 c472 c473 c474 c475 c476 c477 c478 c479 c480 c481 c482 c483 c484 c485 c486 : Value} (wS : World) (Q : Exit → Act → World → Prop) (b0 : wS.cell? ⟨B, 0, none⟩ = some (.int .i64 E)) (b1 : wS.cell? ⟨B, 1, none⟩ = some (.int .i64 F)) (b2 : wS.cell? ⟨B, 2, none⟩ = some (.slice pa pn pc))
    (hK : ∀ (O1 O2 O3 O4 : Nat) (z68 z69 z70 z71 : Value) (V : World), Grow wS V → (∀ O, O = O1 ∨ O = O2 ∨ O = O3 ∨ O = O4 → wS.heap.size ≤ O ∧ V.cell? ⟨O, 0, none⟩ = some (.int .i64 E) ∧ V.cell? ⟨O, 1, none⟩ = some (.int .i64 F) ∧ V.cell? ⟨O, 2, none⟩ = some (.slice pa pn pc) ∧ ∀ o, V.frozen? ⟨O, o, none⟩ = false) → (O1 ≠ O2 ∧ O1 ≠ O3 ∧ O1 ≠ O4 ∧ O2 ≠ O3 ∧ O2 ≠ O4 ∧ O3 ≠ O4) → Q .normal ⟨#[c0, c1, c2, c3, .pointer (some ⟨B, 0, none⟩), c5, c6, c7, c8, c9, .pointer (some ⟨O1, 0, none⟩), .pointer (some ⟨O2, 0, none⟩), .pointer (some ⟨O3, 0, none⟩), .pointer (some ⟨O4, 0, none⟩), c14, c15, c16, c17, c18, c19, c20, c21, c22, c23, c24, c25, c26, c27, c28, c29, c30, c31, c32, c33, c34, c35, c36, c37, c38, c39, c40, c41, c42, c43, c44, c45, c46, c47, c48, c49, c50, c51, c52, c53, c54, c55, c56, c57, c58, c59, c60, c61, c62, c63, c64, c65, c66, c67, z68, z69, z70, z71, c72, c73, c74, c75, c76, c77, c78, c79, c80, c81, c82, c83, c84, c85, c86, c87, c88, c89, c90, c91, c92, c93, c94, c95, c96, c97, c98, c99, c100, c101, c102, c103, c104, c105, c106, c107, c108, c109, c110, c111, c112, c113, c114, c115, c116, c117, c118, c119, c120, c121, c122, c123, c124, c125, c126, c127, c128, c129, c130, c131, c132, c133, c134, c135, c136, c137, c138, c139, c140, c141, c142, c143, c144, c145, c146, c147, c148, c149, c150, c151, c152, c153, c154, c155, c156, c157, c158, c159, c160, c161, c162, c163, c164, c165, c166, c167, c168, c169, c170, c171, c172, c173, c174, c175, c176, c177, c178, c179, c180, c181, c182, c183, c184, c185, c186, c187, c188, c189, c190, c191, c192, c193, c194, c195, c196, c197, c198, c199, c200, c201, c202, c203, c204, c205, c206, c207, c208, c209, c210, c211, c212, c213, c214, c215, c216, c217, c218, c219, c220, c221, c222, c223, c224, c225, c226, c227, c228, c229, c230, c231, c232, c233, c234, c235, c236, c237, c238, c239, c240, c241, c242, c243, c244, c245, c246, c247, c248, c249, c250, c251, c252, c253, c254, c255, c256, c257, c258, c259, c260, c261, c262, c263, c264, c265, c266, c267, c268, c269, c270, c271, c272, c273, c274, c275, c276, c277, c278, c279, c280, c281, c282, c283, c284, c285, c286, c287, c288, c289, c290, c291, c292, c293, c294, c295, c296, c297, c298, c299, c300, c301, c302, c303, c304, c305, c306, c307, c308, c309, c310, c311, c312, c313, c314, c315, c316, c317, c318, c319, c320, c321, c322, c323, c324, c325, c326, c327, c328, c329, c330, c331, c332, c333, c334, c335, c336, c337, c338, c339, c340, c341, c342, c343, c344, c345, c346, c347, c348, c349, c350, c351, c352, c353, c354, c355, c356, c357, c358, c359, c360, c361, c362, c363, c364, c365, c366, c367, c368, c369, c370, c371, c372, c373, c374, c375, c376, c377, c378, c379, c380, c381, c382, c383, c384, c385, c386, c387, c388, c389, c390, c391, c392, c393, c394, c395, c396, c397, c398, c399, c400, c401, c402, c403, c404, c405, c406, c407, c408, c409, c410, c411, c412, c413, c414, c415, c416, c417, c418, c419, c420, c421, c422, c423, c424, c425, c426, c427, c428, c429, c430, c431, c432, c433, c434, c435, c436, c437, c438, c439, c440, c441, c442, c443, c444, c445, c446, c447, c448, c449, c450, c451, c452, c453, c454, c455, c456, c457, c458, c459, c460, c461, c462, c463, c464, c465, c466, c467, c468, c469, c470, c471, c472, c473, c474, c475, c476, c477, c478, c479, c480, c481, c482, c483, c484, c485, c486], []⟩ V) :
    Code.wp Try.prog more4 Q ⟨#[c0, c1, c2, c3, .pointer (some ⟨B, 0, none⟩), c5, c6, c7, c8, c9, undef, undef, undef, undef, c14, c15, c16, c17, c18, c19, c20, c21, c22, c23, c24, c25, c26, c27, c28, c29, c30, c31, c32, c33, c34, c35, c36, c37, c38, c39, c40, c41, c42, c43, c44, c45, c46, c47, c48, c49, c50, c51, c52, c53, c54, c55, c56, c57, c58, c59, c60, c61, c62, c63, c64, c65, c66, c67, c68, c69, c70, c71, c72, c73, c74, c75, c76, c77, c78, c79, c80, c81, c82, c83, c84, c85, c86, c87, c88, c89, c90, c91, c92, c93, c94, c95, c96, c97, c98, c99, c100, c101, c102, c103, c104, c105, c106, c107, c108, c109, c110, c111, c112, c113, c114, c115, c116, c117, c118, c119, c120, c121, c122, c123, c124, c125, c126, c127, c128, c129, c130, c131, c132, c133, c134, c135, c136, c137, c138, c139, c140, c141, c142, c143, c144, c145, c146, c147, c148, c149, c150, c151, c152, c153, c154, c155, c156, c157, c158, c159, c160, c161, c162, c163, c164, c165, c166, c167, c168, c169, c170, c171, c172, c173, c174, c175, c176, c177, c178, c179, c180, c181, c182, c183, c184, c185, c186, c187, c188, c189, c190, c191, c192, c193, c194, c195, c196, c197, c198, c199, c200, c201, c202, c203, c204, c205, c206, c207, c208, c209, c210, c211, c212, c213, c214, c215, c216, c217, c218, c219, c220, c221, c222, c223, c224, c225, c226, c227, c228, c229, c230, c231, c232, c233, c234, c235, c236, c237, c238, c239, c240, c241, c242, c243, c244, c245, c246, c247, c248, c249, c250, c251, c252, c253, c254, c255, c256, c257, c258, c259, c260, c261, c262, c263, c264, c265, c266, c267, c268, c269, c270, c271, c272, c273, c274, c275, c276, c277, c278, c279, c280, c281, c282, c283, c284, c285, c286, c287, c288, c289, c290, c291, c292, c293, c294, c295, c296, c297, c298, c299, c300, c301, c302, c303, c304, c305, c306, c307, c308, c309, c310, c311, c312, c313, c314, c315, c316, c317, c318, c319, c320, c321, c322, c323, c324, c325, c326, c327, c328, c329, c330, c331, c332, c333, c334, c335, c336, c337, c338, c339, c340, c341, c342, c343, c344, c345, c346, c347, c348, c349, c350, c351, c352, c353, c354, c355, c356, c357, c358, c359, c360, c361, c362, c363, c364, c365, c366, c367, c368, c369, c370, c371, c372, c373, c374, c375, c376, c377, c378, c379, c380, c381, c382, c383, c384, c385, c386, c387, c388, c389, c390, c391, c392, c393, c394, c395, c396, c397, c398, c399, c400, c401, c402, c403, c404, c405, c406, c407, c408, c409, c410, c411, c412, c413, c414, c415, c416, c417, c418, c419, c420, c421, c422, c423, c424, c425, c426, c427, c428, c429, c430, c431, c432, c433, c434, c435, c436, c437, c438, c439, c440, c441, c442, c443, c444, c445, c446, c447, c448, c449, c450, c451, c452, c453, c454, c455, c456, c457, c458, c459, c460, c461, c462, c463, c464, c465, c466, c467, c468, c469, c470, c471, c472, c473, c474, c475, c476, c477, c478, c479, c480, c481, c482, c483, c484, c485, c486], []⟩ wS := by
  conv => arg 2; whnf
  have HB0 := Lib.hid b0
  have HB1 := Lib.hid b1
  have HB2 := Lib.hid b2
  clear b0 b1 b2
  refine wp_region_inv (by kernel_rfl) (Inv4 wS E F pa pn pc B c0 c1 c2 c3 c5 c6 c7 c8 c9 c14 c15 c16 c17 c18 c19 c20 c21 c22 c23 c24 c25 c26 c27 c28 c29 c30 c31 c32 c33 c34 c35 c36 c37 c38 c39 c40 c41 c42 c43 c44 c45 c46 c47 c48 c49 c50 c51 c52 c53 c54 c55 c56 c57 c58 c59 c60 c61 c62 c63 c64 c65 c66 c67 c72 c73 c74 c75 c76 c77 c78 c79 c80 c81 c82 c83 c84 c85 c86 c87 c88 c89 c90 c91 c92 c93 c94 c95 c96 c97 c98 c99 c100 c101 c102 c103 c104 c105 c106 c107 c108 c109 c110 c111 c112 c113 c114 c115 c116 c117 c118 c119 c120 c121 c122 c123 c124 c125 c126 c127 c128 c129 c130 c131 c132 c133 c134 c135 c136 c137 c138 c139 c140 c141 c142 c143 c144 c145 c146 c147 c148 c149 c150 c151 c152 c153 c154 c155 c156 c157 c158 c159 c160 c161 c162 c163 c164 c165 c166 c167 c168 c169 c170 c171 c172 c173 c174 c175 c176 c177 c178 c179 c180 c181 c182 c183 c184 c185 c186 c187 c188 c189 c190 c191 c192 c193 c194 c195 c196 c197 c198 c199 c200 c201 c202 c203 c204 c205 c206 c207 c208 c209 c210 c211 c212 c213 c214 c215 c216 c217 c218 c219 c220 c221 c222 c223 c224 c225 c226 c227 c228 c229 c230 c231 c232 c233 c234 c235 c236 c237 c238 c239 c240 c241 c242 c243 c244 c245 c246 c247 c248 c249 c250 c251 c252 c253 c254 c255 c256 c257 c258 c259 c260 c261 c262 c263 c264 c265 c266 c267 c268 c269 c270 c271 c272 c273 c274 c275 c276 c277 c278 c279 c280 c281 c282 c283 c284 c285 c286 c287 c288 c289 c290 c291 c292 c293 c294 c295 c296 c297 c298 c299 c300 c301 c302 c303 c304 c305 c306 c307 c308 c309 c310 c311 c312 c313 c314 c315 c316 c317 c318 c319 c320 c321 c322 c323 c324 c325 c326 c327 c328 c329 c330 c331 c332 c333 c334 c335 c336 c337 c338 c339 c340 c341 c342 c343 c344 c345 c346 c347 c348 c349 c350 c351 c352 c353 c354 c355 c356 c357 c358 c359 c360 c361 c362 c363 c364 c365 c366 c367 c368 c369 c370 c371 c372 c373 c374 c375 c376 c377 c378 c379 c380 c381 c382 c383 c384 c385 c386 c387 c388 c389 c390 c391 c392 c393 c394 c395 c396 c397 c398 c399 c400 c401 c402 c403 c404 c405 c406 c407 c408 c409 c410 c411 c412 c413 c414 c415 c416 c417 c418 c419 c420 c421 c422 c423 c424 c425 c426 c427 c428 c429 c430 c431 c432 c433 c434 c435 c436 c437 c438 c439 c440 c441 c442 c443 c444 c445 c446 c447 c448 c449 c450 c451 c452 c453 c454 c455 c456 c457 c458 c459 c460 c461 c462 c463 c464 c465 c466 c467 c468 c469 c470 c471 c472 c473 c474 c475 c476 c477 c478 c479 c480 c481 c482 c483 c484 c485 c486) (by kernel_rfl) ?_ ?_ ?_
  · intro L hL
    exact ⟨_, _, _, _, _, _, _, _, rfl, (Grow.refl _).drew, fun h => absurd h (hL _), fun h => absurd h (hL _), fun h => absurd h (hL _), fun h => absurd h (hL _), .inr ⟨hL _, hL _, rfl⟩, .inr ⟨hL _, hL _, rfl⟩, .inr ⟨hL _, hL _, rfl⟩, .inr ⟨hL _, hL _, rfl⟩, .inr (.inl rfl), .inr (.inl rfl), .inr (.inl rfl), .inr (.inl rfl), .inr (.inl rfl), .inr (.inl rfl)⟩
  · rintro L A V ⟨v10, v11, v12, v13, v68, v69, v70, v71, rfl, gS, l0, l1, l2, l3, b0, b1, b2, b3, n1011, n1012, n1013, n1112, n1113, n1213⟩ hall
    have hall := fun i h => hall i h
    obtain ⟨_, O1, rfl, s0, f0, x0, y0, w0, p0, q0, r0, t0⟩ : _ ∧ _ := b0.resolve_right fun h => h.1 (hall 4 (by simp))
    obtain ⟨rfl, rfl, rfl⟩ := t0 (hall 8 (by simp))
    obtain ⟨_, O2, rfl, s1, f1, x1, y1, w1, p1, q1, r1, t1⟩ : _ ∧ _ := b1.resolve_right fun h => h.1 (hall 5 (by simp))
    obtain ⟨rfl, rfl, rfl⟩ := t1 (hall 9 (by simp))
    obtain ⟨_, O3, rfl, s2, f2, x2, y2, w2, p2, q2, r2, t2⟩ : _ ∧ _ := b2.resolve_right fun h => h.1 (hall 6 (by simp))
    obtain ⟨rfl, rfl, rfl⟩ := t2 (hall 10 (by simp))
    obtain ⟨_, O4, rfl, s3, f3, x3, y3, w3, p3, q3, r3, t3⟩ : _ ∧ _ := b3.resolve_right fun h => h.1 (hall 7 (by simp))
    obtain ⟨rfl, rfl, rfl⟩ := t3 (hall 11 (by simp))
    have m12 : O1 ≠ O2 := fun e => by subst e; rcases n1011 with h | h | h <;> first | exact h rfl | cases h
    have m13 : O1 ≠ O3 := fun e => by subst e; rcases n1012 with h | h | h <;> first | exact h rfl | cases h
    have m14 : O1 ≠ O4 := fun e => by subst e; rcases n1013 with h | h | h <;> first | exact h rfl | cases h
    have m23 : O2 ≠ O3 := fun e => by subst e; rcases n1112 with h | h | h <;> first | exact h rfl | cases h
    have m24 : O2 ≠ O4 := fun e => by subst e; rcases n1113 with h | h | h <;> first | exact h rfl | cases h
    have m34 : O3 ≠ O4 := fun e => by subst e; rcases n1213 with h | h | h <;> first | exact h rfl | cases h
    refine hK O1 O2 O3 O4 v68 v69 v70 v71 V gS ?_ ⟨m12, m13, m14, m23, m24, m34⟩
    rintro O (rfl | rfl | rfl | rfl)
    · exact ⟨s0, p0, q0, r0, f0⟩
    · exact ⟨s1, p1, q1, r1, f1⟩
    · exact ⟨s2, p2, q2, r2, f2⟩
    · exact ⟨s3, p3, q3, r3, f3⟩
  · rintro i o L A V ho hi ⟨v10, v11, v12, v13, v68, v69, v70, v71, rfl, gS, l0, l1, l2, l3, b0, b1, b2, b3, n1011, n1012, n1013, n1112, n1113, n1213⟩ hno hd
    have hio := (Array.getElem?_eq_some_iff.1 ho).1
    simp only [List.size_toArray, List.length_cons, List.length_nil, Nat.reduceAdd] at hio
    have c0 := gS.keeps HB0.out
    have c1 := gS.keeps HB1.out
    have c2 := gS.keeps HB2.out
    have hiff : ∀ {i j : Nat}, i < L.size → j ≠ i → (Over (L.setIfInBounds i true) j ↔ Over L j) := fun {i j} hi h => ⟨fun k => over_ne k h, fun k => (over_set hi).2 (.inl k)⟩
    obtain rfl | rfl | rfl | rfl | rfl | rfl | rfl | rfl | rfl | rfl | rfl | rfl : i = 0 ∨ i = 1 ∨ i = 2 ∨ i = 3 ∨ i = 4 ∨ i = 5 ∨ i = 6 ∨ i = 7 ∨ i = 8 ∨ i = 9 ∨ i = 10 ∨ i = 11 := by omega
    · cases ho
      go_simp
      exact ⟨_, _, _, _, _, _, _, _, rfl, gS, fun _ => rfl, fun h => l1 (over_ne h (by decide)), fun h => l2 (over_ne h (by decide)), fun h => l3 (over_ne h (by decide)), b0.grow (Grow.refl _) (hiff hi (by decide)) (hiff hi (by decide)), b1.grow (Grow.refl _) (hiff hi (by decide)) (hiff hi (by decide)), b2.grow (Grow.refl _) (hiff hi (by decide)) (hiff hi (by decide)), b3.grow (Grow.refl _) (hiff hi (by decide)) (hiff hi (by decide)), n1011, n1012, n1013, n1112, n1113, n1213⟩
    · cases ho
      go_simp
      exact ⟨_, _, _, _, _, _, _, _, rfl, gS, fun h => l0 (over_ne h (by decide)), fun _ => rfl, fun h => l2 (over_ne h (by decide)), fun h => l3 (over_ne h (by decide)), b0.grow (Grow.refl _) (hiff hi (by decide)) (hiff hi (by decide)), b1.grow (Grow.refl _) (hiff hi (by decide)) (hiff hi (by decide)), b2.grow (Grow.refl _) (hiff hi (by decide)) (hiff hi (by decide)), b3.grow (Grow.refl _) (hiff hi (by decide)) (hiff hi (by decide)), n1011, n1012, n1013, n1112, n1113, n1213⟩
    · cases ho
      go_simp
      exact ⟨_, _, _, _, _, _, _, _, rfl, gS, fun h => l0 (over_ne h (by decide)), fun h => l1 (over_ne h (by decide)), fun _ => rfl, fun h => l3 (over_ne h (by decide)), b0.grow (Grow.refl _) (hiff hi (by decide)) (hiff hi (by decide)), b1.grow (Grow.refl _) (hiff hi (by decide)) (hiff hi (by decide)), b2.grow (Grow.refl _) (hiff hi (by decide)) (hiff hi (by decide)), b3.grow (Grow.refl _) (hiff hi (by decide)) (hiff hi (by decide)), n1011, n1012, n1013, n1112, n1113, n1213⟩
    · cases ho
      go_simp
      exact ⟨_, _, _, _, _, _, _, _, rfl, gS, fun h => l0 (over_ne h (by decide)), fun h => l1 (over_ne h (by decide)), fun h => l2 (over_ne h (by decide)), fun _ => rfl, b0.grow (Grow.refl _) (hiff hi (by decide)) (hiff hi (by decide)), b1.grow (Grow.refl _) (hiff hi (by decide)) (hiff hi (by decide)), b2.grow (Grow.refl _) (hiff hi (by decide)) (hiff hi (by decide)), b3.grow (Grow.refl _) (hiff hi (by decide)) (hiff hi (by decide)), n1011, n1012, n1013, n1112, n1113, n1213⟩
    · cases ho
      go_simp
      exact ⟨_, _, _, _, _, _, _, _, rfl, gS.alloc _, fun h => l0 (over_ne h (by decide)), fun h => l1 (over_ne h (by decide)), fun h => l2 (over_ne h (by decide)), fun h => l3 (over_ne h (by decide)), b0.new gS.size hno ((over_set hi).2 (.inr rfl)) (hiff hi (by decide)) _ _ _ _, b1.grow ((Grow.refl _).alloc _) (hiff hi (by decide)) (hiff hi (by decide)), b2.grow ((Grow.refl _).alloc _) (hiff hi (by decide)) (hiff hi (by decide)), b3.grow ((Grow.refl _).alloc _) (hiff hi (by decide)) (hiff hi (by decide)), b1.ne.symm, b2.ne.symm, b3.ne.symm, n1112, n1113, n1213⟩
    · cases ho
      go_simp
      exact ⟨_, _, _, _, _, _, _, _, rfl, gS.alloc _, fun h => l0 (over_ne h (by decide)), fun h => l1 (over_ne h (by decide)), fun h => l2 (over_ne h (by decide)), fun h => l3 (over_ne h (by decide)), b0.grow ((Grow.refl _).alloc _) (hiff hi (by decide)) (hiff hi (by decide)), b1.new gS.size hno ((over_set hi).2 (.inr rfl)) (hiff hi (by decide)) _ _ _ _, b2.grow ((Grow.refl _).alloc _) (hiff hi (by decide)) (hiff hi (by decide)), b3.grow ((Grow.refl _).alloc _) (hiff hi (by decide)) (hiff hi (by decide)), b0.ne, n1012, n1013, b2.ne.symm, b3.ne.symm, n1213⟩
    · cases ho
      go_simp
      exact ⟨_, _, _, _, _, _, _, _, rfl, gS.alloc _, fun h => l0 (over_ne h (by decide)), fun h => l1 (over_ne h (by decide)), fun h => l2 (over_ne h (by decide)), fun h => l3 (over_ne h (by decide)), b0.grow ((Grow.refl _).alloc _) (hiff hi (by decide)) (hiff hi (by decide)), b1.grow ((Grow.refl _).alloc _) (hiff hi (by decide)) (hiff hi (by decide)), b2.new gS.size hno ((over_set hi).2 (.inr rfl)) (hiff hi (by decide)) _ _ _ _, b3.grow ((Grow.refl _).alloc _) (hiff hi (by decide)) (hiff hi (by decide)), n1011, b0.ne, n1013, b1.ne, n1113, b3.ne.symm⟩
    · cases ho
      go_simp
      exact ⟨_, _, _, _, _, _, _, _, rfl, gS.alloc _, fun h => l0 (over_ne h (by decide)), fun h => l1 (over_ne h (by decide)), fun h => l2 (over_ne h (by decide)), fun h => l3 (over_ne h (by decide)), b0.grow ((Grow.refl _).alloc _) (hiff hi (by decide)) (hiff hi (by decide)), b1.grow ((Grow.refl _).alloc _) (hiff hi (by decide)) (hiff hi (by decide)), b2.grow ((Grow.refl _).alloc _) (hiff hi (by decide)) (hiff hi (by decide)), b3.new gS.size hno ((over_set hi).2 (.inr rfl)) (hiff hi (by decide)) _ _ _ _, n1011, n1012, b0.ne, n1112, b1.ne, b2.ne⟩
    · cases ho
      have e1 := l0 (hd { on := 0, ground := .data } (by simp) rfl)
      obtain ⟨_, O, rfl, s, f, x, y, w, p, q, r, t⟩ : _ ∧ _ := b0.resolve_right fun h => h.1 (hd { on := 4, ground := .data } (by simp) rfl)
      subst e1
      go_simp
      exact ⟨_, _, _, _, _, _, _, _, rfl, set3_grow gS s _ _ _, fun _ => rfl, fun h => l1 (over_ne h (by decide)), fun h => l2 (over_ne h (by decide)), fun h => l3 (over_ne h (by decide)), T1box.at ((over_set hi).2 (.inl (hd { on := 4, ground := .data } (by simp) rfl))) s f p q r, b1.far (n1011) _ _ _ (hiff hi (by decide)) (hiff hi (by decide)), b2.far (n1012) _ _ _ (hiff hi (by decide)) (hiff hi (by decide)), b3.far (n1013) _ _ _ (hiff hi (by decide)) (hiff hi (by decide)), n1011, n1012, n1013, n1112, n1113, n1213⟩
    · cases ho
      have e1 := l1 (hd { on := 1, ground := .data } (by simp) rfl)
      obtain ⟨_, O, rfl, s, f, x, y, w, p, q, r, t⟩ : _ ∧ _ := b1.resolve_right fun h => h.1 (hd { on := 5, ground := .data } (by simp) rfl)
      subst e1
      go_simp
      exact ⟨_, _, _, _, _, _, _, _, rfl, set3_grow gS s _ _ _, fun h => l0 (over_ne h (by decide)), fun _ => rfl, fun h => l2 (over_ne h (by decide)), fun h => l3 (over_ne h (by decide)), b0.far (n1011.symm) _ _ _ (hiff hi (by decide)) (hiff hi (by decide)), T1box.at ((over_set hi).2 (.inl (hd { on := 5, ground := .data } (by simp) rfl))) s f p q r, b2.far (n1112) _ _ _ (hiff hi (by decide)) (hiff hi (by decide)), b3.far (n1113) _ _ _ (hiff hi (by decide)) (hiff hi (by decide)), n1011, n1012, n1013, n1112, n1113, n1213⟩
    · cases ho
      have e1 := l2 (hd { on := 2, ground := .data } (by simp) rfl)
      obtain ⟨_, O, rfl, s, f, x, y, w, p, q, r, t⟩ : _ ∧ _ := b2.resolve_right fun h => h.1 (hd { on := 6, ground := .data } (by simp) rfl)
      subst e1
      go_simp
      exact ⟨_, _, _, _, _, _, _, _, rfl, set3_grow gS s _ _ _, fun h => l0 (over_ne h (by decide)), fun h => l1 (over_ne h (by decide)), fun _ => rfl, fun h => l3 (over_ne h (by decide)), b0.far (n1012.symm) _ _ _ (hiff hi (by decide)) (hiff hi (by decide)), b1.far (n1112.symm) _ _ _ (hiff hi (by decide)) (hiff hi (by decide)), T1box.at ((over_set hi).2 (.inl (hd { on := 6, ground := .data } (by simp) rfl))) s f p q r, b3.far (n1213) _ _ _ (hiff hi (by decide)) (hiff hi (by decide)), n1011, n1012, n1013, n1112, n1113, n1213⟩
    · cases ho
      have e1 := l3 (hd { on := 3, ground := .data } (by simp) rfl)
      obtain ⟨_, O, rfl, s, f, x, y, w, p, q, r, t⟩ : _ ∧ _ := b3.resolve_right fun h => h.1 (hd { on := 7, ground := .data } (by simp) rfl)
      subst e1
      go_simp
      exact ⟨_, _, _, _, _, _, _, _, rfl, set3_grow gS s _ _ _, fun h => l0 (over_ne h (by decide)), fun h => l1 (over_ne h (by decide)), fun h => l2 (over_ne h (by decide)), fun _ => rfl, b0.far (n1013.symm) _ _ _ (hiff hi (by decide)) (hiff hi (by decide)), b1.far (n1113.symm) _ _ _ (hiff hi (by decide)) (hiff hi (by decide)), b2.far (n1213.symm) _ _ _ (hiff hi (by decide)) (hiff hi (by decide)), T1box.at ((over_set hi).2 (.inl (hd { on := 7, ground := .data } (by simp) rfl))) s f p q r, n1011, n1012, n1013, n1112, n1113, n1213⟩
end Go.Proofs.Ytbeglemohfbdfaa
namespace Go.Proofs.Ytbeglemohfbdfaa
open Go.RowKit

/-- Each operation is met once; what is over has what it waited for. -/
theorem wp_region_invC {P : Program} {id : Nat} {ops : Array Oper} {Q : Exit → Act → World → Prop} {a : Act} {w : World} (hm : P.follows .mixedOrders = true) (Inv : Array Bool → Act → World → Prop)
    (hback : (List.range ops.size).all (fun i => ((ops[i]?).map fun (o : Oper) => o.after.all fun e => !Region.binds .any e || decide (e.on < i)).getD true) = true)
    (h0 : ∀ L, (∀ i, ¬ Over L i) → Inv L a w.drew)
    (hend : ∀ L a w, Inv L a w → (∀ i, i < ops.size → Over L i) → Q .normal a w)
    (hstep : ∀ (i : Nat) (o : Oper) (L : Array Bool) (a : Act) (w : World), ops[i]? = some o → i < L.size → (∀ (k : Nat) (q : Oper), ops[k]? = some q → Over L k → ∀ e ∈ q.after, Region.binds .any e = true → Over L e.on) → Inv L a w → ¬ Over L i → (∀ e ∈ o.after, Region.binds .any e = true → Over L e.on) →
      if Region.wanted o (yielded ops a.tmps) = true then o.wp P a w (fun a' w' => Inv (L.setIfInBounds i true) a' w') Q else Inv (L.setIfInBounds i true) (a.put o.dst undef) w) :
    (Code.region id ops true).wp P Q a w := by
  refine wp_region_inv hm (fun L a w => Inv L a w ∧ ∀ (k : Nat) (q : Oper), ops[k]? = some q → Over L k → ∀ e ∈ q.after, Region.binds .any e = true → Over L e.on) hback (fun L hL => ⟨h0 L hL, fun k q _ hk => absurd hk (hL k)⟩) (fun L a w h hall => hend L a w h.1 hall) ?_
  intro i o L a w ho hi hI hno hd
  have hcl : ∀ (k : Nat) (q : Oper), ops[k]? = some q → Over (L.setIfInBounds i true) k → ∀ e ∈ q.after, Region.binds .any e = true → Over (L.setIfInBounds i true) e.on := fun k q hq hk e he hb => by
    rw [over_set hi] at hk ⊢
    rcases hk with hk | rfl
    · exact .inl (hI.2 k q hq hk e he hb)
    · rw [ho] at hq
      cases hq
      exact .inl (hd e he hb)
  have hs := hstep i o L a w ho hi hI.2 hI.1 hno hd
  split
  · rename_i hw
    rw [if_pos hw] at hs
    exact Oper.wp_mono (fun a' w' h => ⟨h, hcl⟩) hs
  · rename_i hw
    rw [if_neg hw] at hs
    exact ⟨hs, hcl⟩

/-- One block of the tag is written, others are new; the tags of what stood are kept. -/
def Ext (t : Nat) (V : World) (ow : Nat → Nat) (V' : World) (ow' : Nat → Nat) : Prop := (∃ row, V.grownBy V' row ∧ ∀ r, row = some r → ow r = t) ∧ ∀ b, b < V.heap.size → ow' b = ow b
/-- New blocks have the tag. -/
def tagNew (V : World) (ow : Nat → Nat) (t : Nat) : Nat → Nat := fun b => if b < V.heap.size then ow b else t
def OwnT (V : World) (ow : Nat → Nat) (t D : Nat) (E : TypeId) (v : Value) (vs : List Value) : Prop := Own V D E v vs ∧ ∀ b, v.ownBlock = some b → ow b = t
def IntT (V : World) (ow : Nat → Nat) (t : Nat) (v : Value) (l : List Int) : Prop := IsInts V v l ∧ (∀ b, v.ownBlock = some b → b < V.heap.size ∧ ow b = t)
def ListT (V : World) (ow : Nat → Nat) (t u D : Nat) (E : TypeId) (v : Value) (vs : List Value) (ls : List (List Int)) : Prop :=
  OwnT V ow t D E v vs ∧ vs.length = ls.length ∧ ∀ (i : Nat) (x : Value) (l : List Int), vs[i]? = some x → ls[i]? = some l → IntT V ow u x l
def ArrT (V : World) (ow : Nat → Nat) (t g : Nat) (x : Value) : Prop := V.cell? ⟨g, 0, none⟩ = some x ∧ ow g = t
def CellT (V : World) (ow : Nat → Nat) (t g : Nat) (x y z : Value) : Prop := (V.cell? ⟨g, 0, none⟩ = some x ∧ V.cell? ⟨g, 1, none⟩ = some y ∧ V.cell? ⟨g, 2, none⟩ = some z ∧ ∀ o, V.frozen? ⟨g, o, none⟩ = false) ∧ ow g = t
section
variable {t u s D : Nat} {V V' : World} {ow ow' : Nat → Nat} {E : TypeId} {v v' x : Value} {vs : List Value} {ls : List (List Int)} {l : List Int}
theorem Ext.new (hg : Grow V V') (t u : Nat) : Ext t V ow V' (tagNew V ow u) := ⟨⟨none, hg.grownBy none, fun _ h => nomatch h⟩, fun _ hb => if_pos hb⟩
theorem Ext.same (hg : Grow V V') (t : Nat) : Ext t V ow V' ow := ⟨⟨none, hg.grownBy none, fun _ h => nomatch h⟩, fun _ _ => rfl⟩
theorem Ext.by' {r : Nat} (hg : V.grownBy V' (some r)) (hr : ow r = t) (u : Nat) : Ext t V ow V' (tagNew V ow u) := ⟨⟨some r, hg, fun r h => by injection h with h; rw [← h]; exact hr⟩, fun _ hb => if_pos hb⟩
theorem Ext.app (h : OwnT V ow t D E v vs) (hg : V.grownBy V' v.ownBlock) (u : Nat) : Ext t V ow V' (tagNew V ow u) := ⟨⟨v.ownBlock, hg, fun r h' => h.2 r h'⟩, fun _ hb => if_pos hb⟩
theorem Ext.size (h : Ext t V ow V' ow') : V.heap.size ≤ V'.heap.size := by obtain ⟨⟨row, hg, _⟩, _⟩ := h; exact hg.size
theorem Ext.cell (h : Ext t V ow V' ow') {b o : Nat} (hc : V.cell? ⟨b, o, none⟩ = some x) (hne : ow b ≠ t) : V'.cell? ⟨b, o, none⟩ = some x := by
  obtain ⟨⟨row, hg, hr⟩, _⟩ := h
  exact byCell1 hg hc fun e => hne (hr b e)
theorem Ext.hot (h : Ext t V ow V' ow') {b : Nat} (hb : b < V.heap.size) (hne : ow b ≠ t) (o : Nat) : V'.frozen? ⟨b, o, none⟩ = V.frozen? ⟨b, o, none⟩ := by
  obtain ⟨⟨row, hg, hr⟩, _⟩ := h
  exact hg.frozen_far ⟨b, o, none⟩ hb fun e => hne (hr b e.symm)
theorem OwnT.ext (h : OwnT V ow u D E v vs) (k : Ext t V ow V' ow') (hne : u ≠ t) : OwnT V' ow' u D E v vs := by
  obtain ⟨⟨row, hg, hr⟩, ht⟩ := k
  refine ⟨h.1.kept hg ?_, fun b hb => by rw [ht b (h.1.lt b hb).2]; exact h.2 b hb⟩
  cases hv : v.ownBlock with
  | none => exact .inl rfl
  | some b => exact .inr fun e => hne (by rw [← h.2 b hv, hr b e.symm])
theorem IntT.ext (h : IntT V ow u v l) (k : Ext t V ow V' ow') (hne : u ≠ t) : IntT V' ow' u v l := by
  obtain ⟨⟨row, hg, hr⟩, ht⟩ := k
  refine ⟨?_, fun b hb => ⟨Nat.lt_of_lt_of_le (h.2 b hb).1 hg.size, by rw [ht b (h.2 b hb).1]; exact (h.2 b hb).2⟩⟩
  by_cases hl : l = []
  · exact h.1.kept hg (.inl hl)
  · refine h.1.kept hg (.inr fun e => ?_)
    obtain ⟨b, hb, _⟩ := h.1.lt hl
    exact hne (by rw [← (h.2 b hb).2, hr b (by rw [← e]; exact hb)])
theorem ListT.ext (h : ListT V ow u s D E v vs ls) (k : Ext t V ow V' ow') (h1 : u ≠ t) (h2 : s ≠ t) : ListT V' ow' u s D E v vs ls :=
  ⟨h.1.ext k h1, h.2.1, fun i x l hx hl => (h.2.2 i x l hx hl).ext k h2⟩
theorem ArrT.ext {g : Nat} (h : ArrT V ow u g x) (k : Ext t V ow V' ow') (hne : u ≠ t) : ArrT V' ow' u g x := ⟨k.cell h.1 (by rw [h.2]; exact hne), by rw [k.2 g (lt_of_cell h.1)]; exact h.2⟩
theorem CellT.ext {g : Nat} {y z : Value} (h : CellT V ow u g x y z) (k : Ext t V ow V' ow') (hne : u ≠ t) : CellT V' ow' u g x y z := by
  obtain ⟨⟨h1, h2, h3, h4⟩, h5⟩ := h
  have n : ow g ≠ t := by rw [h5]; exact hne
  exact ⟨⟨k.cell h1 n, k.cell h2 n, k.cell h3 n, fun o => (k.hot (lt_of_cell h1) n o).trans (h4 o)⟩, by rw [k.2 g (lt_of_cell h1)]; exact h5⟩
theorem ArrT.new {g : Nat} (hg : g = V.heap.size) (x : Value) (e : TypeId) (t : Nat) : ArrT (V.alloc (.cells #[x] e)) (tagNew V ow t) t g x := ⟨cell_new hg rfl, by unfold tagNew; rw [if_neg (by omega)]⟩
theorem ArrT.row {g : Nat} (h : ArrT V ow t g x) : RowAt V (some ⟨g, 0, none⟩) [x] := fun i y hy => by
  cases i with
  | zero => simp at hy; subst hy; exact ⟨g, 0, rfl, h.1⟩
  | succ i => simp at hy
/-- What append gives. -/
theorem OwnT.app (h : OwnT V ow t D E v vs) {vs' : List Value} (hm : Moves V v v') (ho : Own V' D E v' vs') : OwnT V' (tagNew V ow t) t D E v' vs' := by
  refine ⟨ho, fun b hb => ?_⟩
  unfold tagNew
  by_cases hlt : b < V.heap.size
  · rw [if_pos hlt]
    rcases hm with hm | hm
    · exact h.2 b (by rw [← hm]; exact hb)
    · have := hm b hb
      omega
  · rw [if_neg hlt]
theorem ListT.app (h : ListT V ow t u D E v vs ls) (hx : IntT V ow u x l) (hne : u ≠ t) (hg : V.grownBy V' v.ownBlock) (hm : Moves V v v') (ho : Own V' D E v' (vs ++ [x])) : ListT V' (tagNew V ow t) t u D E v' (vs ++ [x]) (ls ++ [l]) := by
  have hE := Ext.app h.1 hg t
  refine ⟨h.1.app hm ho, by simp [h.2.1], fun i y m hy hm' => ?_⟩
  by_cases hi : i < vs.length
  · rw [List.getElem?_append_left hi] at hy
    rw [List.getElem?_append_left (by rw [← h.2.1]; exact hi)] at hm'
    exact (h.2.2 i y m hy hm').ext hE hne
  · have hi' := (List.getElem?_eq_some_iff.1 hy).1
    simp at hi'
    obtain rfl : i = vs.length := by omega
    rw [List.getElem?_append_right (by omega)] at hy
    rw [List.getElem?_append_right (by rw [h.2.1]; omega), h.2.1] at hm'
    simp at hy hm'
    subst hy
    subst hm'
    exact hx.ext hE hne
/-- Tags that are called otherwise. -/
def reTag (ow : Nat → Nat) (a c : Nat) : Nat → Nat := fun b => if ow b = a then c else ow b
theorem IntT.re {a c : Nat} (h : IntT V ow a v l) : IntT V (reTag ow a c) c v l := ⟨h.1, fun b hb => ⟨(h.2 b hb).1, by unfold reTag; rw [if_pos (h.2 b hb).2]⟩⟩
theorem IntT.reN {a c : Nat} (h : IntT V ow u v l) (hne : u ≠ a) : IntT V (reTag ow a c) u v l := ⟨h.1, fun b hb => ⟨(h.2 b hb).1, by unfold reTag; rw [(h.2 b hb).2, if_neg hne]⟩⟩
theorem OwnT.re {a c : Nat} (h : OwnT V ow u D E v vs) (hne : u ≠ a) : OwnT V (reTag ow a c) u D E v vs := ⟨h.1, fun b hb => by unfold reTag; rw [h.2 b hb, if_neg hne]⟩
theorem ListT.re {a c : Nat} (h : ListT V ow u s D E v vs ls) (h1 : u ≠ a) (h2 : s ≠ a) : ListT V (reTag ow a c) u s D E v vs ls := ⟨h.1.re h1, h.2.1, fun i x l hx hl => (h.2.2 i x l hx hl).reN h2⟩
theorem CellT.re {a c g : Nat} {y z : Value} (h : CellT V ow u g x y z) (hne : u ≠ a) : CellT V (reTag ow a c) u g x y z := ⟨h.1, by unfold reTag; rw [h.2, if_neg hne]⟩
theorem ArrT.re {a c g : Nat} (h : ArrT V ow u g x) (hne : u ≠ a) : ArrT V (reTag ow a c) u g x := ⟨h.1, by unfold reTag; rw [h.2, if_neg hne]⟩
/-- All that stood below D is as it was, but two blocks. -/
def OldBut (w0 : World) (D O3 O4 : Nat) (V : World) : Prop := (V.os = w0.os ∧ V.tape = w0.tape ∧ V.output = w0.output ∧ w0.heap.size ≤ V.heap.size) ∧ ∀ b, b < D → b ≠ O3 → b ≠ O4 → V.heap[b]? = w0.heap[b]?
theorem OldBut.by' {w0 : World} {O3 O4 : Nat} {row : Option Nat} (h : OldBut w0 D O3 O4 V) (hg : V.grownBy V' row) (hr : ∀ r, row = some r → D ≤ r ∨ r = O3 ∨ r = O4) (hD : D ≤ w0.heap.size) : OldBut w0 D O3 O4 V' := by
  obtain ⟨⟨h1, h2, h3, h4⟩, h5⟩ := h
  refine ⟨⟨hg.os.trans h1, hg.tape.trans h2, hg.output.trans h3, Nat.le_trans h4 hg.size⟩, fun b hb n3 n4 => ?_⟩
  exact (hg.block b (by omega) fun e => by have := hr b e.symm; omega).trans (h5 b hb n3 n4)
theorem OldBut.cell {w0 : World} {O3 O4 b o : Nat} (h : OldBut w0 D O3 O4 V) (hc : w0.cell? ⟨b, o, none⟩ = some x) (hb : b < D) (n3 : b ≠ O3) (n4 : b ≠ O4) : V.cell? ⟨b, o, none⟩ = some x := by
  have := h.2 b hb n3 n4
  unfold World.cell? at *
  dsimp only at *
  rw [this]
  exact hc
end
end Go.Proofs.Ytbeglemohfbdfaa
