/- Words of my own on slices that a call makes: appending, where the array lies then, what stays. Conditions: sizes. -/
import Derived.Test.YtbeglemohfbdfaaLib
namespace Go.Proofs.Ytbeglemohfbdfaa
open Go.RowKit

/-- A slice, elements of one cell each, that the call itself made: nil, or at the head of an array from block 'base' on. -/
abbrev Own (w : World) (base : Nat) (E : TypeId) (v : Value) (vs : List Value) : Prop := w.ownsRow base E 1 v vs.length vs
theorem Own.nil (w : World) (base : Nat) (E : TypeId) : Own w base E (.slice none 0 0) [] := World.ownsRow_nil w base E 1
theorem Own.parts {w : World} {base : Nat} {E : TypeId} {v : Value} {vs : List Value} (h : Own w base E v vs) :
    (v = .slice none 0 0 ∧ vs = []) ∨ ∃ g cap, v = .slice (some ⟨g, 0, none⟩) vs.length cap ∧ base ≤ g ∧ g < w.heap.size ∧ vs.length ≤ cap ∧ cap ≤ maxLen ∧
      (∀ i x, vs[i]? = some x → w.cell? ⟨g, i, none⟩ = some x) ∧ (∀ i, w.frozen? ⟨g, i, none⟩ = false) := by
  rcases h.2 with ⟨h1, h2⟩ | ⟨g, cap, cur, rfl, h2, h3, h4, h5, h6, h7⟩
  · exact .inl ⟨h1, List.eq_nil_of_length_eq_zero h2⟩
  · refine .inr ⟨g, cap, rfl, h2, (Array.getElem?_eq_some_iff.1 h3).1, h4, h5, fun i x hx => ?_, fun i => ?_⟩
    · have := h.cells (g := g) rfl i x hx
      have e : (⟨g, 0, none⟩ : Addr).add i = ⟨g, i, none⟩ := by unfold Addr.add; split <;> simp_all
      rwa [e] at this
    · simp [World.frozen?, h3]
theorem Own.row {w : World} {base : Nat} {E : TypeId} {v : Value} {vs : List Value} (h : Own w base E v vs) : ∃ a cap, v = .slice a vs.length cap ∧ vs.length ≤ cap ∧ (a = none → cap = 0) ∧ RowAt w a vs := by
  rcases h.parts with ⟨rfl, rfl⟩ | ⟨g, cap, rfl, _, _, h4, _, h6, _⟩
  · exact ⟨none, 0, rfl, Nat.le_refl _, fun _ => rfl, fun i x hx => by simp at hx⟩
  · exact ⟨_, cap, rfl, h4, (fun h => nomatch h), fun i x hx => ⟨g, 0, rfl, by simpa using h6 i x hx⟩⟩
theorem Own.lower {w : World} {base base' : Nat} {E : TypeId} {v : Value} {vs : List Value} (h : Own w base E v vs) (hb : base' ≤ base) : Own w base' E v vs := by
  refine ⟨h.1, ?_⟩
  rcases h.2 with h2 | ⟨g, cap, cur, e, h2, r⟩
  · exact .inl h2
  · exact .inr ⟨g, cap, cur, e, Nat.le_trans hb h2, r⟩
/-- The array of v' is that of v, or a new one. -/
def Moves (w : World) (v v' : Value) : Prop := v'.ownBlock = v.ownBlock ∨ ∀ k, v'.ownBlock = some k → w.heap.size ≤ k
theorem Moves.refl (w : World) (v : Value) : Moves w v v := .inl rfl
theorem Moves.trans {w w' : World} {a b c : Value} (h : Moves w a b) (k : Moves w' b c) (hs : w.heap.size ≤ w'.heap.size) : Moves w a c := by
  rcases k with k | k
  · rcases h with h | h
    · exact .inl (k.trans h)
    · exact .inr fun i hi => h i (k ▸ hi)
  · exact .inr fun i hi => Nat.le_trans hs (k i hi)
theorem grownBy_refl (w : World) (r : Option Nat) : w.grownBy w r := ⟨rfl, rfl, rfl, Nat.le_refl _, fun _ _ _ => rfl⟩
theorem Grow.grownBy {w w' : World} (h : Grow w w') (r : Option Nat) : w.grownBy w' r := ⟨h.os, h.tape, h.output, h.size, fun k hk _ => h.block k hk⟩
theorem Grow.of {w w' : World} (h : w.grownBy w' none) : Grow w w' := ⟨h.os, h.tape, h.output, h.size, fun k hk => h.block k hk (by simp)⟩
theorem grownBy_trans {a b c : World} {v v' : Value} (h : a.grownBy b v.ownBlock) (hm : Moves a v v') (k : b.grownBy c v'.ownBlock) : a.grownBy c v.ownBlock :=
  ⟨k.os.trans h.os, k.tape.trans h.tape, k.output.trans h.output, Nat.le_trans h.size k.size, fun i hi hne => by
    rw [k.block i (Nat.lt_of_lt_of_le hi h.size) (fun e => ?_), h.block i hi hne]
    rcases hm with hm | hm
    · exact hne (e.trans hm)
    · exact absurd (hm i e.symm) (by omega)⟩
theorem grownBy_below {a b : World} {B : Nat} {r : Option Nat} (h : a.grownBy b r) (hr : ∀ k, r = some k → B ≤ k) (hB : B ≤ a.heap.size) : Below B a b :=
  (Below.refl B a).grown h hB hr
theorem Own.base {w : World} {base : Nat} {E : TypeId} {v : Value} {vs : List Value} (h : Own w base E v vs) : ∀ k, v.ownBlock = some k → base ≤ k := fun k hk => (h.lt k hk).1

section
variable {P : Program}
/-- append(v, src...): v the call's own, src whatever can be read. -/
theorem run_app (w : World) (base : Nat) (t ty e : TypeId) (i : TypeInfo) (z : Value) (bytes : Nat) (ht : P.underlying t = some (.slice e)) (hi : P.info? e = some i) (hz : i.zero = some z)
    (hsize : i.size = 1) (hby : i.bytes = bytes) (hzs : z.cells.size = 1)
    (v : Value) (vs : List Value) (hown : Own w base e v vs) (a : Option Addr) (c : Nat) (news : List Value) (ha : a = none → c = 0) (hsrc : RowAt w a news) (h1 : ∀ u ∈ news, u.oneCell' = true)
    (hbytes : (vs.length + news.length) * bytes ≤ 140737488355328) (hb0 : 0 < bytes) (hbase : base ≤ w.heap.size) :
    ∃ v' w', (Builtin.append_ #[t, t] ty #[v, .slice a news.length c]).run P w = .ok v' w' ∧ Own w' base e v' (vs ++ news) ∧ w.grownBy w' v.ownBlock ∧ Moves w v v' := by
  have hm : vs.length + news.length ≤ maxLen := by
    have := Nat.le_mul_of_pos_right (vs.length + news.length) hb0
    simp only [maxLen]; omega
  cases a with
  | none =>
    have hn : news = [] := by
      cases news with
      | nil => rfl
      | cons x r => obtain ⟨b, o, h, _⟩ := hsrc 0 x rfl; cases h
    subst hn
    rw [ha rfl]
    have hrun := run_append_owned_none (P := P) (w := w) base t ty e i 1 ht hi v vs.length vs hown
    exact ⟨v, w, hrun, by simpa using hown, grownBy_refl _ _, .inl rfl⟩
  | some ad =>
    have hnews : ∀ j u, news[j]? = some u → w.cell? (ad.add j) = some u := fun j u hu => by
      obtain ⟨b, o, h, hc⟩ := hsrc j u hu
      cases h
      have e : (⟨b, o, none⟩ : Addr).add j = ⟨b, o + j, none⟩ := by unfold Addr.add; split <;> simp_all
      rw [e]; exact hc
    obtain ⟨v', w', hr, h2, h3, h4⟩ := run_append_own (P := P) w base t ty e i z 1 bytes ht hi hz hsize hby hzs (by omega) v vs.length vs hown ad news.length c news (by simp) hnews h1 hm hbytes hbase
    refine ⟨v', w', hr, by simpa [Own, List.length_append] using h2, h3, ?_⟩
    rcases hown.2 with ⟨rfl, h0⟩ | ⟨g, cap, cur, rfl, hbg, hg, hnc, hcm, hcs, htake⟩
    · have hvs : vs = [] := List.eq_nil_of_length_eq_zero h0
      subst hvs
      obtain ⟨v2, w2, hr2, h22, _, _⟩ := run_append_own (P := P) w w.heap.size t ty e i z 1 bytes ht hi hz hsize hby hzs (by omega) (.slice none 0 0) 0 [] (World.ownsRow_nil w _ e 1) ad news.length c news (by simp) hnews h1 hm hbytes (Nat.le_refl _)
      rw [hr] at hr2
      cases hr2
      exact .inr fun k hk => (h22.lt k hk).1
    · by_cases hroom : vs.length + news.length ≤ cap
      · have hrr := run_append_room (P := P) w t ty e i ht hi g vs.length cap cur hg ad news.length c news (by simp [hsize]) hnews h1 hroom (by rw [hsize, hcs]; omega)
        rw [hr] at hrr
        cases hrr
        exact .inl rfl
      · have holds : ∀ j u, vs[j]? = some u → w.cell? ((⟨g, 0, none⟩ : Addr).add j) = some u := hown.cells (g := g) rfl
        have hrr := run_append_grow (P := P) w t ty e i z ht hi hz ⟨g, 0, none⟩ vs.length cap vs (by simp [hsize]) holds ad news.length c news (by simp [hsize]) hnews (by omega) (by simp only [maxLen] at hm; omega) (growslice_fits (by omega) (by rw [hby]; exact hbytes))
        rw [hr] at hrr
        cases hrr
        exact .inr fun k hk => by simp [Value.ownBlock] at hk; omega
/-- The same in the walk. -/
theorem wp_app {w : World} {o : Oper} {ac : Act} {K : Act → World → Prop} {Q : Exit → Act → World → Prop} (s x : Operand) (t : TypeId)
    (ho : o.op = .call { callee := .builtin .append, args := #[s, x], argTypes := #[t, t] })
    (base : Nat) (e : TypeId) (i : TypeInfo) (z : Value) (bytes : Nat) (ht : P.underlying t = some (.slice e)) (hi : P.info? e = some i) (hz : i.zero = some z)
    (hsize : i.size = 1) (hby : i.bytes = bytes) (hzs : z.cells.size = 1)
    (v : Value) (vs : List Value) (hs : ac.eval s = v) (hown : Own w base e v vs) (a : Option Addr) (c : Nat) (news : List Value) (n : Nat) (hx : ac.eval x = .slice a n c) (hn : news.length = n) (ha : a = none → c = 0) (hsrc : RowAt w a news) (h1 : ∀ u ∈ news, u.oneCell' = true)
    (hbytes : (vs.length + news.length) * bytes ≤ 140737488355328) (hb0 : 0 < bytes) (hbase : base ≤ w.heap.size)
    (h : ∀ v' w', Own w' base e v' (vs ++ news) → w.grownBy w' v.ownBlock → Moves w v v' → K (ac.put o.dst v') w') : o.wp P ac w K Q := by
  subst hn
  obtain ⟨v', w', hr, h2, h3, h4⟩ := run_app (P := P) w base t o.type e i z bytes ht hi hz hsize hby hzs v vs hown a c news ha hsrc h1 hbytes hb0 hbase
  unfold Oper.wp execOp
  simp only [ho, resolve, invoke, builtin, Sem.run_bind, Sem.run_pure, Result.andThen_ok, List.map_toArray, List.map_cons, List.map_nil, hs, hx, hr]
  exact h v' w' h2 h3 h4
theorem wpl_app {w : World} {ops : Array Oper} {rest : List Oper} {o : Oper} {ac : Act} {Q : Exit → Act → World → Prop} (hgd : o.guard = none) (s x : Operand) (t : TypeId)
    (ho : o.op = .call { callee := .builtin .append, args := #[s, x], argTypes := #[t, t] })
    (base : Nat) (e : TypeId) (i : TypeInfo) (z : Value) (bytes : Nat) (ht : P.underlying t = some (.slice e)) (hi : P.info? e = some i) (hz : i.zero = some z)
    (hsize : i.size = 1) (hby : i.bytes = bytes) (hzs : z.cells.size = 1)
    (v : Value) (vs : List Value) (hs : ac.eval s = v) (hown : Own w base e v vs) (a : Option Addr) (c : Nat) (news : List Value) (n : Nat) (hx : ac.eval x = .slice a n c) (hn : news.length = n) (ha : a = none → c = 0) (hsrc : RowAt w a news) (h1 : ∀ u ∈ news, u.oneCell' = true)
    (hbytes : (vs.length + news.length) * bytes ≤ 140737488355328) (hb0 : 0 < bytes) (hbase : base ≤ w.heap.size)
    (h : ∀ v' w', Own w' base e v' (vs ++ news) → w.grownBy w' v.ownBlock → Moves w v v' → wpList P ops Q rest (ac.put o.dst v') w') : wpList P ops Q (o :: rest) ac w :=
  wpList_plain hgd fun _ hK => wp_app s x t ho base e i z bytes ht hi hz hsize hby hzs v vs hs hown a c news n hx hn ha hsrc h1 hbytes hb0 hbase fun v' w' h2 h3 h4 => hK _ _ (h v' w' h2 h3 h4)
end

/-- 's[lo:hi]', elements of one cell each: one value for both ways of its address. -/
theorem run_sub {P : Program} {t : TypeId} (ht : P.underlying t = some (.slice (P.elem t))) (hz : ∀ w, (sizeOf (P.elem t)).run P w = .ok 1 w)
    (a : Option Addr) (n cap lo hi : Nat) (h1 : lo ≤ hi) (h2 : hi ≤ cap) :
    ∃ a2, (∀ w, (Instr.slice t (.slice a n cap) (some (.int .i64 lo)) (some (.int .i64 hi)) none).run P w = .ok (.slice a2 (hi - lo) (cap - lo)) w) ∧
      (lo = 0 → ∀ w, (Instr.slice t (.slice a n cap) none (some (.int .i64 hi)) none).run P w = .ok (.slice a2 hi cap) w) ∧ (∀ (R : World → Nat → Nat → Nat → Prop) w, (∀ i, i < hi → ∃ b o, a = some ⟨b, o, none⟩ ∧ R w b (o + i) i) → ∀ i, i < hi - lo → ∃ b o, a2 = some ⟨b, o, none⟩ ∧ R w b (o + i) (lo + i)) := by
  refine ⟨if cap = lo then a else a.map (·.add lo), fun w => ?_, fun h0 w => ?_, fun R w h i hi' => ?_⟩
  · rw [run_slice_lh w t a n cap ht .i64 .i64 lo hi (by omega) (by omega) (by omega)]
    simp [hz, Result.andThen, sliced]
  · subst h0
    rw [run_slice_h w t a n cap ht .i64 hi (by omega) (by omega)]
    simp [hz, Result.andThen, sliced]
  · obtain ⟨b, o, ha, hr⟩ := h (lo + i) (by omega)
    refine ⟨b, o + lo, ?_, by rw [Nat.add_assoc]; exact hr⟩
    rw [if_neg (by omega), ha]
    simp [Addr.add]
/-- A new one-element slice (what 'append(out, x)' stores x in). -/
theorem row_new1 (w : World) (x : Value) (e : TypeId) {g : Nat} (hg : g = w.heap.size) : RowAt (w.alloc (.cells #[x] e)) (some ⟨g, 0, none⟩) [x] := fun i y hy => by
  subst hg
  cases i with
  | zero => simp at hy; subst hy; exact ⟨w.heap.size, 0, rfl, by simp⟩
  | succ i => simp at hy
theorem RowAt.kept {w w' : World} {a : Option Addr} {vs : List Value} {row : Option Nat} (h : RowAt w a vs) (hg : w.grownBy w' row) (hne : vs = [] ∨ (a.map (·.block)) ≠ row) : RowAt w' a vs := fun i x hx => by
  obtain ⟨b, o, ha, hc⟩ := h i x hx
  refine ⟨b, o, ha, hg.cell hc ?_⟩
  rcases hne with rfl | hne
  · simp at hx
  · rw [ha] at hne; exact hne
theorem Own.kept {w w' : World} {base : Nat} {E : TypeId} {v : Value} {vs : List Value} {row : Option Nat} (h : Own w base E v vs) (hg : w.grownBy w' row) (hne : v.ownBlock = none ∨ v.ownBlock ≠ row) : Own w' base E v vs := World.ownsRow.kept h hg hne
theorem bySet (w : World) (b o : Nat) (v : Value) : w.grownBy (w.setCell ⟨b, o, none⟩ v) (some b) := ⟨rfl, rfl, rfl, by simp, fun k _ hk => Below.heap_setCell _ _ _ _ (fun e => hk (by rw [e]))⟩
theorem byStore {a b : World} {g : Nat} (h : a.grownBy b (some g)) (o : Nat) (v : Value) : a.grownBy (b.setCell ⟨g, o, none⟩ v) (some g) :=
  ⟨h.os, h.tape, h.output, by simpa using h.size, fun k hk hne => by rw [Below.heap_setCell _ _ _ _ (fun e => hne (by rw [e]))]; exact h.block k hk hne⟩
theorem byCell1 {w w' : World} {r : Option Nat} {b o : Nat} {x : Value} (hg : w.grownBy w' r) (hc : w.cell? ⟨b, o, none⟩ = some x) (hne : r ≠ some b) : w'.cell? ⟨b, o, none⟩ = some x :=
  hg.cell hc (fun e => hne e.symm)
theorem Own.grow {w w' : World} {base : Nat} {E : TypeId} {v : Value} {vs : List Value} (h : Own w base E v vs) (hg : Grow w w') : Own w' base E v vs :=
  h.kept (hg.grownBy none) (by cases v.ownBlock <;> simp)
theorem IsInts.kept {w w' : World} {v : Value} {l : List Int} {row : Option Nat} (h : IsInts w v l) (hg : w.grownBy w' row) (hne : l = [] ∨ v.ownBlock ≠ row) : IsInts w' v l := by
  obtain ⟨a, cap, rfl, h2, h3, h4⟩ := h
  refine ⟨a, cap, rfl, h2, h3, h4.kept hg ?_⟩
  rcases hne with rfl | hne
  · exact .inl rfl
  · refine .inr ?_
    cases a with
    | none => cases row <;> simp_all [Value.ownBlock]
    | some a => simpa [Value.ownBlock] using hne
theorem IsInts.lt {w : World} {v : Value} {l : List Int} (h : IsInts w v l) (hl : l ≠ []) : ∃ k, v.ownBlock = some k ∧ k < w.heap.size := by
  obtain ⟨a, cap, rfl, _, _, h4⟩ := h
  cases l with
  | nil => exact absurd rfl hl
  | cons x r =>
    obtain ⟨b, o, rfl, hc⟩ := h4 0 (.int .i64 x) rfl
    exact ⟨b, rfl, lt_of_cell hc⟩
theorem Own.ints {w : World} {base : Nat} {E : TypeId} {v : Value} {l : List Int} (h : Own w base E v (l.map (Value.int .i64))) (hs : l.length * 8 ≤ 140737488355328) : IsInts w v l := by
  obtain ⟨a, cap, rfl, h2, h3, h4⟩ := h.row
  exact ⟨a, cap, by simp, by simpa using h2, hs, h4⟩
/-- The rows of a slice of slices that the call made: each reads as a list, none of them lies in the array of the slice itself. -/
def Rows2 (w : World) (ov : Value) (vs : List Value) (ls : List (List Int)) : Prop :=
  vs.length = ls.length ∧ ∀ (i : Nat) (v : Value) (l : List Int), vs[i]? = some v → ls[i]? = some l → IsInts w v l ∧ (l = [] ∨ v.ownBlock ≠ ov.ownBlock)
theorem Rows2.nil (w : World) (ov : Value) : Rows2 w ov [] [] := ⟨rfl, fun i v l h => by simp at h⟩
theorem Rows2.kept {w w' : World} {ov ov' : Value} {vs : List Value} {ls : List (List Int)} (h : Rows2 w ov vs ls) (hg : w.grownBy w' ov.ownBlock) (hm : Moves w ov ov') : Rows2 w' ov' vs ls :=
  ⟨h.1, fun i v l hv hl => by
    obtain ⟨h1, h2⟩ := h.2 i v l hv hl
    refine ⟨h1.kept hg h2, ?_⟩
    rcases h2 with h2 | h2
    · exact .inl h2
    · by_cases he : l = []
      · exact .inl he
      · obtain ⟨k, hk, hlt⟩ := h1.lt he
        rcases hm with hm | hm
        · rw [hm]; exact .inr h2
        · refine .inr fun e => ?_
          have := hm k (by rw [← e]; exact hk)
          omega⟩
theorem Rows2.grow {w w' : World} {ov : Value} {vs : List Value} {ls : List (List Int)} (h : Rows2 w ov vs ls) (hg : Grow w w') : Rows2 w' ov vs ls :=
  ⟨h.1, fun i v l hv hl => ⟨(h.2 i v l hv hl).1.grow hg, (h.2 i v l hv hl).2⟩⟩
theorem Rows2.snoc {w : World} {ov v : Value} {vs : List Value} {ls : List (List Int)} {l : List Int} (h : Rows2 w ov vs ls) (hv : IsInts w v l) (ha : l = [] ∨ v.ownBlock ≠ ov.ownBlock) : Rows2 w ov (vs ++ [v]) (ls ++ [l]) :=
  ⟨by simp [h.1], fun i u m hu hm => by
    rcases Nat.lt_or_ge i vs.length with hi | hi
    · rw [List.getElem?_append_left hi] at hu
      rw [List.getElem?_append_left (h.1 ▸ hi)] at hm
      exact h.2 i u m hu hm
    · rw [List.getElem?_append_right hi] at hu
      rw [List.getElem?_append_right (h.1 ▸ hi)] at hm
      have h1 := h.1
      cases hj : i - vs.length with
      | zero =>
        rw [hj] at hu
        rw [show i - ls.length = 0 by omega] at hm
        simp at hu hm
        subst hu; subst hm
        exact ⟨hv, ha⟩
      | succ j => rw [hj] at hu; simp at hu⟩
theorem Rows2.sheets {w : World} {base : Nat} {E : TypeId} {ov : Value} {vs : List Value} {ls : List (List Int)} (h : Rows2 w ov vs ls) (ho : Own w base E ov vs) (hs : ls.length * 24 ≤ 140737488355328) : IsSheets w ov ls := by
  obtain ⟨a, cap, rfl, h2, h3, h4⟩ := ho.row
  have hl := h.1
  refine ⟨a, cap, by rw [hl], by rw [← hl]; exact h2, hs, fun i s hi => ?_⟩
  have hlt : i < vs.length := by rw [hl]; exact (List.getElem?_eq_some_iff.1 hi).1
  obtain ⟨b, o, ha, hc⟩ := h4 i vs[i] (by simp [hlt])
  exact ⟨b, o, _, ha, hc, (h.2 i _ s (by simp [hlt]) hi).1⟩
theorem Grow.andBy {a b c : World} {r : Option Nat} (h : Grow a b) (k : b.grownBy c r) : a.grownBy c r :=
  ⟨k.os.trans h.os, k.tape.trans h.tape, k.output.trans h.output, Nat.le_trans h.size k.size, fun i hi hne => by rw [k.block i (Nat.lt_of_lt_of_le hi h.size) hne, h.block i hi]⟩
theorem byThen {a b c : World} {r : Option Nat} (h : a.grownBy b r) (k : Grow b c) : a.grownBy c r :=
  ⟨k.os.trans h.os, k.tape.trans h.tape, k.output.trans h.output, Nat.le_trans h.size k.size, fun i hi hne => by rw [k.block i (Nat.lt_of_lt_of_le hi h.size), h.block i hi hne]⟩
theorem Moves.lower {w w' : World} {v v' : Value} (h : Moves w' v v') (hs : w.heap.size ≤ w'.heap.size) : Moves w v v' := by
  rcases h with h | h
  · exact .inl h
  · exact .inr fun k hk => Nat.le_trans hs (h k hk)
theorem byCell {w w' : World} {ov : Value} {b o : Nat} {x : Value} (hg : w.grownBy w' ov.ownBlock) (hc : w.cell? ⟨b, o, none⟩ = some x) (hne : ov.ownBlock ≠ some b) : w'.cell? ⟨b, o, none⟩ = some x :=
  hg.cell hc (fun e => hne e.symm)
theorem byDrew (w : World) (r : Option Nat) : w.grownBy w.drew r := ⟨rfl, rfl, rfl, Nat.le_refl _, fun _ _ _ => rfl⟩
theorem byAlloc {a b : World} {r : Option Nat} (h : a.grownBy b r) (o : Obj) : a.grownBy (b.alloc o) r := byThen h ((Grow.refl b).alloc o)
theorem byBy {a b c : World} {r : Option Nat} (h : a.grownBy b r) (k : b.grownBy c r) : a.grownBy c r :=
  ⟨k.os.trans h.os, k.tape.trans h.tape, k.output.trans h.output, Nat.le_trans h.size k.size, fun i hi hne => by rw [k.block i (Nat.lt_of_lt_of_le hi h.size) hne, h.block i hi hne]⟩
theorem byBelow {a b c : World} {r : Option Nat} (h : a.grownBy b r) (k : Below a.heap.size b c) : a.grownBy c r :=
  ⟨k.os.trans h.os, k.tape.trans h.tape, k.output.trans h.output, Nat.le_trans h.size k.size, fun i hi hne => by rw [k.block i hi, h.block i hi hne]⟩
theorem Own.new0 {w : World} {base g : Nat} {e : TypeId} (hb : base ≤ w.heap.size) (h : g = w.heap.size) : Own (w.alloc (.cells #[] e)) base e (.slice (some ⟨g, 0, none⟩) 0 0) [] := by
  subst h
  exact ⟨rfl, .inr ⟨w.heap.size, 0, #[], rfl, hb, heap_alloc_new w _, Nat.le_refl _, by simp [maxLen], rfl, rfl⟩⟩
theorem Own.new1 {w : World} {base g : Nat} {e : TypeId} {x : Value} (hb : base ≤ w.heap.size) (h : g = w.heap.size) : Own (w.alloc (.cells #[x] e)) base e (.slice (some ⟨g, 0, none⟩) 1 1) [x] := by
  subst h
  exact ⟨rfl, .inr ⟨w.heap.size, 1, #[x], rfl, hb, heap_alloc_new w _, Nat.le_refl _, by simp [maxLen], rfl, rfl⟩⟩
theorem Own.drew {w : World} {B : Nat} {E : TypeId} {v : Value} {vs : List Value} (h : Own w B E v vs) : Own w.drew B E v vs := h.grow (Grow.refl w).drew
theorem Own.nilCap {w : World} {B : Nat} {E : TypeId} {v : Value} {vs : List Value} (h : Own w B E v vs) (hv : vs ≠ []) (hn : v.ownBlock = none) : ∃ n, v = .slice none n 0 := by
  rcases h.parts with ⟨_, h0⟩ | ⟨g, cap, rfl, _⟩
  · exact absurd h0 hv
  · simp [Value.ownBlock] at hn
theorem Own.apart {w w' : World} {B E E' n : Nat} {v u : Value} {vs us : List Value} (h : Own w B E v vs) (hn : w.heap.size ≤ n) (k : Own w' n E' u us) (hu : us ≠ []) : u.ownBlock ≠ v.ownBlock := fun e => by
  rcases k.parts with ⟨_, h0⟩ | ⟨g, cap, rfl, h1, _⟩
  · exact hu h0
  · have := (h.lt g (by rw [← e]; rfl)).2
    omega
theorem Own.ne {w : World} {B E : Nat} {ov : Value} {vs : List Value} (h : Own w B E ov vs) {b : Nat} (hb : w.heap.size ≤ b) : ov.ownBlock ≠ some b := fun e => by
  have := (h.lt b e).2
  omega
end Go.Proofs.Ytbeglemohfbdfaa
