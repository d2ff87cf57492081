/- Words of my own on slices of strings, and on slices that are made whole and written in place. Conditions: sizes. -/
import Derived.Test.YtbeglemohfbdfaaLibB
import Derived.Test.YtbeglemohfbdfaaLib
import Derived.Laws.CopyOwn
import Derived.Maps.RangeRun
namespace Go.Proofs.Ytbeglemohfbdfaa
open Go.RowKit

/-- A slice of strings that reads as a list. -/
def IsRaces (w : World) (v : Value) (rs : List ByteArray) : Prop :=
  ∃ a cap, v = .slice a rs.length cap ∧ rs.length ≤ cap ∧ rs.length * 16 ≤ 140737488355328 ∧ (a = none → cap = 0) ∧ RowAt w a (rs.map Value.string)
theorem IsRaces.grow {w w' : World} {v : Value} {rs : List ByteArray} (h : IsRaces w v rs) (hg : Grow w w') : IsRaces w' v rs := by
  obtain ⟨a, cap, h1, h2, h3, h4, h5⟩ := h
  exact ⟨a, cap, h1, h2, h3, h4, h5.grow hg⟩
theorem RowAt.str {w : World} {a : Option Addr} {rs : List ByteArray} (h : RowAt w a (rs.map Value.string)) {i : Nat} (hi : i < rs.length) :
    ∃ b o x, rs[i]? = some x ∧ a = some ⟨b, o, none⟩ ∧ w.cell? ⟨b, o + i, none⟩ = some (.string x) := by
  obtain ⟨b, o, ha, hc⟩ := h i (.string rs[i]) (by simp [hi])
  exact ⟨b, o, rs[i], by simp [hi], ha, hc⟩
theorem Own.races {w : World} {base : Nat} {E : TypeId} {v : Value} {rs : List ByteArray} (h : Own w base E v (rs.map Value.string)) (hs : rs.length * 16 ≤ 140737488355328) : IsRaces w v rs := by
  obtain ⟨a, cap, rfl, h2, h3, h4⟩ := h.row
  exact ⟨a, cap, by simp, by simpa using h2, hs, h3, h4⟩

theorem madeCells_one (z : Value) (hz : z.cells = #[z]) (n : Nat) : (madeCells z.cells n).toList = List.replicate n z := by
  rw [hz]
  apply List.ext_getElem
  · simp [madeCells]
  · intro i h1 h2
    simp [madeCells, Nat.mod_one]
section
variable {P : Program}
/-- make([]T, n), elements of one cell each, in the walk. -/
theorem wpl_make (w : World) {ops : Array Oper} {rest : List Oper} {o : Oper} {a : Act} {Q : Exit → Act → World → Prop}
    (hg : o.guard = none) (l c : Operand) (t : TypeId) (hop : o.op = Op.makeSlice t l c)
    (base : Nat) (e : TypeId) (i : TypeInfo) (z : Value) (h1 : P.underlying t = some (.slice e)) (h2 : P.info? e = some i) (h3 : i.zero = some z) (h4 : i.size = 1) (hz : z.cells = #[z])
    (L C : Int) (n : Nat) (hl : a.eval l = .int .i64 L) (hc : a.eval c = .int .i64 C) (hL : L = (n : Int)) (hC : C = (n : Int)) (b2 : i.bytes * n ≤ 281474976710656) (b3 : n ≤ maxLen) (b4 : base ≤ w.heap.size)
    (hK : ∀ w', Own w' base e (.slice (some ⟨w.heap.size, 0, none⟩) n n) (List.replicate n z) → Grow w w' → wpList P ops Q rest (a.put o.dst (.slice (some ⟨w.heap.size, 0, none⟩) n n)) w') :
    wpList P ops Q (o :: rest) a w := by
  refine wpList_make_full w hg l c t hop base e i z 1 h1 h2 h3 h4 .i64 .i64 L C n hl hc hL hC b2 b3 b4 fun w' ho hgr => hK w' ?_ (Grow.of hgr)
  rw [Nat.mul_one, madeCells_one z hz] at ho
  simpa [Own] using ho
end
theorem Own.below {w w' : World} {B E K : Nat} {v : Value} {vs : List Value} (h : Own w B E v vs) (hb : Below K w w') (hk : ∀ k, v.ownBlock = some k → k < K) : Own w' B E v vs := by
  refine ⟨h.1, ?_⟩
  rcases h.2 with hn | ⟨g, cap, cur, rfl, hbg, hgg, rest⟩
  · exact .inl hn
  · exact .inr ⟨g, cap, cur, rfl, hbg, by rw [hb.block g (hk g rfl)]; exact hgg, rest⟩
/-- copy(dst, src), both of one length, dst a whole array of the call's own. -/
theorem wpl_copy {P : Program} {w : World} {ops : Array Oper} {rest : List Oper} {o : Oper} {a : Act} {Q : Exit → Act → World → Prop} (hgd : o.guard = none) (d s : Operand) (dT sT : TypeId)
    (ho : o.op = .call { callee := .builtin .copy, args := #[d, s], argTypes := #[dT, sT] }) (elem : TypeId) (hu : P.underlying dT = some (.slice elem)) (hsz : (P.info? elem).map (·.size) = some 1)
    (B E g n sCap b : Nat) (vs us : List Value) (hn : n = vs.length) (hm : n = us.length) (hd : a.eval d = .slice (some ⟨g, 0, none⟩) n n) (hs : a.eval s = .slice (some ⟨b, 0, none⟩) n sCap)
    (hown : Own w B E (.slice (some ⟨g, 0, none⟩) n n) vs) (hsrc : ∀ j v, us[j]? = some v → w.cell? ⟨b, j, none⟩ = some v) (h1 : ∀ v ∈ us, v.oneCell' = true)
    (h : ∀ w', Own w' B E (.slice (some ⟨g, 0, none⟩) n n) us → w.grownBy w' (some g) → wpList P ops Q rest (a.put o.dst (goInt us.length)) w') : wpList P ops Q (o :: rest) a w := by
  subst hn
  rcases hown.2 with ⟨h0, _⟩ | ⟨g', cap, cur, h0, hbg, hg, hnc, hcm, hcs, htake⟩
  · cases h0
  · cases h0
    refine wpList_copy_own hgd d s dT sT ho elem hu hsz g 0 vs.length vs.length ⟨b, 0, none⟩ vs.length sCap hd hs cur E hg us (by simp [← hm]) (fun j v hj => ?_) (by rw [hcs, ← hm]; omega) h1 (h _ ?_ ⟨rfl, rfl, rfl, by simp, fun k _ hk => setRow_other w g k _ (fun e => hk (by rw [e]))⟩)
    · have e : (⟨b, 0, none⟩ : Addr).add j = ⟨b, j, none⟩ := by unfold Addr.add; split <;> simp_all
      rw [e]; exact hsrc j v hj
    · refine ⟨by rw [Nat.mul_one], .inr ⟨g, vs.length, _, by rw [← hm], hbg, setRow_heap w g cur _ E _ hg, by omega, hcm, ?_, ?_⟩⟩
      · have := hcs
        simp only [List.size_toArray, List.length_append, List.length_take, List.length_drop, Array.length_toList]
        omega
      · simp
/-- What an own slice holds at an index, and a store there. -/
theorem Own.at {w : World} {B E g n cap : Nat} {vs : List Value} (h : Own w B E (.slice (some ⟨g, 0, none⟩) n cap) vs) (_hn : n = vs.length) {i : Nat} {x : Value} (hx : vs[i]? = some x) : w.cell? ⟨g, i, none⟩ = some x := by
  rcases h.parts with ⟨h0, _⟩ | ⟨g', cap', e, _, _, _, _, h6, _⟩
  · cases h0
  · cases e; exact h6 i x hx
theorem Own.hot {w : World} {B E g n cap : Nat} {vs : List Value} (h : Own w B E (.slice (some ⟨g, 0, none⟩) n cap) vs) (i : Nat) : w.frozen? ⟨g, i, none⟩ = false := by
  rcases h.parts with ⟨h0, _⟩ | ⟨g', cap', e, _, _, _, _, _, h7⟩
  · cases h0
  · cases e; exact h7 i
theorem Own.set {w : World} {B E g n cap : Nat} {vs : List Value} (h : Own w B E (.slice (some ⟨g, 0, none⟩) n cap) vs) (hn : n = vs.length) (j : Nat) (u : Value) :
    Own (w.setCell ⟨g, j, none⟩ u) B E (.slice (some ⟨g, 0, none⟩) n cap) (vs.set j u) ∧ w.grownBy (w.setCell ⟨g, j, none⟩ u) (some g) := by
  subst hn
  have := World.ownsRow.stored h j u
  exact ⟨by simpa [Own] using this.1, this.2⟩
end Go.Proofs.Ytbeglemohfbdfaa
namespace Go.Proofs.Ytbeglemohfbdfaa
open Go.RowKit Go.Instr

/-- A type of keys, as the program compares them. -/
structure KeyOk (P : Program) (K : TypeId) {κ : Type} [DecidableEq κ] (ke : κ → Value) : Prop where
  und : ∃ d, P.underlying K = some d
  check : ∀ (e : Bool) (x : κ) (w : World), (checkKey e 10000 K (ke x)).run P w = .ok () w
  eql : ∀ (x y : κ) (w : World), (Op.equal K (ke x) (ke y)).run P w = .ok (decide (x = y)) w
  now : ∀ (d : TypeDesc), P.underlying K = some d → ∀ x y, sameNow d (ke x) (ke y) = none ∨ sameNow d (ke x) (ke y) = some (decide (x = y))
  bits : ∀ x, sameBits 10000 (ke x) (ke x) = true

section
variable {κ : Type}
/-- Block b is a map that reads as these keys and values. -/
def MapIs (w : World) (b : Nat) (ke : κ → Value) (l : List (κ × Value)) : Prop :=
  ∃ es clock, w.heap[b]? = some (.map es clock) ∧ es.toList.map (fun e => (e.key, e.val)) = l.map (fun p => (ke p.1, p.2)) ∧ (∀ e ∈ es.toList, e.born < clock) ∧
    (es.toList.map (·.born)).Nodup ∧ (l.map (·.1)).Nodup
theorem MapIs.lt {w : World} {b : Nat} {ke : κ → Value} {l : List (κ × Value)} (h : MapIs w b ke l) : b < w.heap.size := by
  obtain ⟨es, c, h1, _⟩ := h
  exact (Array.getElem?_eq_some_iff.1 h1).1
theorem MapIs.of_block {w w' : World} {b : Nat} {ke : κ → Value} {l : List (κ × Value)} (h : MapIs w b ke l) (hb : w'.heap[b]? = w.heap[b]?) : MapIs w' b ke l := by
  obtain ⟨es, c, h1, r⟩ := h
  exact ⟨es, c, by rw [hb]; exact h1, r⟩
theorem MapIs.grow {w w' : World} {b : Nat} {ke : κ → Value} {l : List (κ × Value)} (h : MapIs w b ke l) (hg : Grow w w') : MapIs w' b ke l := h.of_block (hg.block b h.lt)
theorem MapIs.kept {w w' : World} {b : Nat} {ke : κ → Value} {l : List (κ × Value)} {row : Option Nat} (h : MapIs w b ke l) (hg : w.grownBy w' row) (hne : some b ≠ row) : MapIs w' b ke l := h.of_block (hg.block b h.lt hne)
theorem MapIs.made (w : World) (ke : κ → Value) : MapIs (w.alloc (.map #[] 0)) w.heap.size ke [] := ⟨#[], 0, heap_alloc_new w _, rfl, by simp, by simp, by simp⟩
theorem MapIs.nodup {w : World} {b : Nat} {ke : κ → Value} {l : List (κ × Value)} (h : MapIs w b ke l) : (l.map (·.1)).Nodup := h.choose_spec.choose_spec.2.2.2.2

end
section
variable {κ : Type} [DecidableEq κ]
/-- Where a key stands, and what it holds. -/
def lookIx (x : κ) : List (κ × Value) → Nat → Option (Nat × Value)
  | [], _ => none
  | p :: r, i => if x = p.1 then some (i, p.2) else lookIx x r (i + 1)
def lookKey (l : List (κ × Value)) (x : κ) : Option Value := (lookIx x l 0).map (·.2)
def putKey (l : List (κ × Value)) (x : κ) (v : Value) : List (κ × Value) :=
  match lookIx x l 0 with
  | some (i, _) => l.modify i fun p => (p.1, v)
  | none => l ++ [(x, v)]
theorem lookIx_some {x : κ} : ∀ {l : List (κ × Value)} {i j : Nat} {v : Value}, lookIx x l i = some (j, v) → i ≤ j ∧ l[j - i]? = some (x, v)
  | [], i, j, v, h => by cases h
  | p :: r, i, j, v, h => by
    unfold lookIx at h
    split at h
    · rename_i hx
      cases h
      subst hx
      simp
    · obtain ⟨h1, h2⟩ := lookIx_some h
      refine ⟨by omega, ?_⟩
      obtain ⟨m, hm⟩ : ∃ m, j - i = m + 1 := ⟨j - i - 1, by omega⟩
      rw [hm, List.getElem?_cons_succ, show m = j - (i + 1) by omega]
      exact h2
theorem lookIx_none {x : κ} : ∀ {l : List (κ × Value)} {i : Nat}, lookIx x l i = none → ∀ p ∈ l, p.1 ≠ x
  | [], _, _, p, hp => by cases hp
  | q :: r, i, h, p, hp => by
    unfold lookIx at h
    split at h
    · cases h
    · rename_i hx
      rcases List.mem_cons.1 hp with rfl | hp
      · exact fun e => hx e.symm
      · exact lookIx_none h p hp
theorem lookKey_none {l : List (κ × Value)} {x : κ} : lookKey l x = none ↔ ∀ p ∈ l, p.1 ≠ x := by
  unfold lookKey
  constructor
  · intro h
    cases h1 : lookIx x l 0 with
    | none => exact lookIx_none h1
    | some q => rw [h1] at h; cases h
  · intro h
    cases h1 : lookIx x l 0 with
    | none => rfl
    | some q =>
      obtain ⟨j, v⟩ := q
      obtain ⟨_, h2⟩ := lookIx_some h1
      exact absurd rfl (h _ (List.mem_of_getElem? h2))
theorem lookKey_mem {l : List (κ × Value)} {x : κ} {v : Value} (h : lookKey l x = some v) : (x, v) ∈ l := by
  unfold lookKey at h
  cases h1 : lookIx x l 0 with
  | none => rw [h1] at h; cases h
  | some q =>
    obtain ⟨j, u⟩ := q
    rw [h1] at h
    cases h
    exact List.mem_of_getElem? (lookIx_some h1).2
variable {P : Program} {K : TypeId} {ke : κ → Value}
theorem run_findNow (H : KeyOk P K ke) {d : TypeDesc} (hd : P.underlying K = some d) (x : κ) : ∀ (es : List MapEntry) (l : List (κ × Value)) (i : Nat), es.map (fun e => (e.key, e.val)) = l.map (fun p => (ke p.1, p.2)) →
    findNow d (ke x) es i = none ∨ findNow d (ke x) es i = some (lookIx x l i)
  | [], l, i, h => by
    cases l with
    | nil => exact .inr rfl
    | cons p r => simp at h
  | e :: es, l, i, h => by
    cases l with
    | nil => simp at h
    | cons p r =>
      simp only [List.map_cons, List.cons.injEq, Prod.mk.injEq] at h
      obtain ⟨⟨h1, h2⟩, h3⟩ := h
      unfold findNow lookIx
      rw [h1]
      rcases H.now d hd x p.1 with h4 | h4
      · rw [h4]; exact .inl rfl
      · rw [h4]
        by_cases hx : x = p.1
        · simp [hx, h2]
        · simp only [hx, decide_false, if_false]
          exact run_findNow H hd x es r (i + 1) h3
theorem run_findAsking (H : KeyOk P K ke) (x : κ) (w : World) : ∀ (es : List MapEntry) (l : List (κ × Value)) (i : Nat), es.map (fun e => (e.key, e.val)) = l.map (fun p => (ke p.1, p.2)) →
    (findAsking K (ke x) es i).run P w = .ok (lookIx x l i) w
  | [], l, i, h => by
    cases l with
    | nil => rfl
    | cons p r => simp at h
  | e :: es, l, i, h => by
    cases l with
    | nil => simp at h
    | cons p r =>
      simp only [List.map_cons, List.cons.injEq, Prod.mk.injEq] at h
      obtain ⟨⟨h1, h2⟩, h3⟩ := h
      unfold findAsking lookIx
      rw [h1, Sem.run_bind, H.eql]
      simp only [Result.andThen]
      by_cases hx : x = p.1
      · simp [hx, h2, Sem.run_pure]
      · simp only [hx, decide_false, Bool.false_eq_true, if_false]
        exact run_findAsking H x w es r (i + 1) h3
theorem run_findKey (H : KeyOk P K ke) (x : κ) (w : World) (es : List MapEntry) (l : List (κ × Value)) (h : es.map (fun e => (e.key, e.val)) = l.map (fun p => (ke p.1, p.2))) :
    (findKey K (ke x) es).run P w = .ok (lookIx x l 0) w := by
  obtain ⟨d, hd⟩ := H.und
  unfold findKey
  rw [Sem.run_bind, run_underlying hd]
  simp only [Result.andThen]
  rcases run_findNow H hd x es l 0 h with h1 | h1
  · rw [h1]; exact run_findAsking H x w es l 0 h
  · rw [h1]; rfl
/-- 'v, ok := m[k]'. -/
theorem run_look_ok (H : KeyOk P K ke) {t E : TypeId} (ht : P.underlying t = some (.map K E)) {z : Value} {w : World} (hz : (zeroValue E).run P w = .ok z w) {b : Nat} {l : List (κ × Value)} (h : MapIs w b ke l) (x : κ) (ok : Bool) :
    (lookup t (.map (some b)) (ke x) ok).run P w = .ok (if ok then .tuple #[(lookKey l x).getD z, .bool (lookKey l x).isSome] else (lookKey l x).getD z) w := by
  obtain ⟨es, c, h1, h2, h3⟩ := h
  unfold lookup
  simp only [Sem.run_bind, run_underlying ht, Result.andThen, getObj, Sem.run, h1, H.check, Sem.run_pure, run_findKey H x w es.toList l h2]
  unfold lookKey
  cases hl : lookIx x l 0 with
  | none => cases ok <;> simp [hz, Result.andThen]
  | some q => cases ok <;> simp
/-- A store. -/
theorem run_put (H : KeyOk P K ke) {t E : TypeId} (ht : P.underlying t = some (.map K E)) {w : World} {b : Nat} {l : List (κ × Value)} (h : MapIs w b ke l) (x : κ) (v : Value) :
    ∃ w', (mapUpdate t (.map (some b)) (ke x) v).run P w = .ok () w' ∧ MapIs w' b ke (putKey l x v) ∧ w.grownBy w' (some b) ∧ w'.heap.size = w.heap.size := by
  obtain ⟨es, c, h1, h2, h3, h4, h5⟩ := h
  have hlt := (Array.getElem?_eq_some_iff.1 h1).1
  have hset : ∀ o : Obj, w.grownBy { w with heap := w.heap.setIfInBounds b o } (some b) := fun o => ⟨rfl, rfl, rfl, by simp, fun k _ hk => by
    simp only [Array.getElem?_setIfInBounds]
    rw [if_neg (fun e => hk (by rw [e]))]⟩
  have hnew : ∀ o : Obj, ({ w with heap := w.heap.setIfInBounds b o } : World).heap[b]? = some o := fun o => by simp [hlt]
  have hrun : ∀ o : Obj, (setObj b o).run P w = .ok () { w with heap := w.heap.setIfInBounds b o } := fun o => by simp [setObj, Sem.run, h1]
  unfold mapUpdate putKey
  simp only [Sem.run_bind, run_underlying ht, Result.andThen, getObj, Sem.run, h1, H.check, run_findKey H x w es.toList l h2]
  cases hl : lookIx x l 0 with
  | none =>
    refine ⟨_, hrun _, ⟨_, _, hnew _, ?_, ?_, ?_, ?_⟩, hset _, by simp⟩
    · simp [h2]
    · intro e he
      simp only [Array.toList_push, List.mem_append, List.mem_singleton] at he
      rcases he with he | rfl
      · have := h3 e he; omega
      · simp
    · simp only [Array.toList_push, List.map_append, List.map_cons, List.map_nil]
      refine List.nodup_append.2 ⟨h4, by simp, ?_⟩
      intro a ha b' hb' e
      simp at hb'
      obtain ⟨m, hm, rfl⟩ := List.mem_map.1 ha
      have := h3 m hm
      omega
    · simp only [List.map_append, List.map_cons, List.map_nil]
      refine List.nodup_append.2 ⟨h5, by simp, ?_⟩
      intro a ha b' hb' e
      simp at hb'
      obtain ⟨m, hm, rfl⟩ := List.mem_map.1 ha
      exact lookIx_none hl m hm (e.trans hb')
  | some q =>
    obtain ⟨i, u⟩ := q
    obtain ⟨_, hi⟩ := lookIx_some hl
    rw [Nat.sub_zero] at hi
    have hei : ∃ e, es[i]? = some e ∧ e.key = ke x := by
      have := congrArg (·[i]?) h2
      simp only [List.getElem?_map, hi, Option.map_some] at this
      cases he : es.toList[i]? with
      | none => rw [he] at this; cases this
      | some e =>
        rw [he] at this
        simp at this
        exact ⟨e, by simpa using he, this.1⟩
    obtain ⟨e, he, hek⟩ := hei
    have hstay : (keyThatStays (((es[i]?).map (·.key)).getD (ke x)) (ke x)).run P w = .ok (ke x) w := by
      unfold keyThatStays
      rw [he]
      simp [hek, H.bits, Sem.run_pure]
    simp only [Sem.run_bind, hstay, Result.andThen]
    have hmod : (es.modify i fun e => { e with key := ke x, val := v }).toList = es.toList.modify i fun e => { e with key := ke x, val := v } := by simp
    refine ⟨_, hrun _, ⟨_, _, hnew _, ?_, ?_, ?_, ?_⟩, hset _, by simp⟩
    · rw [hmod]
      apply List.ext_getElem?
      intro j
      have hj := congrArg (·[j]?) h2
      simp only [List.getElem?_map] at hj
      simp only [List.getElem?_map, List.getElem?_modify]
      by_cases hij : i = j
      · subst hij
        simp only [if_true, hi]
        rw [show es.toList[i]? = some e by simpa using he]
        simp
      · simp only [hij, if_false]
        simpa [Function.comp_def] using hj
    · intro m hm
      rw [hmod] at hm
      obtain ⟨j, hj, rfl⟩ := List.mem_iff_getElem.1 hm
      rw [List.getElem_modify]
      split
      · exact (h3 (es.toList[j]'(by simpa using hj)) (List.getElem_mem _) :)
      · exact h3 _ (List.getElem_mem _)
    · have : (es.modify i fun e => { e with key := ke x, val := v }).toList.map (·.born) = es.toList.map (·.born) := by
        rw [hmod]
        apply List.ext_getElem?
        intro j
        simp only [List.getElem?_map, List.getElem?_modify]
        by_cases hij : i = j
        · subst hij; cases es.toList[i]? <;> simp
        · simp [hij]
      rw [this]; exact h4
    · have : (l.modify i fun p => (p.1, v)).map (·.1) = l.map (·.1) := by
        apply List.ext_getElem?
        intro j
        simp only [List.getElem?_map, List.getElem?_modify]
        by_cases hij : i = j
        · subst hij; cases l[i]? <;> simp
        · simp [hij]
      rw [this]; exact h5
/-- 'm[k] = v', and a pair of a map's literal, in the walk. -/
theorem wpl_put {w : World} {ops : Array Oper} {rest : List Oper} {o : Oper} {a : Act} {Q : Exit → Act → World → Prop} (hg : o.guard = none) (m k v : Operand) (t : TypeId) (hop : o.op = Op.mapUpdate t m k v ∨ o.op = Op.insert t m k v)
    (E : TypeId) (H : KeyOk P K ke) (ht : P.underlying t = some (.map K E)) (b : Nat) (l : List (κ × Value)) (x : κ) (u : Value) (hm : a.eval m = .map (some b)) (hk : a.eval k = ke x) (hv : a.eval v = u) (h : MapIs w b ke l)
    (hK : ∀ w', MapIs w' b ke (putKey l x u) → w.grownBy w' (some b) → w'.heap.size = w.heap.size → wpList P ops Q rest (a.put o.dst undef) w') : wpList P ops Q (o :: rest) a w := by
  refine wpList_plain hg fun K' hK' => ?_
  obtain ⟨w', hrun, r1, r2, r3⟩ := run_put H ht h x u
  unfold Oper.wp
  rcases hop with hop | hop
  all_goals
    simp [execOp, hop, hm, hk, hv, hrun, Result.andThen]
    exact hK' _ _ (hK w' r1 r2 r3)
/-- 'v, ok := m[k]' in the walk. -/
theorem wpl_look {w : World} {ops : Array Oper} {rest : List Oper} {o : Oper} {a : Act} {Q : Exit → Act → World → Prop} (hg : o.guard = none) (m k : Operand) (t : TypeId) (ok : Bool) (hop : o.op = Op.lookup t m k ok)
    (E : TypeId) (H : KeyOk P K ke) (ht : P.underlying t = some (.map K E)) (z : Value) (hz : (zeroValue E).run P w = .ok z w) (b : Nat) (l : List (κ × Value)) (x : κ) (hm : a.eval m = .map (some b)) (hk : a.eval k = ke x) (h : MapIs w b ke l)
    (hK : wpList P ops Q rest (a.put o.dst (if ok then .tuple #[(lookKey l x).getD z, .bool (lookKey l x).isSome] else (lookKey l x).getD z)) w) : wpList P ops Q (o :: rest) a w := by
  refine wpList_plain hg fun K' hK' => ?_
  have hrun := run_look_ok H ht hz h x ok
  unfold Oper.wp
  simp [execOp, hop, hm, hk, hrun, Result.andThen]
  exact hK' _ _ hK
end

section
variable {κ : Type} {ke : κ → Value} {P : Program}
/-- A range over the map at block b, at block r: 'todo' is still to come; 'cur': the entry that came last. -/
def RangeIs (w : World) (r b : Nat) (ke : κ → Value) (todo : List (κ × Value)) (cur : Option (κ × Value)) : Prop :=
  ∃ es clock since seen c0, w.heap[r]? = some (.mapIter (some b) since seen c0) ∧ w.heap[b]? = some (.map es clock) ∧ since = clock ∧ c0 = clock ∧ (∀ e ∈ es.toList, e.born < clock) ∧ (es.toList.map (·.born)).Nodup ∧
    (leftOf es seen).toList.map (fun e => (e.key, e.val)) = todo.map (fun p => (ke p.1, p.2)) ∧
    (∀ p, cur = some p → ∃ e ∈ es.toList, seen.back? = some e.born ∧ e.key = ke p.1 ∧ e.val = p.2)
theorem RangeIs.kept {w w' : World} {r b : Nat} {todo : List (κ × Value)} {cur : Option (κ × Value)} {row : Option Nat} (h : RangeIs w r b ke todo cur) (hg : w.grownBy w' row) (h1 : some r ≠ row) (h2 : some b ≠ row) : RangeIs w' r b ke todo cur := by
  obtain ⟨es, c, s, seen, c0, hr, hb, rest⟩ := h
  exact ⟨es, c, s, seen, c0, by rw [hg.block r (Array.getElem?_eq_some_iff.1 hr).1 h1]; exact hr, by rw [hg.block b (Array.getElem?_eq_some_iff.1 hb).1 h2]; exact hb, rest⟩
theorem RangeIs.grow {w w' : World} {r b : Nat} {todo : List (κ × Value)} {cur : Option (κ × Value)} (h : RangeIs w r b ke todo cur) (hg : Grow w w') : RangeIs w' r b ke todo cur := h.kept (hg.grownBy none) (by simp) (by simp)
theorem RangeIs.lt {w : World} {r b : Nat} {todo : List (κ × Value)} {cur : Option (κ × Value)} (h : RangeIs w r b ke todo cur) : r < w.heap.size := by
  obtain ⟨es, c, s, seen, c0, hr, _⟩ := h
  exact (Array.getElem?_eq_some_iff.1 hr).1
theorem RangeIs.ltB {w : World} {r b : Nat} {todo : List (κ × Value)} {cur : Option (κ × Value)} (h : RangeIs w r b ke todo cur) : b < w.heap.size ∧ r ≠ b := by
  obtain ⟨es, c, s, seen, c0, hr, hb, _⟩ := h
  exact ⟨(Array.getElem?_eq_some_iff.1 hb).1, fun e => by subst e; rw [hr] at hb; cases hb⟩
theorem run_range {K E t : TypeId} (ht : P.underlying t = some (.map K E)) {w : World} {b : Nat} {l : List (κ × Value)} (h : MapIs w b ke l) :
    ∃ w', (range t (.map (some b))).run P w = .ok (.pointer (some ⟨w.heap.size, 0, none⟩)) w' ∧ RangeIs w' w.heap.size b ke l none ∧ Grow w w' ∧ w'.heap.size = w.heap.size + 1 := by
  obtain ⟨es, c, h1, h2, h3, h4, h5⟩ := h
  refine ⟨w.alloc (.mapIter (some b) c #[] c), ?_, ⟨es, c, c, #[], c, heap_alloc_new w _, ?_, rfl, rfl, h3, h4, ?_, by simp⟩, (Grow.refl w).alloc _, by simp⟩
  · unfold range
    simp [Sem.run_bind, run_underlying ht, Result.andThen, getObj, Sem.run, h1, newObj]
  · rw [Below.heap_alloc _ _ _ (Array.getElem?_eq_some_iff.1 h1).1]; exact h1
  · have : leftOf es #[] = es := by unfold leftOf; exact Array.filter_eq_self.2 (by simp)
    rw [this]; exact h2
theorem wpl_range {K E : TypeId} {w : World} {ops : Array Oper} {rest : List Oper} {o : Oper} {a : Act} {Q : Exit → Act → World → Prop} (hg : o.guard = none) (m : Operand) (t : TypeId) (hop : o.op = Op.range t m)
    (ht : P.underlying t = some (.map K E)) (b : Nat) (l : List (κ × Value)) (hm : a.eval m = .map (some b)) (h : MapIs w b ke l)
    (hK : ∀ w', RangeIs w' w.heap.size b ke l none → Grow w w' → w'.heap.size = w.heap.size + 1 → wpList P ops Q rest (a.put o.dst (.pointer (some ⟨w.heap.size, 0, none⟩))) w') : wpList P ops Q (o :: rest) a w := by
  refine wpList_plain hg fun K' hK' => ?_
  obtain ⟨w', hrun, r1, r2, r3⟩ := run_range (P := P) ht h
  unfold Oper.wp
  simp [execOp, hop, hm, hrun, Result.andThen]
  exact hK' _ _ (hK w' r1 r2 r3)
theorem filter_born : ∀ (L : List MapEntry) (i : Nat) (e : MapEntry), (L.map (·.born)).Nodup → L[i]? = some e → L.filter (fun x => !(x.born == e.born)) = L.take i ++ L.drop (i + 1)
  | [], i, e, _, h => by simp at h
  | y :: L, 0, e, hn, h => by
    simp at h
    subst h
    simp only [List.map_cons, List.nodup_cons] at hn
    simp only [List.filter_cons, beq_self_eq_true, Bool.not_true, Bool.false_eq_true, if_false, List.take_zero, List.drop_succ_cons, List.drop_zero, List.nil_append]
    refine List.filter_eq_self.2 fun x hx => ?_
    have : x.born ≠ y.born := fun e => hn.1 (e ▸ List.mem_map_of_mem hx)
    simpa using this
  | y :: L, i + 1, e, hn, h => by
    simp only [List.map_cons, List.nodup_cons] at hn
    simp only [List.getElem?_cons_succ] at h
    have : y.born ≠ e.born := fun h' => hn.1 (h' ▸ List.mem_map_of_mem (List.mem_of_getElem? h))
    simp only [List.filter_cons, List.take_succ_cons, List.drop_succ_cons, List.cons_append]
    rw [filter_born L i e hn.2 h]
    simp [this]
/-- The range's step: it is over, or one of those that are left comes. -/
theorem run_step {w : World} {r b : Nat} {todo : List (κ × Value)} {cur : Option (κ × Value)} (h : RangeIs w r b ke todo cur) (ty : TypeId) :
    (todo = [] ∧ (next (.pointer (some ⟨r, 0, none⟩)) false ty).run P w = .ok (.tuple #[.bool false]) w) ∨
    ∃ pre p post w', todo = pre ++ p :: post ∧ (next (.pointer (some ⟨r, 0, none⟩)) false ty).run P w = .ok (.tuple #[.bool true, ke p.1, p.2]) w' ∧ RangeIs w' r b ke (pre ++ post) (some p) ∧ w.grownBy w' (some r) ∧ w'.heap.size = w.heap.size := by
  obtain ⟨es, clock, since, seen, c0, hr, hb, rfl, rfl, h3, h4, h5, _⟩ := h
  rcases run_next_at (P := P) w ty r b c0 c0 seen es c0 hr hb h3 (Nat.le_refl _) with ⟨h6, h7⟩ | ⟨e, he, w1, hw1, hrun⟩
  · refine .inl ⟨?_, h7⟩
    have : (leftOf es seen).toList = [] := by rw [Array.eq_empty_of_size_eq_zero h6]
    rw [this] at h5
    simpa using h5.symm
  · refine .inr ?_
    obtain ⟨i, hi, hie⟩ := List.mem_iff_getElem.1 he
    have hlen : (leftOf es seen).toList.length = todo.length := by simpa using congrArg List.length h5
    have hit : i < todo.length := by omega
    have hkv : (e.key, e.val) = (ke todo[i].1, todo[i].2) := by
      have := congrArg (·[i]?) h5
      simp only [List.getElem?_map] at this
      rw [List.getElem?_eq_getElem hi, List.getElem?_eq_getElem hit, hie] at this
      simpa using this
    have hrlt : r < w.heap.size := (Array.getElem?_eq_some_iff.1 hr).1
    have hne : r ≠ b := fun e => by subst e; rw [hr] at hb; cases hb
    have hw1h : w1.heap = w.heap := by rcases hw1 with rfl | rfl <;> rfl
    have hees : e ∈ es.toList := by
      have : e ∈ leftOf es seen := by simpa using he
      unfold leftOf at this
      simpa using (Array.mem_filter.1 this).1
    refine ⟨todo.take i, todo[i], todo.drop (i + 1), _, ?_, by rw [hrun]; simp only [Prod.mk.injEq] at hkv; rw [hkv.1, hkv.2], ?_, ?_, ?_⟩
    · simp
    · refine ⟨es, c0, c0, seen.push e.born, c0, by simp [Go.ChangeMaps.setBlock, hw1h, hrlt], by simp [Go.ChangeMaps.setBlock, hw1h, hne, hb], rfl, rfl, h3, h4, ?_, fun p hp => ?_⟩
      · have e1 : (leftOf es (seen.push e.born)).toList = (leftOf es seen).toList.filter (fun x => !(x.born == e.born)) := by
          unfold leftOf
          simp only [Array.toList_filter, List.filter_filter]
          congr 1
          funext x
          simp [Bool.and_comm, Bool.not_or]
          rfl
        have hnd : ((leftOf es seen).toList.map (·.born)).Nodup := by
          unfold leftOf
          rw [Array.toList_filter]
          exact (List.Sublist.map _ List.filter_sublist).nodup h4
        rw [e1, filter_born _ i e hnd (by rw [List.getElem?_eq_getElem hi, hie]), List.map_append, List.map_append, List.map_take, List.map_drop, List.map_take, List.map_drop, h5]
      · cases hp
        simp only [Prod.mk.injEq] at hkv
        exact ⟨e, hees, by simp, hkv.1, hkv.2⟩
    · refine ⟨?_, ?_, ?_, by simp [Go.ChangeMaps.setBlock, hw1h], fun k _ hk => ?_⟩
      · rcases hw1 with rfl | rfl <;> rfl
      · rcases hw1 with rfl | rfl <;> rfl
      · rcases hw1 with rfl | rfl <;> rfl
      · simp only [Go.ChangeMaps.setBlock, hw1h, Array.getElem?_setIfInBounds]
        rw [if_neg (fun e => hk (by rw [e]))]
    · simp [Go.ChangeMaps.setBlock, hw1h]
theorem run_entry {w : World} {r b : Nat} {todo : List (κ × Value)} {p : κ × Value} (h : RangeIs w r b ke todo (some p)) : (entry (.pointer (some ⟨r, 0, none⟩))).run P w = .ok (.tuple #[ke p.1, p.2]) w := by
  obtain ⟨es, clock, since, seen, c0, hr, hb, rfl, rfl, h3, h4, h5, h6⟩ := h
  obtain ⟨e, he, hs, hk, hv⟩ := h6 p rfl
  have hp : ∃ s0 : Array Nat, seen = s0.push e.born := by
    have hl : seen.toList.getLast? = some e.born := by rw [Array.getLast?_toList]; exact hs
    obtain ⟨ys, hys⟩ := List.getLast?_eq_some_iff.1 hl
    exact ⟨ys.toArray, by apply Array.ext'; simp [hys]⟩
  obtain ⟨s0, rfl⟩ := hp
  rw [run_entry_at w r b c0 s0 es c0 e hr hb he h4, hk, hv]
theorem wpl_step {w : World} {ops : Array Oper} {rest : List Oper} {o : Oper} {a : Act} {Q : Exit → Act → World → Prop} (hg : o.guard = none) (it : Operand) (hop : o.op = Op.next it false)
    (r b : Nat) (todo : List (κ × Value)) (cur : Option (κ × Value)) (hit : a.eval it = .pointer (some ⟨r, 0, none⟩)) (h : RangeIs w r b ke todo cur)
    (hDone : todo = [] → wpList P ops Q rest (a.put o.dst (.tuple #[.bool false])) w)
    (hMore : ∀ pre p post w', todo = pre ++ p :: post → RangeIs w' r b ke (pre ++ post) (some p) → w.grownBy w' (some r) → w'.heap.size = w.heap.size → (entry (.pointer (some ⟨r, 0, none⟩))).run P w' = .ok (.tuple #[ke p.1, p.2]) w' →
      wpList P ops Q rest (a.put o.dst (.tuple #[.bool true, ke p.1, p.2])) w') : wpList P ops Q (o :: rest) a w := by
  refine wpList_plain hg fun K' hK' => ?_
  unfold Oper.wp
  rcases run_step (P := P) h o.type with ⟨h0, hrun⟩ | ⟨pre, p, post, w', h1, hrun, h2, h3, h4⟩
  · simp [execOp, hop, hit, hrun, Result.andThen]
    exact hK' _ _ (hDone h0)
  · simp [execOp, hop, hit, hrun, Result.andThen]
    exact hK' _ _ (hMore pre p post w' h1 h2 h3 h4 (run_entry h2))
end
theorem bytes_beq (x y : ByteArray) : (x == y) = decide (x = y) := by
  rw [beq_toListBytes, ByteArray.toList_eq, ByteArray.toList_eq, Bool.eq_iff_iff]
  simp only [beq_iff_eq, decide_eq_true_eq]
  constructor
  · intro h
    cases x; cases y
    simp only at h
    rw [Array.toList_inj.1 h]
  · rintro rfl; rfl
/-- Keys that are ints, strings, bytes. -/
theorem keyOk_int {P : Program} {K : TypeId} (h : P.underlying K = some (.int .i64)) : KeyOk P K (Value.int .i64) where
  und := ⟨_, h⟩
  check := fun e x w => by rw [show (10000 : Nat) = 9999 + 1 from rfl, checkKey, Sem.run_bind, run_underlying h]; rfl
  eql := fun x y w => by rw [show Op.equal K (.int .i64 x) (.int .i64 y) = Op.equalIn (9999 + 1) K (.int .i64 x) (.int .i64 y) from rfl, run_equalIn_int w 9999 K .i64 .i64 x y h]; rfl
  now := fun d hd x y => by rw [h] at hd; cases hd; right; simp only [sameNow, if_true]; rfl
  bits := fun x => by unfold sameBits; simp
theorem keyOk_string {P : Program} {K : TypeId} (h : P.underlying K = some .string) : KeyOk P K Value.string where
  und := ⟨_, h⟩
  check := fun e x w => by rw [show (10000 : Nat) = 9999 + 1 from rfl, checkKey, Sem.run_bind, run_underlying h]; rfl
  eql := fun x y w => by rw [show Op.equal K (.string x) (.string y) = Op.equalIn (9999 + 1) K (.string x) (.string y) from rfl, run_equalIn_string w 9999 K x y h, ← beq_toListBytes, bytes_beq]
  now := fun d hd x y => by rw [h] at hd; cases hd; right; simp only [sameNow, bytes_beq]
  bits := fun x => by unfold sameBits; rw [bytes_beq]; simp
end Go.Proofs.Ytbeglemohfbdfaa
namespace Go.Proofs.Ytbeglemohfbdfaa
open Go.RowKit

/-- What is over. -/
abbrev Over (L : Array Bool) (i : Nat) : Prop := L.getD i false = true
theorem over_lt {L : Array Bool} {i : Nat} (h : Over L i) : i < L.size := by
  rcases Nat.lt_or_ge i L.size with h' | h'
  · exact h'
  · simp [Over, Array.getElem?_eq_none h'] at h
theorem not_over {L : Array Bool} {i : Nat} (h : L.getD i true = false) : ¬ Over L i := by
  intro k
  have hl := over_lt k
  simp [Over, hl] at h k
  rw [h] at k; cases k
theorem over_set {L : Array Bool} {i j : Nat} (hi : i < L.size) : Over (L.setIfInBounds i true) j ↔ Over L j ∨ j = i := by
  by_cases h : i = j
  · subst h; simp [Over, hi]
  · have h' : j ≠ i := fun e => h e.symm
    simp [Over, Array.getElem?_setIfInBounds_ne h, h']
theorem over_ne {L : Array Bool} {i j : Nat} (h : Over (L.setIfInBounds i true) j) (hne : j ≠ i) : Over L j := by
  simpa [Over, Array.getElem?_setIfInBounds_ne (Ne.symm hne)] using h
theorem count_set : ∀ (l : List Bool) (i : Nat), l[i]? = some false → (l.set i true).count false + 1 = l.count false
  | [], i, h => by simp at h
  | b :: l, 0, h => by simp at h; subst h; simp
  | b :: l, i + 1, h => by
    have := count_set l i (by simpa using h)
    simp only [List.set_cons_succ, List.count_cons]
    omega
theorem wpAny_inv {P : Program} {md : Region.Mode} {ops : Array Oper} {Q : Exit → Act → World → Prop} (Inv : Array Bool → Act → World → Prop)
    (hback : ∀ (i : Nat) (o : Oper), ops[i]? = some o → ∀ e ∈ o.after, Region.binds md e = true → e.on < i)
    (hend : ∀ L a w, Inv L a w → (∀ i, i < ops.size → Over L i) → Q .normal a w)
    (hstep : ∀ (i : Nat) (o : Oper) (L : Array Bool) (a : Act) (w : World), ops[i]? = some o → i < L.size → Inv L a w → ¬ Over L i → (∀ e ∈ o.after, Region.binds md e = true → Over L e.on) →
      if Region.wanted o (yielded ops a.tmps) = true then o.wp P a w (fun a' w' => Inv (L.setIfInBounds i true) a' w') Q else Inv (L.setIfInBounds i true) (a.put o.dst undef) w) :
    ∀ (fuel : Nat) (L : Array Bool) (a : Act) (w : World), L.size = ops.size → L.toList.count false ≤ fuel → Inv L a w → wpAny P md ops Q fuel L a w := by
  have hall : ∀ L : Array Bool, L.size = ops.size → Region.ready md ops L = [] → ∀ i, i < ops.size → Over L i := by
    intro L hL hr i
    induction i using Nat.strongRecOn with
    | ind i ih =>
      intro hi
      by_cases ho : Over L i
      · exact ho
      · exfalso
        have hm : i ∈ Region.ready md ops L := by
          rw [mem_ready]
          have hiL : i < L.size := by omega
          refine ⟨?_, ops[i], by simp [hi], fun e he hb => ih e.on (hback i _ (by simp [hi]) e he hb) ?_⟩
          · simpa [Over, hiL] using ho
          · have := hback i ops[i] (by simp [hi]) e he hb
            omega
        rw [hr] at hm
        cases hm
  intro fuel
  induction fuel with
  | zero =>
    intro L a w hL hc hI
    have hov : ∀ i, i < ops.size → Over L i := by
      intro i hi
      by_cases ho : Over L i
      · exact ho
      · exfalso
        have hiL : i < L.toList.length := by simp; omega
        have : false ∈ L.toList := by
          have hx : L.toList[i] = false := by
            have hiL2 : i < L.size := by omega
            simpa [Over, hiL2] using ho
          rw [← hx]; exact List.getElem_mem hiL
        have := List.count_pos_iff.2 this
        omega
    refine ⟨?_, hend L a w hI hov⟩
    cases hr : Region.ready md ops L with
    | nil => rfl
    | cons j r =>
      exfalso
      have hj : j ∈ Region.ready md ops L := by rw [hr]; simp
      rw [mem_ready] at hj
      obtain ⟨h0, o, ho, _⟩ := hj
      exact not_over h0 (hov j (Array.getElem?_eq_some_iff.1 ho).1)
  | succ fuel ih =>
    intro L a w hL hc hI
    refine ⟨fun hr => hend L a w hI (hall L hL hr), fun i hi => ?_⟩
    rw [mem_ready] at hi
    obtain ⟨h0, o, ho, hd⟩ := hi
    have hio := (Array.getElem?_eq_some_iff.1 ho).1
    have hiL : i < L.size := by omega
    have hs := hstep i o L a w ho hiL hI (not_over h0) hd
    have hc' : (L.setIfInBounds i true).toList.count false ≤ fuel := by
      have hx : L.toList[i]? = some false := by
        simpa [hiL] using h0
      have := count_set L.toList i hx
      simp
      omega
    have hmono : ∀ a' w', Inv (L.setIfInBounds i true) a' w' → wpAny P md ops Q fuel (L.setIfInBounds i true) a' w' := fun a' w' h => ih _ a' w' (by simp [hL]) hc' h
    unfold wpOp
    rw [ho]
    show if _ then _ else _
    split
    · rename_i hw
      rw [if_pos hw] at hs
      exact .inl (Oper.wp_mono hmono hs)
    · rename_i hw
      rw [if_neg hw] at hs
      exact hmono _ _ hs
theorem wp_region_inv {P : Program} {id : Nat} {ops : Array Oper} {Q : Exit → Act → World → Prop} {a : Act} {w : World} (hm : P.follows .mixedOrders = true) (Inv : Array Bool → Act → World → Prop)
    (hback : (List.range ops.size).all (fun i => ((ops[i]?).map fun (o : Oper) => o.after.all fun e => !Region.binds .any e || decide (e.on < i)).getD true) = true)
    (h0 : ∀ L, (∀ i, ¬ Over L i) → Inv L a w.drew)
    (hend : ∀ L a w, Inv L a w → (∀ i, i < ops.size → Over L i) → Q .normal a w)
    (hstep : ∀ (i : Nat) (o : Oper) (L : Array Bool) (a : Act) (w : World), ops[i]? = some o → i < L.size → Inv L a w → ¬ Over L i → (∀ e ∈ o.after, Region.binds .any e = true → Over L e.on) →
      if Region.wanted o (yielded ops a.tmps) = true then o.wp P a w (fun a' w' => Inv (L.setIfInBounds i true) a' w') Q else Inv (L.setIfInBounds i true) (a.put o.dst undef) w) :
    (Code.region id ops true).wp P Q a w := by
  refine wp_region_any hm ?_
  refine wpAny_inv Inv (fun i o ho e he hb => ?_) hend hstep _ _ _ _ (by simp) (by simp) (h0 _ fun i h => ?_)
  · have hi := (Array.getElem?_eq_some_iff.1 ho).1
    have := List.all_eq_true.1 hback i (by simp [hi])
    rw [ho] at this
    simp only [Option.map_some, Option.getD_some] at this
    have := Array.all_eq_true_iff_forall_mem.1 this e he
    simpa [hb] using this
  · have := over_lt h
    simp at this
    simp [Over, this] at h
end Go.Proofs.Ytbeglemohfbdfaa
