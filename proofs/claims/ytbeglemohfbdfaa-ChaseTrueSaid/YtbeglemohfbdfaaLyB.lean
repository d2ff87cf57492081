/- ChaseTrue's own function made: what is kept while it makes a chase. Conditions: sizes. -/
import Derived.Test.YtbeglemohfbdfaaLyA
import Derived.Deep.AppendLies
namespace Go.Proofs.Ytbeglemohfbdfaa
open Go.RowKit

/-- The array of v lies behind some block, and is not that of x. -/
def Aprt (base : Nat) (w : World) (v x : Value) : Prop := ∀ b, v.ownBlock = some b → base ≤ b ∧ b < w.heap.size ∧ x.ownBlock ≠ some b
theorem Aprt.size {base : Nat} {w w' : World} {v x : Value} (h : Aprt base w v x) (hs : w.heap.size ≤ w'.heap.size) : Aprt base w' v x := fun b hb => ⟨(h b hb).1, Nat.lt_of_lt_of_le (h b hb).2.1 hs, (h b hb).2.2⟩
theorem Aprt.moves {base : Nat} {w w' : World} {v x x' : Value} (h : Aprt base w v x) (hm : Moves w x x') (hs : w.heap.size ≤ w'.heap.size) : Aprt base w' v x' := fun b hb => by
  obtain ⟨h1, h2, h3⟩ := h b hb
  refine ⟨h1, by omega, fun e => ?_⟩
  rcases hm with hm | hm
  · exact h3 (by rw [← hm]; exact e)
  · have := hm b e; omega
theorem Aprt.ne {base k : Nat} {w : World} {v x : Value} (h : Aprt base w v x) (hk : k < base) : v.ownBlock ≠ some k := fun e => by
  have := (h k e).1
  omega
/-- What stands while sheets are made: the race, the sheets, and how many errors each has. -/
def MInv (w : World) (base : Nat) (rv : Value) (r : List Int) (cv : Value) (vs : List Value) (ss : List (List Int)) (ev : Value) (es : List Int) : Prop :=
  IsInts w rv r ∧ Aprt base w rv cv ∧ Aprt base w rv ev ∧ Own w base 40 cv vs ∧ Rows2 w cv vs ss ∧ Own w base 3 ev (es.map (Value.int .i64)) ∧ (∀ b, cv.ownBlock = some b → ev.ownBlock ≠ some b) ∧ ∀ v ∈ vs, Aprt base w v ev ∧ Aprt base w v cv
theorem MInv.by {w w' : World} {base : Nat} {rv cv ev : Value} {r es : List Int} {vs : List Value} {ss : List (List Int)} (h : MInv w base rv r cv vs ss ev es) (row : Option Nat) (hg : w.grownBy w' row) (hk : ∀ k, row = some k → k < base) : MInv w' base rv r cv vs ss ev es := by
  obtain ⟨h1, h2, h3, h4, h5, h6, h7, h8⟩ := h
  have key : ∀ {v x : Value}, Aprt base w v x → v.ownBlock = none ∨ v.ownBlock ≠ row := fun {v x} ha => by
    cases hv : v.ownBlock with
    | none => exact .inl rfl
    | some b =>
      refine .inr fun e => ?_
      have h1 := hk b e.symm
      have h2 := (ha b hv).1
      omega
  have own : ∀ {E : TypeId} {v : Value} {us : List Value}, Own w base E v us → v.ownBlock = none ∨ v.ownBlock ≠ row := fun {E v us} ho => by
    cases hv : v.ownBlock with
    | none => exact .inl rfl
    | some b =>
      refine .inr fun e => ?_
      have h1 := hk b e.symm
      have h2 := ho.base b hv
      omega
  have ints : ∀ {v x : Value} {l : List Int}, Aprt base w v x → IsInts w v l → IsInts w' v l := fun {v x l} ha hi => by
    by_cases hl : l = []
    · exact hi.kept hg (.inl hl)
    · refine hi.kept hg (.inr fun e => ?_)
      obtain ⟨b, hb, _⟩ := hi.lt hl
      have h1 := hk b (by rw [← e]; exact hb)
      have h2 := (ha b hb).1
      omega
  refine ⟨ints h2 h1, h2.size hg.size, h3.size hg.size, h4.kept hg (own h4), ⟨h5.1, fun i v l hv hl => ?_⟩, h6.kept hg (own h6), h7, fun v hv => ⟨(h8 v hv).1.size hg.size, (h8 v hv).2.size hg.size⟩⟩
  obtain ⟨k1, k2⟩ := h5.2 i v l hv hl
  exact ⟨ints (h8 v (List.mem_of_getElem? hv)).1 k1, k2⟩
theorem MInv.grow {w w' : World} {base : Nat} {rv cv ev : Value} {r es : List Int} {vs : List Value} {ss : List (List Int)} (h : MInv w base rv r cv vs ss ev es) (hg : Grow w w') : MInv w' base rv r cv vs ss ev es :=
  h.by none (hg.grownBy none) (fun _ hk => nomatch hk)
theorem MInv.old {w w' : World} {base k : Nat} {rv cv ev : Value} {r es : List Int} {vs : List Value} {ss : List (List Int)} (h : MInv w base rv r cv vs ss ev es) (hg : w.grownBy w' (some k)) (hk : k < base) : MInv w' base rv r cv vs ss ev es :=
  h.by (some k) hg (fun i hi => by injection hi with hi; omega)
theorem ints_aprt {base : Nat} {w w' : World} {v x : Value} {l : List Int} (hi : IsInts w v l) (ha : Aprt base w v x) (hg : w.grownBy w' x.ownBlock) : IsInts w' v l := by
  by_cases hl : l = []
  · exact hi.kept hg (.inl hl)
  · refine hi.kept hg (.inr fun e => ?_)
    obtain ⟨b, hb, _⟩ := hi.lt hl
    exact (ha b hb).2.2 (by rw [← e]; exact hb)
theorem MInv.push1 {w w' : World} {base : Nat} {rv cv cv' ev sv : Value} {r es s : List Int} {vs : List Value} {ss : List (List Int)} (h : MInv w base rv r cv vs ss ev es) (hi : IsInts w sv s) (a1 : Aprt base w sv cv) (a2 : Aprt base w sv ev)
    (hg : w.grownBy w' cv.ownBlock) (hm : Moves w cv cv') (ho : Own w' base 40 cv' (vs ++ [sv])) : MInv w' base rv r cv' (vs ++ [sv]) (ss ++ [s]) ev es := by
  obtain ⟨h1, h2, h3, h4, h5, h6, h7, h8⟩ := h
  have hev : ev.ownBlock = none ∨ ev.ownBlock ≠ cv.ownBlock := by
    cases hv : cv.ownBlock with
    | none => cases ev.ownBlock <;> simp
    | some b => exact .inr (h7 b hv)
  have h7' : ∀ b, cv'.ownBlock = some b → ev.ownBlock ≠ some b := fun b hb e => by
    rcases hm with hm | hm
    · exact h7 b (by rw [← hm]; exact hb) e
    · have k1 := hm b hb
      have k2 := (h6.lt b e).2
      omega
  have hsv : s = [] ∨ sv.ownBlock ≠ cv.ownBlock := by
    by_cases hs : s = []
    · exact .inl hs
    · refine .inr fun e => ?_
      obtain ⟨b, hb, _⟩ := hi.lt hs
      exact (a1 b hb).2.2 (by rw [← e]; exact hb)
  have hsv' : s = [] ∨ sv.ownBlock ≠ cv'.ownBlock := by
    by_cases hs : s = []
    · exact .inl hs
    · refine .inr fun e => ?_
      obtain ⟨b, hb, _⟩ := hi.lt hs
      exact ((a1.moves (w' := w') hm hg.size) b hb).2.2 (by rw [← e]; exact hb)
  refine ⟨ints_aprt h1 h2 hg, h2.moves hm hg.size, h3.size hg.size, ho, (h5.kept hg hm).snoc (hi.kept hg hsv) hsv', h6.kept hg hev, h7', fun v hv => ?_⟩
  rcases List.mem_append.1 hv with hv | hv
  · exact ⟨(h8 v hv).1.size hg.size, (h8 v hv).2.moves hm hg.size⟩
  · rw [List.mem_singleton.1 hv]
    exact ⟨a2.size hg.size, a1.moves hm hg.size⟩
theorem MInv.push2 {w w' : World} {base : Nat} {rv cv ev ev' : Value} {r es es' : List Int} {vs : List Value} {ss : List (List Int)} (h : MInv w base rv r cv vs ss ev es)
    (hg : w.grownBy w' ev.ownBlock) (hm : Moves w ev ev') (ho : Own w' base 3 ev' (es'.map (Value.int .i64))) : MInv w' base rv r cv vs ss ev' es' := by
  obtain ⟨h1, h2, h3, h4, h5, h6, h7, h8⟩ := h
  have hcv : cv.ownBlock = none ∨ cv.ownBlock ≠ ev.ownBlock := by
    cases hv : cv.ownBlock with
    | none => exact .inl rfl
    | some b => exact .inr fun e => h7 b hv e.symm
  refine ⟨ints_aprt h1 h3 hg, h2.size hg.size, h3.moves hm hg.size, h4.kept hg hcv, ⟨h5.1, fun i v l hv hl => ?_⟩, ho, fun b hb e => ?_, fun v hv => ⟨(h8 v hv).1.moves hm hg.size, (h8 v hv).2.size hg.size⟩⟩
  · obtain ⟨k1, k2⟩ := h5.2 i v l hv hl
    exact ⟨ints_aprt k1 (h8 v (List.mem_of_getElem? hv)).1 hg, k2⟩
  · rcases hm with hm | hm
    · exact h7 b hb (by rw [← hm]; exact e)
    · have k1 := hm b e
      have k2 := (h4.lt b hb).2
      omega
theorem aprtOf {w : World} {base n : Nat} {E : TypeId} {v x : Value} {us : List Value} (hv : Own w n E v us) (hb : base ≤ n) (hx : ∀ b, x.ownBlock = some b → b < n) : Aprt base w v x := fun b hb' => by
  obtain ⟨k1, k2⟩ := hv.lt b hb'
  exact ⟨by omega, k2, fun e => by have := hx b e; omega⟩
theorem byMarks {w w' : World} {r : Option Nat} {b o : Nat} (hg : w.grownBy w' r) (hb : b < w.heap.size) (hne : r ≠ some b) : w'.frozen? ⟨b, o, none⟩ = w.frozen? ⟨b, o, none⟩ :=
  hg.frozen_far ⟨b, o, none⟩ hb fun e => hne e.symm
/-- What stands of the number of draws and of the chase that is made. -/
def MS (w : World) (A C : Nat) (E F k : Int) (cv : Value) (V : World) : Prop :=
  w.grownBy V (some A) ∧ V.cell? ⟨A, 0, none⟩ = some (.int .i64 k) ∧ (∀ o, V.frozen? ⟨A, o, none⟩ = false) ∧ V.cell? ⟨C, 0, none⟩ = some (.int .i64 E) ∧ V.cell? ⟨C, 1, none⟩ = some (.int .i64 F) ∧ V.cell? ⟨C, 2, none⟩ = some cv ∧ ∀ o, V.frozen? ⟨C, o, none⟩ = false
theorem MS.step {w V V' : World} {A C : Nat} {E F k : Int} {cv : Value} {row : Option Nat} (h : MS w A C E F k cv V) (hg : V.grownBy V' row) (hr : ∀ j, row = some j → C + 1 ≤ j) (hC : w.heap.size ≤ C) (hA : A < C) : MS w A C E F k cv V' := by
  obtain ⟨h1, h2, h3, h4, h5, h6, h7⟩ := h
  have nA : row ≠ some A := fun e => by have := hr A e; omega
  have nC : row ≠ some C := fun e => by have := hr C e; omega
  exact ⟨h1.andThen hg fun j hj => .inl (by have := hr j hj; omega), byCell1 hg h2 nA, fun o => (byMarks hg (lt_of_cell h2) nA).trans (h3 o), byCell1 hg h4 nC, byCell1 hg h5 nC, byCell1 hg h6 nC, fun o => (byMarks hg (lt_of_cell h4) nC).trans (h7 o)⟩
theorem MS.grow {w V V' : World} {A C : Nat} {E F k : Int} {cv : Value} (h : MS w A C E F k cv V) (hg : Grow V V') (hC : w.heap.size ≤ C) (hA : A < C) : MS w A C E F k cv V' :=
  h.step (hg.grownBy none) (fun _ hj => nomatch hj) hC hA
theorem MS.draw {w V V' : World} {A C : Nat} {E F k k' : Int} {cv : Value} (h : MS w A C E F k cv V) (hg : V.grownBy V' (some A)) (hc : V'.cell? ⟨A, 0, none⟩ = some (.int .i64 k')) (hf : ∀ o, V'.frozen? ⟨A, o, none⟩ = false) (hA : A < C) : MS w A C E F k' cv V' := by
  obtain ⟨h1, h2, h3, h4, h5, h6, h7⟩ := h
  have nC : some A ≠ some C := fun e => by injection e with e; omega
  exact ⟨h1.andThen hg fun j hj => .inr hj, hc, hf, byCell1 hg h4 nC, byCell1 hg h5 nC, byCell1 hg h6 nC, fun o => (byMarks hg (lt_of_cell h4) nC).trans (h7 o)⟩
theorem MS.store0 {w V : World} {A C : Nat} {E E' F k : Int} {cv : Value} (h : MS w A C E F k cv V) (hC : w.heap.size ≤ C) (hA : A < C) : MS w A C E' F k cv (V.setCell ⟨C, 0, none⟩ (.int .i64 E')) := by
  obtain ⟨h1, h2, h3, h4, h5, h6, h7⟩ := h
  have nA : some C ≠ some A := fun e => by injection e with e; omega
  have hg := bySet V C 0 (.int .i64 E')
  exact ⟨h1.andThen hg fun j hj => .inl (by injection hj with hj; omega), byCell1 hg h2 nA, fun o => by rw [World.frozen?_setCell]; exact h3 o, World.cell?_setCell_same' _ _ _ (by rw [h4]; rfl), by rw [World.cell?_setCell_other _ _ _ _ (by simp)]; exact h5, by rw [World.cell?_setCell_other _ _ _ _ (by simp)]; exact h6, fun o => by rw [World.frozen?_setCell]; exact h7 o⟩
theorem MS.store1 {w V : World} {A C : Nat} {E F F' k : Int} {cv : Value} (h : MS w A C E F k cv V) (hC : w.heap.size ≤ C) (hA : A < C) : MS w A C E F' k cv (V.setCell ⟨C, 1, none⟩ (.int .i64 F')) := by
  obtain ⟨h1, h2, h3, h4, h5, h6, h7⟩ := h
  have nA : some C ≠ some A := fun e => by injection e with e; omega
  have hg := bySet V C 1 (.int .i64 F')
  exact ⟨h1.andThen hg fun j hj => .inl (by injection hj with hj; omega), byCell1 hg h2 nA, fun o => by rw [World.frozen?_setCell]; exact h3 o, by rw [World.cell?_setCell_other _ _ _ _ (by simp)]; exact h4, World.cell?_setCell_same' _ _ _ (by rw [h5]; rfl), by rw [World.cell?_setCell_other _ _ _ _ (by simp)]; exact h6, fun o => by rw [World.frozen?_setCell]; exact h7 o⟩
theorem MS.store2 {w V : World} {A C : Nat} {E F k : Int} {cv cv' : Value} (h : MS w A C E F k cv V) (hC : w.heap.size ≤ C) (hA : A < C) : MS w A C E F k cv' (V.setCell ⟨C, 2, none⟩ cv') := by
  obtain ⟨h1, h2, h3, h4, h5, h6, h7⟩ := h
  have nA : some C ≠ some A := fun e => by injection e with e; omega
  have hg := bySet V C 2 cv'
  exact ⟨h1.andThen hg fun j hj => .inl (by injection hj with hj; omega), byCell1 hg h2 nA, fun o => by rw [World.frozen?_setCell]; exact h3 o, by rw [World.cell?_setCell_other _ _ _ _ (by simp)]; exact h4, by rw [World.cell?_setCell_other _ _ _ _ (by simp)]; exact h5, World.cell?_setCell_same' _ _ _ (by rw [h6]; rfl), fun o => by rw [World.frozen?_setCell]; exact h7 o⟩
/-- Watches that are right of some times. -/
def RT (E : Int) (ss : List (List Int)) (ts : List Int) : Prop :=
  ∀ i l, ss[i]? = some l → (1 ≤ l.length ∧ l.length ≤ 3) ∧ (0 ≤ tm ts i ∧ tm ts i ≤ 170) ∧ ∀ n ∈ l, (0 ≤ n ∧ n ≤ 200) ∧ n - E ≤ tm ts i ∧ tm ts i ≤ n + E
theorem RT.nil (E : Int) : RT E [] [] := fun i l h => by simp at h
theorem RT.snoc {E t : Int} {ss : List (List Int)} {ts l : List Int} (h : RT E ss ts) (hl : ts.length = ss.length) (h1 : 1 ≤ l.length ∧ l.length ≤ 3) (h2 : 0 ≤ t ∧ t ≤ 170) (h3 : ∀ n ∈ l, (0 ≤ n ∧ n ≤ 200) ∧ n - E ≤ t ∧ t ≤ n + E) : RT E (ss ++ [l]) (ts ++ [t]) := by
  intro i z hz
  have hi := (List.getElem?_eq_some_iff.1 hz).1
  simp at hi
  by_cases e : i < ss.length
  · have et : tm (ts ++ [t]) i = tm ts i := by unfold tm; rw [List.getElem?_append_left (by omega)]
    rw [List.getElem?_append_left e] at hz
    rw [et]
    exact h i z hz
  · obtain rfl : i = ss.length := by omega
    have et : tm (ts ++ [t]) ss.length = t := by unfold tm; rw [List.getElem?_append_right (by omega), hl]; simp
    rw [List.getElem?_append_right (by omega)] at hz
    simp at hz
    subst hz
    rw [et]
    exact ⟨h1, h2, h3⟩
theorem RT.right {E F : Int} {ss : List (List Int)} {ts : List Int} (h : RT E ss ts) (hE : 0 ≤ E ∧ E ≤ 3) (hn : 1 ≤ ss.length ∧ ss.length ≤ 6) (hF : 1 ≤ F ∧ F ≤ ss.length) (hl : ts.length = ss.length) : Right7 E F ss ts := ⟨hE, hn, hF, hl, h⟩
theorem Aprt.ofOwn {w : World} {base : Nat} {E : TypeId} {v x : Value} {us : List Value} (h : Own w base E v us) (hx : x.ownBlock = none) : Aprt base w v x := fun b hb => ⟨(h.lt b hb).1, (h.lt b hb).2, by rw [hx]; simp⟩
theorem MInv.start {w : World} {base : Nat} {rv : Value} {r : List Int} (h : Own w base 3 rv (r.map (Value.int .i64))) (hs : r.length ≤ 1000) : MInv w base rv r (.slice none 0 0) [] [] (.slice none 0 0) [] :=
  ⟨h.ints (by omega), Aprt.ofOwn h rfl, Aprt.ofOwn h rfl, Own.nil _ _ _, Rows2.nil _ _, Own.nil _ _ _, fun b hb => by simp [Value.ownBlock] at hb, fun v hv => by cases hv⟩
/-- What made returns. -/
def MadePost (w : World) (A : Nat) (e : Ending) (w' : World) : Prop :=
  ∃ (E F : Int) (cv tv : Value) (ss : List (List Int)) (ts : List Int), e = .returned (.tuple #[.agg #[.int .i64 E, .int .i64 F, cv], tv]) ∧ w.grownBy w' (some A) ∧ IsSheets w' cv ss ∧ IsInts w' tv ts ∧ Right7 E F ss ts
end Go.Proofs.Ytbeglemohfbdfaa
