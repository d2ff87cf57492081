/- The program of layer 1: what all races need: keys of two numbers, the method of each passing, sets of races in maps. Conditions: sizes. -/
import Derived.Test.YteijilbdllpbcaaPgF
import Derived.Test.YteijilbdllpbcaaPlA
import Derived.Laws.StructEq
import Derived.Deep.LoopGhost
namespace Go.Proofs.Yteijilbdllpbcaa
open Go.RowKit Go.Instr

def restV (p : Nat × Nat) : Value := .agg #[.int .i64 p.1, .int .i64 p.2]
theorem rest_fields : (Try.prog.fieldsOf 121).toList.map (fun f => (f.type, f.offset, f.name)) = [(3, 0, "a"), (3, 1, "b")] := by kernel_rfl
theorem rest_eql (x y : Nat × Nat) (w : World) : (Op.equal 121 (restV x) (restV y)).run Try.prog w = .ok (decide (x = y)) w := by
  have hf := rest_fields
  rw [show Op.equal 121 (restV x) (restV y) = Op.equalIn (9999 + 1) 121 (.agg #[.int .i64 x.1, .int .i64 x.2]) (.agg #[.int .i64 y.1, .int .i64 y.2]) from rfl, run_equalIn_struct w 9999 121 _ _ (by kernel_rfl) (by kernel_rfl)]
  have h0 : ∀ (a b : Int) (w : World), (part 3 #[.int .i64 a, .int .i64 b] 0).run Try.prog w = .ok (.int .i64 a) w := fun _ _ _ => by kernel_rfl
  have h1 : ∀ (a b : Int) (w : World), (part 3 #[.int .i64 a, .int .i64 b] 1).run Try.prog w = .ok (.int .i64 b) w := fun _ _ _ => by kernel_rfl
  have hu : Try.prog.underlying 3 = some (.int .i64) := by kernel_rfl
  obtain ⟨f, g, hl⟩ : ∃ f g, (Try.prog.fieldsOf 121).toList = [f, g] := by
    generalize (Try.prog.fieldsOf 121).toList = L at hf
    rcases L with _ | ⟨f, _ | ⟨g, _ | ⟨_, _⟩⟩⟩
    · simp at hf
    · simp at hf
    · exact ⟨f, g, rfl⟩
    · simp at hf
  rw [hl] at hf ⊢
  simp only [List.map_cons, List.map_nil, List.cons.injEq, Prod.mk.injEq, and_true] at hf
  obtain ⟨⟨f1, f2, f3⟩, g1, g2, g3⟩ := hf
  simp only [Op.eqFields, f1, f2, f3, g1, g2, g3, Sem.run_bind, Sem.run_ite, h0, h1, Result.andThen, run_equalIn_int _ 9998 _ _ _ _ _ hu]
  obtain ⟨a, b⟩ := x
  obtain ⟨c, d⟩ := y
  by_cases e1 : a = c
  · by_cases e2 : b = d
    · simp [e1, e2, Sem.run_pure]
    · have e3 : ((b : Int) == (d : Int)) = false := by rw [beq_eq_false_iff_ne]; omega
      simp [e1, e2, e3, Sem.run_pure]
  · have e3 : ((a : Int) == (c : Int)) = false := by rw [beq_eq_false_iff_ne]; omega
    simp [e1, e3, Sem.run_pure]
theorem keyOk_rest : KeyOk Try.prog 121 restV where
  und := ⟨_, (by kernel_rfl : Try.prog.underlying 121 = some (.struct (Try.prog.fieldsOf 121)))⟩
  check := fun e x w => by cases e <;> kernel_rfl
  eql := rest_eql
  now := fun d hd x y => by
    rw [(by kernel_rfl : Try.prog.underlying 121 = some (.struct (Try.prog.fieldsOf 121)))] at hd; cases hd; left; rfl
  bits := fun x => by unfold restV sameBits; simp [sameBits]
theorem byHot {w w' : World} {r : Option Nat} (hg : w.grownBy w' r) {b : Nat} (hb : b < w.heap.size) (hne : r ≠ some b) (o : Nat) : w'.frozen? ⟨b, o, none⟩ = w.frozen? ⟨b, o, none⟩ := by
  unfold World.frozen?
  rw [hg.block b hb (fun e => hne e.symm)]
theorem keyOk_race : KeyOk Try.prog 79 Value.string := keyOk_string (by kernel_rfl)
theorem und_set : Try.prog.underlying 122 = some (.map 79 4) := by kernel_rfl
theorem und_seen : Try.prog.underlying 118 = some (.map 121 124) := by kernel_rfl
section
variable {κ : Type} {ke : κ → Value}
theorem heap_setCell_map {w : World} {k : Nat} {es : Array MapEntry} {c : Nat} (h : w.heap[k]? = some (.map es c)) (a : Addr) (v : Value) : (w.setCell a v).heap[k]? = some (.map es c) := by
  by_cases e : k = a.block
  · subst e
    simp [World.setCell, Array.getElem?_modify, h]
  · rw [Below.heap_setCell _ _ _ _ e]; exact h
theorem MapIs.setCell {w : World} {b : Nat} {l : List (κ × Value)} (h : MapIs w b ke l) (a : Addr) (v : Value) : MapIs (w.setCell a v) b ke l := by
  obtain ⟨es, c, h1, r⟩ := h
  exact ⟨es, c, heap_setCell_map h1 a v, r⟩
theorem MapIs.apart {w : World} {b g o : Nat} {l : List (κ × Value)} {v : Value} (h : MapIs w b ke l) (hc : w.cell? ⟨g, o, none⟩ = some v) : b ≠ g := by
  rintro rfl
  obtain ⟨es, c, h1, r⟩ := h
  simp [World.cell?, h1] at hc
theorem keys_put [DecidableEq κ] (l : List (κ × Value)) (x y : κ) (v : Value) : y ∈ (putKey l x v).map (·.1) ↔ y ∈ l.map (·.1) ∨ y = x := by
  unfold putKey
  cases hl : lookIx x l 0 with
  | none => simp
  | some q =>
    obtain ⟨i, u⟩ := q
    obtain ⟨_, hi⟩ := lookIx_some hl
    rw [Nat.sub_zero] at hi
    have hk : (l.modify i fun p => (p.1, v)).map (·.1) = l.map (·.1) := by
      apply List.ext_getElem?
      intro j
      simp only [List.getElem?_map, List.getElem?_modify]
      by_cases hij : i = j
      · subst hij; cases l[i]? <;> simp
      · simp [hij]
    simp only [hk]
    constructor
    · exact .inl
    · rintro (h | rfl)
      · exact h
      · exact List.mem_map.2 ⟨_, List.mem_of_getElem? hi, rfl⟩
end
/-- Block k is a map whose keys are just these races. -/
def SetIs (w : World) (k : Nat) (S : List UInt8 → Prop) : Prop := ∃ l, MapIs w k Value.string l ∧ ∀ t : ByteArray, t ∈ l.map (·.1) ↔ S t.data.toList
theorem SetIs.of_block {w w' : World} {k : Nat} {S : List UInt8 → Prop} (h : SetIs w k S) (hb : w'.heap[k]? = w.heap[k]?) : SetIs w' k S := by
  obtain ⟨l, h1, h2⟩ := h; exact ⟨l, h1.of_block hb, h2⟩
theorem SetIs.lt {w : World} {k : Nat} {S : List UInt8 → Prop} (h : SetIs w k S) : k < w.heap.size := by obtain ⟨l, h1, h2⟩ := h; exact h1.lt
theorem SetIs.kept {w w' : World} {k : Nat} {S : List UInt8 → Prop} {r : Option Nat} (h : SetIs w k S) (hg : w.grownBy w' r) (hne : some k ≠ r) : SetIs w' k S := by
  obtain ⟨l, h1, h2⟩ := h; exact ⟨l, h1.kept hg hne, h2⟩
theorem SetIs.grow {w w' : World} {k : Nat} {S : List UInt8 → Prop} (h : SetIs w k S) (hg : Grow w w') : SetIs w' k S := h.kept (hg.grownBy none) (by simp)
theorem SetIs.setCell {w : World} {k : Nat} {S : List UInt8 → Prop} (h : SetIs w k S) (a : Addr) (v : Value) : SetIs (w.setCell a v) k S := by
  obtain ⟨l, h1, h2⟩ := h; exact ⟨l, h1.setCell a v, h2⟩
theorem SetIs.iff {w : World} {k : Nat} {S S' : List UInt8 → Prop} (h : SetIs w k S) (hs : ∀ t, S t ↔ S' t) : SetIs w k S' := by
  obtain ⟨l, h1, h2⟩ := h; exact ⟨l, h1, fun t => (h2 t).trans (hs _)⟩
theorem SetIs.apart {w : World} {k g o : Nat} {S : List UInt8 → Prop} {v : Value} (h : SetIs w k S) (hc : w.cell? ⟨g, o, none⟩ = some v) : k ≠ g := by
  obtain ⟨l, h1, h2⟩ := h; exact h1.apart hc
/-- What is known of two sheets: the fewest errors, and the races that have so few; the map is none of some blocks. -/
def KnownV (w : World) (X : Nat → Prop) (A B : List UInt8) (v : Value) : Prop :=
  ∃ k, v = .agg #[.int .i64 (dist A B), .map (some k)] ∧ ¬ X k ∧ SetIs w k (fun t => IsT t A B)
/-- The map of all that is known so far. -/
def SeenOk (w : World) (m : Nat) (X : Nat → Prop) (a b : List UInt8) : Prop :=
  X m ∧ ∃ sl, MapIs w m restV sl ∧ ∀ p ∈ sl, p.1.1 ≤ a.length ∧ p.1.2 ≤ b.length ∧ KnownV w X (a.drop p.1.1) (b.drop p.1.2) p.2
theorem KnownV.kept {w w' : World} {X : Nat → Prop} {A B : List UInt8} {v : Value} {r : Nat} (h : KnownV w X A B v) (hg : w.grownBy w' (some r)) (hr : X r ∨ w.heap.size ≤ r) : KnownV w' X A B v := by
  obtain ⟨k, h1, h2, h3⟩ := h
  refine ⟨k, h1, h2, h3.kept hg fun e => ?_⟩
  cases e
  rcases hr with hr | hr
  · exact h2 hr
  · have := h3.lt; omega
theorem KnownV.setCell {w : World} {X : Nat → Prop} {A B : List UInt8} {v : Value} (h : KnownV w X A B v) (a : Addr) (u : Value) : KnownV (w.setCell a u) X A B v := by
  obtain ⟨k, h1, h2, h3⟩ := h; exact ⟨k, h1, h2, h3.setCell a u⟩
theorem KnownV.grow {w w' : World} {X : Nat → Prop} {A B : List UInt8} {v : Value} (h : KnownV w X A B v) (hg : Grow w w') : KnownV w' X A B v := by
  obtain ⟨k, h1, h2, h3⟩ := h; exact ⟨k, h1, h2, h3.grow hg⟩
theorem KnownV.less {w : World} {X X' : Nat → Prop} {A B : List UInt8} {v : Value} (h : KnownV w X A B v) (hx : ∀ k, X' k → X k) : KnownV w X' A B v := by
  obtain ⟨k, h1, h2, h3⟩ := h; exact ⟨k, h1, fun e => h2 (hx _ e), h3⟩
theorem SeenOk.kept {w w' : World} {m r : Nat} {X : Nat → Prop} {a b : List UInt8} (h : SeenOk w m X a b) (hg : w.grownBy w' (some r)) (hr : (X r ∧ m ≠ r) ∨ w.heap.size ≤ r) : SeenOk w' m X a b := by
  obtain ⟨hm, sl, h1, h2⟩ := h
  have hmr : m ≠ r := by
    rcases hr with hr | hr
    · exact hr.2
    · have := h1.lt; omega
  refine ⟨hm, sl, h1.kept hg (by simpa using hmr), fun p hp => ⟨(h2 p hp).1, (h2 p hp).2.1, (h2 p hp).2.2.kept hg ?_⟩⟩
  rcases hr with hr | hr
  · exact .inl hr.1
  · exact .inr hr
theorem SeenOk.setCell {w : World} {m : Nat} {X : Nat → Prop} {a b : List UInt8} (h : SeenOk w m X a b) (c : Addr) (u : Value) : SeenOk (w.setCell c u) m X a b := by
  obtain ⟨hm, sl, h1, h2⟩ := h
  exact ⟨hm, sl, h1.setCell c u, fun p hp => ⟨(h2 p hp).1, (h2 p hp).2.1, (h2 p hp).2.2.setCell c u⟩⟩
theorem SeenOk.grow {w w' : World} {m : Nat} {X : Nat → Prop} {a b : List UInt8} (h : SeenOk w m X a b) (hg : Grow w w') : SeenOk w' m X a b := by
  obtain ⟨hm, sl, h1, h2⟩ := h
  exact ⟨hm, sl, h1.grow hg, fun p hp => ⟨(h2 p hp).1, (h2 p hp).2.1, (h2 p hp).2.2.grow hg⟩⟩
theorem SeenOk.less {w : World} {m : Nat} {X X' : Nat → Prop} {a b : List UInt8} (h : SeenOk w m X a b) (hx : ∀ k, X' k → X k) (hm : X' m) : SeenOk w m X' a b := by
  obtain ⟨_, sl, h1, h2⟩ := h
  exact ⟨hm, sl, h1, fun p hp => ⟨(h2 p hp).1, (h2 p hp).2.1, (h2 p hp).2.2.less hx⟩⟩
theorem mem_put {κ : Type} [DecidableEq κ] {l : List (κ × Value)} {x : κ} {v : Value} {p : κ × Value} (h : p ∈ putKey l x v) : p ∈ l ∨ p = (x, v) := by
  unfold putKey at h
  cases hl : lookIx x l 0 with
  | none => rw [hl] at h; simpa using h
  | some q =>
    obtain ⟨i, u⟩ := q
    rw [hl] at h
    obtain ⟨_, hi⟩ := lookIx_some hl
    rw [Nat.sub_zero] at hi
    obtain ⟨j, hj⟩ := List.mem_iff_getElem?.1 h
    rw [List.getElem?_modify] at hj
    by_cases e : i = j
    · subst e
      rw [hi] at hj
      simp at hj
      exact .inr hj.symm
    · simp [e] at hj
      exact .inl (List.mem_of_getElem? hj)
theorem SeenOk.put {w w' : World} {m : Nat} {X : Nat → Prop} {a b : List UInt8} {sl : List ((Nat × Nat) × Value)} {i j : Nat} {v : Value} (hm : X m) (h2 : ∀ p ∈ sl, p.1.1 ≤ a.length ∧ p.1.2 ≤ b.length ∧ KnownV w X (a.drop p.1.1) (b.drop p.1.2) p.2)
    (hp : MapIs w' m restV (putKey sl (i, j) v)) (hg : w.grownBy w' (some m)) (hi : i ≤ a.length) (hj : j ≤ b.length) (hv : KnownV w X (a.drop i) (b.drop j) v) : SeenOk w' m X a b := by
  refine ⟨hm, _, hp, fun p hpm => ?_⟩
  rcases mem_put hpm with h | rfl
  · exact ⟨(h2 p h).1, (h2 p h).2.1, (h2 p h).2.2.kept hg (.inl hm)⟩
  · exact ⟨hi, hj, hv.kept hg (.inl hm)⟩
/-- What a call of 'on' comes to, by the plain text. -/
def MvOk (a b : List UInt8) (i j q : Nat) (i' j' : Int) (who : List Int) (n : Int) (is : Bool) : Prop :=
  (is = false ∧ mvs (a.drop i) (b.drop j) q = none) ∨
  (is = true ∧ ∃ (i1 j1 : Nat) (w8 : List UInt8) (n1 : Nat), i' = i1 ∧ j' = j1 ∧ who = w8.map (fun c => (c.toNat : Int)) ∧ n = n1 ∧ mvs (a.drop i) (b.drop j) q = some ((a.drop i1, b.drop j1), w8, n1) ∧
    i1 ≤ a.length ∧ j1 ≤ b.length ∧ i + j < i1 + j1 ∧ n1 ≤ 1)
def onF (q : Nat) : Nat := if q = 0 then 130 else if q = 1 then 132 else 133
theorem drop_cons (a : ByteArray) {i : Nat} (h : i < a.size) : a.data.toList.drop i = a[i] :: a.data.toList.drop (i + 1) := by
  have h' : i < a.data.toList.length := by rw [size_list]; exact h
  rw [List.drop_eq_getElem_cons h']
  rfl
theorem drop_nil (a : ByteArray) {i : Nat} (h : i = a.size) : a.data.toList.drop i = [] := by
  rw [List.drop_eq_nil_iff, size_list]; omega
theorem pmv (a b : ByteArray) (i j q : Nat) (hq : q < 3) (hsa : a.size ≤ 1000) (hsb : b.size ≤ 1000) (hi : i ≤ a.size) (hj : j ≤ b.size) :
    ∃ (i' j' : Int) (who : List Int) (n : Int) (is : Bool), MvOk a.data.toList b.data.toList i j q i' j' who n is ∧ ∀ (p : Nat) (w : World), w.cell? ⟨p, 0, none⟩ = some (.string a) → w.cell? ⟨p, 1, none⟩ = some (.string b) →
      Calls Try.prog (onF q) #[.agg #[], .pointer (some ⟨p, 0, none⟩), .agg #[.int .i64 i, .int .i64 j]] w (OnPost w i' j' who n is) := by
  have la := size_list a
  have lb := size_list b
  obtain rfl | rfl | rfl : q = 0 ∨ q = 1 ∨ q = 2 := by omega
  · by_cases h1 : i = a.size
    · exact ⟨i, j, [], 0, false, .inl ⟨rfl, by rw [drop_nil a h1]; rfl⟩, fun p w ha hb => pboth_noA a b p i j w ha hb h1⟩
    · by_cases h2 : j = b.size
      · exact ⟨i, j, [], 0, false, .inl ⟨rfl, by rw [drop_nil b h2, drop_cons a (by omega)]; rfl⟩, fun p w ha hb => pboth_noB a b p i j w ha hb (by omega) h2⟩
      · have h1' : i < a.size := by omega
        have h2' : j < b.size := by omega
        by_cases h3 : a[i].toNat = b[j].toNat
        · have h4 : a[i] = b[j] := UInt8.toNat_inj.1 h3
          refine ⟨(i : Int) + 1, (j : Int) + 1, [(a[i].toNat : Int)], 0, true, .inr ⟨rfl, i + 1, j + 1, [a[i]], 0, by simp, by simp, rfl, rfl, ?_, by omega, by omega, by omega, by omega⟩, fun p w ha hb => pboth_same a b p i j w ha hb hsa hsb h1' h2' h3⟩
          rw [drop_cons a h1', drop_cons b h2']
          simp [mvs, h4]
        · have h4 : ¬ a[i] = b[j] := fun e => h3 (by rw [e])
          refine ⟨(i : Int) + 1, (j : Int) + 1, [(a[i].toNat : Int), (b[j].toNat : Int)], 1, true, .inr ⟨rfl, i + 1, j + 1, [a[i], b[j]], 1, by simp, by simp, rfl, rfl, ?_, by omega, by omega, by omega, by omega⟩, fun p w ha hb => pboth_diff a b p i j w ha hb hsa hsb h1' h2' h3⟩
          rw [drop_cons a h1', drop_cons b h2']
          simp [mvs, h4]
  · by_cases h1 : i = a.size
    · exact ⟨i, j, [], 0, false, .inl ⟨rfl, by rw [drop_nil a h1]; rfl⟩, fun p w ha hb => pfirst_no a b p i j w ha hb h1⟩
    · have h1' : i < a.size := by omega
      refine ⟨(i : Int) + 1, j, [(a[i].toNat : Int)], 1, true, .inr ⟨rfl, i + 1, j, [a[i]], 1, by simp, by simp, rfl, rfl, ?_, by omega, by omega, by omega, by omega⟩, fun p w ha hb => pfirst_yes a b p i j w ha hb h1' hsa⟩
      rw [drop_cons a h1']
      simp [mvs]
  · by_cases h1 : j = b.size
    · exact ⟨i, j, [], 1, false, .inl ⟨rfl, by rw [drop_nil b h1]; rfl⟩, fun p w ha hb => psecond_no a b p i j w ha hb h1⟩
    · have h1' : j < b.size := by omega
      refine ⟨i, (j : Int) + 1, [(b[j].toNat : Int)], 1, true, .inr ⟨rfl, i, j + 1, [b[j]], 1, by simp, by simp, rfl, rfl, ?_, by omega, by omega, by omega, by omega⟩, fun p w ha hb => psecond_yes a b p i j w ha hb h1' hsb⟩
      rw [drop_cons b h1']
      simp [mvs]
/-- With one new block more to keep apart. -/
theorem SeenOk.more {w : World} {m r : Nat} {X : Nat → Prop} {a b : List UInt8} (h : SeenOk w m X a b) (hr : w.heap.size ≤ r) : SeenOk w m (fun k => X k ∨ k = r) a b := by
  obtain ⟨hm, sl, h1, h2⟩ := h
  refine ⟨.inl hm, sl, h1, fun p hp => ⟨(h2 p hp).1, (h2 p hp).2.1, ?_⟩⟩
  obtain ⟨k, k1, k2, k3⟩ := (h2 p hp).2.2
  refine ⟨k, k1, ?_, k3⟩
  rintro (e | e)
  · exact k2 e
  · have := k3.lt; omega
end Go.Proofs.Yteijilbdllpbcaa
namespace Go.Proofs.Yteijilbdllpbcaa
open Go.RowKit Go.Instr

def KnownPost (w : World) (m : Nat) (X : Nat → Prop) (a b A B : List UInt8) (e : Ending) (w' : World) : Prop :=
  ∃ v, e = .returned v ∧ KnownV w' X A B v ∧ SeenOk w' m X a b ∧ w.grownBy w' (some m)

theorem isT_nil (t : List UInt8) : IsT t [] [] ↔ t = [] := by
  cases t with
  | nil => simp [IsT]
  | cons c t =>
    simp only [IsT, reduceCtorEq, iff_false]
    rintro ⟨k, hk, nx, who, n, hm, _⟩
    obtain rfl | rfl | rfl : k = 0 ∨ k = 1 ∨ k = 2 := by omega
    all_goals simp [mvs] at hm
theorem bytes_nil (t : ByteArray) : t = ⟨#[]⟩ ↔ t.data.toList = [] := by
  obtain ⟨⟨l⟩⟩ := t
  simp
theorem setIs_end {w : World} {k : Nat} {v : Value} (h : MapIs w k Value.string (putKey [] ⟨#[]⟩ v)) : SetIs w k (fun t => IsT t [] []) :=
  ⟨_, h, fun t => by show _ ↔ IsT t.data.toList [] []; rw [keys_put, isT_nil, ← bytes_nil]; simp⟩
set_option maxRecDepth 100000 in
theorem praces1_end (a b : ByteArray) (i j cp cs co P m : Nat) (X : Nat → Prop) (w : World)
    (hp : w.cell? ⟨cp, 0, none⟩ = some (.pointer (some ⟨P, 0, none⟩))) (ha : w.cell? ⟨P, 0, none⟩ = some (.string a)) (hb : w.cell? ⟨P, 1, none⟩ = some (.string b))
    (hs : SeenOk w m X a.data.toList b.data.toList) (hX : ∀ k, X k → k < w.heap.size) (hi : i = a.size) (hj : j = b.size) :
    Calls Try.prog 90 #[.agg #[.int .i64 i, .int .i64 j], .pointer (some ⟨cp, 0, none⟩), .pointer (some ⟨cs, 0, none⟩), .pointer (some ⟨co, 0, none⟩)] w (KnownPost w m X a.data.toList b.data.toList (a.data.toList.drop i) (b.data.toList.drop j)) := by
  have hlt := lt_of_cell ha
  have hltp := lt_of_cell hp
  have Hi := Lib.hid hi
  have Hj := Lib.hid hj
  have heq : ∀ w, (binOp .eql 121 (.agg #[.int .i64 i, .int .i64 j]) (.agg #[.int .i64 a.size, .int .i64 b.size])).run Try.prog w = .ok (.bool true) w := fun w => by
    have := rest_eql (i, j) (a.size, b.size) w
    rw [run_eql_struct, show Op.equalIn 10000 121 (.agg #[.int .i64 i, .int .i64 j]) (.agg #[.int .i64 a.size, .int .i64 b.size]) = Op.equal 121 (restV (i, j)) (restV (a.size, b.size)) from rfl, this]
    simp [hi, hj, Result.andThen]
  clear hi hj
  go_enter Try.func90, Try.ntmps90
  go_wp2_with fail
  obtain ⟨W, hW⟩ : ∃ W, W = ((w.alloc (.cells #[.int .i64 i, .int .i64 j] 121)).alloc (.cells #[.int .i64 0, .map none] 124)) := ⟨_, rfl⟩
  have hgW : Grow w W := by rw [hW]; exact (((Grow.refl w).alloc _).alloc _)
  have hW00 : W.cell? ⟨w.heap.size, 0, none⟩ = some (.int .i64 i) := by rw [hW]; exact Grow.keepA (cell_new (by simp) rfl) _
  have hW01 : W.cell? ⟨w.heap.size, 1, none⟩ = some (.int .i64 j) := by rw [hW]; exact Grow.keepA (cell_new (by simp) rfl) _
  have hWf0 : ∀ o, W.frozen? ⟨w.heap.size, o, none⟩ = false := by intro o; rw [hW]; exact (((Grow.refl _).alloc _).marks _ _ (by simp <;> omega)).trans (hot_new (by simp))
  have hWl0 : w.heap.size < W.heap.size := by rw [hW]; simp; try omega
  have hW10 : W.cell? ⟨w.heap.size + 1, 0, none⟩ = some (.int .i64 0) := by rw [hW]; exact cell_new (by simp) rfl
  have hW11 : W.cell? ⟨w.heap.size + 1, 1, none⟩ = some (.map none) := by rw [hW]; exact cell_new (by simp) rfl
  have hWf1 : ∀ o, W.frozen? ⟨w.heap.size + 1, o, none⟩ = false := by intro o; rw [hW]; exact hot_new (by simp)
  have hWl1 : w.heap.size + 1 < W.heap.size := by rw [hW]; simp; try omega
  rw [← hW]
  clear hW
  have hWd : ∀ n, (W.drewN n).heap.size = W.heap.size := fun _ => rfl
  have hWq : ∀ n o b j, b < W.heap.size → ((W.drewN n).alloc o).cell? ⟨b, j, none⟩ = W.cell? ⟨b, j, none⟩ := cell_drewN_alloc W
  have hWr : ∀ n o b j, b < W.heap.size → ((W.drewN n).alloc o).frozen? ⟨b, j, none⟩ = W.frozen? ⟨b, j, none⟩ := hot_drewN_alloc W
  have hWb0 : w.heap.size ≤ w.heap.size := by omega
  have hWb1 : w.heap.size ≤ w.heap.size + 1 := by omega
  have hWn01 : w.heap.size ≠ w.heap.size + 1 := by omega
  have hWn10 : w.heap.size + 1 ≠ w.heap.size := by omega
  obtain ⟨W1, hWe1⟩ : ∃ g, w.heap.size + 1 = g := ⟨_, rfl⟩
  rw [hWe1] at hW10 hW11 hWf1 hWl1 hWb1 hWn10 hWn01
  (try rw [hWe1])
  have hWk1 := Lib.hid hWe1
  clear hWe1
  obtain ⟨W0, hWe0⟩ : ∃ g, w.heap.size = g := ⟨_, rfl⟩
  have hWb0 : w.heap.size ≤ W0 := by omega
  rw [hWe0] at hW00 hW01 hWf0 hWl0 hWn01 hWn10
  (try rw [hWe0])
  have hWk0 := Lib.hid hWe0
  clear hWe0
  have hWa := hgW.keeps ha
  have hWb := hgW.keeps hb
  have hWp := hgW.keeps hp
  go_step3
  go_wp2_with fail
  go_quiet (fail)
  obtain ⟨V, hV⟩ : ∃ V, V = W.drewN nq := ⟨_, rfl⟩
  have hgV : Grow W V := by rw [hV]; exact (Grow.refl W).drewN _
  rw [← hV]
  clear hV
  have hV10 := hgV.keeps hW10
  have hV11 := hgV.keeps hW11
  have hVf1 : ∀ o, V.frozen? ⟨W1, o, none⟩ = false := fun o => (hgV.marks _ _ hWl1).trans (hWf1 o)
  have hVl1 : W1 < V.heap.size := Nat.lt_of_lt_of_le hWl1 hgV.size
  have hmm := @run_makeMap Try.prog
  have hnew := MapIs.made V Value.string
  go_wp2_with (first | (refine wpl_put (ke := Value.string) rfl (.tmp 32) (.const (.string ⟨#[]⟩)) (.const (.bool true)) 122 (Or.inr rfl) 4 keyOk_race und_set V.heap.size [] ⟨#[]⟩ (.bool true) rfl rfl rfl hnew ?_; intro w1 hm1 hg1 hs1; have hf1 : ∀ o, w1.frozen? ⟨W1, o, none⟩ = false := fun o => (byHot hg1 (by simp; omega) (by intro e; injection e with e; omega) o).trans ((((Grow.refl V).alloc _).marks _ _ hVl1).trans (hVf1 o)); have hc0 : w1.cell? ⟨W1, 0, none⟩ = some (.int .i64 0) := byCell1 hg1 (((Grow.refl V).alloc _).keeps hV10) (by intro e; injection e with e; omega); have hc1 : w1.cell? ⟨W1, 1, none⟩ = some (.map none) := byCell1 hg1 (((Grow.refl V).alloc _).keeps hV11) (by intro e; injection e with e; omega)))
  rw [Exit.noGoto_ret]
  have hs2 := setIs_end hm1
  have hgX : w.grownBy ((w1.setCell ⟨W1, 0, none⟩ (.int .i64 0)).setCell ⟨W1, 1, none⟩ (.map (some V.heap.size))) (some m) := by
    have h1 := grownBy_below hg1 (B := w.heap.size) (by intro k hk; injection hk with hk; have := (hgW.trans hgV).size; omega) (by simp; have := (hgW.trans hgV).size; omega)
    have h2 : Grow w ((w1.setCell ⟨W1, 0, none⟩ (.int .i64 0)).setCell ⟨W1, 1, none⟩ (.map (some V.heap.size))) := ((Below.trans ((hgW.trans hgV).alloc _) h1).setCell (p := ⟨W1, 0, none⟩) hWb1 _).setCell (p := ⟨W1, 1, none⟩) hWb1 _
    exact h2.grownBy _
  refine bodyPost_ret (v := .agg #[.int .i64 0, .map (some V.heap.size)]) (by simp [results, Try.results90, go_sem, hc0, hc1]) rfl ⟨_, rfl, ⟨V.heap.size, ?_, ?_, ?_⟩, ?_, hgX⟩
  · rw [drop_nil a Hi.out, drop_nil b Hj.out]; rfl
  · intro h; have := hX _ h; have := (hgW.trans hgV).size; omega
  · rw [drop_nil a Hi.out, drop_nil b Hj.out]; exact (hs2.setCell _ _).setCell _ _
  · exact (((hs.grow (hgW.trans hgV)).kept (((Grow.refl V).alloc _).andBy hg1) (.inr (Nat.le_refl _))).setCell _ _).setCell _ _
end Go.Proofs.Yteijilbdllpbcaa
