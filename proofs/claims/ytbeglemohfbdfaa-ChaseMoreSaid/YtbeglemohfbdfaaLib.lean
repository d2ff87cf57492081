/- Words of my own on worlds and slices: a world that only grows, a slice that reads as a list. Conditions: none. -/
import Derived.Test.YtbeglemohfbdfaaProg
import Derived.WalkKit
import Derived.WalkSpells
import Derived.WalkLawsBesides
import Derived.IntWalk
import Derived.Lib.Hide
import Derived.Deep.QuietTactic
import Derived.BigQuiet
import Derived.Deep.RegionHeld3
import Derived.Deep.DeepFit
import Derived.StillTailTactics
import Derived.Recover
import Derived.Outline
namespace Go.Proofs.Ytbeglemohfbdfaa
open Go.RowKit

/-- All that was there is as it was. -/
abbrev Grow (w w' : World) : Prop := Below w.heap.size w w'
theorem Grow.refl (w : World) : Grow w w := Below.refl _ _
theorem Grow.trans {a b c : World} (h : Grow a b) (k : Grow b c) : Grow a c := Below.trans h (k.mono h.size)
theorem Grow.alloc {a b : World} (h : Grow a b) (o : Obj) : Grow a (b.alloc o) := Below.alloc h h.size o
theorem Grow.drewN {a b : World} (h : Grow a b) (n : Nat) : Grow a (b.drewN n) := ⟨h.os, h.tape, h.output, h.size, h.block⟩
theorem _root_.Go.RowKit.Below.drewN' {B : Nat} {a b : World} (h : Below B a b) (n : Nat) : Below B a (b.drewN n) := ⟨h.os, h.tape, h.output, h.size, h.block⟩
theorem Grow.drew {a b : World} (h : Grow a b) : Grow a b.drew := ⟨h.os, h.tape, h.output, h.size, h.block⟩
theorem Grow.cells {w w' : World} (h : Grow w w') : ∀ b o, b < w.heap.size → w'.cell? ⟨b, o, none⟩ = w.cell? ⟨b, o, none⟩ := fun b o hb => h.cell (p := ⟨b, o, none⟩) hb
theorem Grow.marks {w w' : World} (h : Grow w w') : ∀ b o, b < w.heap.size → w'.frozen? ⟨b, o, none⟩ = w.frozen? ⟨b, o, none⟩ := fun b o hb => h.frozen (p := ⟨b, o, none⟩) hb
theorem lt_of_cell {w : World} {b o : Nat} {v : Value} (h : w.cell? ⟨b, o, none⟩ = some v) : b < w.heap.size := World.block_lt_of_cell? w ⟨b, o, none⟩ h
theorem Grow.keeps {w w' : World} (h : Grow w w') {b o : Nat} {v : Value} (hc : w.cell? ⟨b, o, none⟩ = some v) : w'.cell? ⟨b, o, none⟩ = some v := (h.cells b o (lt_of_cell hc)).trans hc
theorem Grow.keepA {w : World} {b o : Nat} {v : Value} (hc : w.cell? ⟨b, o, none⟩ = some v) (ob : Obj) : (w.alloc ob).cell? ⟨b, o, none⟩ = some v := Grow.keeps ((Grow.refl w).alloc ob) hc
theorem ret_int {k : IntKind} {a b : Int} (h : a = b) : Ending.returned (.int k a) = .returned (.int k b) := by rw [h]
theorem ret_bool {a b : Bool} (h : a = b) : Ending.returned (.bool a) = .returned (.bool b) := by rw [h]

/-- The cells from an address on read as these values. -/
def RowAt (w : World) (a : Option Addr) (vs : List Value) : Prop :=
  ∀ i x, vs[i]? = some x → ∃ b o, a = some ⟨b, o, none⟩ ∧ w.cell? ⟨b, o + i, none⟩ = some x
theorem RowAt.grow {w w' : World} {a : Option Addr} {vs : List Value} (h : RowAt w a vs) (hg : Grow w w') : RowAt w' a vs := fun i x hx => by
  obtain ⟨b, o, ha, hc⟩ := h i x hx
  exact ⟨b, o, ha, hg.keeps hc⟩
/-- A slice of ints that reads as a list. -/
def IsInts (w : World) (v : Value) (l : List Int) : Prop :=
  ∃ a cap, v = .slice a l.length cap ∧ l.length ≤ cap ∧ l.length * 8 ≤ 140737488355328 ∧ RowAt w a (l.map (Value.int .i64))
theorem IsInts.grow {w w' : World} {v : Value} {l : List Int} (h : IsInts w v l) (hg : Grow w w') : IsInts w' v l := by
  obtain ⟨a, cap, h1, h2, h3, h4⟩ := h
  exact ⟨a, cap, h1, h2, h3, h4.grow hg⟩
theorem RowAt.int {w : World} {a : Option Addr} {l : List Int} (h : RowAt w a (l.map (Value.int .i64))) {i : Nat} (hi : i < l.length) :
    ∃ b o x, l[i]? = some x ∧ a = some ⟨b, o, none⟩ ∧ w.cell? ⟨b, o + i, none⟩ = some (.int .i64 x) := by
  obtain ⟨b, o, ha, hc⟩ := h i (.int .i64 l[i]) (by simp [hi])
  exact ⟨b, o, l[i], by simp [hi], ha, hc⟩
/-- A slice of slices of ints that reads as lists. -/
def SheetsAt (w : World) (a : Option Addr) (ss : List (List Int)) : Prop :=
  ∀ i s, ss[i]? = some s → ∃ b o v, a = some ⟨b, o, none⟩ ∧ w.cell? ⟨b, o + i, none⟩ = some v ∧ IsInts w v s
theorem SheetsAt.grow {w w' : World} {a : Option Addr} {ss : List (List Int)} (h : SheetsAt w a ss) (hg : Grow w w') : SheetsAt w' a ss := fun i x hx => by
  obtain ⟨b, o, v, ha, hc, hv⟩ := h i x hx
  exact ⟨b, o, v, ha, hg.keeps hc, hv.grow hg⟩
def IsSheets (w : World) (v : Value) (ss : List (List Int)) : Prop :=
  ∃ a cap, v = .slice a ss.length cap ∧ ss.length ≤ cap ∧ ss.length * 24 ≤ 140737488355328 ∧ SheetsAt w a ss
theorem IsSheets.grow {w w' : World} {v : Value} {ss : List (List Int)} (h : IsSheets w v ss) (hg : Grow w w') : IsSheets w' v ss := by
  obtain ⟨a, cap, h1, h2, h3, h4⟩ := h
  exact ⟨a, cap, h1, h2, h3, h4.grow hg⟩
theorem SheetsAt.get {w : World} {a : Option Addr} {ss : List (List Int)} (h : SheetsAt w a ss) {i : Nat} (hi : i < ss.length) :
    ∃ b o s sa sc, ss[i]? = some s ∧ a = some ⟨b, o, none⟩ ∧ w.cell? ⟨b, o + i, none⟩ = some (.slice sa s.length sc) ∧ s.length ≤ sc ∧ s.length * 8 ≤ 140737488355328 ∧ RowAt w sa (s.map (Value.int .i64)) := by
  obtain ⟨b, o, v, ha, hc, sa, sc, hv, h1, h2, h3⟩ := h i ss[i] (by simp [hi])
  subst hv
  exact ⟨b, o, ss[i], sa, sc, by simp [hi], ha, hc, h1, h2, h3⟩
theorem take_get {α : Type} {l : List α} {k : Nat} {x : α} (h : l[k]? = some x) : l.take (k + 1) = l.take k ++ [x] := by
  rw [List.take_add_one, h]; rfl
theorem take_len {α : Type} {l : List α} {k : Nat} (h : ¬ k < l.length) : l.take k = l := List.take_of_length_le (by omega)
/-- 's[k:]', elements of one cell each: one value for both ways of its address. -/
theorem run_from {P : Program} {t : TypeId} (ht : P.underlying t = some (.slice (P.elem t))) (hz : ∀ w, (sizeOf (P.elem t)).run P w = .ok 1 w)
    (a : Option Addr) (n cap k n2 : Nat) (kk : Int) (hkk : kk = k) (hn : n = n2 + k) :
    ∃ a2, (∀ w, (Instr.slice t (.slice a n cap) (some (.int .i64 kk)) none none).run P w = .ok (.slice a2 n2 (cap - k)) w) ∧
      (∀ w vs, vs.length ≤ cap → RowAt w a vs → RowAt w a2 (vs.drop k)) := by
  subst hkk
  refine ⟨if cap = k then a else a.map (·.add k), fun w => ?_, fun w vs hv h => ?_⟩
  · rw [run_slice_l w t a n cap ht .i64 k (by omega) (by omega)]
    simp [hz, Result.andThen, sliced]
    omega
  · intro i x hx
    rw [List.getElem?_drop] at hx
    obtain ⟨b, o, ha, hc⟩ := h (k + i) x hx
    have hlt : k + i < vs.length := (List.getElem?_eq_some_iff.1 hx).1
    refine ⟨b, o + k, ?_, by rw [Nat.add_assoc]; exact hc⟩
    rw [if_neg (by omega), ha]
    simp [Addr.add]
/-- Two stores into the two cells of a variable. -/
theorem cells2 {w : World} {b : Nat} {x y u v : Value} (h0 : w.cell? ⟨b, 0, none⟩ = some u) (h1 : w.cell? ⟨b, 1, none⟩ = some v) :
    ((w.setCell ⟨b, 0, none⟩ x).setCell ⟨b, 1, none⟩ y).cell? ⟨b, 0, none⟩ = some x ∧ ((w.setCell ⟨b, 0, none⟩ x).setCell ⟨b, 1, none⟩ y).cell? ⟨b, 1, none⟩ = some y ∧
      (∀ a, ((w.setCell ⟨b, 0, none⟩ x).setCell ⟨b, 1, none⟩ y).frozen? a = w.frozen? a) ∧ ((w.setCell ⟨b, 0, none⟩ x).setCell ⟨b, 1, none⟩ y).heap.size = w.heap.size := by
  refine ⟨?_, ?_, fun a => by rw [World.frozen?_setCell, World.frozen?_setCell], by simp [World.setCell]⟩
  · rw [World.cell?_setCell_other _ _ _ _ (by simp)]
    exact World.cell?_setCell_same' _ _ _ (by rw [h0]; rfl)
  · exact World.cell?_setCell_same' _ _ _ (by rw [World.cell?_setCell_other _ _ _ _ (by simp), h1]; rfl)
theorem cell_new {w : World} {b o : Nat} {cs : Array Value} {e : TypeId} {v : Value} (hb : b = w.heap.size) (hv : cs[o]? = some v) : (w.alloc (.cells cs e)).cell? ⟨b, o, none⟩ = some v := by
  subst hb
  rw [World.cell?_alloc_at _ _ _ _ rfl]; exact hv
theorem cell_drewN_alloc (W : World) : ∀ (n : Nat) (o : Obj) (b j : Nat), b < W.heap.size → ((W.drewN n).alloc o).cell? ⟨b, j, none⟩ = W.cell? ⟨b, j, none⟩ := fun n o b j h =>
  (((Grow.refl (W.drewN n)).alloc o).cells b j h).trans (((Grow.refl W).drewN n).cells b j h)
theorem hot_drewN_alloc (W : World) : ∀ (n : Nat) (o : Obj) (b j : Nat), b < W.heap.size → ((W.drewN n).alloc o).frozen? ⟨b, j, none⟩ = W.frozen? ⟨b, j, none⟩ := fun n o b j h =>
  (((Grow.refl (W.drewN n)).alloc o).marks b j h).trans (((Grow.refl W).drewN n).marks b j h)
theorem hot_new {w : World} {b o : Nat} {cs : Array Value} {e : TypeId} (hb : b = w.heap.size) : (w.alloc (.cells cs e)).frozen? ⟨b, o, none⟩ = false := by
  subst hb
  exact World.frozen?_alloc_at _ _ _ _ rfl
end Go.Proofs.Ytbeglemohfbdfaa
