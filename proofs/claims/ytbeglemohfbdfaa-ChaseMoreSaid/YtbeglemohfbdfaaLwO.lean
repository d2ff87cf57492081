/- Reading the arguments of the laws of layer 7: a chase. Conditions: none. -/
import Derived.Test.YtbeglemohfbdfaaLwB
import Derived.Test.YtbeglemohfbdfaaRows
import Derived.ChangeSame
import Derived.ChangeSlices
import Derived.JoinedOf
import Derived.JoinedAt
import Derived.RowKit
import Derived.RowKit2
import Derived.RowKit3
import Derived.ReadAgain
import Derived.WideKeyArgs
import Derived.Deep.Matrix
import Derived.SizedLaws
import Derived.Lib.SmallJoins
import Derived.ProofKit
import Derived.OpenShut
import Derived.Clock
namespace Go.Proofs.Ytbeglemohfbdfaa
open Go.ChangeShapes Go.WideShapes Go.ChangeAt Go.RowKit Go.Deep Go.Joins

theorem law_own : ownKnob Try.prog.godebug = none := by kernel_rfl
theorem law_laid : laidOutB Try.prog = true := by kernel_rfl
theorem cells_int : Try.prog.cellsOf 3 = 1 := by kernel_rfl
theorem cells_ints : Try.prog.cellsOf 40 = 1 := by kernel_rfl
theorem cells_chase : Try.prog.cellsOf 32 = 3 := by kernel_rfl
theorem bytes_int : Try.prog.bytesOf 3 = 8 := by kernel_rfl
theorem bytes_ints : Try.prog.bytesOf 40 = 24 := by kernel_rfl
theorem reach_val : reachBytes = 140737488351232 := rfl
theorem wf_int {n : Int} (h : (Lit.int .i64 n).wf = true) : -9223372036854775808 ≤ n ∧ n ≤ 9223372036854775807 := by
  simpa [Lit.wf, IntKind.min, IntKind.max, IntKind.signed, IntKind.bits] using h
/-- A row of numbers, opened. -/
theorem ints_open {W : World} {A : Option Addr} {L C : Nat} {Z : List Int} (h1 : L ≤ C) (h2 : Z.length = C) (h3 : A = none → C = 0) (h8 : C * 8 ≤ 140737488355328) (h4 : ∀ a', A = some a' → ∀ c, c < C → W.cell? (a'.add c) = some (.int .i64 (Z.getD c 0))) :
    IsInts W (.slice A L C) (Z.take L) := by
  have hl : (Z.take L).length = L := by rw [List.length_take]; omega
  refine ⟨A, C, by rw [hl], by rw [hl]; exact h1, by rw [hl]; omega, fun i x hx => ?_⟩
  rw [List.getElem?_map] at hx
  obtain ⟨z, hz, rfl⟩ := Option.map_eq_some_iff.1 hx
  have hi := (List.getElem?_eq_some_iff.1 hz).1
  rw [hl] at hi
  rw [List.getElem?_take_of_lt hi] at hz
  cases A with
  | none => have := h3 rfl; omega
  | some a' =>
    have hc := h4 a' rfl i (by omega)
    obtain ⟨b, o, sp⟩ := a'
    have hs : sp = none := by simpa [Addr.add] using World.cell?_spot (h4 _ rfl 0 (by omega))
    subst hs
    refine ⟨b, o, rfl, ?_⟩
    rw [show (⟨b, o + i, none⟩ : Addr) = (⟨b, o, none⟩ : Addr).add i by unfold Addr.add; split <;> simp_all, hc]
    simp [List.getD, hz]
theorem weights_mem_all {H : Type} {P : Program} {e : TypeId} : ∀ {l : List (DataW H)} {d : DataW H} {n : Nat}, d ∈ l → n ∈ d.weights P e → n ∈ DataW.weightsAll P e l
  | d0 :: l, d, n, hd, hn => by
    simp only [DataW.weightsAll, List.mem_append]
    rcases List.mem_cons.1 hd with rfl | hd
    · exact .inl hn
    · exact .inr (weights_mem_all hd hn)
  | [], _, _, hd, _ => by cases hd
set_option maxRecDepth 1000000 in
theorem open_chase {H : Type} {enc : TypeId × Value → H} {W : World} {base b0 : Nat} {v : Value} {d : DataW H} {p : List MemPlace} {r : Reach} (hv : Value.okWide Try.prog W r b0 32 v) (h : DataW.Trod enc Try.prog W base (fun _ => true) true 32 v d p)
    (hw : ∀ n ∈ d.weights Try.prog 32, n ≤ reachBytes) :
    ∃ (E F : Int) (sv : Value) (ss : List (List Int)), v = .agg #[.int .i64 E, .int .i64 F, sv] ∧ (-9223372036854775808 ≤ E ∧ E ≤ 9223372036854775807) ∧ (-9223372036854775808 ≤ F ∧ F ≤ 9223372036854775807) ∧ IsSheets W sv ss ∧ ss.length * 24 ≤ 140737488351232 ∧ (∀ n cap, sv = .slice none n cap → cap = 0) := by
  obtain ⟨c0, c1, c2, y0, y2, y1, m, rfl, rfl, rfl, hy0, hy2, hy1⟩ := open_agg3 Try.underlying32 (by kernel_rfl) cells_chase hv h
  obtain ⟨P, e0, he0, wP⟩ := DataW.trod_int Try.underlying3 hy0
  have hP := wf_int wP
  simp at e0
  subst e0
  obtain ⟨Q, e2, he2, wQ⟩ := DataW.trod_int Try.underlying3 hy2
  have hQ := wf_int wQ
  simp at e2
  subst e2
  rcases open_int_rows Try.underlying30 Try.underlying40 Try.underlying3 cells_ints cells_int hy1 with ⟨hcs0, hx⟩ | ⟨a, len, cap, A, L, C, Z, hcs0, _, hl, hm, hx, hrows⟩
  · simp at hcs0
    subst hcs0
    exact ⟨P, Q, _, [], rfl, hP, hQ, ⟨none, 0, rfl, Nat.le_refl _, by simp, fun i s hs => by simp at hs⟩, by simp, fun n cap h => by injection h with _ _ h3; exact h3.symm⟩
  · simp at hcs0
    subst hcs0
    have hwx : ∀ n ∈ (DataW.slice ((List.range len).map fun r => intRow .i64 (A r) (L r) (Z r)) ((List.range (cap - len)).map fun j => intRow .i64 (A (len + j)) (L (len + j)) (Z (len + j))) : DataW H).weights Try.prog 30, n ≤ reachBytes := by
      intro n hn
      refine hw n ?_
      rw [hx]
      simp only [DataW.weights, Try.underlying32]
      exact DataW.weights_mem_each (j := 2) rfl rfl n hn
    have hcap : cap * 24 ≤ 140737488351232 := by
      have := hwx ((((List.range len).map fun r => intRow (H := H) .i64 (A r) (L r) (Z r)).length + ((List.range (cap - len)).map fun j => intRow (H := H) .i64 (A (len + j)) (L (len + j)) (Z (len + j))).length) * Try.prog.bytesOf 40) (by simp [DataW.weights, Try.underlying30])
      rw [bytes_ints, reach_val] at this
      simp only [List.length_map, List.length_range] at this
      omega
    have hrow8 : ∀ r, r < len → C r * 8 ≤ 140737488351232 := by
      intro r hr
      obtain ⟨_, h1, h2, h3, _, h5, _⟩ := hrows r (by omega)
      cases hA : A r with
      | none => have := h5 hA; omega
      | some a' =>
        have hm1 : intRow (H := H) .i64 (A r) (L r) (Z r) ∈ (List.range len).map fun r => intRow (H := H) .i64 (A r) (L r) (Z r) := List.mem_map.2 ⟨r, List.mem_range.2 hr, rfl⟩
        have := hwx (((lits (H := H) .i64 ((Z r).take (L r))).length + (lits (H := H) .i64 ((Z r).drop (L r))).length) * Try.prog.bytesOf 3) (by
          simp only [DataW.weights, Try.underlying30]
          refine List.mem_cons_of_mem _ (List.mem_append.2 (.inl (weights_mem_all hm1 ?_)))
          rw [hA]
          simp [intRow, DataW.weights, Try.underlying40])
        rw [bytes_int, reach_val] at this
        simp [lits] at this
        omega
    refine ⟨P, Q, _, (List.range len).map fun r => (Z r).take (L r), rfl, hP, hQ, ⟨some a, cap, by simp, by simpa using hl, by simp; omega, fun i s hs => ?_⟩, by simp; omega, fun n cap h => by cases h⟩
    rw [List.getElem?_map] at hs
    obtain ⟨j, hj, rfl⟩ := Option.map_eq_some_iff.1 hs
    obtain ⟨hj1, hj2⟩ := List.getElem?_eq_some_iff.1 hj
    simp at hj1 hj2
    subst hj2
    obtain ⟨g1, g2, g3, g4, _, g5, g6⟩ := hrows i (by omega)
    obtain ⟨b, o, sp⟩ := a
    have hsp : sp = none := by simpa [Addr.add] using World.cell?_spot (hrows 0 (by omega)).1
    subst hsp
    refine ⟨b, o, _, rfl, ?_, ints_open g2 g4 g5 (by have := hrow8 i hj1; omega) fun a' ha' c hc => (g6 a' ha').2 c hc⟩
    rw [show (⟨b, o + i, none⟩ : Addr) = (⟨b, o, none⟩ : Addr).add i by unfold Addr.add; split <;> simp_all]
    exact g1
end Go.Proofs.Ytbeglemohfbdfaa
