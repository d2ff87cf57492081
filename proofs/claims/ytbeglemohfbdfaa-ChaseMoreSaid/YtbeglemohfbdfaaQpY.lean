/- The program of layer 7: slices.Sort over whole numbers that the call made; the number on a place. Conditions: sizes. -/
import Derived.Test.YtbeglemohfbdfaaQpX
import Derived.Test.YtbeglemohfbdfaaShSort
namespace Go.Proofs.Ytbeglemohfbdfaa
open Go.RowKit

def sortZ (l : List Int) : List Int := l.mergeSort fun x y => decide (x ≤ y)
theorem sortZ_len (l : List Int) : (sortZ l).length = l.length := by simp [sortZ]
theorem sortZ_perm (l : List Int) : (sortZ l).Perm l := List.mergeSort_perm _ _
theorem sortZ_asc (l : List Int) : (sortZ l).Pairwise (· ≤ ·) :=
  (List.pairwise_mergeSort (le := fun x y => decide (x ≤ y)) (fun a b c h1 h2 => by simp only [decide_eq_true_eq] at h1 h2 ⊢; omega) (fun a b => by simp only [Bool.or_eq_true, decide_eq_true_eq]; omega) l).imp fun h => by simpa using h
/-- The number on a place, found by counting. -/
def kthB (l : List Int) (k : Nat) (x : Int) : Bool := decide (l.countP (fun y => decide (y < x)) ≤ k) && decide (k < l.countP (fun y => decide (y ≤ x)))
theorem kthB_iff {l : List Int} {k : Nat} {x : Int} : kthB l k x = true ↔ Kth l k x := by
  unfold kthB
  simp only [Bool.and_eq_true, decide_eq_true_eq]
  exact ⟨fun h => ⟨h.1, h.2⟩, fun h => ⟨h.under, h.upto⟩⟩
def kthV (l : List Int) (k : Nat) : Int := (l.find? (kthB l k)).getD 0
theorem kthV_of {l : List Int} {k : Nat} {x : Int} (hx : x ∈ l) (h : Kth l k x) : kthV l k = x := by
  unfold kthV
  cases hf : l.find? (kthB l k) with
  | none =>
    have := List.find?_eq_none.1 hf x hx
    exact absurd (kthB_iff.2 h) this
  | some y => exact Kth.unique (kthB_iff.1 (List.find?_some hf)) h
theorem kthV_sorted (l : List Int) {k : Nat} (hk : k < l.length) : (sortZ l)[k]? = some (kthV l k) ∧ Kth l k (kthV l k) := by
  have hk' : k < (sortZ l).length := by rw [sortZ_len]; exact hk
  have h := kth_sorted (sortZ_perm l) (sortZ_asc l) (List.getElem?_eq_getElem hk')
  have hm : (sortZ l)[k] ∈ l := (sortZ_perm l).mem_iff.1 (List.getElem_mem hk')
  rw [kthV_of hm h]
  exact ⟨List.getElem?_eq_getElem hk', h⟩
theorem putCells_take {α : Type} [Inhabited α] (enc : α → Value) (d : List α) (cur : Array Value) (h : d.length ≤ cur.size) : (Sort.putCells enc 0 d.toArray cur).toList.take d.length = d.map enc := by
  apply List.ext_getElem?
  intro i
  by_cases hi : i < d.length
  · have hc : i < cur.size := by omega
    rw [List.getElem?_take, if_pos hi]
    simp [Sort.putCells, hi, hc]
  · rw [List.getElem?_eq_none (by simp; omega), List.getElem?_eq_none (by simp; omega)]
theorem psort_any (v : Value) (zs : List Int) (B : Nat) (w : World) (hown : Own w B 3 v (zs.map (Value.int .i64))) (hl : zs.length ≤ 8000000000000) (h0 : 0 < zs.length) :
    Calls Try.prog 57 #[v] w fun e w' => e = .returned (.tuple #[]) ∧ Own w' B 3 v ((sortZ zs).map (Value.int .i64)) ∧ w.grownBy w' v.ownBlock := by
  obtain ⟨h1, h2⟩ := id hown
  rcases h2 with ⟨rfl, h9⟩ | ⟨g, cap, cur, rfl, hbg, hgg, hnc, hcm, hcs, htake⟩
  · rw [List.length_map] at h9; omega
  · have hn : (zs.map (Value.int .i64)).length = zs.length := by simp
    have hcell : ∀ (i : Nat) (x : Value), (zs.map (Value.int .i64))[i]? = some x → w.cell? ⟨g, i, none⟩ = some x := fun i x hx => hown.at rfl hx
    have hhot := hown.hot
    have hH : Sort.Holds (Value.int .i64) w g 0 zs.toArray := fun j hj => by
      have hj' : j < zs.length := by simpa using hj
      rw [Nat.zero_add]
      refine ⟨?_, hhot j⟩
      have := hcell j (.int .i64 zs[j]) (by simp [hj'])
      rw [this]
      simp [hj']
    have hs := Any.slices_Sort_int Try.mSort g 0 cap zs w hH (Array.getElem?_eq_some_iff.1 hgg).1 (by omega)
    rw [hn]
    refine hs.mono ?_
    rintro e w' ⟨rfl, n, os, rfl⟩
    have hlt := (Array.getElem?_eq_some_iff.1 hgg).1
    refine ⟨rfl, ⟨by simp [sortZ_len], .inr ⟨g, cap, Sort.putCells (Value.int .i64) 0 (sortZ zs).toArray cur, by simp [sortZ_len], hbg, ?_, by simpa [sortZ_len] using hnc, hcm, by simpa [Sort.putCells] using hcs, ?_⟩⟩, ?_⟩
    · rw [Sort.heap_grow_old _ _ (by simpa using hlt)]
      simp only [Sort.putRow, Sort.mapBlock, Sort.heap_ahead, Array.getElem?_modify]
      simp [hgg, Sort.onCells, sortZ]
    · have := putCells_take (Value.int .i64) (sortZ zs) cur (by simp [sortZ]; simp at hnc; omega)
      rw [Nat.mul_one, List.length_map, sortZ_len]
      rw [show (sortZ zs).length = zs.length by simp [sortZ]] at this
      rw [this]
    · refine ⟨rfl, rfl, rfl, by simp, fun k hk hne => ?_⟩
      rw [Sort.heap_grow_old _ _ (by simpa using hk)]
      simp only [Sort.putRow, Sort.mapBlock, Sort.heap_ahead, Array.getElem?_modify]
      rw [if_neg (fun e => hne (by simp [Value.ownBlock, e]))]
end Go.Proofs.Ytbeglemohfbdfaa
