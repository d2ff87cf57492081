/- The program of layer 1: slices.Sort over races that the call made. Conditions: sizes. -/
import Derived.Test.YteijilbdllpbcaaPgL
import Derived.Test.YteijilbdllpbcaaShSort
namespace Go.Proofs.Yteijilbdllpbcaa
open Go.RowKit

def bytesL (r : ByteArray) : List UInt8 := r.data.toList
def ofL (l : List UInt8) : ByteArray := ⟨l.toArray⟩
theorem ofL_bytesL (r : ByteArray) : ofL (bytesL r) = r := by cases r; simp [ofL, bytesL]
theorem bytesL_ofL (l : List UInt8) : bytesL (ofL l) = l := by simp [ofL, bytesL]
def sortL (l : List (List UInt8)) : List (List UInt8) := l.mergeSort fun x y => decide (x ≤ y)
def sortB (rs : List ByteArray) : List ByteArray := (sortL (rs.map bytesL)).map ofL
theorem sortB_len (rs : List ByteArray) : (sortB rs).length = rs.length := by simp [sortB, sortL]
theorem putCells_take {α : Type} [Inhabited α] (enc : α → Value) (d : List α) (cur : Array Value) (h : d.length ≤ cur.size) : (Sort.putCells enc 0 d.toArray cur).toList.take d.length = d.map enc := by
  apply List.ext_getElem?
  intro i
  by_cases hi : i < d.length
  · have hc : i < cur.size := by omega
    rw [List.getElem?_take, if_pos hi]
    simp [Sort.putCells, hi, hc]
  · rw [List.getElem?_eq_none (by simp; omega), List.getElem?_eq_none (by simp; omega)]
theorem psort_any (v : Value) (rs : List ByteArray) (B : Nat) (w : World) (hown : Own w B 79 v (rs.map Value.string)) (hl : rs.length ≤ 8000000000000) :
    Calls Try.prog 92 #[v] w fun e w' => e = .returned (.tuple #[]) ∧ Own w' B 79 v ((sortB rs).map Value.string) ∧ w.grownBy w' v.ownBlock := by
  obtain ⟨h1, h2⟩ := id hown
  rcases h2 with ⟨rfl, h0⟩ | ⟨g, cap, cur, rfl, hbg, hgg, hnc, hcm, hcs, htake⟩
  · have hrs : rs = [] := by simpa using h0
    subst hrs
    refine (AnyM.slices_Sort_string_none Try.mRaces none 0 w).mono ?_
    rintro e w' ⟨rfl, rfl⟩
    exact ⟨rfl, by simpa [sortB, sortL] using hown, grownBy_refl _ _⟩
  · have hn : (rs.map Value.string).length = (rs.map bytesL).length := by simp
    have hcell : ∀ (i : Nat) (x : Value), (rs.map Value.string)[i]? = some x → w.cell? ⟨g, i, none⟩ = some x := fun i x hx => hown.at rfl hx
    have hhot := hown.hot
    have hH : Sort.Holds encStr w g 0 (rs.map bytesL).toArray := fun j hj => by
      have hj' : j < rs.length := by simpa using hj
      rw [Nat.zero_add]
      refine ⟨?_, hhot j⟩
      have := hcell j (.string rs[j]) (by simp [hj'])
      rw [this]
      simp [hj', encStr, bytesL]
    have hs := AnyM.slices_Sort_string Try.mRaces g 0 cap (rs.map bytesL) w hH (Array.getElem?_eq_some_iff.1 hgg).1 (by simp; omega)
    rw [hn]
    refine hs.mono ?_
    rintro e w' ⟨rfl, n, os, rfl⟩
    have hlt := (Array.getElem?_eq_some_iff.1 hgg).1
    refine ⟨rfl, ⟨by simp [sortB_len], .inr ⟨g, cap, Sort.putCells encStr 0 (sortL (rs.map bytesL)).toArray cur, by simp [sortB_len], hbg, ?_, by simpa [sortB_len] using hnc, hcm, by simpa [Sort.putCells] using hcs, ?_⟩⟩, ?_⟩
    · rw [Sort.heap_grow_old _ _ (by simpa using hlt)]
      simp only [Sort.putRow, Sort.mapBlock, Sort.heap_ahead, Array.getElem?_modify]
      simp [hgg, Sort.onCells, sortL]
    · have := putCells_take encStr (sortL (rs.map bytesL)) cur (by simp [sortL]; simp at hnc; omega)
      rw [Nat.mul_one, List.length_map, sortB_len]
      rw [show (sortL (rs.map bytesL)).length = rs.length by simp [sortL]] at this
      rw [this]
      simp [sortB, encStr, ofL]
    · refine ⟨rfl, rfl, rfl, by simp, fun k hk hne => ?_⟩
      rw [Sort.heap_grow_old _ _ (by simpa using hk)]
      simp only [Sort.putRow, Sort.mapBlock, Sort.heap_ahead, Array.getElem?_modify]
      rw [if_neg (fun e => hne (by simp [Value.ownBlock, e]))]
end Go.Proofs.Yteijilbdllpbcaa
