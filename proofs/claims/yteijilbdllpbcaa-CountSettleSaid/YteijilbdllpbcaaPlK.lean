/- Plain: the race by numbers of the law CountFirst. Conditions: none. -/
import Derived.Test.YteijilbdllpbcaaPlI
namespace Go.Proofs.Yteijilbdllpbcaa

/-- The first twelve of k numbers, by remainders. -/
def ownTo (P : Int) (bs : List Int) (k : Nat) : List Int := ((bs.take k).take 12).map fun x => x.tmod P
theorem ownTo_succ {P : Int} {bs : List Int} {k : Nat} {x : Int} (hx : bs[k]? = some x) (hk : k < 12) : ownTo P bs (k + 1) = ownTo P bs k ++ [x.tmod P] := by
  unfold ownTo
  rw [take_get hx, List.take_of_length_le (l := bs.take k ++ [x]) (by simp; omega), List.take_of_length_le (l := bs.take k) (by simp; omega), List.map_append]
  rfl
theorem ownTo_same {P : Int} {bs : List Int} {k : Nat} (hk : 12 ≤ k) : ownTo P bs (k + 1) = ownTo P bs k := by
  unfold ownTo
  rw [List.take_take, List.take_take]
  congr 2
  omega
theorem ownTo_len (P : Int) (bs : List Int) (k : Nat) : (ownTo P bs k).length ≤ 12 := by
  unfold ownTo
  rw [List.length_map, List.length_take]
  omega
theorem ownTo_race {P : Int} {bs : List Int} (hP : 1 ≤ P) (h : ∀ x ∈ bs, 0 ≤ x) (k : Nat) : raceB P (ownTo P bs k) = true := by
  rw [raceB_all]
  intro y hy
  obtain ⟨x, hx, rfl⟩ := List.mem_map.1 hy
  have h0 := h x (List.mem_of_mem_take (List.mem_of_mem_take hx))
  exact ⟨Int.tmod_nonneg _ h0, Int.tmod_lt_of_pos _ (by omega)⟩
end Go.Proofs.Yteijilbdllpbcaa
