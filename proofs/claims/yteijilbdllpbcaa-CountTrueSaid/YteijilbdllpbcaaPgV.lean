/- The program of layer 1: slices.Index and slices.Contains over races. Conditions: sizes. -/
import Derived.Test.YteijilbdllpbcaaPgL
import Derived.Test.YteijilbdllpbcaaLibX
import Derived.Test.YteijilbdllpbcaaPgS
import Derived.Laws.StructEq
namespace Go.Proofs.Yteijilbdllpbcaa
open Go.RowKit

def IndexPost (w : World) (rs : List ByteArray) (t : ByteArray) (e : Ending) (w' : World) : Prop := (∃ k : Int, e = .returned (.int .i64 k) ∧ (decide (k ≥ 0) = true ↔ t ∈ rs)) ∧ w = w'
theorem pIndex_any (v : Value) (rs : List ByteArray) (t : ByteArray) (w : World) (hv : IsRaces w v rs) :
    Calls Try.prog 81 #[v, .string t] w (IndexPost w rs t) := by
  obtain ⟨a, cap, rfl, hcap, hlen, hnil, hrow⟩ := hv
  go_enter Try.func81, Try.ntmps81
  go_wp2_with fail
  go_loop [8] (fun i => ∃ k : Nat, k ≤ rs.length ∧ i = .int .i64 k ∧ t ∉ rs.take k) (fun i => rs.length - (intOf i).toNat)
  case atStart => exact ⟨0, Nat.zero_le _, rfl, by simp⟩
  case round =>
    obtain ⟨k, hk, rfl, hr⟩ := hrel
    have Hr := Lib.hid hr
    clear hr
    by_cases hlt : k < rs.length
    · obtain ⟨b, o, x, hx, rfl, hc⟩ := hrow.str hlt
      have Hx := Lib.hid hx
      clear hx
      by_cases he : t = x
      · have hb : (t.toList == x.toList) = true := by rw [he]; simp
        have hm : Hid (t ∈ rs) := (by show _; rw [he]; exact List.mem_of_getElem? Hx.out)
        clear he
        go_wp2_with fail
        go_ret
        exact ⟨⟨_, rfl, by simp [hm.out]⟩, rfl⟩
      · have hb : (t.toList == x.toList) = false := by rw [← beq_toListBytes, bytes_beq]; simp [he]
        have He := Lib.hid he
        clear he
        go_wp2_with fail
        exact ⟨⟨k + 1, by omega, by go_num, by rw [take_get Hx.out]; simp only [List.mem_append, List.mem_singleton]; exact fun h => h.elim Hr.out He.out⟩, by simp [intOf]; omega⟩
    · have hm : Hid (t ∉ rs) := (by have := Hr.out; rw [take_len hlt] at this; exact this)
      go_wp2_with fail
      go_ret
      exact ⟨⟨-1, rfl, by simp [hm.out]⟩, rfl⟩
def ContainsPost (w : World) (rs : List ByteArray) (t : ByteArray) (e : Ending) (w' : World) : Prop := (∃ b : Bool, e = .returned (.bool b) ∧ (b = true ↔ t ∈ rs)) ∧ w = w'
theorem pContains_any (v : Value) (rs : List ByteArray) (t : ByteArray) (w : World) (hv : IsRaces w v rs) :
    Calls Try.prog 51 #[v, .string t] w (ContainsPost w rs t) := by
  go_enter Try.func51, Try.ntmps51
  go_wp2_with (go_at_call 81; refine (pIndex_any v rs t _ hv).mono ?_; rintro e w' ⟨⟨k, rfl, hk⟩, rfl⟩; have Hk := Lib.hid hk; clear hk)
  go_ret
  exact ⟨⟨_, rfl, Hk.out⟩, rfl⟩
end Go.Proofs.Yteijilbdllpbcaa
namespace Go.Proofs.Yteijilbdllpbcaa
open Go.RowKit

def EachPost (w : World) (c : Nat) (f : Value) (e : Ending) (w' : World) : Prop :=
  ∃ g h, e = .returned (.func (.func 89) #[] #[.pointer (some ⟨g, 0, none⟩), .pointer (some ⟨h, 0, none⟩)]) ∧ w'.cell? ⟨g, 0, none⟩ = some (.pointer (some ⟨c, 0, none⟩)) ∧ w'.cell? ⟨h, 0, none⟩ = some f ∧ Grow w w'
theorem peach_any (c : Nat) (fn : Fn) (fi ca : Array Value) (w : World) :
    Calls Try.prog 64 #[.pointer (some ⟨c, 0, none⟩), .func fn fi ca] w (EachPost w c (.func fn fi ca)) := by
  have hmf : ∀ (fn : Fn) (first cap : Array Value) (w : World), (Instr.makeFunc fn first cap).run Try.prog w = .ok (.func fn first cap) w := fun _ _ _ _ => rfl
  go_enter Try.func64, Try.ntmps64
  go_wp2_with fail
  go_ret
  exact ⟨w.heap.size, w.heap.size + 1, rfl, Grow.keepA (cell_new rfl rfl) _, cell_new (by simp) rfl, ((Grow.refl w).alloc _).alloc _⟩
end Go.Proofs.Yteijilbdllpbcaa
