/- Two lists that a call makes beside each other, elements of whatever size. Conditions: sizes. -/
import Derived.Test.YtbeglemohfbdfaaLwC
namespace Go.Proofs.Ytbeglemohfbdfaa
open Go.RowKit

/-- Two lists that grow beside each other. -/
def Two (V : World) (D : Nat) (T1 z1 : Nat) (u : Value) (n : Nat) (xs : List Value) (T2 z2 : Nat) (v : Value) (m : Nat) (ys : List Value) : Prop :=
  V.ownsRow D T1 z1 u n xs ∧ V.ownsRow D T2 z2 v m ys ∧ ∀ b, u.ownBlock = some b → v.ownBlock ≠ some b
theorem Two.nil (V : World) (D T1 z1 T2 z2 : Nat) : Two V D T1 z1 (.slice none 0 0) 0 [] T2 z2 (.slice none 0 0) 0 [] :=
  ⟨World.ownsRow_nil V D T1 z1, World.ownsRow_nil V D T2 z2, fun b h => by simp [Value.ownBlock] at h⟩
section
variable {V V' : World} {D T1 z1 T2 z2 n m n' : Nat} {u v u' : Value} {xs ys xs' : List Value}
theorem rowGrow (h : V.ownsRow D T1 z1 u n xs) (hg : Grow V V') : V'.ownsRow D T1 z1 u n xs := World.ownsRow.kept h (hg.grownBy none) (by cases u.ownBlock <;> simp)
theorem rowNe (h : V.ownsRow D T1 z1 u n xs) {b : Nat} (hb : V.heap.size ≤ b) : u.ownBlock ≠ some b := fun e => by
  have := (h.lt b e).2
  omega
theorem Two.grow (h : Two V D T1 z1 u n xs T2 z2 v m ys) (hg : Grow V V') : Two V' D T1 z1 u n xs T2 z2 v m ys := ⟨rowGrow h.1 hg, rowGrow h.2.1 hg, h.2.2⟩
theorem Two.push1 (h : Two V D T1 z1 u n xs T2 z2 v m ys) (hg : V.grownBy V' u.ownBlock) (hm : Moves V u u') (ho : V'.ownsRow D T1 z1 u' n' xs') : Two V' D T1 z1 u' n' xs' T2 z2 v m ys := by
  refine ⟨ho, World.ownsRow.kept h.2.1 hg ?_, fun b hb e => ?_⟩
  · cases hx : u.ownBlock with
    | none => cases v.ownBlock <;> simp
    | some b => exact .inr (h.2.2 b hx)
  · rcases hm with hm | hm
    · exact h.2.2 b (by rw [← hm]; exact hb) e
    · have k1 := hm b hb
      have k2 := (h.2.1.lt b e).2
      omega
theorem Two.push2 (h : Two V D T2 z2 v m ys T1 z1 u n xs) (hg : V.grownBy V' u.ownBlock) (hm : Moves V u u') (ho : V'.ownsRow D T1 z1 u' n' xs') : Two V' D T2 z2 v m ys T1 z1 u' n' xs' := by
  refine ⟨World.ownsRow.kept h.1 hg ?_, ho, fun b hb e => ?_⟩
  · cases hx : u.ownBlock with
    | none => cases v.ownBlock <;> simp
    | some b => exact .inr fun e => h.2.2 b e hx
  · rcases hm with hm | hm
    · exact h.2.2 b hb (by rw [← hm]; exact e)
    · have k1 := hm b e
      have k2 := (h.1.lt b hb).2
      omega
end
/-- A slice that is no longer empty, and its array. -/
theorem rowSome {V : World} {D T z : Nat} {u : Value} {n : Nat} {xs : List Value} (h : V.ownsRow D T z u n xs) (h0 : 0 < n) : ∃ g cap, u = .slice (some ⟨g, 0, none⟩) n cap ∧ n ≤ cap ∧ D ≤ g ∧ (∀ (i : Nat) (x : Value), xs[i]? = some x → V.cell? ⟨g, i, none⟩ = some x) := by
  rcases h.2 with ⟨_, h1⟩ | ⟨g, cap, cur, rfl, h2, h3, h4, h5, h6, h7⟩
  · omega
  · refine ⟨g, cap, rfl, h4, h2, fun i x hx => ?_⟩
    have := h.cells (g := g) rfl i x hx
    have e : (⟨g, 0, none⟩ : Addr).add i = ⟨g, i, none⟩ := by unfold Addr.add; split <;> simp_all
    rwa [e] at this
end Go.Proofs.Ytbeglemohfbdfaa
