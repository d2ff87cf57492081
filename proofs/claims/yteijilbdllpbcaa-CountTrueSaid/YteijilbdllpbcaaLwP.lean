/- Reading an argument that is a slice of whole numbers of any kind. Conditions: none. -/
import Derived.Test.YteijilbdllpbcaaLwO
namespace Go.Proofs.Yteijilbdllpbcaa
open Go.ChangeShapes Go.WideShapes Go.ChangeAt Go.RowKit Go.Deep Go.Joins

/-- A slice of whole numbers of a kind that reads as a list. -/
def IsK (k : IntKind) (w : World) (v : Value) (l : List Int) : Prop :=
  ∃ a cap, v = .slice a l.length cap ∧ l.length ≤ cap ∧ l.length ≤ maxLen ∧ RowAt w a (l.map (Value.int k)) ∧ ∀ x ∈ l, (Lit.int k x).wf = true
theorem IsK.grow {k : IntKind} {w w' : World} {v : Value} {l : List Int} (h : IsK k w v l) (hg : Grow w w') : IsK k w' v l := by
  obtain ⟨a, cap, h1, h2, h3, h4, h5⟩ := h
  exact ⟨a, cap, h1, h2, h3, h4.grow hg, h5⟩
theorem RowAt.kind {k : IntKind} {w : World} {a : Option Addr} {l : List Int} (h : RowAt w a (l.map (Value.int k))) {i : Nat} (hi : i < l.length) :
    ∃ b o x, l[i]? = some x ∧ a = some ⟨b, o, none⟩ ∧ w.cell? ⟨b, o + i, none⟩ = some (.int k x) := by
  obtain ⟨b, o, ha, hc⟩ := h i (.int k l[i]) (by simp [hi])
  exact ⟨b, o, l[i], by simp [hi], ha, hc⟩
theorem wf_u8 {n : Int} (h : (Lit.int .u8 n).wf = true) : 0 ≤ n ∧ n ≤ 255 := by
  simpa [Lit.wf, IntKind.min, IntKind.max, IntKind.signed, IntKind.bits] using h
theorem wf_u16 {n : Int} (h : (Lit.int .u16 n).wf = true) : 0 ≤ n ∧ n ≤ 65535 := by
  simpa [Lit.wf, IntKind.min, IntKind.max, IntKind.signed, IntKind.bits] using h
set_option maxRecDepth 1000000 in
theorem open_kind {k : IntKind} {t e : TypeId} {H : Type} {enc : TypeId × Value → H} {W : World} {base b0 : Nat} {v : Value} {d : DataW H} {p : List MemPlace} {r : Reach} (ht : Try.prog.underlying t = some (.slice e)) (he : Try.prog.underlying e = some (.int k)) (hc : Try.prog.cellsOf e = 1)
    (hv : Value.okWide Try.prog W r b0 t v) (h : DataW.Trod enc Try.prog W base (fun _ => true) true t v d p) : ∃ l : List Int, IsK k W v l := by
  obtain ⟨a0, len0, cap0, rfl⟩ := okWide_slice ht hv
  obtain ⟨fuel, hf⟩ := h
  rcases open_ints ht he hc hf with ⟨hcs, hx⟩ | ⟨a, len, cap, zs, hcs, _, hl, hm, hz, hx, hc, hwf⟩
  · simp [Value.cells] at hcs
    obtain ⟨rfl, rfl, rfl⟩ := hcs
    exact ⟨[], none, 0, rfl, Nat.le_refl _, by simp, (fun i x hx => by simp at hx), by simp⟩
  · simp [Value.cells] at hcs
    obtain ⟨rfl, rfl, rfl⟩ := hcs
    simp only [if_true] at hz
    have hL : (zs.take len0).length = len0 := by rw [List.length_take]; omega
    refine ⟨zs.take len0, some a, cap0, by rw [hL], by rw [hL]; exact hl, by rw [hL]; omega, fun i x hx => ?_, fun x hx => hwf x (List.mem_of_mem_take hx)⟩
    rw [List.getElem?_map] at hx
    obtain ⟨z, hz2, rfl⟩ := Option.map_eq_some_iff.1 hx
    have hi := (List.getElem?_eq_some_iff.1 hz2).1
    rw [hL] at hi
    rw [List.getElem?_take_of_lt hi] at hz2
    have hc2 := hc i (by omega)
    obtain ⟨b, o, sp⟩ := a
    have hs : sp = none := by simpa [Addr.add] using World.cell?_spot (hc 0 (by omega))
    subst hs
    refine ⟨b, o, rfl, ?_⟩
    rw [show (⟨b, o + i, none⟩ : Addr) = (⟨b, o, none⟩ : Addr).add i by unfold Addr.add; split <;> simp_all, hc2]
    simp [List.getD, hz2]
end Go.Proofs.Yteijilbdllpbcaa
