/- Plain: of two sheets, what any race's errors are next to what is told. Conditions: sizes. -/
import Derived.Test.YteijilbdllpbcaaPlF
namespace Go.Proofs.Yteijilbdllpbcaa

theorem ints_of (l : List Int) (P : Nat) (hP : P ≤ 256) (h : ∀ x ∈ l, 0 ≤ x ∧ x < P) : ∃ r : List UInt8, l = intsL r ∧ r.length = l.length ∧ ∀ c ∈ r, c.toNat < P := by
  refine ⟨l.map fun x => UInt8.ofNat x.toNat, ?_, by simp, fun c hc => ?_⟩
  · rw [intsL, List.map_map]
    refine (List.map_id' l).symm.trans (List.map_congr_left fun x hxm => ?_)
    have := h x hxm
    simp
    omega
  · obtain ⟨x, hx, rfl⟩ := List.mem_map.1 hc
    have := h x hx
    simp
    omega
/-- No race has fewer errors on two sheets than are told; just the truths have so few; and there is one. -/
theorem two_least (P : Nat) (s t r : List Int) (hs : s.length ≤ 6) (ht : t.length ≤ 6) (hP : P ≤ 255) (hps : ∀ x ∈ s, 0 ≤ x ∧ x < P) (hpt : ∀ x ∈ t, 0 ≤ x ∧ x < P) (hr : r.length ≤ 1000) (hpr : ∀ x ∈ r, 0 ≤ x ∧ x < P) :
    (truthsR P [s, t]).2 ≤ errs r s + errs r t ∧ (errs r s + errs r t = (truthsR P [s, t]).2 ↔ r ∈ (truthsR P [s, t]).1) ∧ (truthsR P [s, t]).1 ≠ [] := by
  obtain ⟨A, rfl, hA, hpA⟩ := ints_of s P (by omega) hps
  obtain ⟨B, rfl, hB, hpB⟩ := ints_of t P (by omega) hpt
  obtain ⟨R, rfl, hR, hpR⟩ := ints_of r P (by omega) hpr
  rw [← hA] at hs
  rw [← hB] at ht
  rw [← hR] at hr
  show (leastR (alls P ((intsL A).length + (intsL B).length) []) [intsL A, intsL B]).2 ≤ _ ∧ (_ = (leastR (alls P ((intsL A).length + (intsL B).length) []) [intsL A, intsL B]).2 ↔ intsL R ∈ (leastR (alls P ((intsL A).length + (intsL B).length) []) [intsL A, intsL B]).1) ∧ (leastR (alls P ((intsL A).length + (intsL B).length) []) [intsL A, intsL B]).1 ≠ []
  rw [← hA, ← hB]
  obtain ⟨k1, k2, k3, k4⟩ := leastR_lst [intsL A, intsL B] (alls P (A.length + B.length) [])
  have hsum : ∀ r : List UInt8, sumErrs (intsL r) [intsL A, intsL B] = errs (intsL r) (intsL A) + errs (intsL r) (intsL B) := fun r => by simp [sumErrs]
  have hmem : ∀ r : List UInt8, IsT r A B → intsL r ∈ alls P (A.length + B.length) [] := fun r hr => by
    refine (mem_alls P _ _ _).2 ⟨intsL r, by simp, ?_, fun x hx => ?_⟩
    · have := isT_len r _ _ hr; rw [intsL, List.length_map]; omega
    · obtain ⟨c, hc, rfl⟩ := List.mem_map.1 hx
      have : c.toNat < P := (isT_mem r _ _ hr c hc).elim (hpA c) (hpB c)
      omega
  have hd := dist_le A B
  obtain ⟨r0, hr0⟩ := isT_ex _ A B (Nat.le_refl _)
  have he : (leastR (alls P (A.length + B.length) []) [intsL A, intsL B]).2 = (dist A B : Nat) := by
    have a1 : (leastR (alls P (A.length + B.length) []) [intsL A, intsL B]).2 ≤ sumErrs (intsL r0) [intsL A, intsL B] := k2 _ (hmem r0 hr0)
    have a0 := (errs_two r0 A B (by have := isT_len r0 _ _ hr0; omega) (by omega)).2.2 hr0
    rw [hsum] at a1
    have a2 : ((dist A B : Nat) : Int) ≤ (leastR (alls P (A.length + B.length) []) [intsL A, intsL B]).2 := by
      rcases k4 with k4 | ⟨t, ht, k4⟩
      · omega
      · obtain ⟨u, hu0, hu, hx⟩ := (mem_alls P _ _ t).1 ht
        rw [List.nil_append] at hu0
        subst hu0
        obtain ⟨r, rfl, hrl, _⟩ := ints_of t P (by omega) hx
        have := (errs_two r A B (by omega) (by omega)).1
        have k5 : sumErrs (intsL r) [intsL A, intsL B] = _ := k4
        rw [hsum] at k5
        omega
    omega
  have hin : ∀ r : List UInt8, r.length ≤ 1000 → (errs (intsL r) (intsL A) + errs (intsL r) (intsL B) = (leastR (alls P (A.length + B.length) []) [intsL A, intsL B]).2 ↔ intsL r ∈ (leastR (alls P (A.length + B.length) []) [intsL A, intsL B]).1) := fun r hr => by
    obtain ⟨_, e2⟩ := errs_two r A B hr (by omega)
    rw [he]
    constructor
    · intro h
      have hT := e2.1 h
      rw [k3, List.mem_filter]
      refine ⟨hmem r hT, ?_⟩
      simp only [decide_eq_true_eq, hsum, he]
      omega
    · intro h
      rw [k3, List.mem_filter] at h
      have := h.2
      simp only [decide_eq_true_eq, hsum, he] at this
      exact this.1
  refine ⟨?_, hin R hr, ?_⟩
  · rw [he]; exact (errs_two R A B hr (by omega)).1
  · have a0 := (errs_two r0 A B (by have := isT_len r0 _ _ hr0; omega) (by omega)).2.2 hr0
    have := (hin r0 (by have := isT_len r0 _ _ hr0; omega)).1 (by rw [he]; exact a0)
    exact List.ne_nil_of_mem this
end Go.Proofs.Yteijilbdllpbcaa
