/- Plain: what is so of all truths: their order, their errors, their lengths. Conditions: a valid count. -/
import Derived.Test.YteijilbdllpbcaaPlE
namespace Go.Proofs.Yteijilbdllpbcaa

theorem leastR_sublist (races l : List (List Int)) : (leastR races l).1.Sublist races := by
  rw [(leastR_lst l races).2.2.1]
  exact List.filter_sublist
theorem leastR_val {races l : List (List Int)} {r : List Int} (h : r ∈ (leastR races l).1) : sumErrs r l = (leastR races l).2 ∧ (leastR races l).2 < 1000 := by
  rw [(leastR_lst l races).2.2.1] at h
  simpa using (List.mem_filter.1 h).2
theorem sumErrs_one (r s : List Int) : sumErrs r [s] = errs r s := by simp [sumErrs]
theorem leave_val {acc : List (List Int) × Int} {s r : List Int} (h : r ∈ (leave acc s).1) : r ∈ acc.1 ∧ acc.2 + errs r s = (leave acc s).2 ∧ errs r s < 1000 := by
  have h1 := leave_sub acc s r h
  have h2 := leastR_val (races := acc.1) (l := [s]) h
  rw [sumErrs_one] at h2
  refine ⟨h1, ?_, by omega⟩
  show acc.2 + errs r s = acc.2 + (leastR acc.1 [s]).2
  omega
theorem leaves_sorted : ∀ (rest : List (List Int)) (acc : List (List Int) × Int), acc.1.Pairwise (· < ·) → (rest.foldl leave acc).1.Pairwise (· < ·)
  | [], _, h => h
  | s :: rest, acc, h => leaves_sorted rest _ (List.Pairwise.sublist (leastR_sublist acc.1 [s]) h)
theorem truths_sorted (P : Nat) (ss : List (List Int)) : (truthsR P ss).1.Pairwise (· < ·) := by
  match ss with
  | [] => exact List.Pairwise.nil
  | [s] => exact List.pairwise_singleton _ _
  | s :: t :: rest => exact leaves_sorted rest _ (List.Pairwise.sublist (leastR_sublist _ _) (alls_sorted P _ _))
theorem errs_self : ∀ l : List Int, errs l l = 0
  | [] => rfl
  | x :: l => by
    have h := errs_self l
    have h2 := (errs_range l (x :: l)).1
    unfold errs
    rw [if_neg (by simp), h]
    simp
    omega
theorem errs_short {r s : List Int} (h : r.length < s.length) : errs r s = 1000 := by
  match r, s with
  | [], m => unfold errs; rw [if_pos (by simpa using h)]
  | x :: l, [] => simp at h
  | x :: l, y :: m => unfold errs; rw [if_pos (by simpa using h)]
theorem sumErrs_app (r : List Int) (a b : List (List Int)) : sumErrs r (a ++ b) = sumErrs r a + sumErrs r b := by simp [sumErrs]
theorem leaves_sum : ∀ (rest d : List (List Int)) (acc : List (List Int) × Int), (∀ r ∈ acc.1, sumErrs r d = acc.2 ∧ ∀ s ∈ d, errs r s < 1000) → ∀ r ∈ (rest.foldl leave acc).1, sumErrs r (d ++ rest) = (rest.foldl leave acc).2 ∧ ∀ s ∈ d ++ rest, errs r s < 1000
  | [], d, acc, h => by simpa using h
  | s :: rest, d, acc, h => by
    have := leaves_sum rest (d ++ [s]) (leave acc s) fun r hr => by
      obtain ⟨h1, h2, h3⟩ := leave_val hr
      obtain ⟨h4, h5⟩ := h r h1
      refine ⟨by rw [sumErrs_app, sumErrs_one, h4]; exact h2, fun t ht => ?_⟩
      rcases List.mem_append.1 ht with ht | ht
      · exact h5 t ht
      · rw [List.mem_singleton.1 ht]; exact h3
    simpa using this
/-- Each truth has as many errors as are told, and fewer than 1000 on each sheet. -/
theorem truths_sum (P : Nat) (ss : List (List Int)) : ∀ r ∈ (truthsR P ss).1, sumErrs r ss = (truthsR P ss).2 ∧ ∀ s ∈ ss, errs r s < 1000 := by
  match ss with
  | [] => intro r hr; cases hr
  | [s] =>
    intro r hr
    rw [List.mem_singleton.1 hr]
    refine ⟨by rw [sumErrs_one, errs_self]; rfl, fun t ht => ?_⟩
    rw [List.mem_singleton.1 ht, errs_self]; decide
  | s :: t :: rest =>
    refine leaves_sum rest [s, t] _ fun r hr => ?_
    obtain ⟨h1, h2⟩ := leastR_val hr
    refine ⟨h1, fun u hu => ?_⟩
    have e : sumErrs r [s, t] = errs r s + errs r t := by simp [sumErrs]
    have p1 := (errs_range r s).1
    have p2 := (errs_range r t).1
    simp at hu
    rcases hu with rfl | rfl <;> omega
theorem leaves_mem : ∀ (rest : List (List Int)) (acc : List (List Int) × Int), ∀ r ∈ (rest.foldl leave acc).1, r ∈ acc.1
  | [], _, _, h => h
  | s :: rest, acc, r, h => leave_sub acc s r (leaves_mem rest _ r h)
/-- No truth has fewer passings than a sheet, nor more than two have together; just pairs pass. -/
theorem truths_mem (P : Nat) (s t : List Int) (rest : List (List Int)) : ∀ r ∈ (truthsR P (s :: t :: rest)).1, r.length ≤ s.length + t.length ∧ ∀ x ∈ r, 0 ≤ x ∧ x < P := by
  intro r hr
  have h := (leastR_sublist _ _).subset (leaves_mem rest _ r hr)
  obtain ⟨u, hu, h1, h2⟩ := (mem_alls P _ _ r).1 h
  rw [List.nil_append] at hu
  subst hu
  exact ⟨h1, h2⟩
theorem truths_long {P : Nat} {ss : List (List Int)} {r s : List Int} (hr : r ∈ (truthsR P ss).1) (hs : s ∈ ss) : s.length ≤ r.length := by
  have h := (truths_sum P ss r hr).2 s hs
  by_cases hl : r.length < s.length
  · rw [errs_short hl] at h; omega
  · omega
/-- The first truth comes before all others. -/
theorem truths_first {P : Nat} {ss : List (List Int)} {r : List Int} (hr : r ∈ (truthsR P ss).1) : (truthsR P ss).1.headD [] = r ∨ (truthsR P ss).1.headD [] < r := by
  have h := truths_sorted P ss
  cases hT : (truthsR P ss).1 with
  | nil => rw [hT] at hr; cases hr
  | cons x l =>
    rw [hT] at hr h
    rcases List.mem_cons.1 hr with rfl | hr
    · exact .inl rfl
    · exact .inr (List.rel_of_pairwise_cons h hr)
end Go.Proofs.Yteijilbdllpbcaa
