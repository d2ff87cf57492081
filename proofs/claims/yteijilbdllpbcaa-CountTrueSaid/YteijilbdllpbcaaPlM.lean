/- Plain: a sheet more: what is left of all truths. Conditions: at least two sheets. -/
import Derived.Test.YteijilbdllpbcaaPlL
namespace Go.Proofs.Yteijilbdllpbcaa

theorem errs_zero : ∀ (r s : List Int), errs r s = 0 → r = s
  | [], m, h => by
    unfold errs at h
    cases m with
    | nil => rfl
    | cons y m => simp at h
  | x :: l, [], h => by
    have := (errs_range l []).1
    unfold errs at h
    omega
  | x :: l, y :: m, h => by
    have h1 := (errs_range l (y :: m)).1
    have h2 := (errs_range l m).1
    unfold errs at h
    split at h
    · omega
    · by_cases hxy : x = y
      · subst hxy
        have h3 : errs l m = 0 := by simp at h; omega
        rw [errs_zero l m h3]
      · rw [if_pos (by simpa using hxy)] at h
        omega
theorem truths_more (P : Nat) (ss : List (List Int)) (s : List Int) (h : 2 ≤ ss.length) : truthsR P (ss ++ [s]) = leave (truthsR P ss) s := by
  match ss, h with
  | a :: b :: rest, _ =>
    show (rest ++ [s]).foldl leave _ = leave (rest.foldl leave _) s
    rw [List.foldl_append]
    rfl
theorem leave_sub2 (acc : List (List Int) × Int) (s : List Int) : (leave acc s).1.Sublist acc.1 := leastR_sublist acc.1 [s]
theorem leave_num (acc : List (List Int) × Int) (s : List Int) : acc.2 ≤ (leave acc s).2 := by
  have := leastR_nonneg acc.1 [s]
  show acc.2 ≤ acc.2 + (leastR acc.1 [s]).2
  omega
/-- A sheet that is a truth leaves just this one. -/
theorem leave_only {acc : List (List Int) × Int} {l : List Int} (hs : acc.1.Pairwise (· < ·)) (hl : l ∈ acc.1) : leave acc l = ([l], acc.2) := by
  obtain ⟨k1, k2, k3, k4⟩ := leastR_lst [l] acc.1
  have h0 : (leastR acc.1 [l]).2 = 0 := by
    have a : (leastR acc.1 [l]).2 ≤ sumErrs l [l] := k2 l hl
    rw [sumErrs_one, errs_self] at a
    have b := leastR_nonneg acc.1 [l]
    omega
  have h1 : (leastR acc.1 [l]).1 = [l] := by
    rw [k3, h0]
    show acc.1.filter (fun r => decide (sumErrs r [l] = 0 ∧ (0 : Int) < 1000)) = [l]
    have key : ∀ (L : List (List Int)), L.Pairwise (· < ·) → l ∈ L → L.filter (fun r => decide (sumErrs r [l] = 0 ∧ (0 : Int) < 1000)) = [l] := by
      intro L
      induction L with
      | nil => intro _ h; cases h
      | cons x L ih =>
        intro hp hm
        have hp2 := List.pairwise_cons.1 hp
        have hx : ∀ r, decide (sumErrs r [l] = 0 ∧ (0 : Int) < 1000) = decide (r = l) := fun r => by
          rw [sumErrs_one]
          by_cases hr : r = l
          · subst hr; rw [errs_self]; simp
          · have : ¬ errs r l = 0 := fun h => hr (errs_zero _ _ h)
            simp [hr, this]
        rw [List.filter_cons, hx]
        by_cases hxl : x = l
        · subst hxl
          rw [if_pos (by simp)]
          congr 1
          rw [List.filter_eq_nil_iff]
          intro r hr
          rw [hx r]
          have := hp2.1 r hr
          simp
          intro he
          subst he
          exact absurd this (List.lt_irrefl _)
        · rw [if_neg (by simpa using hxl)]
          exact ih hp2.2 ((List.mem_cons.1 hm).resolve_left fun h => hxl h.symm)
    exact key acc.1 hs hl
  show ((leastR acc.1 [l]).1, acc.2 + (leastR acc.1 [l]).2) = _
  rw [h0, h1]
  simp
theorem valid_more {P : Int} {ss : List (List Int)} {s : List Int} (h : validB P ss = true) (h3 : ss.length < 4) (hs : s.length ≤ 6) (hr : raceB P s = true) : validB P (ss ++ [s]) = true := by
  obtain ⟨h1, h2, h4⟩ := valid_parts h
  unfold validB
  rw [Bool.and_eq_true, Bool.and_eq_true, inB_true, inB_true, List.all_eq_true]
  refine ⟨⟨h1, by simp; omega⟩, fun t ht => ?_⟩
  rw [Bool.and_eq_true, decide_eq_true_eq, raceB_all]
  rcases List.mem_append.1 ht with ht | ht
  · exact h4 t ht
  · rw [List.mem_singleton.1 ht]
    exact ⟨hs, raceB_all.1 hr⟩
theorem lapN_sub {T S : List (List Int)} (h : ∀ r ∈ S, r ∈ T) (p : Int) : ∀ i, (lapN S p).testBit i = true → (lapN T p).testBit i = true := fun i hi => by
  obtain ⟨r, hr, e⟩ := lapN_bit.1 hi
  exact lapN_bit.2 ⟨r, h r hr, e⟩
theorem span_sub {T S : List (List Int)} (h : ∀ r ∈ S, r ∈ T) (hS : S ≠ []) (hT : T ≠ []) (f : List Int → Int) : (spanOf f T).1 ≤ (spanOf f S).1 ∧ (spanOf f S).2 ≤ (spanOf f T).2 := by
  obtain ⟨_, ⟨r, hr, e1⟩, s, hs, e2⟩ := spanOf_spec f hS
  have a := (spanOf_spec f hT).1
  have b := (a r (h r hr)).1
  have c := (a s (h s hs)).2
  rw [e1] at b
  rw [e2] at c
  exact ⟨b, c⟩
theorem bits_andNot (m n : Nat) (hm : m < 8192) (hn : n < 8192) (h : ∀ i, m.testBit i = true → n.testBit i = true) : bits .andNot .i64 (m : Int) (n : Int) = 0 := by
  have e : ∀ k : Nat, k < 8192 → (BitVec.ofInt IntKind.i64.bits (k : Int)).toNat = k := fun k hk => by
    rw [BitVec.ofInt_natCast, BitVec.toNat_ofNat]
    exact Nat.mod_eq_of_lt (Nat.lt_of_lt_of_le hk (by decide))
  have h1 : (BitVec.ofInt IntKind.i64.bits (m : Int)) &&& ~~~(BitVec.ofInt IntKind.i64.bits (n : Int)) = 0#_ := by
    refine BitVec.eq_of_getLsbD_eq fun i hi => ?_
    rw [BitVec.getLsbD_and, BitVec.getLsbD_not, BitVec.getLsbD, BitVec.getLsbD, e m hm, e n hn]
    cases hb : m.testBit i
    · simp
    · rw [h i hb]; simp
  show IntKind.i64.wrap (((BitVec.ofInt IntKind.i64.bits (m : Int)) &&& ~~~(BitVec.ofInt IntKind.i64.bits (n : Int))).toNat : Int) = 0
  rw [h1]
  rfl
end Go.Proofs.Yteijilbdllpbcaa
