/- Plain laws of CountTrue: the errors of a sheet that was made; what the first two sheets tell of a race that is a truth. Conditions: none. -/
import Derived.Test.YteijilbdllpbcaaPlM
import Derived.Test.YteijilbdllpbcaaPlH
import Derived.Test.YteijilbdllpbcaaPlI
namespace Go.Proofs.Yteijilbdllpbcaa
open Go.RowKit

theorem Al.miss_snoc {r s : List UInt8} {c : UInt8} {m : Nat} (h : Al r s m) : Al (r ++ [c]) s (m + 1) := by
  rcases List.eq_nil_or_concat s with rfl | ⟨t, x, rfl⟩
  · exact Al.snoc_nil.2 ⟨m, rfl, h⟩
  · rw [List.concat_eq_append] at h ⊢
    exact Al.snoc.2 (.inl ⟨m, rfl, h⟩)
/-- A sheet that was made of a race with at most so many errors. -/
def AlI (r s : List Int) (n : Nat) : Prop := ∃ (R S : List UInt8) (m : Nat), r = intsL R ∧ s = intsL S ∧ m ≤ n ∧ Al R S m
theorem AlI.nil : AlI [] [] 0 := ⟨[], [], 0, rfl, rfl, Nat.le_refl _, rfl⟩
theorem byte_of {c : Int} (h : 0 ≤ c ∧ c < 256) : ∃ b : UInt8, c = (b.toNat : Int) := by
  refine ⟨UInt8.ofNat c.toNat, ?_⟩
  rw [UInt8.toNat_ofNat']
  omega
theorem AlI.miss {r s : List Int} {n : Nat} {c : Int} (h : AlI r s n) (hc : 0 ≤ c ∧ c < 256) : AlI (r ++ [c]) s (n + 1) := by
  obtain ⟨R, S, m, rfl, rfl, hm, ha⟩ := h
  obtain ⟨b, rfl⟩ := byte_of hc
  exact ⟨R ++ [b], S, m + 1, by simp [intsL], rfl, by omega, ha.miss_snoc⟩
theorem AlI.put {r s : List Int} {n : Nat} {c x : Int} (h : AlI r s n) (hc : 0 ≤ c ∧ c < 256) (hx : 0 ≤ x ∧ x < 256) (k : Nat) (hk : (if c = x then 0 else 1) ≤ k) : AlI (r ++ [c]) (s ++ [x]) (n + k) := by
  obtain ⟨R, S, m, rfl, rfl, hm, ha⟩ := h
  obtain ⟨b, rfl⟩ := byte_of hc
  obtain ⟨d, rfl⟩ := byte_of hx
  refine ⟨R ++ [b], S ++ [d], m + cst b d, by simp [intsL], by simp [intsL], ?_, Al.snoc.2 (.inr ⟨m, rfl, ha⟩)⟩
  have : cst b d ≤ k := by
    unfold cst
    by_cases e : b = d
    · rw [if_pos e]; omega
    · have : ¬ ((b.toNat : Int) = (d.toNat : Int)) := fun q => e (UInt8.toNat_inj.1 (by omega))
      rw [if_neg this] at hk
      rw [if_neg e]; exact hk
  omega
theorem AlI.le {r s : List Int} {n : Nat} (h : AlI r s n) (hr : r.length ≤ 1000) : errs r s ≤ n := by
  obtain ⟨R, S, m, rfl, rfl, hm, ha⟩ := h
  have := (errs_min R S (by unfold intsL at hr; rwa [List.length_map] at hr)).2.1 m ha
  omega
/-- What is told of the first two sheets of a count that is valid, by a race. -/
theorem two_facts {P : Int} {s t r : List Int} (h : validB P [s, t] = true) (hr : raceB P r = true) (hl : r.length ≤ 12) :
    (truthsR P.toNat [s, t]).1 ≠ [] ∧ (truthsR P.toNat [s, t]).2 ≤ errs r s + errs r t ∧ isR P [s, t] r = decide (errs r s + errs r t = (truthsR P.toNat [s, t]).2) := by
  obtain ⟨h1, h2, h3⟩ := valid_parts h
  have hs := h3 s (by simp)
  have ht := h3 t (by simp)
  have hr2 := raceB_all.1 hr
  obtain ⟨k1, k2, k3⟩ := two_least P.toNat s t r hs.1 ht.1 (by omega) (fun x hx => by have := hs.2 x hx; omega) (fun x hx => by have := ht.2 x hx; omega) (by omega) (fun x hx => by have := hr2 x hx; omega)
  refine ⟨k3, k1, ?_⟩
  rw [Bool.eq_iff_iff, isR_mem h hr, decide_eq_true_iff]
  exact k2.symm
theorem laps_bit {P : Int} {ss : List (List Int)} {r : List Int} (h : validB P ss = true) (hr : r ∈ (truthsR P.toNat ss).1) {p : Int} (hp : 0 ≤ p ∧ p < P) :
    errOf P ss (inB p 0 (P - 1)) = 0 ∧ ∃ S : Nat, lapsR P ss p = S ∧ S < 8192 ∧ S.testBit (r.count p) = true := by
  have hT : (truthsR P.toNat ss).1 ≠ [] := fun e => by rw [e] at hr; cases hr
  obtain ⟨e1, e2⟩ := lapsR_N h hp hT
  exact ⟨e2, _, e1, lapN_lt (truths_12 h), lapN_bit.2 ⟨r, hr, rfl⟩⟩
theorem lead_in {P : Int} {ss : List (List Int)} {r : List Int} (h : validB P ss = true) (hr : r ∈ (truthsR P.toNat ss).1) {p q : Int} (hp : 0 ≤ p ∧ p < P) (hq : 0 ≤ q ∧ q < P) (hne : p ≠ q) :
    errOf P ss (pairsB P p q) = 0 ∧ (leadR P ss p q).1 ≤ leadOf p q r ∧ leadOf p q r ≤ (leadR P ss p q).2 := by
  have hT : (truthsR P.toNat ss).1 ≠ [] := fun e => by rw [e] at hr; cases hr
  obtain ⟨e1, e2⟩ := leadR_N h hp hq hne hT
  rw [e1]
  exact ⟨e2, (spanOf_spec (leadOf p q) hT).1 r hr⟩
theorem errors_in {P : Int} {ss : List (List Int)} {r s : List Int} (h : validB P ss = true) (hr : r ∈ (truthsR P.toNat ss).1) {i : Nat} (hi : ss[i]? = some s) :
    errOf P ss (inB i 0 (ss.length - 1)) = 0 ∧ (errorsR P ss i).1 ≤ errs r s ∧ errs r s ≤ (errorsR P ss i).2 := by
  have hT : (truthsR P.toNat ss).1 ≠ [] := fun e => by rw [e] at hr; cases hr
  have hlt := (List.getElem?_eq_some_iff.1 hi).1
  have he := errOf_ok (b := inB i 0 (ss.length - 1)) h (inB_true.2 (by omega)) hT
  refine ⟨he, ?_⟩
  unfold errorsR
  rw [if_pos he]
  have := (spanOf_spec (fun r => errs r (ss[(i : Int).toNat]?.getD [])) hT).1 r hr
  rw [Int.toNat_natCast, hi] at this
  rw [Int.toNat_natCast, hi]
  exact this
end Go.Proofs.Yteijilbdllpbcaa
