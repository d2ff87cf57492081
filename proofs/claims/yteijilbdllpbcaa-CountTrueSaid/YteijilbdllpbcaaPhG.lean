/- The program of layer 1: Laps whole, opened. Conditions: sizes. -/
import Derived.Test.YteijilbdllpbcaaPhF
namespace Go.Proofs.Yteijilbdllpbcaa
open Go.RowKit

def lapsR (P : Int) (ss : List (List Int)) (p : Int) : Int := if errOf P ss (inB p 0 (P - 1)) = 0 then lapsZ (truthsR P.toNat ss).1 p else 0
theorem codeO_val {P : Int} {ss : List (List Int)} {ok : Bool} (h : codeO P ss ok = 0) : validB P ss = true ∧ ok = true := by
  unfold codeO at h
  by_cases h1 : validB P ss = true
  · rw [if_neg (by simp [h1])] at h
    cases ok with
    | true => exact ⟨h1, rfl⟩
    | false => simp at h
  · rw [if_pos (by simpa using h1)] at h; cases h
theorem codeO_any {P : Int} {ss : List (List Int)} (h : validB P ss = false) (ok : Bool) : codeO P ss ok = 1 := by unfold codeO; rw [if_pos h]
/-- What isPair answers, whatever Pairs is. -/
theorem pisPair_q (P : Int) (hP1 : -9223372036854775808 ≤ P) (hP2 : P ≤ 9223372036854775807) : ∃ q : Int, (-9223372036854775808 < P → q = P - 1) ∧ ∀ (v : Value) (ss : List (List Int)) (n : Int) (w V : World), IsSheets w v ss → Grow w V →
    Calls Try.prog 62 #[.agg #[.int .i64 P, v], .int .i64 n] V fun e w' => e = .returned (.bool (inB n 0 q)) ∧ Grow V w' := by
  by_cases h : -9223372036854775808 < P
  · refine ⟨P - 1, fun _ => rfl, fun v ss n w V hv hg => ?_⟩
    obtain ⟨a, cap, rfl, _⟩ := hv
    exact pisPair_any P a ss.length cap n V hP1 hP2 h
  · refine ⟨wrap64 (P - 1), fun h' => absurd h' h, fun v ss n w V hv hg => ?_⟩
    obtain ⟨a, cap, rfl, _⟩ := hv
    exact pisPair_w P _ a ss.length cap n V (Lib.hid rfl)
theorem valid_min {P : Int} {ss : List (List Int)} (h : ¬ -9223372036854775808 < P) : validB P ss = false := by
  cases hv : validB P ss with
  | false => rfl
  | true => have := (valid_sheets hv).2.1; omega
theorem pLaps_any (P p : Int) (v : Value) (ss : List (List Int)) (w : World) (hP1 : -9223372036854775808 ≤ P) (hP2 : P ≤ 9223372036854775807) (hv : IsSheets w v ss) :
    Calls Try.prog 26 #[.agg #[.int .i64 P, v], .int .i64 p] w fun e w' => e = .returned (.tuple #[.int .i64 (lapsR P ss p), .int .i64 (errOf P ss (inB p 0 (P - 1)))]) ∧ Grow w w' := by
  obtain ⟨q, hq, hc⟩ := pisPair_q P hP1 hP2
  have hcc := fun V hg => hc v ss p w V hv hg
  by_cases hlt : -9223372036854775808 < P
  · obtain rfl := hq hlt
    by_cases h : codeO P ss (inB p 0 (P - 1)) = 0
    · have he := errOf_zero' h
      obtain ⟨h1, h2⟩ := codeO_val h
      by_cases h0 : (truthsR P.toNat ss).1 = []
      · rw [if_pos h0] at he
        rw [show lapsR P ss p = 0 by unfold lapsR; rw [if_neg (by rw [he]; decide)], he]
        exact pLaps_clash P p v ss _ w hv hcc h h0
      · rw [if_neg h0] at he
        rw [show lapsR P ss p = lapsZ (truthsR P.toNat ss).1 p by unfold lapsR; rw [if_pos he], he]
        exact pLaps_ok P p v ss _ w hv hcc h1 h2 h0
    · have he := codeO_errOf h
      rw [show lapsR P ss p = 0 by unfold lapsR; rw [if_neg (by rw [he]; exact h)], he]
      exact pLaps_bad P p v ss _ w hv hcc h
  · have hval := valid_min (ss := ss) hlt
    have h := pLaps_bad P p v ss _ w hv hcc (by rw [codeO_any hval]; decide)
    have he : errOf P ss (inB p 0 (P - 1)) = 1 := by rw [codeO_errOf (by rw [codeO_any hval]; decide), codeO_any hval]
    rw [codeO_any hval] at h
    rw [show lapsR P ss p = 0 by unfold lapsR; rw [if_neg (by rw [he]; decide)], he]
    exact h
def OpenedPost (w : World) (P : Int) (ss : List (List Int)) (p q : Int) (ok : Bool) (e : Ending) (w' : World) : Prop :=
  Grow w w' ∧ (errOf P ss ok ≠ 0 → e = .panicked (refusal (errOf P ss ok))) ∧ (errOf P ss ok = 0 → ∃ (c : Nat) (sheets ts : List ByteArray) (n : Int), e = .returned (.tuple #[.pointer (some ⟨c, 0, none⟩), .agg #[.int .i64 p, .int .i64 q]]) ∧ CountIs w' c sheets ts n ∧ sheets.map intsB = ss ∧ ts.map intsB = (truthsR P.toNat ss).1 ∧ ∀ r ∈ ts, r.size ≤ 12)
end Go.Proofs.Yteijilbdllpbcaa
