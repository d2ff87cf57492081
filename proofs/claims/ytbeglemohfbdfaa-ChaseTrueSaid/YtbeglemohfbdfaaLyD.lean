/- The law ChaseTrue: its own function inside; what the program's functions answer for a chase whose watches are right. Conditions: sizes. -/
import Derived.Test.YtbeglemohfbdfaaLyC
namespace Go.Proofs.Ytbeglemohfbdfaa
open Go.RowKit

theorem linside_any (n x y : Int) (w : World) (h : x ≤ n ∧ n ≤ y) : Calls Try.prog 26 #[.int .i64 n, .agg #[.int .i64 x, .int .i64 y]] w fun e w' => e = .returned (.bool true) ∧ Grow w w' := by
  obtain ⟨h1, h2⟩ := h
  go_enter Try.func26, Try.ntmps26
  go_wp2_with fail
  go_ret
  exact ⟨rfl, (Grow.refl w).alloc _⟩
/-- A slice of whole numbers that is not empty: where its cells lie. -/
theorem ints_cells {w : World} {v : Value} {l : List Int} (h : IsInts w v l) (h0 : 0 < l.length) : ∃ b o c, v = .slice (some ⟨b, o, none⟩) l.length c ∧ ∀ i, i < l.length → w.cell? ⟨b, o + i, none⟩ = some (.int .i64 (tm l i)) := by
  obtain ⟨a, c, rfl, _, _, hr⟩ := h
  obtain ⟨b, o, x, hx, rfl, _⟩ := hr.int h0
  refine ⟨b, o, c, rfl, fun i hi => ?_⟩
  obtain ⟨b', o', x', hx', e, hc⟩ := hr.int hi
  cases e
  rw [hc]
  simp [tm, hx']
/-- What the functions answer: all that the law calls. -/
structure TrueC (w : World) (E F : Int) (cv tv : Value) (n : Nat) (ts : List Int) (l fl : List Nat) : Prop where
  ord : ∀ V, Grow w V → Calls Try.prog 22 #[tv] V fun e w' => ∃ a c, e = .returned (.slice (some ⟨a, 0, none⟩) n c) ∧ (∀ i p : Nat, l[i]? = some p → w'.cell? ⟨a, i, none⟩ = some (.int .i64 (p : Nat))) ∧ Grow V w'
  cut : ∃ x y : Int, (∀ i p : Nat, l[i]? = some p → F = (i : Int) + 1 → x ≤ tm ts p ∧ tm ts p ≤ y) ∧ ∀ V, Grow w V → Calls Try.prog 23 #[.agg #[.int .i64 E, .int .i64 F, cv]] V fun e w' => e = .returned (.tuple #[.agg #[.int .i64 x, .int .i64 y], .int .i64 0]) ∧ Grow V w'
  orders : ∃ m : Int, 1 ≤ m ∧ ∀ V, Grow w V → Calls Try.prog 24 #[.agg #[.int .i64 E, .int .i64 F, cv]] V fun e w' => e = .returned (.tuple #[.int .i64 m, .int .i64 0]) ∧ Grow V w'
  first : ∀ V, Grow w V → Calls Try.prog 25 #[.agg #[.int .i64 E, .int .i64 F, cv]] V fun e w' => ∃ a o c, e = .returned (.tuple #[.slice (some ⟨a, o, none⟩) n c, .int .i64 0]) ∧ (∀ i p : Nat, fl[i]? = some p → w'.cell? ⟨a, o + i, none⟩ = some (.int .i64 (p : Nat))) ∧ Grow V w'
  placeOf : ∀ V p, Grow w V → p < n → Calls Try.prog 27 #[tv, .int .i64 (p : Nat)] V fun e w' => e = .returned (.int .i64 (placeN ts p : Nat)) ∧ Grow V w'
  time : ∀ p, p < n → ∃ x y : Int, (x ≤ tm ts p ∧ tm ts p ≤ y) ∧ ∀ V, Grow w V → Calls Try.prog 11 #[.agg #[.int .i64 E, .int .i64 F, cv], .int .i64 (p : Nat)] V fun e w' => e = .returned (.tuple #[.agg #[.int .i64 x, .int .i64 y], .int .i64 0]) ∧ Grow V w'
  wrong : ∀ V p, Grow w V → p < n → Calls Try.prog 16 #[.agg #[.int .i64 E, .int .i64 F, cv], .int .i64 (p : Nat)] V fun e w' => e = .returned (.tuple #[.int .i64 0, .int .i64 0]) ∧ Grow V w'
  place : ∀ p, p < n → ∃ x y : Int, (x ≤ (placeN ts p : Int) ∧ (placeN ts p : Int) ≤ y) ∧ ∀ V, Grow w V → Calls Try.prog 13 #[.agg #[.int .i64 E, .int .i64 F, cv], .int .i64 (p : Nat)] V fun e w' => e = .returned (.tuple #[.agg #[.int .i64 x, .int .i64 y], .int .i64 0]) ∧ Grow V w'
  final : ∀ p, p < n → ∃ z : Int, ((placeN ts p : Int) < F → z ≠ 0) ∧ (F ≤ (placeN ts p : Int) → z ≠ 2) ∧ ∀ V, Grow w V → Calls Try.prog 14 #[.agg #[.int .i64 E, .int .i64 F, cv], .int .i64 (p : Nat)] V fun e w' => e = .returned (.tuple #[.int .i64 z, .int .i64 0]) ∧ Grow V w'
  meet : ∀ p q, p < n → q < n → p ≠ q → ∃ z : Int, ((placeN ts p : Int) + placeN ts q = n - 1 → z ≠ 0) ∧ (¬ (placeN ts p : Int) + placeN ts q = n - 1 → z ≠ 2) ∧ ∀ V, Grow w V → Calls Try.prog 17 #[.agg #[.int .i64 E, .int .i64 F, cv], .int .i64 (p : Nat), .int .i64 (q : Nat)] V fun e w' => e = .returned (.tuple #[.int .i64 z, .int .i64 0]) ∧ Grow V w'
theorem true_calls {w : World} {E F : Int} {cv tv : Value} {ss : List (List Int)} {ts : List Int} {l : List Nat} (hS : IsSheets w cv ss) (hT : IsInts w tv ts) (hR : Right7 E F ss ts) (hs : Srt ts l) : TrueC w E F cv tv ss.length ts l (firstL E F ss) := by
  have hl := hR.len
  have hn := hR.n
  refine ⟨fun V g => ?_, ?_, ?_, fun V g => ?_, fun V p g hp => ?_, fun p hp => ?_, fun V p g hp => ?_, fun p hp => ?_, fun p hp => ?_, fun p q hp hq hne => ?_⟩
  · refine (rOrderOf_any tv ts l V (hT.grow g) hs (by omega)).mono ?_
    rintro e w' ⟨a, c, rfl, hi, hg⟩
    refine ⟨a, c, by rw [hl], fun i p hp => ?_, hg⟩
    obtain ⟨a', c', e', _, _, hr⟩ := hi
    injection e' with e1 _ _
    subst e1
    obtain ⟨b, o, he, hc⟩ := hr i (.int .i64 (p : Int)) (by simp [natL, hp])
    cases he
    rw [Nat.zero_add] at hc
    exact hc
  · refine ⟨(cutE E F ss).1, (cutE E F ss).2, fun i p hp hF => hR.cut hs (by rw [show (F - 1).toNat = i by omega]; exact hp), fun V g => ?_⟩
    have h := pCut_any E F cv ss V (hS.grow g)
    rw [hR.ok rfl] at h
    exact h
  · obtain ⟨m, e, h1, _⟩ := hR.orders
    refine ⟨(m : Int), by omega, fun V g => ?_⟩
    have h := pOrders_any E F cv ss V (hS.grow g)
    rw [hR.ok rfl, e] at h
    exact h
  · refine (pFirst_any E F cv ss V (hS.grow g)).mono ?_
    rintro e w' ⟨v, rfl, hi, _, hg⟩
    have hf := hR.first hs
    have hlen : (natL (firstL E F ss)).length = ss.length := by simp [natL, hf.1, hs.len, hl]
    obtain ⟨b, o, c, rfl, hc⟩ := ints_cells hi (by omega)
    refine ⟨b, o, c, by rw [hR.ok rfl, hlen], fun i p hp => ?_, hg⟩
    have hi2 := (List.getElem?_eq_some_iff.1 hp).1
    rw [hc i (by simpa [natL] using hi2)]
    simp [tm, natL, hp]
  · exact rPlaceOf_any tv ts p V (hT.grow g) (by omega)
  · refine ⟨_, _, hR.time hp, fun V g => ?_⟩
    have h := pTime_any E F p cv ss V (hS.grow g)
    rw [(hR.told hp).err] at h
    exact h
  · have h := pWrong_any E F p cv ss V (hS.grow g)
    rw [(hR.wrong hp).1, (hR.wrong hp).2] at h
    exact h
  · refine ⟨_, _, hR.place hp, fun V g => ?_⟩
    have h := pPlace_any E F p cv ss V (hS.grow g)
    rw [(hR.told hp).err] at h
    exact h
  · refine ⟨_, (hR.final hp).1, (hR.final hp).2, fun V g => ?_⟩
    have h := pFinal_any E F p cv ss V (hS.grow g)
    rw [(hR.told hp).err] at h
    exact h
  · obtain ⟨e1, e2, e3⟩ := hR.meet hp hq hne
    refine ⟨_, e2, e3, fun V g => ?_⟩
    have h := pMeet_any E F p q cv ss V (hS.grow g)
    rw [e1] at h
    exact h
end Go.Proofs.Ytbeglemohfbdfaa
