/- The document's sets and leads, its small functions: power, Has, lead, sign, at, same. Conditions: sizes. -/
import Derived.Test.YteijilbdllpbcaaGreatRefC
import Derived.Test.YteijilbdllpbcaaGreatPlG
namespace Go.Proofs.YteijilbdllpbcaaGreat
open Go.RowKit

theorem rPair_w (P q : Int) (sa : Option Addr) (sn sc : Nat) (n : Int) (w : World) (hq : Hid (wrap64 (P - 1) = q)) :
    Calls Tryz.prog 32 #[.agg #[.int .i64 P, .slice sa sn sc], .int .i64 n] w fun e w' => e = .returned (.bool (inB n 0 q)) ∧ Grow w w' := by
  go_enter Tryz.func32, Tryz.ntmps32
  go_wp2_with (go_at_call 48; refine (rin_any _ _ _ _).mono ?_; rintro e w' ⟨rfl, rfl⟩)
  go_ret
  exact ⟨by rw [← hq.out]; rfl, (Grow.refl _).alloc _⟩
/-- The wrapped 'Pairs-1', and that the error is the same by it. -/
theorem errOf_q (P : Int) (hP1 : -9223372036854775808 ≤ P) (hP2 : P ≤ 9223372036854775807) : ∃ q : Int, wrap64 (P - 1) = q ∧ (∀ (ss : List (List Int)) (n : Int), errOf P ss (inB n 0 q) = errOf P ss (inB n 0 (P - 1))) ∧ ∀ (ss : List (List Int)) (n m : Int), errOf P ss (inB n 0 q && inB m 0 q && n != m) = errOf P ss (pairsB P n m) := by
  refine ⟨wrap64 (P - 1), rfl, ?_⟩
  by_cases h : -9223372036854775808 < P
  · rw [IntWalk.wrap64_in _ (by omega)]
    exact ⟨fun _ _ => rfl, fun _ _ _ => rfl⟩
  · have hv : ∀ ss b, errOf P ss b = 1 := fun ss b => by unfold errOf; rw [if_pos (valid_min h)]
    exact ⟨fun _ _ => by rw [hv, hv], fun _ _ _ => by rw [hv, hv]⟩
theorem rpower_any (n : Nat) (w : World) (hn : n ≤ 40) :
    Calls Tryz.prog 35 #[.int .i64 n] w fun e w' => e = .returned (.int .i64 ((2 ^ n : Nat) : Int)) ∧ w = w' := by
  obtain ⟨F, hF⟩ : ∃ F : Nat → Nat, F = fun k => 2 ^ k := ⟨_, rfl⟩
  have h0 : F 0 = 1 := by rw [hF]
  have hs : ∀ k, F (k + 1) = 2 * F k := fun k => by rw [hF]; show 2 ^ (k + 1) = 2 * 2 ^ k; rw [Nat.pow_succ]; omega
  have hle : ∀ k, k ≤ 40 → F k ≤ 2 ^ 40 := fun k hk => by rw [hF]; exact Nat.pow_le_pow_right (by omega) hk
  have hn2 : 2 ^ n = F n := by rw [hF]
  rw [hn2]
  clear hn2
  have Hs := Lib.hid hs
  have Hle := Lib.hid hle
  have H0 := Lib.hid h0
  clear hs hle hF h0
  go_enter Tryz.func35, Tryz.ntmps35
  go_wp2
  go_loop [3, 4] (fun o i => ∃ k : Nat, k ≤ n ∧ i = .int .i64 k ∧ o = .int .i64 (F k)) (fun _ i => n - (intOf i).toNat)
  case atStart => exact ⟨0, Nat.zero_le _, rfl, by rw [H0.out]; rfl⟩
  case round =>
    obtain ⟨k, hk, rfl, rfl⟩ := hrel
    by_cases hlt : k < n
    · have h2 := Lib.hid (Hs.out k)
      have h3 := Hle.out k (by omega)
      go_wp2
      go_round
      case rel => exact ⟨k + 1, by omega, by go_num, by rw [h2.out]; go_num⟩
      case measure => simp [intOf]; omega
    · obtain rfl : k = n := by omega
      go_wp2
      go_ret
      exact ⟨rfl, rfl⟩
theorem rHas_any (s n : Nat) (w : World) (hs : s < 8192) (hn : n ≤ 12) :
    Calls Tryz.prog 34 #[.int .i64 s, .int .i64 n] w fun e w' => e = .returned (.bool (decide (s / 2 ^ n % 2 = 1))) ∧ w = w' := by
  have hq : ((s : Int).tdiv ((2 ^ n : Nat) : Int)) = ((s / 2 ^ n : Nat) : Int) := rfl
  have hle : s / 2 ^ n ≤ s := Nat.div_le_self _ _
  have h0 : 0 < 2 ^ n := Nat.two_pow_pos n
  have hP := Lib.hid (rpower_any n w (by omega))
  obtain ⟨p, hp⟩ : ∃ p : Nat, 2 ^ n = p := ⟨_, rfl⟩
  rw [hp] at hq hle h0 hP ⊢
  clear hp
  obtain ⟨d, hd⟩ : ∃ d : Nat, s / p = d := ⟨_, rfl⟩
  rw [hd] at hq hle ⊢
  have hm : ((d : Int).tmod 2) = ((d % 2 : Nat) : Int) := rfl
  have hwd : wrap64 (d : Int) = d := IntWalk.wrap64_in _ (by omega)
  have hp0 : ¬ ((p : Int) = 0) := by omega
  go_enter Tryz.func34, Tryz.ntmps34
  go_wp2_with (go_at_call 35; refine hP.out.mono ?_; rintro e w' ⟨rfl, rfl⟩)
  go_ret
  refine ⟨congrArg (fun b => Ending.returned (.bool b)) ?_, rfl⟩
  show ((d : Int) % 2 == 1) = decide (d % 2 = 1)
  rw [Bool.eq_iff_iff, beq_iff_eq, decide_eq_true_eq]
  omega
theorem rlead_any (v : Value) (l : List Int) (p q : Int) (w : World) (hv : IsInts w v l) :
    Calls Tryz.prog 40 #[v, .int .i64 p, .int .i64 q] w fun e w' => e = .returned (.int .i64 (leadOf p q l)) ∧ w = w' := by
  obtain ⟨a, cap, rfl, hcap, hlen, hrow⟩ := id hv
  have hv1 := Lib.hid (rLapsOf_any _ l p w hv)
  have hv2 := Lib.hid (rLapsOf_any _ l q w hv)
  have hp : l.count p ≤ l.length := List.count_le_length
  have hq : l.count q ≤ l.length := List.count_le_length
  have hL : Hid (leadOf p q l = (l.count p : Int) - l.count q) := rfl
  obtain ⟨x, hx⟩ : ∃ x, l.count p = x := ⟨_, rfl⟩
  obtain ⟨y, hy⟩ : ∃ y, l.count q = y := ⟨_, rfl⟩
  rw [hx] at hp hL hv1
  rw [hy] at hq hL hv2
  have hw : wrap64 ((x : Int) - y) = x - y := IntWalk.wrap64_in _ (by omega)
  clear hx hy hv hrow
  go_enter Tryz.func40, Tryz.ntmps40
  go_wp2_with fail
  refine hv1.out.mono ?_
  rintro e w' ⟨rfl, rfl⟩
  go_wp2_with fail
  refine hv2.out.mono ?_
  rintro e w' ⟨rfl, rfl⟩
  go_wp2_with fail
  go_ret
  exact ⟨by rw [hL.out]; rfl, rfl⟩
theorem rsign_any (n : Int) (w : World) : Calls Tryz.prog 71 #[.int .i64 n] w fun e w' => e = .returned (.int .i64 (signOf n)) ∧ w = w' := by
  by_cases h1 : 0 < n
  · have hS : Hid (signOf n = 1) := by show _ = _; unfold signOf; omega
    go_enter Tryz.func71, Tryz.ntmps71
    go_wp2
    go_ret
    exact ⟨by rw [hS.out]; rfl, rfl⟩
  · by_cases h2 : n < 0
    · have hS : Hid (signOf n = -1) := by show _ = _; unfold signOf; omega
      go_enter Tryz.func71, Tryz.ntmps71
      go_wp2
      go_ret
      exact ⟨by rw [hS.out]; rfl, rfl⟩
    · have hS : Hid (signOf n = 0) := by show _ = _; unfold signOf; omega
      go_enter Tryz.func71, Tryz.ntmps71
      go_wp2
      go_ret
      exact ⟨by rw [hS.out]; rfl, rfl⟩
theorem rat_any (v : Value) (l : List Int) (n : Nat) (w : World) (hv : IsInts w v l) :
    Calls Tryz.prog 70 #[v, .int .i64 n] w fun e w' => e = .returned (.int .i64 (atOf n l)) ∧ w = w' := by
  obtain ⟨a, cap, rfl, hcap, hlen, hrow⟩ := hv
  by_cases hlt : n < l.length
  · obtain ⟨b, o, x, hx, rfl, hc⟩ := hrow.int hlt
    have hA : Hid (atOf n l = x) := by show _ = _; unfold atOf; rw [hx]; rfl
    clear hx
    go_enter Tryz.func70, Tryz.ntmps70
    go_wp2
    go_ret
    exact ⟨by rw [hA.out]; rfl, rfl⟩
  · have hA : Hid (atOf n l = -1) := by show _ = _; unfold atOf; rw [List.getElem?_eq_none (by omega)]; rfl
    go_enter Tryz.func70, Tryz.ntmps70
    go_wp2
    go_ret
    exact ⟨by rw [hA.out]; rfl, rfl⟩
end Go.Proofs.YteijilbdllpbcaaGreat
