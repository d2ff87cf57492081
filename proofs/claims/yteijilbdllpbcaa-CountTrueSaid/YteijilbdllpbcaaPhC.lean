/- The program of layer 1: isPair and isRace, whatever Pairs is. Conditions: sizes. -/
import Derived.Test.YteijilbdllpbcaaPgA
namespace Go.Proofs.Yteijilbdllpbcaa
open Go.RowKit

def raceQ (q : Int) (l : List Int) : Bool := l.all fun n => inB n 0 q
theorem raceQ_snoc (q : Int) (l : List Int) (x : Int) : raceQ q (l ++ [x]) = (raceQ q l && inB x 0 q) := by simp [raceQ]
theorem raceQ_no {q : Int} {l : List Int} {k : Nat} {x : Int} (hx : l[k]? = some x) (h : inB x 0 q = false) : raceQ q l = false := by
  unfold raceQ
  rw [List.all_eq_false]
  exact ⟨x, List.mem_of_getElem? hx, by rw [h]; simp⟩
theorem raceQ_eq (P : Int) (l : List Int) : raceQ (P - 1) l = raceB P l := rfl
theorem pisPair_w (P q : Int) (sa : Option Addr) (sn sc : Nat) (n : Int) (w : World) (hq : Hid (wrap64 (P - 1) = q)) :
    Calls Try.prog 62 #[.agg #[.int .i64 P, .slice sa sn sc], .int .i64 n] w fun e w' => e = .returned (.bool (inB n 0 q)) ∧ Grow w w' := by
  go_enter Try.func62, Try.ntmps62
  go_wp2_with (go_at_call 56; refine (pwithin_any _ _ _ _).mono ?_; rintro e w' ⟨rfl, rfl⟩)
  go_ret
  exact ⟨by rw [← hq.out]; rfl, (Grow.refl _).alloc _⟩

theorem pisRace1_w (P q : Int) (sa : Option Addr) (sn sc : Nat) (n : Int) (c : Nat) (w : World) (hq : Hid (wrap64 (P - 1) = q))
    (hc0 : w.cell? ⟨c, 0, none⟩ = some (.int .i64 P)) (hc1 : w.cell? ⟨c, 1, none⟩ = some (.slice sa sn sc)) :
    Calls Try.prog 83 #[.int .i64 n, .pointer (some ⟨c, 0, none⟩)] w fun e w' => e = .returned (.bool (!inB n 0 q)) ∧ Grow w w' := by
  go_enter Try.func83, Try.ntmps83
  go_wp2_with (go_at_call 62; refine (pisPair_w _ q _ _ _ _ _ hq).mono ?_; rintro e w' ⟨rfl, hg⟩)
  go_ret
  exact ⟨rfl, hg⟩

theorem pIndexFunc_w (P q : Int) (sa : Option Addr) (sn sc : Nat) (v : Value) (l : List Int) (c : Nat) (w : World) (hq : Hid (wrap64 (P - 1) = q))
    (hv : IsInts w v l) (hc0 : w.cell? ⟨c, 0, none⟩ = some (.int .i64 P)) (hc1 : w.cell? ⟨c, 1, none⟩ = some (.slice sa sn sc)) :
    Calls Try.prog 93 #[v, .func (.func 83) #[] #[.pointer (some ⟨c, 0, none⟩)]] w fun e w' => (∃ k : Int, e = .returned (.int .i64 k) ∧ decide (k ≥ 0) = !raceQ q l) ∧ Grow w w' := by
  obtain ⟨a, cap, rfl, hcap, hlen, hrow⟩ := hv
  go_enter Try.func93, Try.ntmps93
  go_wp2_with fail
  go_loopw [8] (fun i wr => ∃ k : Nat, k ≤ l.length ∧ i = .int .i64 k ∧ raceQ q (l.take k) = true ∧ Grow w wr) (fun i _ => l.length - (intOf i).toNat)
  case atStart => exact ⟨0, Nat.zero_le _, rfl, rfl, Grow.refl _⟩
  case round =>
    obtain ⟨k, hk, rfl, hr, hg⟩ := hrel
    have Hr := Lib.hid hr
    clear hr
    by_cases hlt : k < l.length
    · obtain ⟨b, o, x, hx, rfl, hc⟩ := hrow.int hlt
      have hc' := hg.keeps hc
      have hd0 := hg.keeps hc0
      have hd1 := hg.keeps hc1
      have Hx := Lib.hid hx
      clear hx
      cases hin : inB x 0 q
      all_goals
        go_wp2_with (go_at_call 83; refine (pisRace1_w P q _ _ _ _ _ _ hq hd0 hd1).mono ?_; rintro e w' ⟨rfl, hg'⟩; rw [hin])
      · go_ret
        exact ⟨⟨_, rfl, by rw [raceQ_no Hx.out hin]; simp⟩, hg.trans hg'⟩
      · exact ⟨⟨k + 1, by omega, by go_num, by rw [take_get Hx.out, raceQ_snoc, Hr.out, hin]; rfl, hg.trans hg'⟩, by simp [intOf]; omega⟩
    · have hrr : Hid (raceQ q l = true) := by
        have := Hr.out
        rw [take_len hlt] at this
        exact this
      go_wp2_with fail
      go_ret
      exact ⟨⟨_, rfl, by rw [hrr.out]; rfl⟩, hg⟩
theorem pContainsFunc_w (P q : Int) (sa : Option Addr) (sn sc : Nat) (v : Value) (l : List Int) (c : Nat) (w : World) (hq : Hid (wrap64 (P - 1) = q))
    (hv : IsInts w v l) (hc0 : w.cell? ⟨c, 0, none⟩ = some (.int .i64 P)) (hc1 : w.cell? ⟨c, 1, none⟩ = some (.slice sa sn sc)) :
    Calls Try.prog 82 #[v, .func (.func 83) #[] #[.pointer (some ⟨c, 0, none⟩)]] w fun e w' => e = .returned (.bool (!raceQ q l)) ∧ Grow w w' := by
  go_enter Try.func82, Try.ntmps82
  go_wp2_with (go_at_call 93; refine (pIndexFunc_w P q _ _ _ v l _ _ hq hv hc0 hc1).mono ?_; rintro e w' ⟨⟨k, rfl, hk⟩, hg⟩; have Hk := Lib.hid hk; clear hk)
  go_ret
  exact ⟨by rw [← Hk.out]; rfl, hg⟩
theorem pisRace_w (P q : Int) (sa : Option Addr) (sn sc : Nat) (v : Value) (l : List Int) (w : World) (hq : Hid (wrap64 (P - 1) = q)) (hv : IsInts w v l) :
    Calls Try.prog 52 #[.agg #[.int .i64 P, .slice sa sn sc], v] w fun e w' => e = .returned (.bool (raceQ q l)) ∧ Grow w w' := by
  have hmf : ∀ (fn : Fn) (first cap : Array Value) (w : World), (Instr.makeFunc fn first cap).run Try.prog w = .ok (.func fn first cap) w := fun _ _ _ _ => rfl
  go_enter Try.func52, Try.ntmps52
  go_wp2_with (go_at_call 82; refine (pContainsFunc_w P q sa sn sc v l _ _ hq (hv.grow ((Grow.refl _).alloc _)) (by simp) (by simp)).mono ?_; rintro e w' ⟨rfl, hg⟩)
  go_ret
  exact ⟨by simp, ((Grow.refl _).alloc _).trans hg⟩
end Go.Proofs.Yteijilbdllpbcaa
