/- The program of layer 7, its small functions: within, want, said, isPair, narrowed, earliest, first, can. Conditions: sizes. -/
import Derived.Test.YtbeglemohfbdfaaLibX
import Derived.Test.YtbeglemohfbdfaaCpC
import Derived.Deep.RegionWith
import Derived.Laws.CopyOwn
import Derived.WideLaws
import Derived.LaidEql
namespace Go.Proofs.Ytbeglemohfbdfaa
open Go.RowKit

def inB (n lo hi : Int) : Bool := decide (lo ≤ n) && decide (n ≤ hi)
theorem inB_true {n lo hi : Int} : inB n lo hi = true ↔ lo ≤ n ∧ n ≤ hi := by simp [inB]
theorem inB_false {n lo hi : Int} : inB n lo hi = false ↔ n < lo ∨ hi < n := by
  rw [Bool.eq_false_iff, ne_eq, inB_true]
  omega
theorem pwithin_any (n lo hi : Int) (w : World) :
    Calls Try.prog 64 #[.int .i64 n, .int .i64 lo, .int .i64 hi] w fun e w' => e = .returned (.bool (inB n lo hi)) ∧ w = w' := by
  by_cases h1 : lo ≤ n
  · by_cases h2 : n ≤ hi
    · rw [show inB n lo hi = true from inB_true.2 ⟨h1, h2⟩]
      go_enter Try.func64, Try.ntmps64
      go_wp2
      go_ret
      exact ⟨rfl, rfl⟩
    · rw [show inB n lo hi = false from inB_false.2 (by omega)]
      go_enter Try.func64, Try.ntmps64
      go_wp2
      go_ret
      exact ⟨rfl, rfl⟩
  · rw [show inB n lo hi = false from inB_false.2 (by omega)]
    go_enter Try.func64, Try.ntmps64
    go_wp2
    go_ret
    exact ⟨rfl, rfl⟩
/-- The panic of what is not valid. -/
def refusal (c : Int) : List PanicEntry := [{ v := .iface 95 (.agg #[.int .i64 c]), recovered := false }]
theorem pwant_yes (c : Int) (w : World) :
    Calls Try.prog 51 #[.bool true, .int .i64 c] w fun e w' => e = .returned (.tuple #[]) ∧ w = w' := by
  go_enter Try.func51, Try.ntmps51
  go_wp2
  go_end0
  exact ⟨rfl, rfl⟩
theorem pwant_no (c : Int) (w : World) :
    Calls Try.prog 51 #[.bool false, .int .i64 c] w fun e w' => e = .panicked (refusal c) ∧ w = w' := by
  have hp : ∀ (v : Value) (w : World), (Instr.panic (.iface 95 v)).run Try.prog w = .halt (.panic (.iface 95 v)) w := fun _ _ => rfl
  go_enter Try.func51, Try.ntmps51
  go_wp2
  exact ⟨rfl, rfl, rfl⟩
theorem pisPair_any (E F : Int) (sa : Option Addr) (sn sc : Nat) (n : Int) (w : World) (h1 : sn ≤ 9223372036854775807) :
    Calls Try.prog 39 #[.agg #[.int .i64 E, .int .i64 F, .slice sa sn sc], .int .i64 n] w fun e w' => e = .returned (.bool (inB n 0 ((sn : Int) - 1))) ∧ Grow w w' := by
  have hw : wrap64 ((sn : Int) - 1) = (sn : Int) - 1 := IntWalk.wrap64_in _ (by omega)
  go_enter Try.func39, Try.ntmps39
  go_wp2_with (go_at_call 64; refine (pwithin_any _ _ _ _).mono ?_; rintro e w' ⟨rfl, rfl⟩)
  go_ret
  exact ⟨rfl, (Grow.refl _).alloc _⟩
/-- A clock, as the program has it. -/
def clockV (a b p : Int) : Value := .agg #[.int .i64 a, .int .i64 b, .int .i64 p]
theorem pnarrowed_any (a b p n E : Int) (w : World) (hn : -1000 ≤ n ∧ n ≤ 1000) (hE : -1000 ≤ E ∧ E ≤ 1000) :
    Calls Try.prog 48 #[clockV a b p, .int .i64 n, .int .i64 E] w fun e w' => e = .returned (clockV (max a (n - E)) (min b (n + E)) p) ∧ Grow w w' := by
  unfold clockV
  go_enter Try.func48, Try.ntmps48
  go_wp2
  all_goals exact bodyPost_ret (v := .agg #[.int .i64 (max a (n - E)), .int .i64 (min b (n + E)), .int .i64 p]) (by simp [results, Try.results48, go_sem]; omega) rfl ⟨rfl, ((Grow.refl _).alloc _).alloc _⟩
theorem pearliest_any (a b p s l : Int) (w : World) (hs : -1000 ≤ s ∧ s ≤ 1000) :
    Calls Try.prog 97 #[clockV a b p, .int .i64 s, .int .i64 l] w fun e w' => e = .returned (.int .i64 (max a (if p < l then s + 1 else s))) ∧ Grow w w' := by
  unfold clockV
  by_cases h : p < l
  · rw [if_pos h]
    go_enter Try.func97, Try.ntmps97
    go_wp2
    all_goals go_ret
    all_goals exact ⟨ret_int (by omega), (Grow.refl _).alloc _⟩
  · rw [if_neg h]
    go_enter Try.func97, Try.ntmps97
    go_wp2
    all_goals go_ret
    all_goals exact ⟨ret_int (by omega), (Grow.refl _).alloc _⟩
end Go.Proofs.Ytbeglemohfbdfaa
