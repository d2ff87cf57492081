/- The program of layer 7, its small functions: within, want, said, isPair, narrowed, earliest, first, can. Conditions: sizes. -/
import Derived.Test.YtbeglemohfbdfaaGreatLibX
import Derived.Test.YtbeglemohfbdfaaGreatCpC
import Derived.Deep.RegionWith
import Derived.Laws.CopyOwn
import Derived.WideLaws
import Derived.LaidEql
namespace Go.Proofs.YtbeglemohfbdfaaGreat
open Go.RowKit

def inB (n lo hi : Int) : Bool := decide (lo ≤ n) && decide (n ≤ hi)
theorem inB_true {n lo hi : Int} : inB n lo hi = true ↔ lo ≤ n ∧ n ≤ hi := by simp [inB]
theorem inB_false {n lo hi : Int} : inB n lo hi = false ↔ n < lo ∨ hi < n := by
  rw [Bool.eq_false_iff, ne_eq, inB_true]
  omega
theorem pwithin_any (n lo hi : Int) (w : World) :
    Calls Tryz.prog 71 #[.int .i64 n, .int .i64 lo, .int .i64 hi] w fun e w' => e = .returned (.bool (inB n lo hi)) ∧ w = w' := by
  by_cases h1 : lo ≤ n
  · by_cases h2 : n ≤ hi
    · rw [show inB n lo hi = true from inB_true.2 ⟨h1, h2⟩]
      go_enter Tryz.func71, Tryz.ntmps71
      go_wp2
      go_ret
      exact ⟨rfl, rfl⟩
    · rw [show inB n lo hi = false from inB_false.2 (by omega)]
      go_enter Tryz.func71, Tryz.ntmps71
      go_wp2
      go_ret
      exact ⟨rfl, rfl⟩
  · rw [show inB n lo hi = false from inB_false.2 (by omega)]
    go_enter Tryz.func71, Tryz.ntmps71
    go_wp2
    go_ret
    exact ⟨rfl, rfl⟩
/-- The panic of what is not valid. -/
def refusal (c : Int) : List PanicEntry := [{ v := .iface 89 (.agg #[.int .i64 c]), recovered := false }]
theorem pwant_yes (c : Int) (w : World) :
    Calls Tryz.prog 66 #[.bool true, .int .i64 c] w fun e w' => e = .returned (.tuple #[]) ∧ w = w' := by
  go_enter Tryz.func66, Tryz.ntmps66
  go_wp2
  go_end0
  exact ⟨rfl, rfl⟩
theorem pwant_no (c : Int) (w : World) :
    Calls Tryz.prog 66 #[.bool false, .int .i64 c] w fun e w' => e = .panicked (refusal c) ∧ w = w' := by
  have hp : ∀ (v : Value) (w : World), (Instr.panic (.iface 89 v)).run Tryz.prog w = .halt (.panic (.iface 89 v)) w := fun _ _ => rfl
  go_enter Tryz.func66, Tryz.ntmps66
  go_wp2
  exact ⟨rfl, rfl, rfl⟩
theorem pisPair_any (E F : Int) (sa : Option Addr) (sn sc : Nat) (n : Int) (w : World) (h1 : sn ≤ 9223372036854775807) :
    Calls Tryz.prog 35 #[.agg #[.int .i64 E, .int .i64 F, .slice sa sn sc], .int .i64 n] w fun e w' => e = .returned (.bool (inB n 0 ((sn : Int) - 1))) ∧ Grow w w' := by
  have hw : wrap64 ((sn : Int) - 1) = (sn : Int) - 1 := IntWalk.wrap64_in _ (by omega)
  go_enter Tryz.func35, Tryz.ntmps35
  go_wp2_with (go_at_call 71; refine (pwithin_any _ _ _ _).mono ?_; rintro e w' ⟨rfl, rfl⟩)
  go_ret
  exact ⟨rfl, (Grow.refl _).alloc _⟩
/-- A clock, as the program has it. -/
def clockV (a b p : Int) : Value := .agg #[.int .i64 a, .int .i64 b, .int .i64 p]
theorem pnarrowed_any (a b p n E : Int) (w : World) (hn : -1000 ≤ n ∧ n ≤ 1000) (hE : -1000 ≤ E ∧ E ≤ 1000) :
    Calls Tryz.prog 43 #[clockV a b p, .int .i64 n, .int .i64 E] w fun e w' => e = .returned (clockV (max a (n - E)) (min b (n + E)) p) ∧ Grow w w' := by
  unfold clockV
  go_enter Tryz.func43, Tryz.ntmps43
  go_wp2
  all_goals exact bodyPost_ret (v := .agg #[.int .i64 (max a (n - E)), .int .i64 (min b (n + E)), .int .i64 p]) (by simp [results, Tryz.results43, go_sem]; omega) rfl ⟨rfl, ((Grow.refl _).alloc _).alloc _⟩
theorem pearliest_any (a b p s l : Int) (w : World) (hs : -1000 ≤ s ∧ s ≤ 1000) :
    Calls Tryz.prog 108 #[clockV a b p, .int .i64 s, .int .i64 l] w fun e w' => e = .returned (.int .i64 (max a (if p < l then s + 1 else s))) ∧ Grow w w' := by
  unfold clockV
  by_cases h : p < l
  · rw [if_pos h]
    go_enter Tryz.func108, Tryz.ntmps108
    go_wp2
    all_goals go_ret
    all_goals exact ⟨ret_int (by omega), (Grow.refl _).alloc _⟩
  · rw [if_neg h]
    go_enter Tryz.func108, Tryz.ntmps108
    go_wp2
    all_goals go_ret
    all_goals exact ⟨ret_int (by omega), (Grow.refl _).alloc _⟩
end Go.Proofs.YtbeglemohfbdfaaGreat
