/- The program of layer 1: said, the deferred closures, small functions. Conditions: sizes. -/
import Derived.Test.YteijilbdllpbcaaGreatPgP
import Derived.WideLaws
import Derived.LaidEql
namespace Go.Proofs.YteijilbdllpbcaaGreat
open Go.RowKit

theorem psaid_nil (q : Nat) (w : World) :
    Calls Tryz.prog 24 #[.nilIface, .pointer (some ⟨q, 0, none⟩)] w fun e w' => e = .returned (.tuple #[]) ∧ w = w' := by
  have hq : ∀ w : World, (binOp .eql 20 .nilIface .nilIface).run Tryz.prog w = .ok (.bool true) w := fun _ => by kernel_rfl
  go_enter Tryz.func24, Tryz.ntmps24
  go_wp2_with fail
  refine bodyPost_ret (results_none rfl _ _ _) rfl ?_
  exact ⟨rfl, rfl⟩
theorem psaid_ref (q : Nat) (c : Int) (w : World) (hc : w.cell? ⟨q, 0, none⟩ = some (.int .i64 0)) (hf : ∀ o, w.frozen? ⟨q, o, none⟩ = false) :
    Calls Tryz.prog 24 #[.iface 85 (.agg #[.int .i64 c]), .pointer (some ⟨q, 0, none⟩)] w fun e w' => e = .returned (.tuple #[]) ∧ w'.cell? ⟨q, 0, none⟩ = some (.int .i64 c) ∧ w.grownBy w' (some q) := by
  have hq : ∀ (v : Value) (w : World), (binOp .eql 20 (.iface 85 v) .nilIface).run Tryz.prog w = .ok (.bool false) w := fun _ _ => by kernel_rfl
  have hta : ∀ (v : Value) (w : World), (Instr.typeAssert (.iface 85 v) 20 85 true).run Tryz.prog w = .ok (.tuple #[v, .bool true]) w := fun _ _ => by kernel_rfl
  have hlt := lt_of_cell hc
  go_enter Tryz.func24, Tryz.ntmps24
  go_wp2_with fail
  go_end0
  refine ⟨rfl, ((Grow.refl _).alloc _).keeps (World.cell?_setCell_same' _ _ _ (by rw [hc]; rfl)), byThen (bySet w q 0 _) ((Grow.refl _).alloc _)⟩
end Go.Proofs.YteijilbdllpbcaaGreat
namespace Go.Proofs.YteijilbdllpbcaaGreat
open Go.RowKit

/-- A panic of what is not valid, before and behind recover. -/
def refused (c : Int) (r : Bool) : PanicEntry := { v := .iface 85 (.agg #[.int .i64 c]), recovered := r }
theorem refusal_eq (c : Int) : refusal c = [refused c false] := rfl
theorem pdefFewest_panic (q : Nat) (c : Int) (older : List PanicEntry) (w : World) (hc : w.cell? ⟨q, 0, none⟩ = some (.int .i64 0)) (hf : ∀ o, w.frozen? ⟨q, o, none⟩ = false) :
    CallsD Tryz.prog 50 #[.pointer (some ⟨q, 0, none⟩)] (.panicking ({ v := .iface 85 (.agg #[.int .i64 c]), recovered := false } :: older)) w fun e u' w' =>
      e = .returned (.tuple #[]) ∧ u' = .panicking ({ v := .iface 85 (.agg #[.int .i64 c]), recovered := true } :: older) ∧ w'.cell? ⟨q, 0, none⟩ = some (.int .i64 c) ∧ w.grownBy w' (some q) := by
  refine callsD_of_wpS Tryz.func50 rfl fun c₀ cs hu => ?_
  apply wpS_region
  simp [wpOpsS, go_sem, recoverD, hu, Tryz.ntmps50]
  refine (psaid_ref q c w hc hf).mono ?_
  rintro e w' ⟨rfl, h1, h2⟩
  simp [bodyPostS, results, Tryz.results50, h1, h2]
theorem pdefFewest_idle (q : Nat) (w : World) :
    CallsD Tryz.prog 50 #[.pointer (some ⟨q, 0, none⟩)] .returning w fun e u' w' => e = .returned (.tuple #[]) ∧ u' = .returning ∧ w' = w := by
  refine callsD_of_wpS Tryz.func50 rfl fun c₀ cs hu => ?_
  apply wpS_region
  simp [wpOpsS, go_sem, recoverD, hu, Tryz.ntmps50]
  refine (psaid_nil q w).mono ?_
  rintro e w' ⟨rfl, rfl⟩
  simp [bodyPostS, results, Tryz.results50]
  cases c₀
  simp_all
theorem pdefCount_panic (q : Nat) (c : Int) (older : List PanicEntry) (w : World) (hc : w.cell? ⟨q, 0, none⟩ = some (.int .i64 0)) (hf : ∀ o, w.frozen? ⟨q, o, none⟩ = false) :
    CallsD Tryz.prog 51 #[.pointer (some ⟨q, 0, none⟩)] (.panicking ({ v := .iface 85 (.agg #[.int .i64 c]), recovered := false } :: older)) w fun e u' w' =>
      e = .returned (.tuple #[]) ∧ u' = .panicking ({ v := .iface 85 (.agg #[.int .i64 c]), recovered := true } :: older) ∧ w'.cell? ⟨q, 0, none⟩ = some (.int .i64 c) ∧ w.grownBy w' (some q) := by
  refine callsD_of_wpS Tryz.func51 rfl fun c₀ cs hu => ?_
  apply wpS_region
  simp [wpOpsS, go_sem, recoverD, hu, Tryz.ntmps51]
  refine (psaid_ref q c w hc hf).mono ?_
  rintro e w' ⟨rfl, h1, h2⟩
  simp [bodyPostS, results, Tryz.results51, h1, h2]
theorem pdefCount_idle (q : Nat) (w : World) :
    CallsD Tryz.prog 51 #[.pointer (some ⟨q, 0, none⟩)] .returning w fun e u' w' => e = .returned (.tuple #[]) ∧ u' = .returning ∧ w' = w := by
  refine callsD_of_wpS Tryz.func51 rfl fun c₀ cs hu => ?_
  apply wpS_region
  simp [wpOpsS, go_sem, recoverD, hu, Tryz.ntmps51]
  refine (psaid_nil q w).mono ?_
  rintro e w' ⟨rfl, rfl⟩
  simp [bodyPostS, results, Tryz.results51]
  cases c₀
  simp_all
theorem pdefFirst_panic (q : Nat) (c : Int) (older : List PanicEntry) (w : World) (hc : w.cell? ⟨q, 0, none⟩ = some (.int .i64 0)) (hf : ∀ o, w.frozen? ⟨q, o, none⟩ = false) :
    CallsD Tryz.prog 52 #[.pointer (some ⟨q, 0, none⟩)] (.panicking ({ v := .iface 85 (.agg #[.int .i64 c]), recovered := false } :: older)) w fun e u' w' =>
      e = .returned (.tuple #[]) ∧ u' = .panicking ({ v := .iface 85 (.agg #[.int .i64 c]), recovered := true } :: older) ∧ w'.cell? ⟨q, 0, none⟩ = some (.int .i64 c) ∧ w.grownBy w' (some q) := by
  refine callsD_of_wpS Tryz.func52 rfl fun c₀ cs hu => ?_
  apply wpS_region
  simp [wpOpsS, go_sem, recoverD, hu, Tryz.ntmps52]
  refine (psaid_ref q c w hc hf).mono ?_
  rintro e w' ⟨rfl, h1, h2⟩
  simp [bodyPostS, results, Tryz.results52, h1, h2]
theorem pdefFirst_idle (q : Nat) (w : World) :
    CallsD Tryz.prog 52 #[.pointer (some ⟨q, 0, none⟩)] .returning w fun e u' w' => e = .returned (.tuple #[]) ∧ u' = .returning ∧ w' = w := by
  refine callsD_of_wpS Tryz.func52 rfl fun c₀ cs hu => ?_
  apply wpS_region
  simp [wpOpsS, go_sem, recoverD, hu, Tryz.ntmps52]
  refine (psaid_nil q w).mono ?_
  rintro e w' ⟨rfl, rfl⟩
  simp [bodyPostS, results, Tryz.results52]
  cases c₀
  simp_all
theorem pdefIs_panic (q : Nat) (c : Int) (older : List PanicEntry) (w : World) (hc : w.cell? ⟨q, 0, none⟩ = some (.int .i64 0)) (hf : ∀ o, w.frozen? ⟨q, o, none⟩ = false) :
    CallsD Tryz.prog 54 #[.pointer (some ⟨q, 0, none⟩)] (.panicking ({ v := .iface 85 (.agg #[.int .i64 c]), recovered := false } :: older)) w fun e u' w' =>
      e = .returned (.tuple #[]) ∧ u' = .panicking ({ v := .iface 85 (.agg #[.int .i64 c]), recovered := true } :: older) ∧ w'.cell? ⟨q, 0, none⟩ = some (.int .i64 c) ∧ w.grownBy w' (some q) := by
  refine callsD_of_wpS Tryz.func54 rfl fun c₀ cs hu => ?_
  apply wpS_region
  simp [wpOpsS, go_sem, recoverD, hu, Tryz.ntmps54]
  refine (psaid_ref q c w hc hf).mono ?_
  rintro e w' ⟨rfl, h1, h2⟩
  simp [bodyPostS, results, Tryz.results54, h1, h2]
theorem pdefIs_idle (q : Nat) (w : World) :
    CallsD Tryz.prog 54 #[.pointer (some ⟨q, 0, none⟩)] .returning w fun e u' w' => e = .returned (.tuple #[]) ∧ u' = .returning ∧ w' = w := by
  refine callsD_of_wpS Tryz.func54 rfl fun c₀ cs hu => ?_
  apply wpS_region
  simp [wpOpsS, go_sem, recoverD, hu, Tryz.ntmps54]
  refine (psaid_nil q w).mono ?_
  rintro e w' ⟨rfl, rfl⟩
  simp [bodyPostS, results, Tryz.results54]
  cases c₀
  simp_all
theorem pdefLaps_panic (q : Nat) (c : Int) (older : List PanicEntry) (w : World) (hc : w.cell? ⟨q, 0, none⟩ = some (.int .i64 0)) (hf : ∀ o, w.frozen? ⟨q, o, none⟩ = false) :
    CallsD Tryz.prog 23 #[.pointer (some ⟨q, 0, none⟩)] (.panicking ({ v := .iface 85 (.agg #[.int .i64 c]), recovered := false } :: older)) w fun e u' w' =>
      e = .returned (.tuple #[]) ∧ u' = .panicking ({ v := .iface 85 (.agg #[.int .i64 c]), recovered := true } :: older) ∧ w'.cell? ⟨q, 0, none⟩ = some (.int .i64 c) ∧ w.grownBy w' (some q) := by
  refine callsD_of_wpS Tryz.func23 rfl fun c₀ cs hu => ?_
  apply wpS_region
  simp [wpOpsS, go_sem, recoverD, hu, Tryz.ntmps23]
  refine (psaid_ref q c w hc hf).mono ?_
  rintro e w' ⟨rfl, h1, h2⟩
  simp [bodyPostS, results, Tryz.results23, h1, h2]
theorem pdefLaps_idle (q : Nat) (w : World) :
    CallsD Tryz.prog 23 #[.pointer (some ⟨q, 0, none⟩)] .returning w fun e u' w' => e = .returned (.tuple #[]) ∧ u' = .returning ∧ w' = w := by
  refine callsD_of_wpS Tryz.func23 rfl fun c₀ cs hu => ?_
  apply wpS_region
  simp [wpOpsS, go_sem, recoverD, hu, Tryz.ntmps23]
  refine (psaid_nil q w).mono ?_
  rintro e w' ⟨rfl, rfl⟩
  simp [bodyPostS, results, Tryz.results23]
  cases c₀
  simp_all
theorem pdefLead_panic (q : Nat) (c : Int) (older : List PanicEntry) (w : World) (hc : w.cell? ⟨q, 0, none⟩ = some (.int .i64 0)) (hf : ∀ o, w.frozen? ⟨q, o, none⟩ = false) :
    CallsD Tryz.prog 36 #[.pointer (some ⟨q, 0, none⟩)] (.panicking ({ v := .iface 85 (.agg #[.int .i64 c]), recovered := false } :: older)) w fun e u' w' =>
      e = .returned (.tuple #[]) ∧ u' = .panicking ({ v := .iface 85 (.agg #[.int .i64 c]), recovered := true } :: older) ∧ w'.cell? ⟨q, 0, none⟩ = some (.int .i64 c) ∧ w.grownBy w' (some q) := by
  refine callsD_of_wpS Tryz.func36 rfl fun c₀ cs hu => ?_
  apply wpS_region
  simp [wpOpsS, go_sem, recoverD, hu, Tryz.ntmps36]
  refine (psaid_ref q c w hc hf).mono ?_
  rintro e w' ⟨rfl, h1, h2⟩
  simp [bodyPostS, results, Tryz.results36, h1, h2]
theorem pdefLead_idle (q : Nat) (w : World) :
    CallsD Tryz.prog 36 #[.pointer (some ⟨q, 0, none⟩)] .returning w fun e u' w' => e = .returned (.tuple #[]) ∧ u' = .returning ∧ w' = w := by
  refine callsD_of_wpS Tryz.func36 rfl fun c₀ cs hu => ?_
  apply wpS_region
  simp [wpOpsS, go_sem, recoverD, hu, Tryz.ntmps36]
  refine (psaid_nil q w).mono ?_
  rintro e w' ⟨rfl, rfl⟩
  simp [bodyPostS, results, Tryz.results36]
  cases c₀
  simp_all
theorem pdefSettle_panic (q : Nat) (c : Int) (older : List PanicEntry) (w : World) (hc : w.cell? ⟨q, 0, none⟩ = some (.int .i64 0)) (hf : ∀ o, w.frozen? ⟨q, o, none⟩ = false) :
    CallsD Tryz.prog 41 #[.pointer (some ⟨q, 0, none⟩)] (.panicking ({ v := .iface 85 (.agg #[.int .i64 c]), recovered := false } :: older)) w fun e u' w' =>
      e = .returned (.tuple #[]) ∧ u' = .panicking ({ v := .iface 85 (.agg #[.int .i64 c]), recovered := true } :: older) ∧ w'.cell? ⟨q, 0, none⟩ = some (.int .i64 c) ∧ w.grownBy w' (some q) := by
  refine callsD_of_wpS Tryz.func41 rfl fun c₀ cs hu => ?_
  apply wpS_region
  simp [wpOpsS, go_sem, recoverD, hu, Tryz.ntmps41]
  refine (psaid_ref q c w hc hf).mono ?_
  rintro e w' ⟨rfl, h1, h2⟩
  simp [bodyPostS, results, Tryz.results41, h1, h2]
theorem pdefSettle_idle (q : Nat) (w : World) :
    CallsD Tryz.prog 41 #[.pointer (some ⟨q, 0, none⟩)] .returning w fun e u' w' => e = .returned (.tuple #[]) ∧ u' = .returning ∧ w' = w := by
  refine callsD_of_wpS Tryz.func41 rfl fun c₀ cs hu => ?_
  apply wpS_region
  simp [wpOpsS, go_sem, recoverD, hu, Tryz.ntmps41]
  refine (psaid_nil q w).mono ?_
  rintro e w' ⟨rfl, rfl⟩
  simp [bodyPostS, results, Tryz.results41]
  cases c₀
  simp_all
theorem pdefErrors_panic (q : Nat) (c : Int) (older : List PanicEntry) (w : World) (hc : w.cell? ⟨q, 0, none⟩ = some (.int .i64 0)) (hf : ∀ o, w.frozen? ⟨q, o, none⟩ = false) :
    CallsD Tryz.prog 58 #[.pointer (some ⟨q, 0, none⟩)] (.panicking ({ v := .iface 85 (.agg #[.int .i64 c]), recovered := false } :: older)) w fun e u' w' =>
      e = .returned (.tuple #[]) ∧ u' = .panicking ({ v := .iface 85 (.agg #[.int .i64 c]), recovered := true } :: older) ∧ w'.cell? ⟨q, 0, none⟩ = some (.int .i64 c) ∧ w.grownBy w' (some q) := by
  refine callsD_of_wpS Tryz.func58 rfl fun c₀ cs hu => ?_
  apply wpS_region
  simp [wpOpsS, go_sem, recoverD, hu, Tryz.ntmps58]
  refine (psaid_ref q c w hc hf).mono ?_
  rintro e w' ⟨rfl, h1, h2⟩
  simp [bodyPostS, results, Tryz.results58, h1, h2]
theorem pdefErrors_idle (q : Nat) (w : World) :
    CallsD Tryz.prog 58 #[.pointer (some ⟨q, 0, none⟩)] .returning w fun e u' w' => e = .returned (.tuple #[]) ∧ u' = .returning ∧ w' = w := by
  refine callsD_of_wpS Tryz.func58 rfl fun c₀ cs hu => ?_
  apply wpS_region
  simp [wpOpsS, go_sem, recoverD, hu, Tryz.ntmps58]
  refine (psaid_nil q w).mono ?_
  rintro e w' ⟨rfl, rfl⟩
  simp [bodyPostS, results, Tryz.results58]
  cases c₀
  simp_all
end Go.Proofs.YteijilbdllpbcaaGreat
