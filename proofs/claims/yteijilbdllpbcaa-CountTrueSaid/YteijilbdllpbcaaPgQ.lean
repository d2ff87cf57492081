/- The program of layer 1: said, the deferred closures, small functions. Conditions: sizes. -/
import Derived.Test.YteijilbdllpbcaaPgP
import Derived.WideLaws
import Derived.LaidEql
namespace Go.Proofs.Yteijilbdllpbcaa
open Go.RowKit

theorem psaid_nil (q : Nat) (w : World) :
    Calls Try.prog 42 #[.nilIface, .pointer (some ⟨q, 0, none⟩)] w fun e w' => e = .returned (.tuple #[]) ∧ w = w' := by
  have hq : ∀ w : World, (binOp .eql 20 .nilIface .nilIface).run Try.prog w = .ok (.bool true) w := fun _ => by kernel_rfl
  go_enter Try.func42, Try.ntmps42
  go_wp2_with fail
  refine bodyPost_ret (results_none rfl _ _ _) rfl ?_
  exact ⟨rfl, rfl⟩
theorem psaid_ref (q : Nat) (c : Int) (w : World) (hc : w.cell? ⟨q, 0, none⟩ = some (.int .i64 0)) (hf : ∀ o, w.frozen? ⟨q, o, none⟩ = false) :
    Calls Try.prog 42 #[.iface 101 (.agg #[.int .i64 c]), .pointer (some ⟨q, 0, none⟩)] w fun e w' => e = .returned (.tuple #[]) ∧ w'.cell? ⟨q, 0, none⟩ = some (.int .i64 c) ∧ w.grownBy w' (some q) := by
  have hq : ∀ (v : Value) (w : World), (binOp .eql 20 (.iface 101 v) .nilIface).run Try.prog w = .ok (.bool false) w := fun _ _ => by kernel_rfl
  have hta : ∀ (v : Value) (w : World), (Instr.typeAssert (.iface 101 v) 20 101 true).run Try.prog w = .ok (.tuple #[v, .bool true]) w := fun _ _ => by kernel_rfl
  have hlt := lt_of_cell hc
  go_enter Try.func42, Try.ntmps42
  go_wp2_with fail
  go_end0
  refine ⟨rfl, ((Grow.refl _).alloc _).keeps (World.cell?_setCell_same' _ _ _ (by rw [hc]; rfl)), byThen (bySet w q 0 _) ((Grow.refl _).alloc _)⟩
end Go.Proofs.Yteijilbdllpbcaa
namespace Go.Proofs.Yteijilbdllpbcaa
open Go.RowKit

/-- A panic of what is not valid, before and behind recover. -/
def refused (c : Int) (r : Bool) : PanicEntry := { v := .iface 101 (.agg #[.int .i64 c]), recovered := r }
theorem refusal_eq (c : Int) : refusal c = [refused c false] := rfl
theorem pdefFewest_panic (q : Nat) (c : Int) (older : List PanicEntry) (w : World) (hc : w.cell? ⟨q, 0, none⟩ = some (.int .i64 0)) (hf : ∀ o, w.frozen? ⟨q, o, none⟩ = false) :
    CallsD Try.prog 41 #[.pointer (some ⟨q, 0, none⟩)] (.panicking ({ v := .iface 101 (.agg #[.int .i64 c]), recovered := false } :: older)) w fun e u' w' =>
      e = .returned (.tuple #[]) ∧ u' = .panicking ({ v := .iface 101 (.agg #[.int .i64 c]), recovered := true } :: older) ∧ w'.cell? ⟨q, 0, none⟩ = some (.int .i64 c) ∧ w.grownBy w' (some q) := by
  refine callsD_of_wpS Try.func41 rfl fun c₀ cs hu => ?_
  apply wpS_region
  simp [wpOpsS, go_sem, recoverD, hu, Try.ntmps41]
  refine (psaid_ref q c w hc hf).mono ?_
  rintro e w' ⟨rfl, h1, h2⟩
  simp [bodyPostS, results, Try.results41, h1, h2]
theorem pdefFewest_idle (q : Nat) (w : World) :
    CallsD Try.prog 41 #[.pointer (some ⟨q, 0, none⟩)] .returning w fun e u' w' => e = .returned (.tuple #[]) ∧ u' = .returning ∧ w' = w := by
  refine callsD_of_wpS Try.func41 rfl fun c₀ cs hu => ?_
  apply wpS_region
  simp [wpOpsS, go_sem, recoverD, hu, Try.ntmps41]
  refine (psaid_nil q w).mono ?_
  rintro e w' ⟨rfl, rfl⟩
  simp [bodyPostS, results, Try.results41]
  cases c₀
  simp_all
theorem pdefCount_panic (q : Nat) (c : Int) (older : List PanicEntry) (w : World) (hc : w.cell? ⟨q, 0, none⟩ = some (.int .i64 0)) (hf : ∀ o, w.frozen? ⟨q, o, none⟩ = false) :
    CallsD Try.prog 46 #[.pointer (some ⟨q, 0, none⟩)] (.panicking ({ v := .iface 101 (.agg #[.int .i64 c]), recovered := false } :: older)) w fun e u' w' =>
      e = .returned (.tuple #[]) ∧ u' = .panicking ({ v := .iface 101 (.agg #[.int .i64 c]), recovered := true } :: older) ∧ w'.cell? ⟨q, 0, none⟩ = some (.int .i64 c) ∧ w.grownBy w' (some q) := by
  refine callsD_of_wpS Try.func46 rfl fun c₀ cs hu => ?_
  apply wpS_region
  simp [wpOpsS, go_sem, recoverD, hu, Try.ntmps46]
  refine (psaid_ref q c w hc hf).mono ?_
  rintro e w' ⟨rfl, h1, h2⟩
  simp [bodyPostS, results, Try.results46, h1, h2]
theorem pdefCount_idle (q : Nat) (w : World) :
    CallsD Try.prog 46 #[.pointer (some ⟨q, 0, none⟩)] .returning w fun e u' w' => e = .returned (.tuple #[]) ∧ u' = .returning ∧ w' = w := by
  refine callsD_of_wpS Try.func46 rfl fun c₀ cs hu => ?_
  apply wpS_region
  simp [wpOpsS, go_sem, recoverD, hu, Try.ntmps46]
  refine (psaid_nil q w).mono ?_
  rintro e w' ⟨rfl, rfl⟩
  simp [bodyPostS, results, Try.results46]
  cases c₀
  simp_all
theorem pdefFirst_panic (q : Nat) (c : Int) (older : List PanicEntry) (w : World) (hc : w.cell? ⟨q, 0, none⟩ = some (.int .i64 0)) (hf : ∀ o, w.frozen? ⟨q, o, none⟩ = false) :
    CallsD Try.prog 48 #[.pointer (some ⟨q, 0, none⟩)] (.panicking ({ v := .iface 101 (.agg #[.int .i64 c]), recovered := false } :: older)) w fun e u' w' =>
      e = .returned (.tuple #[]) ∧ u' = .panicking ({ v := .iface 101 (.agg #[.int .i64 c]), recovered := true } :: older) ∧ w'.cell? ⟨q, 0, none⟩ = some (.int .i64 c) ∧ w.grownBy w' (some q) := by
  refine callsD_of_wpS Try.func48 rfl fun c₀ cs hu => ?_
  apply wpS_region
  simp [wpOpsS, go_sem, recoverD, hu, Try.ntmps48]
  refine (psaid_ref q c w hc hf).mono ?_
  rintro e w' ⟨rfl, h1, h2⟩
  simp [bodyPostS, results, Try.results48, h1, h2]
theorem pdefFirst_idle (q : Nat) (w : World) :
    CallsD Try.prog 48 #[.pointer (some ⟨q, 0, none⟩)] .returning w fun e u' w' => e = .returned (.tuple #[]) ∧ u' = .returning ∧ w' = w := by
  refine callsD_of_wpS Try.func48 rfl fun c₀ cs hu => ?_
  apply wpS_region
  simp [wpOpsS, go_sem, recoverD, hu, Try.ntmps48]
  refine (psaid_nil q w).mono ?_
  rintro e w' ⟨rfl, rfl⟩
  simp [bodyPostS, results, Try.results48]
  cases c₀
  simp_all
theorem pdefIs_panic (q : Nat) (c : Int) (older : List PanicEntry) (w : World) (hc : w.cell? ⟨q, 0, none⟩ = some (.int .i64 0)) (hf : ∀ o, w.frozen? ⟨q, o, none⟩ = false) :
    CallsD Try.prog 50 #[.pointer (some ⟨q, 0, none⟩)] (.panicking ({ v := .iface 101 (.agg #[.int .i64 c]), recovered := false } :: older)) w fun e u' w' =>
      e = .returned (.tuple #[]) ∧ u' = .panicking ({ v := .iface 101 (.agg #[.int .i64 c]), recovered := true } :: older) ∧ w'.cell? ⟨q, 0, none⟩ = some (.int .i64 c) ∧ w.grownBy w' (some q) := by
  refine callsD_of_wpS Try.func50 rfl fun c₀ cs hu => ?_
  apply wpS_region
  simp [wpOpsS, go_sem, recoverD, hu, Try.ntmps50]
  refine (psaid_ref q c w hc hf).mono ?_
  rintro e w' ⟨rfl, h1, h2⟩
  simp [bodyPostS, results, Try.results50, h1, h2]
theorem pdefIs_idle (q : Nat) (w : World) :
    CallsD Try.prog 50 #[.pointer (some ⟨q, 0, none⟩)] .returning w fun e u' w' => e = .returned (.tuple #[]) ∧ u' = .returning ∧ w' = w := by
  refine callsD_of_wpS Try.func50 rfl fun c₀ cs hu => ?_
  apply wpS_region
  simp [wpOpsS, go_sem, recoverD, hu, Try.ntmps50]
  refine (psaid_nil q w).mono ?_
  rintro e w' ⟨rfl, rfl⟩
  simp [bodyPostS, results, Try.results50]
  cases c₀
  simp_all
theorem pdefLaps_panic (q : Nat) (c : Int) (older : List PanicEntry) (w : World) (hc : w.cell? ⟨q, 0, none⟩ = some (.int .i64 0)) (hf : ∀ o, w.frozen? ⟨q, o, none⟩ = false) :
    CallsD Try.prog 61 #[.pointer (some ⟨q, 0, none⟩)] (.panicking ({ v := .iface 101 (.agg #[.int .i64 c]), recovered := false } :: older)) w fun e u' w' =>
      e = .returned (.tuple #[]) ∧ u' = .panicking ({ v := .iface 101 (.agg #[.int .i64 c]), recovered := true } :: older) ∧ w'.cell? ⟨q, 0, none⟩ = some (.int .i64 c) ∧ w.grownBy w' (some q) := by
  refine callsD_of_wpS Try.func61 rfl fun c₀ cs hu => ?_
  apply wpS_region
  simp [wpOpsS, go_sem, recoverD, hu, Try.ntmps61]
  refine (psaid_ref q c w hc hf).mono ?_
  rintro e w' ⟨rfl, h1, h2⟩
  simp [bodyPostS, results, Try.results61, h1, h2]
theorem pdefLaps_idle (q : Nat) (w : World) :
    CallsD Try.prog 61 #[.pointer (some ⟨q, 0, none⟩)] .returning w fun e u' w' => e = .returned (.tuple #[]) ∧ u' = .returning ∧ w' = w := by
  refine callsD_of_wpS Try.func61 rfl fun c₀ cs hu => ?_
  apply wpS_region
  simp [wpOpsS, go_sem, recoverD, hu, Try.ntmps61]
  refine (psaid_nil q w).mono ?_
  rintro e w' ⟨rfl, rfl⟩
  simp [bodyPostS, results, Try.results61]
  cases c₀
  simp_all
theorem pdefLead_panic (q : Nat) (c : Int) (older : List PanicEntry) (w : World) (hc : w.cell? ⟨q, 0, none⟩ = some (.int .i64 0)) (hf : ∀ o, w.frozen? ⟨q, o, none⟩ = false) :
    CallsD Try.prog 66 #[.pointer (some ⟨q, 0, none⟩)] (.panicking ({ v := .iface 101 (.agg #[.int .i64 c]), recovered := false } :: older)) w fun e u' w' =>
      e = .returned (.tuple #[]) ∧ u' = .panicking ({ v := .iface 101 (.agg #[.int .i64 c]), recovered := true } :: older) ∧ w'.cell? ⟨q, 0, none⟩ = some (.int .i64 c) ∧ w.grownBy w' (some q) := by
  refine callsD_of_wpS Try.func66 rfl fun c₀ cs hu => ?_
  apply wpS_region
  simp [wpOpsS, go_sem, recoverD, hu, Try.ntmps66]
  refine (psaid_ref q c w hc hf).mono ?_
  rintro e w' ⟨rfl, h1, h2⟩
  simp [bodyPostS, results, Try.results66, h1, h2]
theorem pdefLead_idle (q : Nat) (w : World) :
    CallsD Try.prog 66 #[.pointer (some ⟨q, 0, none⟩)] .returning w fun e u' w' => e = .returned (.tuple #[]) ∧ u' = .returning ∧ w' = w := by
  refine callsD_of_wpS Try.func66 rfl fun c₀ cs hu => ?_
  apply wpS_region
  simp [wpOpsS, go_sem, recoverD, hu, Try.ntmps66]
  refine (psaid_nil q w).mono ?_
  rintro e w' ⟨rfl, rfl⟩
  simp [bodyPostS, results, Try.results66]
  cases c₀
  simp_all
theorem pdefSettle_panic (q : Nat) (c : Int) (older : List PanicEntry) (w : World) (hc : w.cell? ⟨q, 0, none⟩ = some (.int .i64 0)) (hf : ∀ o, w.frozen? ⟨q, o, none⟩ = false) :
    CallsD Try.prog 69 #[.pointer (some ⟨q, 0, none⟩)] (.panicking ({ v := .iface 101 (.agg #[.int .i64 c]), recovered := false } :: older)) w fun e u' w' =>
      e = .returned (.tuple #[]) ∧ u' = .panicking ({ v := .iface 101 (.agg #[.int .i64 c]), recovered := true } :: older) ∧ w'.cell? ⟨q, 0, none⟩ = some (.int .i64 c) ∧ w.grownBy w' (some q) := by
  refine callsD_of_wpS Try.func69 rfl fun c₀ cs hu => ?_
  apply wpS_region
  simp [wpOpsS, go_sem, recoverD, hu, Try.ntmps69]
  refine (psaid_ref q c w hc hf).mono ?_
  rintro e w' ⟨rfl, h1, h2⟩
  simp [bodyPostS, results, Try.results69, h1, h2]
theorem pdefSettle_idle (q : Nat) (w : World) :
    CallsD Try.prog 69 #[.pointer (some ⟨q, 0, none⟩)] .returning w fun e u' w' => e = .returned (.tuple #[]) ∧ u' = .returning ∧ w' = w := by
  refine callsD_of_wpS Try.func69 rfl fun c₀ cs hu => ?_
  apply wpS_region
  simp [wpOpsS, go_sem, recoverD, hu, Try.ntmps69]
  refine (psaid_nil q w).mono ?_
  rintro e w' ⟨rfl, rfl⟩
  simp [bodyPostS, results, Try.results69]
  cases c₀
  simp_all
theorem pdefErrors_panic (q : Nat) (c : Int) (older : List PanicEntry) (w : World) (hc : w.cell? ⟨q, 0, none⟩ = some (.int .i64 0)) (hf : ∀ o, w.frozen? ⟨q, o, none⟩ = false) :
    CallsD Try.prog 55 #[.pointer (some ⟨q, 0, none⟩)] (.panicking ({ v := .iface 101 (.agg #[.int .i64 c]), recovered := false } :: older)) w fun e u' w' =>
      e = .returned (.tuple #[]) ∧ u' = .panicking ({ v := .iface 101 (.agg #[.int .i64 c]), recovered := true } :: older) ∧ w'.cell? ⟨q, 0, none⟩ = some (.int .i64 c) ∧ w.grownBy w' (some q) := by
  refine callsD_of_wpS Try.func55 rfl fun c₀ cs hu => ?_
  apply wpS_region
  simp [wpOpsS, go_sem, recoverD, hu, Try.ntmps55]
  refine (psaid_ref q c w hc hf).mono ?_
  rintro e w' ⟨rfl, h1, h2⟩
  simp [bodyPostS, results, Try.results55, h1, h2]
theorem pdefErrors_idle (q : Nat) (w : World) :
    CallsD Try.prog 55 #[.pointer (some ⟨q, 0, none⟩)] .returning w fun e u' w' => e = .returned (.tuple #[]) ∧ u' = .returning ∧ w' = w := by
  refine callsD_of_wpS Try.func55 rfl fun c₀ cs hu => ?_
  apply wpS_region
  simp [wpOpsS, go_sem, recoverD, hu, Try.ntmps55]
  refine (psaid_nil q w).mono ?_
  rintro e w' ⟨rfl, rfl⟩
  simp [bodyPostS, results, Try.results55]
  cases c₀
  simp_all
end Go.Proofs.Yteijilbdllpbcaa
