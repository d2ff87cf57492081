/- The program of layer 7: said, the deferred closures. Conditions: none. -/
import Derived.Test.YtbeglemohfbdfaaQpB
import Derived.Defers
import Derived.Tactics
import Derived.Tactics2
namespace Go.Proofs.Ytbeglemohfbdfaa
open Go.RowKit

theorem psaid_nil (q : Nat) (w : World) :
    Calls Try.prog 37 #[.nilIface, .pointer (some ⟨q, 0, none⟩)] w fun e w' => e = .returned (.tuple #[]) ∧ w = w' := by
  have hq : ∀ w : World, (binOp .eql 20 .nilIface .nilIface).run Try.prog w = .ok (.bool true) w := fun _ => by kernel_rfl
  go_enter Try.func37, Try.ntmps37
  go_wp2_with fail
  refine bodyPost_ret (results_none rfl _ _ _) rfl ?_
  exact ⟨rfl, rfl⟩
theorem psaid_ref (q : Nat) (c : Int) (w : World) (hc : w.cell? ⟨q, 0, none⟩ = some (.int .i64 0)) (hf : ∀ o, w.frozen? ⟨q, o, none⟩ = false) :
    Calls Try.prog 37 #[.iface 95 (.agg #[.int .i64 c]), .pointer (some ⟨q, 0, none⟩)] w fun e w' => e = .returned (.tuple #[]) ∧ w'.cell? ⟨q, 0, none⟩ = some (.int .i64 c) ∧ w.grownBy w' (some q) := by
  have hq : ∀ (v : Value) (w : World), (binOp .eql 20 (.iface 95 v) .nilIface).run Try.prog w = .ok (.bool false) w := fun _ _ => by kernel_rfl
  have hta : ∀ (v : Value) (w : World), (Instr.typeAssert (.iface 95 v) 20 95 true).run Try.prog w = .ok (.tuple #[v, .bool true]) w := fun _ _ => by kernel_rfl
  have hlt := lt_of_cell hc
  go_enter Try.func37, Try.ntmps37
  go_wp2_with fail
  go_end0
  refine ⟨rfl, ((Grow.refl _).alloc _).keeps (World.cell?_setCell_same' _ _ _ (by rw [hc]; rfl)), byThen (bySet w q 0 _) ((Grow.refl _).alloc _)⟩

theorem pdefTime_panic (q : Nat) (c : Int) (older : List PanicEntry) (w : World) (hc : w.cell? ⟨q, 0, none⟩ = some (.int .i64 0)) (hf : ∀ o, w.frozen? ⟨q, o, none⟩ = false) :
    CallsD Try.prog 36 #[.pointer (some ⟨q, 0, none⟩)] (.panicking ({ v := .iface 95 (.agg #[.int .i64 c]), recovered := false } :: older)) w fun e u' w' =>
      e = .returned (.tuple #[]) ∧ u' = .panicking ({ v := .iface 95 (.agg #[.int .i64 c]), recovered := true } :: older) ∧ w'.cell? ⟨q, 0, none⟩ = some (.int .i64 c) ∧ w.grownBy w' (some q) := by
  refine callsD_of_wpS Try.func36 rfl fun c₀ cs hu => ?_
  apply wpS_region
  simp [wpOpsS, go_sem, recoverD, hu, Try.ntmps36]
  refine (psaid_ref q c w hc hf).mono ?_
  rintro e w' ⟨rfl, h1, h2⟩
  simp [bodyPostS, results, Try.results36, h1, h2]
theorem pdefTime_idle (q : Nat) (w : World) :
    CallsD Try.prog 36 #[.pointer (some ⟨q, 0, none⟩)] .returning w fun e u' w' => e = .returned (.tuple #[]) ∧ u' = .returning ∧ w' = w := by
  refine callsD_of_wpS Try.func36 rfl fun c₀ cs hu => ?_
  apply wpS_region
  simp [wpOpsS, go_sem, recoverD, hu, Try.ntmps36]
  refine (psaid_nil q w).mono ?_
  rintro e w' ⟨rfl, rfl⟩
  simp [bodyPostS, results, Try.results36]
  cases c₀
  simp_all
theorem pdefWrong_panic (q : Nat) (c : Int) (older : List PanicEntry) (w : World) (hc : w.cell? ⟨q, 0, none⟩ = some (.int .i64 0)) (hf : ∀ o, w.frozen? ⟨q, o, none⟩ = false) :
    CallsD Try.prog 45 #[.pointer (some ⟨q, 0, none⟩)] (.panicking ({ v := .iface 95 (.agg #[.int .i64 c]), recovered := false } :: older)) w fun e u' w' =>
      e = .returned (.tuple #[]) ∧ u' = .panicking ({ v := .iface 95 (.agg #[.int .i64 c]), recovered := true } :: older) ∧ w'.cell? ⟨q, 0, none⟩ = some (.int .i64 c) ∧ w.grownBy w' (some q) := by
  refine callsD_of_wpS Try.func45 rfl fun c₀ cs hu => ?_
  apply wpS_region
  simp [wpOpsS, go_sem, recoverD, hu, Try.ntmps45]
  refine (psaid_ref q c w hc hf).mono ?_
  rintro e w' ⟨rfl, h1, h2⟩
  simp [bodyPostS, results, Try.results45, h1, h2]
theorem pdefWrong_idle (q : Nat) (w : World) :
    CallsD Try.prog 45 #[.pointer (some ⟨q, 0, none⟩)] .returning w fun e u' w' => e = .returned (.tuple #[]) ∧ u' = .returning ∧ w' = w := by
  refine callsD_of_wpS Try.func45 rfl fun c₀ cs hu => ?_
  apply wpS_region
  simp [wpOpsS, go_sem, recoverD, hu, Try.ntmps45]
  refine (psaid_nil q w).mono ?_
  rintro e w' ⟨rfl, rfl⟩
  simp [bodyPostS, results, Try.results45]
  cases c₀
  simp_all
theorem pdefPlace_panic (q : Nat) (c : Int) (older : List PanicEntry) (w : World) (hc : w.cell? ⟨q, 0, none⟩ = some (.int .i64 0)) (hf : ∀ o, w.frozen? ⟨q, o, none⟩ = false) :
    CallsD Try.prog 41 #[.pointer (some ⟨q, 0, none⟩)] (.panicking ({ v := .iface 95 (.agg #[.int .i64 c]), recovered := false } :: older)) w fun e u' w' =>
      e = .returned (.tuple #[]) ∧ u' = .panicking ({ v := .iface 95 (.agg #[.int .i64 c]), recovered := true } :: older) ∧ w'.cell? ⟨q, 0, none⟩ = some (.int .i64 c) ∧ w.grownBy w' (some q) := by
  refine callsD_of_wpS Try.func41 rfl fun c₀ cs hu => ?_
  apply wpS_region
  simp [wpOpsS, go_sem, recoverD, hu, Try.ntmps41]
  refine (psaid_ref q c w hc hf).mono ?_
  rintro e w' ⟨rfl, h1, h2⟩
  simp [bodyPostS, results, Try.results41, h1, h2]
theorem pdefPlace_idle (q : Nat) (w : World) :
    CallsD Try.prog 41 #[.pointer (some ⟨q, 0, none⟩)] .returning w fun e u' w' => e = .returned (.tuple #[]) ∧ u' = .returning ∧ w' = w := by
  refine callsD_of_wpS Try.func41 rfl fun c₀ cs hu => ?_
  apply wpS_region
  simp [wpOpsS, go_sem, recoverD, hu, Try.ntmps41]
  refine (psaid_nil q w).mono ?_
  rintro e w' ⟨rfl, rfl⟩
  simp [bodyPostS, results, Try.results41]
  cases c₀
  simp_all
theorem pdefFinal_panic (q : Nat) (c : Int) (older : List PanicEntry) (w : World) (hc : w.cell? ⟨q, 0, none⟩ = some (.int .i64 0)) (hf : ∀ o, w.frozen? ⟨q, o, none⟩ = false) :
    CallsD Try.prog 43 #[.pointer (some ⟨q, 0, none⟩)] (.panicking ({ v := .iface 95 (.agg #[.int .i64 c]), recovered := false } :: older)) w fun e u' w' =>
      e = .returned (.tuple #[]) ∧ u' = .panicking ({ v := .iface 95 (.agg #[.int .i64 c]), recovered := true } :: older) ∧ w'.cell? ⟨q, 0, none⟩ = some (.int .i64 c) ∧ w.grownBy w' (some q) := by
  refine callsD_of_wpS Try.func43 rfl fun c₀ cs hu => ?_
  apply wpS_region
  simp [wpOpsS, go_sem, recoverD, hu, Try.ntmps43]
  refine (psaid_ref q c w hc hf).mono ?_
  rintro e w' ⟨rfl, h1, h2⟩
  simp [bodyPostS, results, Try.results43, h1, h2]
theorem pdefFinal_idle (q : Nat) (w : World) :
    CallsD Try.prog 43 #[.pointer (some ⟨q, 0, none⟩)] .returning w fun e u' w' => e = .returned (.tuple #[]) ∧ u' = .returning ∧ w' = w := by
  refine callsD_of_wpS Try.func43 rfl fun c₀ cs hu => ?_
  apply wpS_region
  simp [wpOpsS, go_sem, recoverD, hu, Try.ntmps43]
  refine (psaid_nil q w).mono ?_
  rintro e w' ⟨rfl, rfl⟩
  simp [bodyPostS, results, Try.results43]
  cases c₀
  simp_all
theorem pdefCut_panic (q : Nat) (c : Int) (older : List PanicEntry) (w : World) (hc : w.cell? ⟨q, 0, none⟩ = some (.int .i64 0)) (hf : ∀ o, w.frozen? ⟨q, o, none⟩ = false) :
    CallsD Try.prog 56 #[.pointer (some ⟨q, 0, none⟩)] (.panicking ({ v := .iface 95 (.agg #[.int .i64 c]), recovered := false } :: older)) w fun e u' w' =>
      e = .returned (.tuple #[]) ∧ u' = .panicking ({ v := .iface 95 (.agg #[.int .i64 c]), recovered := true } :: older) ∧ w'.cell? ⟨q, 0, none⟩ = some (.int .i64 c) ∧ w.grownBy w' (some q) := by
  refine callsD_of_wpS Try.func56 rfl fun c₀ cs hu => ?_
  apply wpS_region
  simp [wpOpsS, go_sem, recoverD, hu, Try.ntmps56]
  refine (psaid_ref q c w hc hf).mono ?_
  rintro e w' ⟨rfl, h1, h2⟩
  simp [bodyPostS, results, Try.results56, h1, h2]
theorem pdefCut_idle (q : Nat) (w : World) :
    CallsD Try.prog 56 #[.pointer (some ⟨q, 0, none⟩)] .returning w fun e u' w' => e = .returned (.tuple #[]) ∧ u' = .returning ∧ w' = w := by
  refine callsD_of_wpS Try.func56 rfl fun c₀ cs hu => ?_
  apply wpS_region
  simp [wpOpsS, go_sem, recoverD, hu, Try.ntmps56]
  refine (psaid_nil q w).mono ?_
  rintro e w' ⟨rfl, rfl⟩
  simp [bodyPostS, results, Try.results56]
  cases c₀
  simp_all
theorem pdefOrders_panic (q : Nat) (c : Int) (older : List PanicEntry) (w : World) (hc : w.cell? ⟨q, 0, none⟩ = some (.int .i64 0)) (hf : ∀ o, w.frozen? ⟨q, o, none⟩ = false) :
    CallsD Try.prog 58 #[.pointer (some ⟨q, 0, none⟩)] (.panicking ({ v := .iface 95 (.agg #[.int .i64 c]), recovered := false } :: older)) w fun e u' w' =>
      e = .returned (.tuple #[]) ∧ u' = .panicking ({ v := .iface 95 (.agg #[.int .i64 c]), recovered := true } :: older) ∧ w'.cell? ⟨q, 0, none⟩ = some (.int .i64 c) ∧ w.grownBy w' (some q) := by
  refine callsD_of_wpS Try.func58 rfl fun c₀ cs hu => ?_
  apply wpS_region
  simp [wpOpsS, go_sem, recoverD, hu, Try.ntmps58]
  refine (psaid_ref q c w hc hf).mono ?_
  rintro e w' ⟨rfl, h1, h2⟩
  simp [bodyPostS, results, Try.results58, h1, h2]
theorem pdefOrders_idle (q : Nat) (w : World) :
    CallsD Try.prog 58 #[.pointer (some ⟨q, 0, none⟩)] .returning w fun e u' w' => e = .returned (.tuple #[]) ∧ u' = .returning ∧ w' = w := by
  refine callsD_of_wpS Try.func58 rfl fun c₀ cs hu => ?_
  apply wpS_region
  simp [wpOpsS, go_sem, recoverD, hu, Try.ntmps58]
  refine (psaid_nil q w).mono ?_
  rintro e w' ⟨rfl, rfl⟩
  simp [bodyPostS, results, Try.results58]
  cases c₀
  simp_all
theorem pdefFirst_panic (q : Nat) (c : Int) (older : List PanicEntry) (w : World) (hc : w.cell? ⟨q, 0, none⟩ = some (.int .i64 0)) (hf : ∀ o, w.frozen? ⟨q, o, none⟩ = false) :
    CallsD Try.prog 60 #[.pointer (some ⟨q, 0, none⟩)] (.panicking ({ v := .iface 95 (.agg #[.int .i64 c]), recovered := false } :: older)) w fun e u' w' =>
      e = .returned (.tuple #[]) ∧ u' = .panicking ({ v := .iface 95 (.agg #[.int .i64 c]), recovered := true } :: older) ∧ w'.cell? ⟨q, 0, none⟩ = some (.int .i64 c) ∧ w.grownBy w' (some q) := by
  refine callsD_of_wpS Try.func60 rfl fun c₀ cs hu => ?_
  apply wpS_region
  simp [wpOpsS, go_sem, recoverD, hu, Try.ntmps60]
  refine (psaid_ref q c w hc hf).mono ?_
  rintro e w' ⟨rfl, h1, h2⟩
  simp [bodyPostS, results, Try.results60, h1, h2]
theorem pdefFirst_idle (q : Nat) (w : World) :
    CallsD Try.prog 60 #[.pointer (some ⟨q, 0, none⟩)] .returning w fun e u' w' => e = .returned (.tuple #[]) ∧ u' = .returning ∧ w' = w := by
  refine callsD_of_wpS Try.func60 rfl fun c₀ cs hu => ?_
  apply wpS_region
  simp [wpOpsS, go_sem, recoverD, hu, Try.ntmps60]
  refine (psaid_nil q w).mono ?_
  rintro e w' ⟨rfl, rfl⟩
  simp [bodyPostS, results, Try.results60]
  cases c₀
  simp_all
theorem pdefMeet_panic (q : Nat) (c : Int) (older : List PanicEntry) (w : World) (hc : w.cell? ⟨q, 0, none⟩ = some (.int .i64 0)) (hf : ∀ o, w.frozen? ⟨q, o, none⟩ = false) :
    CallsD Try.prog 49 #[.pointer (some ⟨q, 0, none⟩)] (.panicking ({ v := .iface 95 (.agg #[.int .i64 c]), recovered := false } :: older)) w fun e u' w' =>
      e = .returned (.tuple #[]) ∧ u' = .panicking ({ v := .iface 95 (.agg #[.int .i64 c]), recovered := true } :: older) ∧ w'.cell? ⟨q, 0, none⟩ = some (.int .i64 c) ∧ w.grownBy w' (some q) := by
  refine callsD_of_wpS Try.func49 rfl fun c₀ cs hu => ?_
  apply wpS_region
  simp [wpOpsS, go_sem, recoverD, hu, Try.ntmps49]
  refine (psaid_ref q c w hc hf).mono ?_
  rintro e w' ⟨rfl, h1, h2⟩
  simp [bodyPostS, results, Try.results49, h1, h2]
theorem pdefMeet_idle (q : Nat) (w : World) :
    CallsD Try.prog 49 #[.pointer (some ⟨q, 0, none⟩)] .returning w fun e u' w' => e = .returned (.tuple #[]) ∧ u' = .returning ∧ w' = w := by
  refine callsD_of_wpS Try.func49 rfl fun c₀ cs hu => ?_
  apply wpS_region
  simp [wpOpsS, go_sem, recoverD, hu, Try.ntmps49]
  refine (psaid_nil q w).mono ?_
  rintro e w' ⟨rfl, rfl⟩
  simp [bodyPostS, results, Try.results49]
  cases c₀
  simp_all
theorem pdefAsk_panic (q : Nat) (c : Int) (older : List PanicEntry) (w : World) (hc : w.cell? ⟨q, 0, none⟩ = some (.int .i64 0)) (hf : ∀ o, w.frozen? ⟨q, o, none⟩ = false) :
    CallsD Try.prog 50 #[.pointer (some ⟨q, 0, none⟩)] (.panicking ({ v := .iface 95 (.agg #[.int .i64 c]), recovered := false } :: older)) w fun e u' w' =>
      e = .returned (.tuple #[]) ∧ u' = .panicking ({ v := .iface 95 (.agg #[.int .i64 c]), recovered := true } :: older) ∧ w'.cell? ⟨q, 0, none⟩ = some (.int .i64 c) ∧ w.grownBy w' (some q) := by
  refine callsD_of_wpS Try.func50 rfl fun c₀ cs hu => ?_
  apply wpS_region
  simp [wpOpsS, go_sem, recoverD, hu, Try.ntmps50]
  refine (psaid_ref q c w hc hf).mono ?_
  rintro e w' ⟨rfl, h1, h2⟩
  simp [bodyPostS, results, Try.results50, h1, h2]
theorem pdefAsk_idle (q : Nat) (w : World) :
    CallsD Try.prog 50 #[.pointer (some ⟨q, 0, none⟩)] .returning w fun e u' w' => e = .returned (.tuple #[]) ∧ u' = .returning ∧ w' = w := by
  refine callsD_of_wpS Try.func50 rfl fun c₀ cs hu => ?_
  apply wpS_region
  simp [wpOpsS, go_sem, recoverD, hu, Try.ntmps50]
  refine (psaid_nil q w).mono ?_
  rintro e w' ⟨rfl, rfl⟩
  simp [bodyPostS, results, Try.results50]
  cases c₀
  simp_all
end Go.Proofs.Ytbeglemohfbdfaa
