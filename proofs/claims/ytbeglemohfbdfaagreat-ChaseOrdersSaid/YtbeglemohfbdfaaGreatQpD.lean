/- The program of layer 7: said, the deferred closures. Conditions: none. -/
import Derived.Test.YtbeglemohfbdfaaGreatQpB
import Derived.Defers
import Derived.Tactics
import Derived.Tactics2
namespace Go.Proofs.YtbeglemohfbdfaaGreat
open Go.RowKit

theorem psaid_nil (q : Nat) (w : World) :
    Calls Tryz.prog 33 #[.nilIface, .pointer (some ⟨q, 0, none⟩)] w fun e w' => e = .returned (.tuple #[]) ∧ w = w' := by
  have hq : ∀ w : World, (binOp .eql 20 .nilIface .nilIface).run Tryz.prog w = .ok (.bool true) w := fun _ => by kernel_rfl
  go_enter Tryz.func33, Tryz.ntmps33
  go_wp2_with fail
  refine bodyPost_ret (results_none rfl _ _ _) rfl ?_
  exact ⟨rfl, rfl⟩
theorem psaid_ref (q : Nat) (c : Int) (w : World) (hc : w.cell? ⟨q, 0, none⟩ = some (.int .i64 0)) (hf : ∀ o, w.frozen? ⟨q, o, none⟩ = false) :
    Calls Tryz.prog 33 #[.iface 89 (.agg #[.int .i64 c]), .pointer (some ⟨q, 0, none⟩)] w fun e w' => e = .returned (.tuple #[]) ∧ w'.cell? ⟨q, 0, none⟩ = some (.int .i64 c) ∧ w.grownBy w' (some q) := by
  have hq : ∀ (v : Value) (w : World), (binOp .eql 20 (.iface 89 v) .nilIface).run Tryz.prog w = .ok (.bool false) w := fun _ _ => by kernel_rfl
  have hta : ∀ (v : Value) (w : World), (Instr.typeAssert (.iface 89 v) 20 89 true).run Tryz.prog w = .ok (.tuple #[v, .bool true]) w := fun _ _ => by kernel_rfl
  have hlt := lt_of_cell hc
  go_enter Tryz.func33, Tryz.ntmps33
  go_wp2_with fail
  go_end0
  refine ⟨rfl, ((Grow.refl _).alloc _).keeps (World.cell?_setCell_same' _ _ _ (by rw [hc]; rfl)), byThen (bySet w q 0 _) ((Grow.refl _).alloc _)⟩

theorem pdefTime_panic (q : Nat) (c : Int) (older : List PanicEntry) (w : World) (hc : w.cell? ⟨q, 0, none⟩ = some (.int .i64 0)) (hf : ∀ o, w.frozen? ⟨q, o, none⟩ = false) :
    CallsD Tryz.prog 32 #[.pointer (some ⟨q, 0, none⟩)] (.panicking ({ v := .iface 89 (.agg #[.int .i64 c]), recovered := false } :: older)) w fun e u' w' =>
      e = .returned (.tuple #[]) ∧ u' = .panicking ({ v := .iface 89 (.agg #[.int .i64 c]), recovered := true } :: older) ∧ w'.cell? ⟨q, 0, none⟩ = some (.int .i64 c) ∧ w.grownBy w' (some q) := by
  refine callsD_of_wpS Tryz.func32 rfl fun c₀ cs hu => ?_
  apply wpS_region
  simp [wpOpsS, go_sem, recoverD, hu, Tryz.ntmps32]
  refine (psaid_ref q c w hc hf).mono ?_
  rintro e w' ⟨rfl, h1, h2⟩
  simp [bodyPostS, results, Tryz.results32, h1, h2]
theorem pdefTime_idle (q : Nat) (w : World) :
    CallsD Tryz.prog 32 #[.pointer (some ⟨q, 0, none⟩)] .returning w fun e u' w' => e = .returned (.tuple #[]) ∧ u' = .returning ∧ w' = w := by
  refine callsD_of_wpS Tryz.func32 rfl fun c₀ cs hu => ?_
  apply wpS_region
  simp [wpOpsS, go_sem, recoverD, hu, Tryz.ntmps32]
  refine (psaid_nil q w).mono ?_
  rintro e w' ⟨rfl, rfl⟩
  simp [bodyPostS, results, Tryz.results32]
  cases c₀
  simp_all
theorem pdefWrong_panic (q : Nat) (c : Int) (older : List PanicEntry) (w : World) (hc : w.cell? ⟨q, 0, none⟩ = some (.int .i64 0)) (hf : ∀ o, w.frozen? ⟨q, o, none⟩ = false) :
    CallsD Tryz.prog 40 #[.pointer (some ⟨q, 0, none⟩)] (.panicking ({ v := .iface 89 (.agg #[.int .i64 c]), recovered := false } :: older)) w fun e u' w' =>
      e = .returned (.tuple #[]) ∧ u' = .panicking ({ v := .iface 89 (.agg #[.int .i64 c]), recovered := true } :: older) ∧ w'.cell? ⟨q, 0, none⟩ = some (.int .i64 c) ∧ w.grownBy w' (some q) := by
  refine callsD_of_wpS Tryz.func40 rfl fun c₀ cs hu => ?_
  apply wpS_region
  simp [wpOpsS, go_sem, recoverD, hu, Tryz.ntmps40]
  refine (psaid_ref q c w hc hf).mono ?_
  rintro e w' ⟨rfl, h1, h2⟩
  simp [bodyPostS, results, Tryz.results40, h1, h2]
theorem pdefWrong_idle (q : Nat) (w : World) :
    CallsD Tryz.prog 40 #[.pointer (some ⟨q, 0, none⟩)] .returning w fun e u' w' => e = .returned (.tuple #[]) ∧ u' = .returning ∧ w' = w := by
  refine callsD_of_wpS Tryz.func40 rfl fun c₀ cs hu => ?_
  apply wpS_region
  simp [wpOpsS, go_sem, recoverD, hu, Tryz.ntmps40]
  refine (psaid_nil q w).mono ?_
  rintro e w' ⟨rfl, rfl⟩
  simp [bodyPostS, results, Tryz.results40]
  cases c₀
  simp_all
theorem pdefPlace_panic (q : Nat) (c : Int) (older : List PanicEntry) (w : World) (hc : w.cell? ⟨q, 0, none⟩ = some (.int .i64 0)) (hf : ∀ o, w.frozen? ⟨q, o, none⟩ = false) :
    CallsD Tryz.prog 47 #[.pointer (some ⟨q, 0, none⟩)] (.panicking ({ v := .iface 89 (.agg #[.int .i64 c]), recovered := false } :: older)) w fun e u' w' =>
      e = .returned (.tuple #[]) ∧ u' = .panicking ({ v := .iface 89 (.agg #[.int .i64 c]), recovered := true } :: older) ∧ w'.cell? ⟨q, 0, none⟩ = some (.int .i64 c) ∧ w.grownBy w' (some q) := by
  refine callsD_of_wpS Tryz.func47 rfl fun c₀ cs hu => ?_
  apply wpS_region
  simp [wpOpsS, go_sem, recoverD, hu, Tryz.ntmps47]
  refine (psaid_ref q c w hc hf).mono ?_
  rintro e w' ⟨rfl, h1, h2⟩
  simp [bodyPostS, results, Tryz.results47, h1, h2]
theorem pdefPlace_idle (q : Nat) (w : World) :
    CallsD Tryz.prog 47 #[.pointer (some ⟨q, 0, none⟩)] .returning w fun e u' w' => e = .returned (.tuple #[]) ∧ u' = .returning ∧ w' = w := by
  refine callsD_of_wpS Tryz.func47 rfl fun c₀ cs hu => ?_
  apply wpS_region
  simp [wpOpsS, go_sem, recoverD, hu, Tryz.ntmps47]
  refine (psaid_nil q w).mono ?_
  rintro e w' ⟨rfl, rfl⟩
  simp [bodyPostS, results, Tryz.results47]
  cases c₀
  simp_all
theorem pdefFinal_panic (q : Nat) (c : Int) (older : List PanicEntry) (w : World) (hc : w.cell? ⟨q, 0, none⟩ = some (.int .i64 0)) (hf : ∀ o, w.frozen? ⟨q, o, none⟩ = false) :
    CallsD Tryz.prog 50 #[.pointer (some ⟨q, 0, none⟩)] (.panicking ({ v := .iface 89 (.agg #[.int .i64 c]), recovered := false } :: older)) w fun e u' w' =>
      e = .returned (.tuple #[]) ∧ u' = .panicking ({ v := .iface 89 (.agg #[.int .i64 c]), recovered := true } :: older) ∧ w'.cell? ⟨q, 0, none⟩ = some (.int .i64 c) ∧ w.grownBy w' (some q) := by
  refine callsD_of_wpS Tryz.func50 rfl fun c₀ cs hu => ?_
  apply wpS_region
  simp [wpOpsS, go_sem, recoverD, hu, Tryz.ntmps50]
  refine (psaid_ref q c w hc hf).mono ?_
  rintro e w' ⟨rfl, h1, h2⟩
  simp [bodyPostS, results, Tryz.results50, h1, h2]
theorem pdefFinal_idle (q : Nat) (w : World) :
    CallsD Tryz.prog 50 #[.pointer (some ⟨q, 0, none⟩)] .returning w fun e u' w' => e = .returned (.tuple #[]) ∧ u' = .returning ∧ w' = w := by
  refine callsD_of_wpS Tryz.func50 rfl fun c₀ cs hu => ?_
  apply wpS_region
  simp [wpOpsS, go_sem, recoverD, hu, Tryz.ntmps50]
  refine (psaid_nil q w).mono ?_
  rintro e w' ⟨rfl, rfl⟩
  simp [bodyPostS, results, Tryz.results50]
  cases c₀
  simp_all
theorem pdefCut_panic (q : Nat) (c : Int) (older : List PanicEntry) (w : World) (hc : w.cell? ⟨q, 0, none⟩ = some (.int .i64 0)) (hf : ∀ o, w.frozen? ⟨q, o, none⟩ = false) :
    CallsD Tryz.prog 53 #[.pointer (some ⟨q, 0, none⟩)] (.panicking ({ v := .iface 89 (.agg #[.int .i64 c]), recovered := false } :: older)) w fun e u' w' =>
      e = .returned (.tuple #[]) ∧ u' = .panicking ({ v := .iface 89 (.agg #[.int .i64 c]), recovered := true } :: older) ∧ w'.cell? ⟨q, 0, none⟩ = some (.int .i64 c) ∧ w.grownBy w' (some q) := by
  refine callsD_of_wpS Tryz.func53 rfl fun c₀ cs hu => ?_
  apply wpS_region
  simp [wpOpsS, go_sem, recoverD, hu, Tryz.ntmps53]
  refine (psaid_ref q c w hc hf).mono ?_
  rintro e w' ⟨rfl, h1, h2⟩
  simp [bodyPostS, results, Tryz.results53, h1, h2]
theorem pdefCut_idle (q : Nat) (w : World) :
    CallsD Tryz.prog 53 #[.pointer (some ⟨q, 0, none⟩)] .returning w fun e u' w' => e = .returned (.tuple #[]) ∧ u' = .returning ∧ w' = w := by
  refine callsD_of_wpS Tryz.func53 rfl fun c₀ cs hu => ?_
  apply wpS_region
  simp [wpOpsS, go_sem, recoverD, hu, Tryz.ntmps53]
  refine (psaid_nil q w).mono ?_
  rintro e w' ⟨rfl, rfl⟩
  simp [bodyPostS, results, Tryz.results53]
  cases c₀
  simp_all
theorem pdefOrders_panic (q : Nat) (c : Int) (older : List PanicEntry) (w : World) (hc : w.cell? ⟨q, 0, none⟩ = some (.int .i64 0)) (hf : ∀ o, w.frozen? ⟨q, o, none⟩ = false) :
    CallsD Tryz.prog 59 #[.pointer (some ⟨q, 0, none⟩)] (.panicking ({ v := .iface 89 (.agg #[.int .i64 c]), recovered := false } :: older)) w fun e u' w' =>
      e = .returned (.tuple #[]) ∧ u' = .panicking ({ v := .iface 89 (.agg #[.int .i64 c]), recovered := true } :: older) ∧ w'.cell? ⟨q, 0, none⟩ = some (.int .i64 c) ∧ w.grownBy w' (some q) := by
  refine callsD_of_wpS Tryz.func59 rfl fun c₀ cs hu => ?_
  apply wpS_region
  simp [wpOpsS, go_sem, recoverD, hu, Tryz.ntmps59]
  refine (psaid_ref q c w hc hf).mono ?_
  rintro e w' ⟨rfl, h1, h2⟩
  simp [bodyPostS, results, Tryz.results59, h1, h2]
theorem pdefOrders_idle (q : Nat) (w : World) :
    CallsD Tryz.prog 59 #[.pointer (some ⟨q, 0, none⟩)] .returning w fun e u' w' => e = .returned (.tuple #[]) ∧ u' = .returning ∧ w' = w := by
  refine callsD_of_wpS Tryz.func59 rfl fun c₀ cs hu => ?_
  apply wpS_region
  simp [wpOpsS, go_sem, recoverD, hu, Tryz.ntmps59]
  refine (psaid_nil q w).mono ?_
  rintro e w' ⟨rfl, rfl⟩
  simp [bodyPostS, results, Tryz.results59]
  cases c₀
  simp_all
theorem pdefFirst_panic (q : Nat) (c : Int) (older : List PanicEntry) (w : World) (hc : w.cell? ⟨q, 0, none⟩ = some (.int .i64 0)) (hf : ∀ o, w.frozen? ⟨q, o, none⟩ = false) :
    CallsD Tryz.prog 62 #[.pointer (some ⟨q, 0, none⟩)] (.panicking ({ v := .iface 89 (.agg #[.int .i64 c]), recovered := false } :: older)) w fun e u' w' =>
      e = .returned (.tuple #[]) ∧ u' = .panicking ({ v := .iface 89 (.agg #[.int .i64 c]), recovered := true } :: older) ∧ w'.cell? ⟨q, 0, none⟩ = some (.int .i64 c) ∧ w.grownBy w' (some q) := by
  refine callsD_of_wpS Tryz.func62 rfl fun c₀ cs hu => ?_
  apply wpS_region
  simp [wpOpsS, go_sem, recoverD, hu, Tryz.ntmps62]
  refine (psaid_ref q c w hc hf).mono ?_
  rintro e w' ⟨rfl, h1, h2⟩
  simp [bodyPostS, results, Tryz.results62, h1, h2]
theorem pdefFirst_idle (q : Nat) (w : World) :
    CallsD Tryz.prog 62 #[.pointer (some ⟨q, 0, none⟩)] .returning w fun e u' w' => e = .returned (.tuple #[]) ∧ u' = .returning ∧ w' = w := by
  refine callsD_of_wpS Tryz.func62 rfl fun c₀ cs hu => ?_
  apply wpS_region
  simp [wpOpsS, go_sem, recoverD, hu, Tryz.ntmps62]
  refine (psaid_nil q w).mono ?_
  rintro e w' ⟨rfl, rfl⟩
  simp [bodyPostS, results, Tryz.results62]
  cases c₀
  simp_all
theorem pdefMeet_panic (q : Nat) (c : Int) (older : List PanicEntry) (w : World) (hc : w.cell? ⟨q, 0, none⟩ = some (.int .i64 0)) (hf : ∀ o, w.frozen? ⟨q, o, none⟩ = false) :
    CallsD Tryz.prog 56 #[.pointer (some ⟨q, 0, none⟩)] (.panicking ({ v := .iface 89 (.agg #[.int .i64 c]), recovered := false } :: older)) w fun e u' w' =>
      e = .returned (.tuple #[]) ∧ u' = .panicking ({ v := .iface 89 (.agg #[.int .i64 c]), recovered := true } :: older) ∧ w'.cell? ⟨q, 0, none⟩ = some (.int .i64 c) ∧ w.grownBy w' (some q) := by
  refine callsD_of_wpS Tryz.func56 rfl fun c₀ cs hu => ?_
  apply wpS_region
  simp [wpOpsS, go_sem, recoverD, hu, Tryz.ntmps56]
  refine (psaid_ref q c w hc hf).mono ?_
  rintro e w' ⟨rfl, h1, h2⟩
  simp [bodyPostS, results, Tryz.results56, h1, h2]
theorem pdefMeet_idle (q : Nat) (w : World) :
    CallsD Tryz.prog 56 #[.pointer (some ⟨q, 0, none⟩)] .returning w fun e u' w' => e = .returned (.tuple #[]) ∧ u' = .returning ∧ w' = w := by
  refine callsD_of_wpS Tryz.func56 rfl fun c₀ cs hu => ?_
  apply wpS_region
  simp [wpOpsS, go_sem, recoverD, hu, Tryz.ntmps56]
  refine (psaid_nil q w).mono ?_
  rintro e w' ⟨rfl, rfl⟩
  simp [bodyPostS, results, Tryz.results56]
  cases c₀
  simp_all
theorem pdefAsk_panic (q : Nat) (c : Int) (older : List PanicEntry) (w : World) (hc : w.cell? ⟨q, 0, none⟩ = some (.int .i64 0)) (hf : ∀ o, w.frozen? ⟨q, o, none⟩ = false) :
    CallsD Tryz.prog 65 #[.pointer (some ⟨q, 0, none⟩)] (.panicking ({ v := .iface 89 (.agg #[.int .i64 c]), recovered := false } :: older)) w fun e u' w' =>
      e = .returned (.tuple #[]) ∧ u' = .panicking ({ v := .iface 89 (.agg #[.int .i64 c]), recovered := true } :: older) ∧ w'.cell? ⟨q, 0, none⟩ = some (.int .i64 c) ∧ w.grownBy w' (some q) := by
  refine callsD_of_wpS Tryz.func65 rfl fun c₀ cs hu => ?_
  apply wpS_region
  simp [wpOpsS, go_sem, recoverD, hu, Tryz.ntmps65]
  refine (psaid_ref q c w hc hf).mono ?_
  rintro e w' ⟨rfl, h1, h2⟩
  simp [bodyPostS, results, Tryz.results65, h1, h2]
theorem pdefAsk_idle (q : Nat) (w : World) :
    CallsD Tryz.prog 65 #[.pointer (some ⟨q, 0, none⟩)] .returning w fun e u' w' => e = .returned (.tuple #[]) ∧ u' = .returning ∧ w' = w := by
  refine callsD_of_wpS Tryz.func65 rfl fun c₀ cs hu => ?_
  apply wpS_region
  simp [wpOpsS, go_sem, recoverD, hu, Tryz.ntmps65]
  refine (psaid_nil q w).mono ?_
  rintro e w' ⟨rfl, rfl⟩
  simp [bodyPostS, results, Tryz.results65]
  cases c₀
  simp_all
end Go.Proofs.YtbeglemohfbdfaaGreat
