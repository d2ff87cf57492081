/- The program of layer 7: regions that draw their order in a function that defers; Time. Conditions: sizes. -/
import Derived.Test.YtbeglemohfbdfaaQpC
import Derived.Test.YtbeglemohfbdfaaQpD
import Derived.OrdersHeld
namespace Go.Proofs.Ytbeglemohfbdfaa
open Go.RowKit

section
variable {P : Program} {Q : Exit → Act → World → Prop} {i j : Nat} {x y : Value} {D : List Deferred}
/-- The post, where at a panic just two slots of the frame count. -/
def PanicAt (i j : Nat) (x y : Value) (D : List Deferred) (Q : Exit → Act → World → Prop) : Exit → Act → World → Prop
  | .panic c, a, w => a.defers = D ∧ a.tmps[i]?.getD undef = x ∧ a.tmps[j]?.getD undef = y ∧ ∀ T : Array Value, T[i]?.getD undef = x → T[j]?.getD undef = y → Q (.panic c) ⟨T, D⟩ w
  | e, a, w => Q e a w
theorem wp_panicAt {c : Code} {a : Act} {w : World} (i j : Nat) (x y : Value) (D : List Deferred) (h : c.wp P (PanicAt i j x y D Q) a w) : c.wp P Q a w := by
  refine wp_mono h fun e a w h => ?_
  cases e with
  | panic c =>
    obtain ⟨h1, h2, h3, h4⟩ := h
    have := h4 a.tmps h2 h3
    rw [← h1] at this
    exact this
  | normal => exact h
  | ret => exact h
  | exit k => exact h
  | goto t => exact h
  | outgrown => exact h
theorem getD_put (a : Act) {d k : Nat} (v : Value) (h : d ≠ k) : (a.put (some d) v).tmps[k]?.getD undef = a.tmps[k]?.getD undef := by
  simp only [Act.put, Array.getElem?_setIfInBounds_ne h]
theorem PanicAt.put {c} {a : Act} {dst : Option Nat} {v : Value} {w : World} (hi : dst ≠ some i) (hj : dst ≠ some j) (h : PanicAt i j x y D Q (.panic c) (a.put dst v) w) : PanicAt i j x y D Q (.panic c) a w := by
  cases dst with
  | none => exact h
  | some d =>
  replace hi : d ≠ i := fun e => hi (by rw [e])
  replace hj : d ≠ j := fun e => hj (by rw [e])
  obtain ⟨h1, h2, h3, h4⟩ := h
  exact ⟨h1, by rw [← h2, getD_put a v hi], by rw [← h3, getD_put a v hj], h4⟩
end
/-- What a function of the chase keeps while its last statement runs: its argument's cells. -/
def SX (w : World) (W0 : Nat) (E F : Int) (v : Value) (V : World) : Prop := Grow w V ∧ V.cell? ⟨W0, 0, none⟩ = some (.int .i64 E) ∧ V.cell? ⟨W0, 1, none⟩ = some (.int .i64 F) ∧ V.cell? ⟨W0, 2, none⟩ = some v
theorem SX.grow {w V V' : World} {W0 : Nat} {E F : Int} {v : Value} (h : SX w W0 E F v V) (hg : Grow V V') : SX w W0 E F v V' := ⟨h.1.trans hg, hg.keeps h.2.1, hg.keeps h.2.2.1, hg.keeps h.2.2.2⟩
theorem SX.set {w V : World} {W0 : Nat} {E F : Int} {v : Value} (h : SX w W0 E F v V) {b o : Nat} (hb : w.heap.size ≤ b) (hne : W0 ≠ b) (z : Value) : SX w W0 E F v (V.setCell ⟨b, o, none⟩ z) := by
  have hn : some b ≠ some W0 := fun e => by injection e with e; omega
  exact ⟨h.1.setCell hb _, byCell1 (bySet V b o z) h.2.1 hn, byCell1 (bySet V b o z) h.2.2.1 hn, byCell1 (bySet V b o z) h.2.2.2 hn⟩
/-- What comes out: the error. -/
def errOf (E F : Int) (ss : List (List Int)) (ok : Bool) : Int := if validB E F ss = false then 1 else if ok = false then 2 else if feasB (clocksOf E ss) = false then 10 else 0
theorem errOf_code {E F : Int} {ss : List (List Int)} {ok : Bool} (h : codeO E F ss ok ≠ 0) : errOf E F ss ok = codeO E F ss ok := by
  unfold codeO at h ⊢
  unfold errOf
  by_cases h1 : validB E F ss = false
  · simp [h1]
  · by_cases h2 : ok = false
    · simp [h1, h2]
    · simp [h1, h2] at h
theorem errOf_clash {E F : Int} {ss : List (List Int)} {ok : Bool} (h : codeO E F ss ok = 0) (hf : feasB (clocksOf E ss) = false) : errOf E F ss ok = 10 := by
  unfold codeO at h
  unfold errOf
  by_cases h1 : validB E F ss = false
  · simp [h1] at h
  · by_cases h2 : ok = false
    · simp [h1, h2] at h
    · simp [h1, h2, hf]
theorem errOf_zero {E F : Int} {ss : List (List Int)} {ok : Bool} (h : codeO E F ss ok = 0) (hf : feasB (clocksOf E ss) = true) : errOf E F ss ok = 0 := by
  unfold codeO at h
  unfold errOf
  by_cases h1 : validB E F ss = false
  · simp [h1] at h
  · by_cases h2 : ok = false
    · simp [h1, h2] at h
    · simp [h1, h2, hf]
theorem codeO_parts {E F : Int} {ss : List (List Int)} {ok : Bool} (h : codeO E F ss ok = 0) : validB E F ss = true ∧ ok = true := by
  unfold codeO at h
  by_cases h1 : validB E F ss = false
  · simp [h1] at h
  · by_cases h2 : ok = false
    · simp [h1, h2] at h
    · simp at h1 h2; exact ⟨h1, h2⟩
theorem valid_parts {E F : Int} {ss : List (List Int)} (h : validB E F ss = true) : (0 ≤ E ∧ E ≤ 3) ∧ (1 ≤ ss.length ∧ ss.length ≤ 6) ∧ (1 ≤ F ∧ F ≤ ss.length) ∧ ∀ l ∈ ss, (1 ≤ l.length ∧ l.length ≤ 3) ∧ ∀ n ∈ l, 0 ≤ n ∧ n ≤ 200 := by
  unfold validB at h
  simp only [Bool.and_eq_true, List.all_eq_true] at h
  obtain ⟨⟨⟨h1, h2⟩, h3⟩, h4⟩ := h
  have a := inB_true.1 h1
  have b := inB_true.1 h2
  have c := inB_true.1 h3
  refine ⟨a, by omega, c, fun l hl => ?_⟩
  have := h4 l hl
  unfold listB at this
  simp only [Bool.and_eq_true, List.all_eq_true] at this
  have d := inB_true.1 this.1
  exact ⟨by omega, fun n hn => inB_true.1 (this.2 n hn)⟩
theorem valid_len {E F : Int} {ss : List (List Int)} {ok : Bool} (h : codeO E F ss ok = 0) : ss.length ≤ 6 := (valid_parts (codeO_parts h).1).2.1.2
theorem clock_at {E : Int} {ss : List (List Int)} {k : Nat} (hk : k < ss.length) : (clocksOf E ss)[k]? = some (lo (clocksOf E ss) k, hi (clocksOf E ss) k) := by
  have : k < (clocksOf E ss).length := by rw [clocks_len]; exact hk
  simp [lo, hi, this]
/-- What Time comes to. -/
def timeV (E F : Int) (ss : List (List Int)) (p : Int) : Int × Int := if errOf E F ss (inB p 0 (ss.length - 1)) = 0 then (lo (clocksOf E ss) p.toNat, hi (clocksOf E ss) p.toNat) else (0, 0)
set_option maxRecDepth 100000 in
set_option maxHeartbeats 2000000 in
theorem pTime_any (E F p : Int) (v : Value) (ss : List (List Int)) (w : World) (hv : IsSheets w v ss) :
    Calls Try.prog 11 #[.agg #[.int .i64 E, .int .i64 F, v], .int .i64 p] w fun e w' => e = .returned (.tuple #[.agg #[.int .i64 (timeV E F ss p).1, .int .i64 (timeV E F ss p).2], .int .i64 (errOf E F ss (inB p 0 (ss.length - 1)))]) ∧ Grow w w' := by
  have hmf : ∀ (fn : Fn) (first cap : Array Value) (w : World), (Instr.makeFunc fn first cap).run Try.prog w = .ok (.func fn first cap) w := fun _ _ _ _ => rfl
  obtain ⟨a, cap, rfl, hcap, hlen, hrow⟩ := id hv
  have Hv := Lib.hid hv
  obtain ⟨cd, hcd⟩ : ∃ cd, errOf E F ss (inB p 0 (ss.length - 1)) = cd := ⟨_, rfl⟩
  obtain ⟨tv, htv⟩ : ∃ tv, timeV E F ss p = tv := ⟨_, rfl⟩
  rw [hcd, htv]
  have Hcd := Lib.hid hcd
  have Htv := Lib.hid htv
  clear hcd htv hv hrow
  go_enter_defers Try.func11, Try.ntmps11
  go_wp2_with fail
  obtain ⟨W, hW⟩ : ∃ W, W = (((w.alloc (.cells #[.int .i64 E, .int .i64 F, .slice a ss.length cap] 32)).alloc (.cells #[.int .i64 0, .int .i64 0] 23)).alloc (.cells #[.int .i64 0] 27)) := ⟨_, rfl⟩
  have hgW : Grow w W := by rw [hW]; exact ((((Grow.refl w).alloc _).alloc _).alloc _)
  have hW00 : W.cell? ⟨w.heap.size, 0, none⟩ = some (.int .i64 E) := by rw [hW]; exact Grow.keepA (Grow.keepA (cell_new (by simp) rfl) _) _
  have hW01 : W.cell? ⟨w.heap.size, 1, none⟩ = some (.int .i64 F) := by rw [hW]; exact Grow.keepA (Grow.keepA (cell_new (by simp) rfl) _) _
  have hW02 : W.cell? ⟨w.heap.size, 2, none⟩ = some (.slice a ss.length cap) := by rw [hW]; exact Grow.keepA (Grow.keepA (cell_new (by simp) rfl) _) _
  have hWf0 : ∀ o, W.frozen? ⟨w.heap.size, o, none⟩ = false := by intro o; rw [hW]; exact (((Grow.refl _).alloc _).marks _ _ (by simp <;> omega)).trans ((((Grow.refl _).alloc _).marks _ _ (by simp <;> omega)).trans (hot_new (by simp)))
  have hWl0 : w.heap.size < W.heap.size := by rw [hW]; simp; try omega
  have hW10 : W.cell? ⟨w.heap.size + 1, 0, none⟩ = some (.int .i64 0) := by rw [hW]; exact Grow.keepA (cell_new (by simp) rfl) _
  have hW11 : W.cell? ⟨w.heap.size + 1, 1, none⟩ = some (.int .i64 0) := by rw [hW]; exact Grow.keepA (cell_new (by simp) rfl) _
  have hWf1 : ∀ o, W.frozen? ⟨w.heap.size + 1, o, none⟩ = false := by intro o; rw [hW]; exact (((Grow.refl _).alloc _).marks _ _ (by simp <;> omega)).trans (hot_new (by simp))
  have hWl1 : w.heap.size + 1 < W.heap.size := by rw [hW]; simp; try omega
  have hW20 : W.cell? ⟨w.heap.size + 1 + 1, 0, none⟩ = some (.int .i64 0) := by rw [hW]; exact cell_new (by simp) rfl
  have hWf2 : ∀ o, W.frozen? ⟨w.heap.size + 1 + 1, o, none⟩ = false := by intro o; rw [hW]; exact hot_new (by simp)
  have hWl2 : w.heap.size + 1 + 1 < W.heap.size := by rw [hW]; simp; try omega
  rw [← hW]
  clear hW
  have hWd : ∀ n, (W.drewN n).heap.size = W.heap.size := fun _ => rfl
  have hWq : ∀ n o b j, b < W.heap.size → ((W.drewN n).alloc o).cell? ⟨b, j, none⟩ = W.cell? ⟨b, j, none⟩ := cell_drewN_alloc W
  have hWr : ∀ n o b j, b < W.heap.size → ((W.drewN n).alloc o).frozen? ⟨b, j, none⟩ = W.frozen? ⟨b, j, none⟩ := hot_drewN_alloc W
  have hWb0 : w.heap.size ≤ w.heap.size := by omega
  have hWb1 : w.heap.size ≤ w.heap.size + 1 := by omega
  have hWn01 : w.heap.size ≠ w.heap.size + 1 := by omega
  have hWn10 : w.heap.size + 1 ≠ w.heap.size := by omega
  have hWb2 : w.heap.size ≤ w.heap.size + 1 + 1 := by omega
  have hWn02 : w.heap.size ≠ w.heap.size + 1 + 1 := by omega
  have hWn20 : w.heap.size + 1 + 1 ≠ w.heap.size := by omega
  have hWn12 : w.heap.size + 1 ≠ w.heap.size + 1 + 1 := by omega
  have hWn21 : w.heap.size + 1 + 1 ≠ w.heap.size + 1 := by omega
  obtain ⟨W2, hWe2⟩ : ∃ g, w.heap.size + 1 + 1 = g := ⟨_, rfl⟩
  rw [hWe2] at hW20 hWf2 hWl2 hWb2 hWn20 hWn21 hWn02 hWn12
  (try rw [hWe2])
  have hWk2 := Lib.hid hWe2
  clear hWe2
  obtain ⟨W1, hWe1⟩ : ∃ g, w.heap.size + 1 = g := ⟨_, rfl⟩
  rw [hWe1] at hW10 hW11 hWf1 hWl1 hWb1 hWn10 hWn12 hWn01 hWn21
  (try rw [hWe1])
  have hWk1 := Lib.hid hWe1
  clear hWe1
  obtain ⟨W0, hWe0⟩ : ∃ g, w.heap.size = g := ⟨_, rfl⟩
  have hWb0 : w.heap.size ≤ W0 := by omega
  rw [hWe0] at hW00 hW01 hW02 hWf0 hWl0 hWn01 hWn02 hWn10 hWn20
  (try rw [hWe0])
  have hWk0 := Lib.hid hWe0
  clear hWe0
  refine wp_panicAt 4 5 (.pointer (some ⟨W1, 0, none⟩)) (.pointer (some ⟨W2, 0, none⟩)) [{ target := .fn (.func 36) #[.pointer (some ⟨W2, 0, none⟩)], args := #[] }] ?_
  have hSX : SX w W0 E F (.slice a ss.length cap) W.drew := ⟨hgW.drew, (Grow.refl W).drew.keeps hW00, (Grow.refl W).drew.keeps hW01, (Grow.refl W).drew.keeps hW02⟩
  have hD : Grow W W.drew := (Grow.refl W).drew
  have dead : ∀ (V : World) (c : Int), Grow W V → errOf E F ss (inB p 0 (ss.length - 1)) = c → c ≠ 0 → ∀ T : Array Value, T[4]?.getD undef = .pointer (some ⟨W1, 0, none⟩) → T[5]?.getD undef = .pointer (some ⟨W2, 0, none⟩) →
      Leaves Try.prog Try.f11 T (fun e w' => e = .returned (.tuple #[.agg #[.int .i64 tv.1, .int .i64 tv.2], .int .i64 cd]) ∧ Grow w w') [{ target := .fn (.func 36) #[.pointer (some ⟨W2, 0, none⟩)], args := #[] }] (.panicking (refusal c)) V := by
    intro V c hg hce hc0 T h4 h5
    have hc1 := hg.keeps hW20
    have hf1 : ∀ o, V.frozen? ⟨W2, o, none⟩ = false := fun o => (hg.marks _ _ hWl2).trans (hWf2 o)
    have ht : tv = (0, 0) := by rw [← Htv.out]; unfold timeV; rw [if_neg (by rw [hce]; exact hc0)]
    have hcc : cd = c := by rw [← Hcd.out]; exact hce
    subst ht hcc
    unfold refusal
    refine leaves_cons (f := 36) (args := #[.pointer (some ⟨W2, 0, none⟩)]) (by simp) (by simp [go_sem]) ?_
    refine (pdefTime_panic W2 cd [] V hc1 hf1).mono ?_
    rintro e u' w'' ⟨rfl, rfl, q1, q2⟩
    have hG : Grow w w'' := Below.trans (hgW.trans hg) (grownBy_below q2 (by intro k hk; injection hk with hk; omega) (hgW.trans hg).size)
    have q3 := byCell1 q2 (hg.keeps hW10) (by intro e; injection e with e; omega)
    have q4 := byCell1 q2 (hg.keeps hW11) (by intro e; injection e with e; omega)
    simp [Leaves, settle, results, Try.results11, go_sem, h4, h5, q1, q3, q4]
    exact hG
  (refine wp_region_held_drew (S := fun Vx => Grow w Vx ∧ Vx.cell? ⟨W0, 0, none⟩ = some (.int .i64 E) ∧ Vx.cell? ⟨W0, 1, none⟩ = some (.int .i64 F) ∧ Vx.cell? ⟨W0, 2, none⟩ = some (.slice a ss.length cap)) (by kernel_rfl) (hSX) (fun hHeld => ?_); refine wpAnyH_take (i := 0) (oi := _) (v := ?_) rfl (by kernel_rfl) (by kernel_rfl) (by kernel_rfl) (by intro _ _ _ h; exact PanicAt.put (by decide) (by decide) h) (Or.inl ⟨by rfl, ?_⟩) (by assumption) ?_; rotate_left; (focus (intro w hSw; (try dsimp only at hSw); go_simp; (try with_reducible rfl))); (try simp only [Act.put, List.setIfInBounds_toArray, List.set_cons_zero, List.set_cons_succ, List.getElem_toArray, List.getElem_cons_zero]); refine wpAnyH_take (i := 1) (oi := _) (v := ?_) rfl (by kernel_rfl) (by kernel_rfl) (by kernel_rfl) (by intro _ _ _ h; exact PanicAt.put (by decide) (by decide) h) (Or.inl ⟨by rfl, ?_⟩) (by assumption) ?_; rotate_left; (focus (intro w hSw; (try dsimp only at hSw); go_simp; (try with_reducible rfl))); (try simp only [Act.put, List.setIfInBounds_toArray, List.set_cons_zero, List.set_cons_succ, List.getElem_toArray, List.getElem_cons_zero, List.getElem_cons_succ]); refine wpAnyH_take (i := 2) (oi := _) (v := ?_) rfl (by kernel_rfl) (by kernel_rfl) (by kernel_rfl) (by intro _ _ _ h; exact PanicAt.put (by decide) (by decide) h) (Or.inl ⟨by rfl, ?_⟩) (by assumption) ?_; rotate_left; (focus (intro w hSw; (try dsimp only at hSw); go_simp; (try with_reducible rfl))); (try simp only [Act.put, List.setIfInBounds_toArray, List.set_cons_zero, List.set_cons_succ, List.getElem_toArray, List.getElem_cons_zero, List.getElem_cons_succ]); refine wpAnyH_take (i := 9) (oi := _) (v := ?_) rfl (by kernel_rfl) (by kernel_rfl) (by kernel_rfl) (by intro _ _ _ h; exact PanicAt.put (by decide) (by decide) h) (Or.inl ⟨by rfl, ?_⟩) (by assumption) ?_; rotate_left; (focus (intro w hSw; (try dsimp only at hSw); go_simp; (try with_reducible rfl))); (try simp only [Act.put, List.setIfInBounds_toArray, List.set_cons_zero, List.set_cons_succ, List.getElem_toArray, List.getElem_cons_zero, List.getElem_cons_succ]); refine wpAnyH_ready (rs := [3]) (by kernel_rfl) (by simp) ?_; refine AllReadyH.cons (o := _) rfl (fun K hK => ?_) AllReadyH.nil; (try simp only [List.getElem_toArray, List.getElem_cons_zero, List.getElem_cons_succ]); (try go_simp); (first | (go_at_call 39; refine (pisPair_any E F a _ cap p _ (by omega)).mono ?_; rintro e w1 ⟨rfl, hg1⟩) | (go_at_call 38; refine (popen E F _ ss (inB p 0 (ss.length - 1)) _ (Hv.out.grow hHeld.1)).mono ?_; rintro e w2 ⟨hg2, hbad, hok⟩; rcases Decidable.em (codeO E F ss (inB p 0 (ss.length - 1)) = 0) with hc | hc; (case inr => (have hbad := hbad hc; subst hbad; go_simp; exact ⟨rfl, rfl, rfl, fun T h4 h5 => dead w2 _ ((hD.trans hg1).trans hg2) (errOf_code hc) hc T h4 h5⟩)); (obtain ⟨c, rfl, hch, hcw, hcn⟩ := hok hc; have Hch := Lib.hid hch; have Hc := Lib.hid hc; clear hbad hok hch hc)) | (go_at_call 40; cases hfe : feasB (clocksOf E ss); (case false => (refine (ptold_no c F _ _ Hch.out hfe (by have := valid_len Hc.out; rw [clocks_len]; omega)).mono ?_; rintro e w3 ⟨rfl, hg3⟩; go_simp; exact ⟨rfl, rfl, rfl, fun T h4 h5 => dead w3 10 (((hD.trans hg1).trans hg2).trans hg3) (errOf_clash Hc.out hfe) (by decide) T h4 h5⟩)); (refine (ptold_yes c F _ _ Hch.out (feasB_iff.1 hfe) (by have := valid_len Hc.out; rw [clocks_len]; omega)).mono ?_; rintro e w3 ⟨rfl, hg3⟩; obtain ⟨E', sa', sn', sc', a', cap', k0, k1, k2, k3, k4, k5⟩ := Hch.out.grow hg3; obtain ⟨k, rfl⟩ : ∃ k : Nat, p = k := ⟨p.toNat, by have := inB_true.1 (codeO_parts Hc.out).2; omega⟩; have hk : k < ss.length := (by have := inB_true.1 (codeO_parts Hc.out).2; omega); rw [clocks_len] at k3 k4; obtain ⟨b, o, rfl, m1, m2, m3⟩ := k5 k (lo (clocksOf E ss) k, hi (clocksOf E ss) k) (clock_at hk); have hG3 : Grow W w3 := (((hD.trans hg1).trans hg2).trans hg3); have y1 := hG3.keeps hW10; have y2 := hG3.keeps hW11; have y3 : ∀ o, w3.frozen? ⟨W1, o, none⟩ = false := (fun o => (hG3.marks _ _ hWl1).trans (hWf1 o)); have y4 := hG3.keeps hW20; have y5 : ∀ o, w3.frozen? ⟨W2, o, none⟩ = false := (fun o => (hG3.marks _ _ hWl2).trans (hWf2 o)); have hl1 := lt_of_cell y1; have hl2 := lt_of_cell y4; have Hfe := Lib.hid hfe; have K5 := Lib.hid k5; clear k5 hfe))); (try (go_wp2_with fail)); refine hK.out _ _ ?_ (fun hHeld => ?_); (focus (first | assumption | exact SX.grow (by assumption) (by assumption) | exact SX.set (SX.set (by assumption) hWb1 hWn01 _) hWb1 hWn01 _ | exact SX.set (by assumption) hWb2 hWn02 _)); clear hK K; (try simp only [Act.put, List.setIfInBounds_toArray, List.set_cons_zero, List.set_cons_succ, List.getElem_toArray, List.getElem_cons_zero, List.getElem_cons_succ]); refine wpAnyH_ready (rs := [4]) (by kernel_rfl) (by simp) ?_; refine AllReadyH.cons (o := _) rfl (fun K hK => ?_) AllReadyH.nil; (try simp only [List.getElem_toArray, List.getElem_cons_zero, List.getElem_cons_succ]); (try go_simp); (first | (go_at_call 39; refine (pisPair_any E F a _ cap p _ (by omega)).mono ?_; rintro e w1 ⟨rfl, hg1⟩) | (go_at_call 38; refine (popen E F _ ss (inB p 0 (ss.length - 1)) _ (Hv.out.grow hHeld.1)).mono ?_; rintro e w2 ⟨hg2, hbad, hok⟩; rcases Decidable.em (codeO E F ss (inB p 0 (ss.length - 1)) = 0) with hc | hc; (case inr => (have hbad := hbad hc; subst hbad; go_simp; exact ⟨rfl, rfl, rfl, fun T h4 h5 => dead w2 _ ((hD.trans hg1).trans hg2) (errOf_code hc) hc T h4 h5⟩)); (obtain ⟨c, rfl, hch, hcw, hcn⟩ := hok hc; have Hch := Lib.hid hch; have Hc := Lib.hid hc; clear hbad hok hch hc)) | (go_at_call 40; cases hfe : feasB (clocksOf E ss); (case false => (refine (ptold_no c F _ _ Hch.out hfe (by have := valid_len Hc.out; rw [clocks_len]; omega)).mono ?_; rintro e w3 ⟨rfl, hg3⟩; go_simp; exact ⟨rfl, rfl, rfl, fun T h4 h5 => dead w3 10 (((hD.trans hg1).trans hg2).trans hg3) (errOf_clash Hc.out hfe) (by decide) T h4 h5⟩)); (refine (ptold_yes c F _ _ Hch.out (feasB_iff.1 hfe) (by have := valid_len Hc.out; rw [clocks_len]; omega)).mono ?_; rintro e w3 ⟨rfl, hg3⟩; obtain ⟨E', sa', sn', sc', a', cap', k0, k1, k2, k3, k4, k5⟩ := Hch.out.grow hg3; obtain ⟨k, rfl⟩ : ∃ k : Nat, p = k := ⟨p.toNat, by have := inB_true.1 (codeO_parts Hc.out).2; omega⟩; have hk : k < ss.length := (by have := inB_true.1 (codeO_parts Hc.out).2; omega); rw [clocks_len] at k3 k4; obtain ⟨b, o, rfl, m1, m2, m3⟩ := k5 k (lo (clocksOf E ss) k, hi (clocksOf E ss) k) (clock_at hk); have hG3 : Grow W w3 := (((hD.trans hg1).trans hg2).trans hg3); have y1 := hG3.keeps hW10; have y2 := hG3.keeps hW11; have y3 : ∀ o, w3.frozen? ⟨W1, o, none⟩ = false := (fun o => (hG3.marks _ _ hWl1).trans (hWf1 o)); have y4 := hG3.keeps hW20; have y5 : ∀ o, w3.frozen? ⟨W2, o, none⟩ = false := (fun o => (hG3.marks _ _ hWl2).trans (hWf2 o)); have hl1 := lt_of_cell y1; have hl2 := lt_of_cell y4; have Hfe := Lib.hid hfe; have K5 := Lib.hid k5; clear k5 hfe))); (try (go_wp2_with fail)); refine hK.out _ _ ?_ (fun hHeld => ?_); (focus (first | assumption | exact SX.grow (by assumption) (by assumption) | exact SX.set (SX.set (by assumption) hWb1 hWn01 _) hWb1 hWn01 _ | exact SX.set (by assumption) hWb2 hWn02 _)); clear hK K; (try simp only [Act.put, List.setIfInBounds_toArray, List.set_cons_zero, List.set_cons_succ, List.getElem_toArray, List.getElem_cons_zero, List.getElem_cons_succ]); refine wpAnyH_ready (rs := [5]) (by kernel_rfl) (by simp) ?_; refine AllReadyH.cons (o := _) rfl (fun K hK => ?_) AllReadyH.nil; (try simp only [List.getElem_toArray, List.getElem_cons_zero, List.getElem_cons_succ]); (try go_simp); (first | (go_at_call 39; refine (pisPair_any E F a _ cap p _ (by omega)).mono ?_; rintro e w1 ⟨rfl, hg1⟩) | (go_at_call 38; refine (popen E F _ ss (inB p 0 (ss.length - 1)) _ (Hv.out.grow hHeld.1)).mono ?_; rintro e w2 ⟨hg2, hbad, hok⟩; rcases Decidable.em (codeO E F ss (inB p 0 (ss.length - 1)) = 0) with hc | hc; (case inr => (have hbad := hbad hc; subst hbad; go_simp; exact ⟨rfl, rfl, rfl, fun T h4 h5 => dead w2 _ ((hD.trans hg1).trans hg2) (errOf_code hc) hc T h4 h5⟩)); (obtain ⟨c, rfl, hch, hcw, hcn⟩ := hok hc; have Hch := Lib.hid hch; have Hc := Lib.hid hc; clear hbad hok hch hc)) | (go_at_call 40; cases hfe : feasB (clocksOf E ss); (case false => (refine (ptold_no c F _ _ Hch.out hfe (by have := valid_len Hc.out; rw [clocks_len]; omega)).mono ?_; rintro e w3 ⟨rfl, hg3⟩; go_simp; exact ⟨rfl, rfl, rfl, fun T h4 h5 => dead w3 10 (((hD.trans hg1).trans hg2).trans hg3) (errOf_clash Hc.out hfe) (by decide) T h4 h5⟩)); (refine (ptold_yes c F _ _ Hch.out (feasB_iff.1 hfe) (by have := valid_len Hc.out; rw [clocks_len]; omega)).mono ?_; rintro e w3 ⟨rfl, hg3⟩; obtain ⟨E', sa', sn', sc', a', cap', k0, k1, k2, k3, k4, k5⟩ := Hch.out.grow hg3; obtain ⟨k, rfl⟩ : ∃ k : Nat, p = k := ⟨p.toNat, by have := inB_true.1 (codeO_parts Hc.out).2; omega⟩; have hk : k < ss.length := (by have := inB_true.1 (codeO_parts Hc.out).2; omega); rw [clocks_len] at k3 k4; obtain ⟨b, o, rfl, m1, m2, m3⟩ := k5 k (lo (clocksOf E ss) k, hi (clocksOf E ss) k) (clock_at hk); have hG3 : Grow W w3 := (((hD.trans hg1).trans hg2).trans hg3); have y1 := hG3.keeps hW10; have y2 := hG3.keeps hW11; have y3 : ∀ o, w3.frozen? ⟨W1, o, none⟩ = false := (fun o => (hG3.marks _ _ hWl1).trans (hWf1 o)); have y4 := hG3.keeps hW20; have y5 : ∀ o, w3.frozen? ⟨W2, o, none⟩ = false := (fun o => (hG3.marks _ _ hWl2).trans (hWf2 o)); have hl1 := lt_of_cell y1; have hl2 := lt_of_cell y4; have Hfe := Lib.hid hfe; have K5 := Lib.hid k5; clear k5 hfe))); (try (go_wp2_with fail)); refine hK.out _ _ ?_ (fun hHeld => ?_); (focus (first | assumption | exact SX.grow (by assumption) (by assumption) | exact SX.set (SX.set (by assumption) hWb1 hWn01 _) hWb1 hWn01 _ | exact SX.set (by assumption) hWb2 hWn02 _)); clear hK K; (try simp only [Act.put, List.setIfInBounds_toArray, List.set_cons_zero, List.set_cons_succ, List.getElem_toArray, List.getElem_cons_zero, List.getElem_cons_succ]); refine wpAnyH_ready (rs := [6]) (by kernel_rfl) (by simp) ?_; refine AllReadyH.cons (o := _) rfl (fun K hK => ?_) AllReadyH.nil; (try simp only [List.getElem_toArray, List.getElem_cons_zero, List.getElem_cons_succ]); (try go_simp); (try (go_wp2_with fail)); refine hK.out _ _ ?_ (fun hHeld => ?_); (focus (first | assumption | exact SX.grow (by assumption) (by assumption) | exact SX.set (SX.set (by assumption) hWb1 hWn01 _) hWb1 hWn01 _ | exact SX.set (by assumption) hWb2 hWn02 _)); clear hK K; (try simp only [Act.put, List.setIfInBounds_toArray, List.set_cons_zero, List.set_cons_succ, List.getElem_toArray, List.getElem_cons_zero, List.getElem_cons_succ]); refine wpAnyH_ready (rs := [7]) (by kernel_rfl) (by simp) ?_; refine AllReadyH.cons (o := _) rfl (fun K hK => ?_) AllReadyH.nil; (try simp only [List.getElem_toArray, List.getElem_cons_zero, List.getElem_cons_succ]); (try go_simp); (try (go_wp2_with fail)); refine hK.out _ _ ?_ (fun hHeld => ?_); (focus (first | assumption | exact SX.grow (by assumption) (by assumption) | exact SX.set (SX.set (by assumption) hWb1 hWn01 _) hWb1 hWn01 _ | exact SX.set (by assumption) hWb2 hWn02 _)); clear hK K; (try simp only [Act.put, List.setIfInBounds_toArray, List.set_cons_zero, List.set_cons_succ, List.getElem_toArray, List.getElem_cons_zero, List.getElem_cons_succ]); refine wpAnyH_ready (rs := [8]) (by kernel_rfl) (by simp) ?_; refine AllReadyH.cons (o := _) rfl (fun K hK => ?_) AllReadyH.nil; (try simp only [List.getElem_toArray, List.getElem_cons_zero, List.getElem_cons_succ]); (try go_simp); (try (go_wp2_with fail)); refine hK.out _ _ ?_ (fun hHeld => ?_); (focus (first | assumption | exact SX.grow (by assumption) (by assumption) | exact SX.set (SX.set (by assumption) hWb1 hWn01 _) hWb1 hWn01 _ | exact SX.set (by assumption) hWb2 hWn02 _)); clear hK K; (try simp only [Act.put, List.setIfInBounds_toArray, List.set_cons_zero, List.set_cons_succ, List.getElem_toArray, List.getElem_cons_zero, List.getElem_cons_succ]); refine wpAnyH_ready (rs := [10]) (by kernel_rfl) (by simp) ?_; refine AllReadyH.cons (o := _) rfl (fun K hK => ?_) AllReadyH.nil; (try simp only [List.getElem_toArray, List.getElem_cons_zero, List.getElem_cons_succ]); (try go_simp); (try (go_wp2_with fail)); refine hK.out _ _ ?_ (fun hHeld => ?_); (focus (first | assumption | exact SX.grow (by assumption) (by assumption) | exact SX.set (SX.set (by assumption) hWb1 hWn01 _) hWb1 hWn01 _ | exact SX.set (by assumption) hWb2 hWn02 _)); clear hK K; (try simp only [Act.put, List.setIfInBounds_toArray, List.set_cons_zero, List.set_cons_succ, List.getElem_toArray, List.getElem_cons_zero, List.getElem_cons_succ]); refine wpAnyH_ready (rs := [11]) (by kernel_rfl) (by simp) ?_; refine AllReadyH.cons (o := _) rfl (fun K hK => ?_) AllReadyH.nil; (try simp only [List.getElem_toArray, List.getElem_cons_zero, List.getElem_cons_succ]); (try go_simp); (try (go_wp2_with fail)); refine hK.out _ _ ?_ (fun hHeld => ?_); (focus (first | assumption | exact SX.grow (by assumption) (by assumption) | exact SX.set (SX.set (by assumption) hWb1 hWn01 _) hWb1 hWn01 _ | exact SX.set (by assumption) hWb2 hWn02 _)); clear hK K; (try simp only [Act.put, List.setIfInBounds_toArray, List.set_cons_zero, List.set_cons_succ, List.getElem_toArray, List.getElem_cons_zero, List.getElem_cons_succ]); refine wpAnyH_ready (rs := [12]) (by kernel_rfl) (by simp) ?_; refine AllReadyH.cons (o := _) rfl (fun K hK => ?_) AllReadyH.nil; (try simp only [List.getElem_toArray, List.getElem_cons_zero, List.getElem_cons_succ]); (try go_simp); (try (go_wp2_with fail)); refine hK.out _ _ ?_ (fun hHeld => ?_); (focus (first | assumption | exact SX.grow (by assumption) (by assumption) | exact SX.set (SX.set (by assumption) hWb1 hWn01 _) hWb1 hWn01 _ | exact SX.set (by assumption) hWb2 hWn02 _)); clear hK K; (try simp only [Act.put, List.setIfInBounds_toArray, List.set_cons_zero, List.set_cons_succ, List.getElem_toArray, List.getElem_cons_zero, List.getElem_cons_succ]); refine wpAnyH_ready (rs := [13]) (by kernel_rfl) (by simp) ?_; refine AllReadyH.cons (o := _) rfl (fun K hK => ?_) AllReadyH.nil; (try simp only [List.getElem_toArray, List.getElem_cons_zero, List.getElem_cons_succ]); (try go_simp); (try (go_wp2_with fail)); refine hK.out _ _ ?_ (fun hHeld => ?_); (focus (first | assumption | exact SX.grow (by assumption) (by assumption) | exact SX.set (SX.set (by assumption) hWb1 hWn01 _) hWb1 hWn01 _ | exact SX.set (by assumption) hWb2 hWn02 _)); clear hK K; (try simp only [Act.put, List.setIfInBounds_toArray, List.set_cons_zero, List.set_cons_succ, List.getElem_toArray, List.getElem_cons_zero, List.getElem_cons_succ]); refine wpAnyH_ready (rs := [14]) (by kernel_rfl) (by simp) ?_; refine AllReadyH.cons (o := _) rfl (fun K hK => ?_) AllReadyH.nil; (try simp only [List.getElem_toArray, List.getElem_cons_zero, List.getElem_cons_succ]); (try go_simp); (try (go_wp2_with fail)); refine hK.out _ _ ?_ (fun hHeld => ?_); (focus (first | assumption | exact SX.grow (by assumption) (by assumption) | exact SX.set (SX.set (by assumption) hWb1 hWn01 _) hWb1 hWn01 _ | exact SX.set (by assumption) hWb2 hWn02 _)); clear hK K; (try simp only [Act.put, List.setIfInBounds_toArray, List.set_cons_zero, List.set_cons_succ, List.getElem_toArray, List.getElem_cons_zero, List.getElem_cons_succ]); refine wpAnyH_done (by kernel_rfl) ?_ _)
  simp only [PanicAt]
  have he : cd = 0 := by rw [← Hcd.out]; exact errOf_zero Hc.out Hfe.out
  have ht : tv = (lo (clocksOf E ss) k, hi (clocksOf E ss) k) := by
    rw [← Htv.out]
    unfold timeV
    rw [if_pos (errOf_zero Hc.out Hfe.out)]
    simp
  subst he ht
  clear dead
  obtain ⟨x, hx⟩ : ∃ x, lo (clocksOf E ss) k = x := ⟨_, rfl⟩
  obtain ⟨y, hy⟩ : ∃ y, hi (clocksOf E ss) k = y := ⟨_, rfl⟩
  rw [hx, hy]
  have Hx := Lib.hid hx
  have Hy := Lib.hid hy
  clear hx hy
  obtain ⟨z0, z1, _, _⟩ := cells2 (x := .int .i64 x) (y := .int .i64 y) y1 y2
  have z2 : ((w3.setCell ⟨W1, 0, none⟩ (.int .i64 x)).setCell ⟨W1, 1, none⟩ (.int .i64 y)).cell? ⟨W2, 0, none⟩ = some (.int .i64 0) := byCell1 (bySet _ W1 1 _) (byCell1 (bySet _ W1 0 _) y4 (by intro e; injection e with e; omega)) (by intro e; injection e with e; omega)
  have z3 := byCell1 (bySet _ W2 0 (.int .i64 0)) z0 (by intro e; injection e with e; omega)
  have z4 := byCell1 (bySet _ W2 0 (.int .i64 0)) z1 (by intro e; injection e with e; omega)
  have z5 : (((w3.setCell ⟨W1, 0, none⟩ (.int .i64 x)).setCell ⟨W1, 1, none⟩ (.int .i64 y)).setCell ⟨W2, 0, none⟩ (.int .i64 0)).cell? ⟨W2, 0, none⟩ = some (.int .i64 0) := World.cell?_setCell_same' _ _ _ (by rw [z2]; rfl)
  have hG : Grow w (((w3.setCell ⟨W1, 0, none⟩ (.int .i64 x)).setCell ⟨W1, 1, none⟩ (.int .i64 y)).setCell ⟨W2, 0, none⟩ (.int .i64 0)) := ((Below.setCell (p := ⟨W1, 0, none⟩) (hgW.trans hG3) (by omega) _).setCell (p := ⟨W1, 1, none⟩) (by omega) _).setCell (p := ⟨W2, 0, none⟩) (by omega) _
  go_wp2
  show Leaves _ _ _ _ _ _ _
  refine leaves_cons (f := 36) (args := #[.pointer (some ⟨W2, 0, none⟩)]) (by simp) (by simp [go_sem]) ?_
  refine (pdefTime_idle W2 _).mono ?_
  rintro e u' w'' ⟨rfl, rfl, rfl⟩
  simp [Leaves, settle, results, Try.results11, go_sem, z3, z4, z5]
  exact ⟨⟨Hx.out.symm, Hy.out.symm⟩, hG⟩
end Go.Proofs.Ytbeglemohfbdfaa
