/- The program of layer 7: First. Conditions: sizes. -/
import Derived.Test.YtbeglemohfbdfaaQpM
import Derived.Laws.EntriesVeiled
import Derived.RecoverIn
import Derived.RegionIn
namespace Go.Proofs.Ytbeglemohfbdfaa
open Go.RowKit Go.Instr

attribute [local go_sem] Oper.semAt_some

/-- What First comes to. -/
def firstL (E F : Int) (ss : List (List Int)) : List Nat := if errOf E F ss true = 0 then (ordersL (clocksOf E ss)).headD [] else []
def FirstPost (E F : Int) (ss : List (List Int)) (w : World) (e : Ending) (w' : World) : Prop :=
  ∃ v, e = .returned (.tuple #[v, .int .i64 (errOf E F ss true)]) ∧ IsInts w' v (natL (firstL E F ss)) ∧ (errOf E F ss true ≠ 0 → v = .slice none 0 0) ∧ Grow w w'
theorem ints_nil (w : World) : IsInts w (.slice none 0 0) [] := ⟨none, 0, rfl, Nat.le_refl _, by simp, fun i x h => by simp at h⟩
set_option maxRecDepth 100000 in
set_option maxHeartbeats 1000000 in
theorem pFirst_no (E F : Int) (v : Value) (ss : List (List Int)) (w : World) (hv : IsSheets w v ss) (hne : errOf E F ss true ≠ 0) :
    Calls Try.prog 25 #[.agg #[.int .i64 E, .int .i64 F, v]] w (FirstPost E F ss w) := by
  have hmf : ∀ (fn : Fn) (first cap : Array Value) (w : World), (Instr.makeFunc fn first cap).run Try.prog w = .ok (.func fn first cap) w := fun _ _ _ _ => rfl
  obtain ⟨a, cap, rfl, hcap, hlen, hrow⟩ := id hv
  have Hv := Lib.hid hv
  have Hne := Lib.hid hne
  clear hv hrow hne
  have dead : ∀ (W V : World) (W1 W2 : Nat) (c : Int) (T : Array Value), Grow w W → w.heap.size ≤ W1 → w.heap.size ≤ W2 → W1 ≠ W2 → W.cell? ⟨W1, 0, none⟩ = some (.slice none 0 0) → W.cell? ⟨W2, 0, none⟩ = some (.int .i64 0) → (∀ o, W.frozen? ⟨W2, o, none⟩ = false) → Grow W V → errOf E F ss true = c → c ≠ 0 → T[2]?.getD undef = .pointer (some ⟨W1, 0, none⟩) → T[3]?.getD undef = .pointer (some ⟨W2, 0, none⟩) →
      Leaves Try.prog Try.f25 T (FirstPost E F ss w) [{ target := .fn (.func 60) #[.pointer (some ⟨W2, 0, none⟩)], args := #[] }] (.panicking (refusal c)) V := by
    intro W V W1 W2 c T hgW hW1 hW2 hn12 hW10 hW20 hWf2 hg hce hc0 h4 h5
    have hc2 := hg.keeps hW20
    have hc1 := hg.keeps hW10
    have hf2 : ∀ o, V.frozen? ⟨W2, o, none⟩ = false := fun o => (hg.marks _ _ (lt_of_cell hW20)).trans (hWf2 o)
    unfold refusal
    refine leaves_cons (f := 60) (args := #[.pointer (some ⟨W2, 0, none⟩)]) (by simp) (by simp [go_sem]) ?_
    refine (pdefFirst_panic W2 c [] V hc2 hf2).mono ?_
    rintro e u' w'' ⟨rfl, rfl, q1, q2⟩
    have hG : Grow w w'' := Below.trans (hgW.trans hg) (grownBy_below q2 (by intro k hk; injection hk with hk; omega) (hgW.trans hg).size)
    have q3 := byCell1 q2 hc1 (by intro e; injection e with e; omega)
    simp [Leaves, settle, results, Try.results25, go_sem, h4, h5, q1, q3]
    exact ⟨_, by rw [hce], by unfold firstL; rw [if_neg (by rw [hce]; exact hc0)]; exact ints_nil _, fun _ => rfl, hG⟩
  go_enter_defers Try.func25, Try.ntmps25
  go_wp2_with fail
  obtain ⟨W, hW⟩ : ∃ W, W = (((w.alloc (.cells #[.int .i64 E, .int .i64 F, .slice a ss.length cap] 32)).alloc (.cells #[.slice none 0 0] 40)).alloc (.cells #[.int .i64 0] 27)) := ⟨_, rfl⟩
  have hgW : Grow w W := by rw [hW]; exact ((((Grow.refl w).alloc _).alloc _).alloc _)
  have hW00 : W.cell? ⟨w.heap.size, 0, none⟩ = some (.int .i64 E) := by rw [hW]; exact Grow.keepA (Grow.keepA (cell_new (by simp) rfl) _) _
  have hW01 : W.cell? ⟨w.heap.size, 1, none⟩ = some (.int .i64 F) := by rw [hW]; exact Grow.keepA (Grow.keepA (cell_new (by simp) rfl) _) _
  have hW02 : W.cell? ⟨w.heap.size, 2, none⟩ = some (.slice a ss.length cap) := by rw [hW]; exact Grow.keepA (Grow.keepA (cell_new (by simp) rfl) _) _
  have hWf0 : ∀ o, W.frozen? ⟨w.heap.size, o, none⟩ = false := by intro o; rw [hW]; exact (((Grow.refl _).alloc _).marks _ _ (by simp <;> omega)).trans ((((Grow.refl _).alloc _).marks _ _ (by simp <;> omega)).trans (hot_new (by simp)))
  have hWl0 : w.heap.size < W.heap.size := by rw [hW]; simp; try omega
  have hW10 : W.cell? ⟨w.heap.size + 1, 0, none⟩ = some (.slice none 0 0) := by rw [hW]; exact Grow.keepA (cell_new (by simp) rfl) _
  have hWf1 : ∀ o, W.frozen? ⟨w.heap.size + 1, o, none⟩ = false := by intro o; rw [hW]; exact (((Grow.refl _).alloc _).marks _ _ (by simp <;> omega)).trans (hot_new (by simp))
  have hWl1 : w.heap.size + 1 < W.heap.size := by rw [hW]; simp; try omega
  have hW20 : W.cell? ⟨w.heap.size + 1 + 1, 0, none⟩ = some (.int .i64 0) := by rw [hW]; exact cell_new (by simp) rfl
  have hWf2 : ∀ o, W.frozen? ⟨w.heap.size + 1 + 1, o, none⟩ = false := by intro o; rw [hW]; exact hot_new (by simp)
  have hWl2 : w.heap.size + 1 + 1 < W.heap.size := by rw [hW]; simp; try omega
  rw [← hW]
  clear hW
  have hWd : ∀ n, (W.drewN n).heap.size = W.heap.size := fun _ => rfl
  have hWq : ∀ n o b j, b < W.heap.size → ((W.drewN n).alloc o).cell? ⟨b, j, none⟩ = W.cell? ⟨b, j, none⟩ := cell_drewN_alloc W
  have hWr : ∀ n o b j, b < W.heap.size → ((W.drewN n).alloc o).frozen? ⟨b, j, none⟩ = W.frozen? ⟨b, j, none⟩ := hot_drewN_alloc W
  have hWb0 : w.heap.size ≤ w.heap.size := by omega
  have hWb1 : w.heap.size ≤ w.heap.size + 1 := by omega
  have hWn01 : w.heap.size ≠ w.heap.size + 1 := by omega
  have hWn10 : w.heap.size + 1 ≠ w.heap.size := by omega
  have hWb2 : w.heap.size ≤ w.heap.size + 1 + 1 := by omega
  have hWn02 : w.heap.size ≠ w.heap.size + 1 + 1 := by omega
  have hWn20 : w.heap.size + 1 + 1 ≠ w.heap.size := by omega
  have hWn12 : w.heap.size + 1 ≠ w.heap.size + 1 + 1 := by omega
  have hWn21 : w.heap.size + 1 + 1 ≠ w.heap.size + 1 := by omega
  obtain ⟨W2, hWe2⟩ : ∃ g, w.heap.size + 1 + 1 = g := ⟨_, rfl⟩
  rw [hWe2] at hW20 hWf2 hWl2 hWb2 hWn20 hWn21 hWn02 hWn12
  (try rw [hWe2])
  have hWk2 := Lib.hid hWe2
  clear hWe2
  obtain ⟨W1, hWe1⟩ : ∃ g, w.heap.size + 1 = g := ⟨_, rfl⟩
  rw [hWe1] at hW10 hWf1 hWl1 hWb1 hWn10 hWn12 hWn01 hWn21
  (try rw [hWe1])
  have hWk1 := Lib.hid hWe1
  clear hWe1
  obtain ⟨W0, hWe0⟩ : ∃ g, w.heap.size = g := ⟨_, rfl⟩
  have hWb0 : w.heap.size ≤ W0 := by omega
  rw [hWe0] at hW00 hW01 hW02 hWf0 hWl0 hWn01 hWn02 hWn10 hWn20
  (try rw [hWe0])
  have hWk0 := Lib.hid hWe0
  clear hWe0
  refine (popen E F _ ss true _ (Hv.out.grow hgW)).mono ?_
  rintro e w2 ⟨hg2, hbad, hok⟩
  rcases Decidable.em (codeO E F ss true = 0) with hc | hc
  · obtain ⟨c, rfl, hch, hcw, hcn⟩ := hok hc
    have Hc := Lib.hid hc
    have Hch := Lib.hid hch
    have hlen6 : (clocksOf E ss).length ≤ 6 := by rw [clocks_len]; exact valid_len hc
    clear hc hch hok hbad
    cases hfe : feasB (clocksOf E ss)
    · have Hfe := Lib.hid hfe
      clear hfe
      go_wp2_with (go_at_call 40; refine (ptold_no c F _ _ Hch.out Hfe.out (by omega)).mono ?_; rintro e w3 ⟨rfl, hg3⟩)
      show Leaves _ _ _ _ _ _ _
      exact dead W w3 W1 W2 10 _ hgW hWb1 hWb2 hWn12 hW10 hW20 hWf2 (hg2.trans hg3) (errOf_clash Hc.out Hfe.out) (by decide) rfl rfl
    · exact absurd (errOf_zero Hc.out hfe) Hne.out
  · have hbad := hbad hc
    subst hbad
    go_wp2
    show Leaves _ _ _ _ _ _ _
    exact dead W w2 W1 W2 _ _ hgW hWb1 hWb2 hWn12 hW10 hW20 hWf2 hg2 (errOf_code hc) hc rfl rfl
theorem wpSIn_of_wpS {n : Nat} {P : Program} {c : Code} {Q : Exit → Act → List Frame → World → Prop} {a : Act} {cs : List Frame} {w : World} (hl : ∀ e a' cs' w', Q e a' cs' w' → cs'.length = cs.length) (h : c.wpS P Q a cs w) : c.wpSIn Fence.wide n P Q a cs w := fun b k hb hr _ _ => by
  obtain ⟨e, a', cs', w', q, r⟩ := h b k hb hr
  refine ⟨e, a', cs', w', hl _ _ _ _ q, q, ?_⟩
  rw [Frame.atR_of_none hr]
  exact (arrivesIn_iff (fun _ _ => stepsIn_wide) hr).2 r
theorem bodyPostS_len {P : Program} {fn : Func} {c₀ : Frame} {cs : List Frame} {R : Ending → FrameMode → World → Prop} (hR : ∀ u w, ¬ R .outgrown u w) : ∀ e a' cs' w', bodyPostS P fn c₀ cs R e a' cs' w' → cs'.length = (c₀ :: cs).length := by
  intro e a' cs' w' h
  cases e with
  | normal => obtain ⟨_, u', rfl, _⟩ := h; rfl
  | ret => obtain ⟨_, u', rfl, _⟩ := h; rfl
  | panic c => obtain ⟨_, u', rfl, _⟩ := h; rfl
  | outgrown => obtain ⟨u', h⟩ := h; exact absurd h (hR _ _)
  | exit i => exact h.elim
  | goto t => exact h.elim
theorem pdefFirst_idle_in (n q : Nat) (w : World) :
    CallsDIn Fence.wide n Try.prog 60 #[.pointer (some ⟨q, 0, none⟩)] .returning w fun e u' w' => e = .returned (.tuple #[]) ∧ u' = .returning ∧ w' = w := by
  refine callsDIn_of_wpSIn Try.func60 rfl trivial fun c₀ cs hu => wpSIn_of_wpS (bodyPostS_len (by rintro u w ⟨h, _⟩; cases h)) ?_
  apply wpS_region
  simp [wpOpsS, go_sem, recoverD, hu, Try.ntmps60]
  refine (psaid_nil q w).mono ?_
  rintro e w' ⟨rfl, rfl⟩
  simp [bodyPostS, results, Try.results60]
  cases c₀
  simp_all
theorem head_pre {a : List Nat} {l : List (List Nat)} (h : [a] <+: l) : l.headD [] = a := by
  obtain ⟨r, rfl⟩ := h
  rfl
def FirstX (ks : List (Int × Int)) (w : World) (W1 W2 : Nat) (pre : List (Od ks)) (Wx : World) : Prop := Grow w Wx ∧ ∃ x : Od ks, pre = [x] ∧ Wx.cell? ⟨W1, 0, none⟩ = some x.1.2 ∧ Wx.cell? ⟨W2, 0, none⟩ = some (.int .i64 0)
set_option maxRecDepth 100000 in
set_option maxHeartbeats 1000000 in
theorem pFirst_ok (E F : Int) (v : Value) (ss : List (List Int)) (w : World) (hv : IsSheets w v ss) (he : errOf E F ss true = 0) :
    Calls Try.prog 25 #[.agg #[.int .i64 E, .int .i64 F, v]] w (FirstPost E F ss w) := by
  have hmf : ∀ (fn : Fn) (first cap : Array Value) (w : World), (Instr.makeFunc fn first cap).run Try.prog w = .ok (.func fn first cap) w := fun _ _ _ _ => rfl
  obtain ⟨a, cap, rfl, hcap, hlen, hrow⟩ := id hv
  have Hv := Lib.hid hv
  have He := Lib.hid he
  have hc : codeO E F ss true = 0 := by
    by_cases h : codeO E F ss true = 0
    · exact h
    · exact absurd ((errOf_code h).symm.trans he) h
  have Hc := Lib.hid hc
  have hfe : feasB (clocksOf E ss) = true := by
    cases h : feasB (clocksOf E ss)
    · have := errOf_clash hc h; rw [he] at this; cases this
    · rfl
  have Hfe := Lib.hid hfe
  clear hv hrow he hc hfe
  refine (callsIn_wide (n := 10)).1 (callsIn_of_wp_marks Try.func25 rfl trivial ?_ rfl)
  simp only [Try.ntmps25, List.size_toArray, List.length_cons, List.length_nil, Nat.reduceAdd, Nat.reduceSub, Array.replicate_succ, Array.replicate_zero, List.push_toArray, List.append_toArray, List.nil_append, List.cons_append]
  gi_wp2
  obtain ⟨W, hW⟩ : ∃ W, W = (((w.alloc (.cells #[.int .i64 E, .int .i64 F, .slice a ss.length cap] 32)).alloc (.cells #[.slice none 0 0] 40)).alloc (.cells #[.int .i64 0] 27)) := ⟨_, rfl⟩
  have hgW : Grow w W := by rw [hW]; exact ((((Grow.refl w).alloc _).alloc _).alloc _)
  have hW00 : W.cell? ⟨w.heap.size, 0, none⟩ = some (.int .i64 E) := by rw [hW]; exact Grow.keepA (Grow.keepA (cell_new (by simp) rfl) _) _
  have hW01 : W.cell? ⟨w.heap.size, 1, none⟩ = some (.int .i64 F) := by rw [hW]; exact Grow.keepA (Grow.keepA (cell_new (by simp) rfl) _) _
  have hW02 : W.cell? ⟨w.heap.size, 2, none⟩ = some (.slice a ss.length cap) := by rw [hW]; exact Grow.keepA (Grow.keepA (cell_new (by simp) rfl) _) _
  have hWf0 : ∀ o, W.frozen? ⟨w.heap.size, o, none⟩ = false := by intro o; rw [hW]; exact (((Grow.refl _).alloc _).marks _ _ (by simp <;> omega)).trans ((((Grow.refl _).alloc _).marks _ _ (by simp <;> omega)).trans (hot_new (by simp)))
  have hWl0 : w.heap.size < W.heap.size := by rw [hW]; simp; try omega
  have hW10 : W.cell? ⟨w.heap.size + 1, 0, none⟩ = some (.slice none 0 0) := by rw [hW]; exact Grow.keepA (cell_new (by simp) rfl) _
  have hWf1 : ∀ o, W.frozen? ⟨w.heap.size + 1, o, none⟩ = false := by intro o; rw [hW]; exact (((Grow.refl _).alloc _).marks _ _ (by simp <;> omega)).trans (hot_new (by simp))
  have hWl1 : w.heap.size + 1 < W.heap.size := by rw [hW]; simp; try omega
  have hW20 : W.cell? ⟨w.heap.size + 1 + 1, 0, none⟩ = some (.int .i64 0) := by rw [hW]; exact cell_new (by simp) rfl
  have hWf2 : ∀ o, W.frozen? ⟨w.heap.size + 1 + 1, o, none⟩ = false := by intro o; rw [hW]; exact hot_new (by simp)
  have hWl2 : w.heap.size + 1 + 1 < W.heap.size := by rw [hW]; simp; try omega
  rw [← hW]
  clear hW
  have hWd : ∀ n, (W.drewN n).heap.size = W.heap.size := fun _ => rfl
  have hWq : ∀ n o b j, b < W.heap.size → ((W.drewN n).alloc o).cell? ⟨b, j, none⟩ = W.cell? ⟨b, j, none⟩ := cell_drewN_alloc W
  have hWr : ∀ n o b j, b < W.heap.size → ((W.drewN n).alloc o).frozen? ⟨b, j, none⟩ = W.frozen? ⟨b, j, none⟩ := hot_drewN_alloc W
  have hWb0 : w.heap.size ≤ w.heap.size := by omega
  have hWb1 : w.heap.size ≤ w.heap.size + 1 := by omega
  have hWn01 : w.heap.size ≠ w.heap.size + 1 := by omega
  have hWn10 : w.heap.size + 1 ≠ w.heap.size := by omega
  have hWb2 : w.heap.size ≤ w.heap.size + 1 + 1 := by omega
  have hWn02 : w.heap.size ≠ w.heap.size + 1 + 1 := by omega
  have hWn20 : w.heap.size + 1 + 1 ≠ w.heap.size := by omega
  have hWn12 : w.heap.size + 1 ≠ w.heap.size + 1 + 1 := by omega
  have hWn21 : w.heap.size + 1 + 1 ≠ w.heap.size + 1 := by omega
  obtain ⟨W2, hWe2⟩ : ∃ g, w.heap.size + 1 + 1 = g := ⟨_, rfl⟩
  rw [hWe2] at hW20 hWf2 hWl2 hWb2 hWn20 hWn21 hWn02 hWn12
  (try rw [hWe2])
  have hWk2 := Lib.hid hWe2
  clear hWe2
  obtain ⟨W1, hWe1⟩ : ∃ g, w.heap.size + 1 = g := ⟨_, rfl⟩
  rw [hWe1] at hW10 hWf1 hWl1 hWb1 hWn10 hWn12 hWn01 hWn21
  (try rw [hWe1])
  have hWk1 := Lib.hid hWe1
  clear hWe1
  obtain ⟨W0, hWe0⟩ : ∃ g, w.heap.size = g := ⟨_, rfl⟩
  have hWb0 : w.heap.size ≤ W0 := by omega
  rw [hWe0] at hW00 hW01 hW02 hWf0 hWl0 hWn01 hWn02 hWn10 hWn20
  (try rw [hWe0])
  have hWk0 := Lib.hid hWe0
  clear hWe0
  refine ⟨trivial, (callsIn_wide.2 (popen E F _ ss true _ (Hv.out.grow hgW))).mono ?_⟩
  rintro e w2 ⟨hg2, _, hok⟩
  obtain ⟨c, rfl, hch, hcw, hcn⟩ := hok Hc.out
  have Hch := Lib.hid hch
  have hlen6 : (clocksOf E ss).length ≤ 6 := by rw [clocks_len]; exact valid_len Hc.out
  clear hch hok
  gi_wp2
  refine ⟨trivial, (callsIn_wide.2 (ptold_yes c F _ _ Hch.out (feasB_iff.1 Hfe.out) (by omega))).mono ?_⟩
  rintro e w3 ⟨rfl, hg3⟩
  gi_wp2
  refine ⟨trivial, (callsIn_wide.2 (porders_any c _)).mono ?_⟩
  rintro e w4 ⟨C, rfl, hC, hCl, hg4⟩
  gi_wp2
  obtain ⟨E', sa, sn, sc, a', cap', h0, h1, h2, h3, h4, h5⟩ := (Hch.out.grow hg3).grow hg4
  have hks := clocks_bounds (codeO_parts Hc.out).1
  have hG4 : Grow W w4 := (hg2.trans hg3).trans hg4
  have r1 := hG4.keeps hW10
  have r2 := hG4.keeps hW20
  have rf1 : ∀ o, w4.frozen? ⟨W1, o, none⟩ = false := fun o => (hG4.marks _ _ hWl1).trans (hWf1 o)
  have rf2 : ∀ o, w4.frozen? ⟨W2, o, none⟩ = false := fun o => (hG4.marks _ _ hWl2).trans (hWf2 o)
  have hGw : Grow w w4 := hgW.trans hG4
  have hs4 := hG4.size
  have hsw := hGw.size
  have hs2 := hg2.size
  have hs3 := hg3.size
  have hS14 := hg4.size
  have hcl := lt_of_cell h3
  have hseq := porders1_seq (fun b => b = W1 ∨ b = W2) C c a' cap' (clocksOf E ss) hlen6 hks w4 hC h3 h5 (by rintro b (rfl | rfl) <;> omega) (by rintro (rfl | rfl) <;> omega) (by rintro (rfl | rfl) <;> omega) (by
    rintro b o e
    subst e
    obtain ⟨_, _, _, _, a2, cap2, _, _, _, k3, _⟩ := Hch.out
    have h6 := (hg3.trans hg4).keeps k3
    rw [h3] at h6
    injection h6 with h6
    injection h6 with h6
    subst h6
    have := hcn _ _ _ _ k3
    rintro (rfl | rfl) <;> omega)
  refine wp_range (g := .tmp 9) (gf := 78) (lb := #[.pointer (some ⟨C, 0, none⟩)]) rfl (enters_of Try.func78 (by kernel_rfl) rfl) hseq (fun x _ X Y row h hg hr => OdX.keptN h hg fun r e => (hr r e).2) (fun {F X Y Z} h k => h.trans k) (fun F W l o o' hl hlo hoc => KpT.put o' hlo hoc) (Grow.refl _) (fun _ => rfl)
    (fun pre Fo Wx => pre = [] ∧ Grow w Wx ∧ KpT noF w4 Wx)
    (fun cc pre Fo Wx => cc = .ret ∧ FirstX (clocksOf E ss) w W1 W2 pre Wx)
    ?hI ?hIx ⟨rfl, hGw, KpT.refl _ _⟩
    (fun x a'' Wx => a'' = { tmps := #[.agg #[.int .i64 E, .int .i64 F, .slice a ss.length cap], .pointer (some ⟨W0, 0, none⟩), .pointer (some ⟨W1, 0, none⟩), .pointer (some ⟨W2, 0, none⟩), x.1.2, .func (.func 60) #[] #[.pointer (some ⟨W2, 0, none⟩)], .agg #[.int .i64 E, .int .i64 F, .slice a ss.length cap], .pointer (some ⟨c, 0, none⟩), .pointer (some ⟨c, 0, none⟩), .func (.func 78) #[] #[.pointer (some ⟨C, 0, none⟩)], x.1.2, undef], defers := [] }) (fun _ _ _ _ _ _ h _ _ => h) ?assign ?body ?done ?stop
  case hI =>
    rintro pre Fo X Z row ⟨i1, i2, i3⟩ hg hr
    have hrow : ∀ r, row = some r → w4.heap.size ≤ r := fun r e => (hr r e).1
    exact ⟨i1, Below.trans i2 (grownBy_below hg (fun r e => Nat.le_trans hsw (hrow r e)) i2.size), kp_rows i3 hg hrow⟩
  case hIx =>
    rintro cc pre Fo X Z row ⟨i0, i1, x, i2, i3, i4⟩ hg hr
    have hrow : ∀ r, row = some r → w4.heap.size ≤ r := fun r e => (hr r e).1
    exact ⟨i0, Below.trans i1 (grownBy_below hg (fun r e => Nat.le_trans hsw (hrow r e)) i1.size), x, i2, byCell1 hg i3 (fun e => by have := hrow _ e; omega), byCell1 hg i4 (fun e => by have := hrow _ e; omega)⟩
  case assign =>
    rintro l pre Fo x Wx K9 hwl hi hFo hx hK
    gi_wp2
    exact hK _ _ (KeepsFrom.refl _ _) (KpT.refl _ _) hi hx rfl
  case body =>
    rintro l pre Fo x a'' Wx hwl ⟨rfl, i2, i3⟩ hFo hx rfl hlen
    have q1 := i3.cell (fun h => h) r1
    have q2 := i3.cell (fun h => h) r2
    have qf1 : ∀ o, Wx.frozen? ⟨W1, o, none⟩ = false := fun o => (i3.hot (fun h => h) r1 o).trans (rf1 o)
    have qf2 : ∀ o, Wx.frozen? ⟨W2, o, none⟩ = false := fun o => (i3.hot (fun h => h) r2 o).trans (rf2 o)
    have hl1 := lt_of_cell q1
    have hl2 := lt_of_cell q2
    obtain ⟨⟨xl, xv⟩, hxm⟩ := x
    obtain ⟨xa, xc, hxe, _⟩ := id hx
    have hxe : xv = .slice xa (natL xl).length xc := hxe
    subst hxe
    dsimp only
    generalize hQ : postC _ _ _ _ _ _ _ = Q
    gi_wp2
    rw [← hQ]
    refine ⟨(kf_set _ _ _ _).trans (kf_set _ _ _ _), (KpT.set (.inl (.inl rfl)) _ _).trans (KpT.set (.inl (.inr rfl)) _ _), noF, Fp.none _ _ _, rfl, ?_, _, rfl, ?_, ?_⟩
    · exact Below.setCell (p := ⟨W2, 0, none⟩) (Below.setCell (p := ⟨W1, 0, none⟩) i2 (by omega) _) (by omega) _
    · exact byCell1 (bySet _ W2 0 _) (World.cell?_setCell_same' _ _ _ (by rw [q1]; rfl)) (by intro e; injection e with e; omega)
    · exact World.cell?_setCell_same' _ _ _ (by rw [byCell1 (bySet _ W1 0 _) q2 (by intro e; injection e with e; omega)]; rfl)
  case done =>
    rintro D xs Fo W9 hD hxs ⟨rfl, _⟩ hKd
    exact absurd hxs.symm (orders_ne (fun p hp => (hks p hp).1) (feasB_iff.1 Hfe.out))
  case stop =>
    rintro D cc pre Fo W9 hD hSp ⟨rfl, g1, x, rfl, z1, z2⟩ hKd hxl
    gi_wp2
    show LeavesInM _ _ _ _ _ _ _ _ _
    refine ⟨by simp, .inl ⟨_, _, rfl, run_takeDeferred hKd, ?_⟩⟩
    have z3 := cell_kept z1 (grownBy_putObj' W9 D (.deferred none)) (fun r e => by cases e; exact ⟨_, hKd, rfl⟩)
    have z4 := cell_kept z2 (grownBy_putObj' W9 D (.deferred none)) (fun r e => by cases e; exact ⟨_, hKd, rfl⟩)
    have z5 := (hxl x rfl).keptN (grownBy_putObj' W9 D (.deferred none)) (fun r e => by cases e; exact ⟨_, hKd, rfl⟩)
    have z6 : Grow w (W9.putObj D (.deferred none)) := Below.trans g1 (grownBy_below (grownBy_putObj' W9 D (.deferred none)) (fun r e => by cases e; omega) g1.size)
    refine ⟨by simp, .inr ⟨fun _ => by omega, _, _, 60, #[.pointer (some ⟨W2, 0, none⟩)], rfl, by simp [go_sem], fun _ _ => trivial, (pdefFirst_idle_in _ W2 _).mono ?_⟩⟩
    rintro e u' w'' ⟨rfl, rfl, rfl⟩
    have hfl : firstL E F ss = x.1.1 := by
      unfold firstL
      rw [if_pos He.out]
      exact head_pre hSp
    have key : FirstPost E F ss w (.returned (.tuple #[x.1.2, .int .i64 0])) (W9.putObj D (.deferred none)) := ⟨x.1.2, by rw [He.out], by rw [hfl]; exact z5, fun h => absurd He.out h, z6⟩
    simp [LeavesInM, LeavesIn, settle, results, Try.results25, go_sem, z3, z4]
    exact key
theorem pFirst_any (E F : Int) (v : Value) (ss : List (List Int)) (w : World) (hv : IsSheets w v ss) :
    Calls Try.prog 25 #[.agg #[.int .i64 E, .int .i64 F, v]] w (FirstPost E F ss w) := by
  by_cases h : errOf E F ss true = 0
  · exact pFirst_ok E F v ss w hv h
  · exact pFirst_no E F v ss w hv h
end Go.Proofs.Ytbeglemohfbdfaa
