/- The program of layer 7: Ask. Conditions: sizes. -/
import Derived.Test.YtbeglemohfbdfaaQpW
import Derived.Test.YtbeglemohfbdfaaQpJ
namespace Go.Proofs.Ytbeglemohfbdfaa
open Go.RowKit Go.Instr

/-- Whose time settles the final, and the error. -/
def askV (ks : List (Int × Int)) (F : Int) : Int × Int := if settledB ks F = true then (0, 11) else match (List.range ks.length).find? (settlesB ks F) with | some p => ((p : Int), 0) | none => (0, 4)
def askE (E F : Int) (ss : List (List Int)) : Int × Int := if errOf E F ss true = 0 then askV (clocksOf E ss) F else (0, errOf E F ss true)
theorem askE_bad {E F c : Int} {ss : List (List Int)} (h : errOf E F ss true = c) (h0 : c ≠ 0) : askE E F ss = (0, c) := by
  unfold askE
  rw [if_neg (by rw [h]; exact h0), h]
theorem askE_ok {E F : Int} {ss : List (List Int)} (h : errOf E F ss true = 0) : askE E F ss = askV (clocksOf E ss) F := if_pos h
theorem askV_settled {ks : List (Int × Int)} {F : Int} (h : settledB ks F = true) : askV ks F = (0, 11) := if_pos h
theorem askV_none {ks : List (Int × Int)} {F : Int} (h : settledB ks F = false) (hn : ∀ j, j < ks.length → settlesB ks F j = false) : askV ks F = (0, 4) := by
  unfold askV
  rw [if_neg (by rw [h]; decide), List.find?_eq_none.2 fun x hx => by rw [hn x (List.mem_range.1 hx)]; decide]
theorem askV_some {ks : List (Int × Int)} {F : Int} {k : Nat} (h : settledB ks F = false) (hk : k < ks.length) (hy : settlesB ks F k = true) (hn : ∀ j, j < k → settlesB ks F j = false) : askV ks F = ((k : Int), 0) := by
  unfold askV
  rw [if_neg (by rw [h]; decide)]
  have : (List.range ks.length).find? (settlesB ks F) = some k := by
    rw [List.find?_range_eq_some]
    exact ⟨hy, List.mem_range.2 hk, fun j hj => by rw [hn j hj]; rfl⟩
  rw [this]
set_option maxRecDepth 100000 in
set_option maxHeartbeats 2000000 in
theorem pAsk_any (E F : Int) (v : Value) (ss : List (List Int)) (w : World) (hv : IsSheets w v ss) :
    Calls Try.prog 18 #[.agg #[.int .i64 E, .int .i64 F, v]] w fun e w' => e = .returned (.tuple #[.int .i64 (askE E F ss).1, .int .i64 (askE E F ss).2]) ∧ Grow w w' := by
  have hmf : ∀ (fn : Fn) (first cap : Array Value) (w : World), (Instr.makeFunc fn first cap).run Try.prog w = .ok (.func fn first cap) w := fun _ _ _ _ => rfl
  obtain ⟨a, cap, rfl, hcap, hlen, hrow⟩ := id hv
  have Hv := Lib.hid hv
  obtain ⟨tv, htv⟩ : ∃ tv, askE E F ss = tv := ⟨_, rfl⟩
  rw [htv]
  have Htv := Lib.hid htv
  clear htv hv hrow
  have dead : ∀ (W V : World) (W1 : Nat) (c : Int) (T : Array Value), Grow w W → w.heap.size ≤ W1 → W.cell? ⟨W1, 0, none⟩ = some (.int .i64 0) → (∀ o, W.frozen? ⟨W1, o, none⟩ = false) → Grow W V → askE E F ss = (0, c) → T[2]?.getD undef = .int .i64 0 → T[3]?.getD undef = .pointer (some ⟨W1, 0, none⟩) →
      Leaves Try.prog Try.f18 T (fun e w' => e = .returned (.tuple #[.int .i64 tv.1, .int .i64 tv.2]) ∧ Grow w w') [{ target := .fn (.func 50) #[.pointer (some ⟨W1, 0, none⟩)], args := #[] }] (.panicking (refusal c)) V := by
    intro W V W1 c T hgW hW1 hW10 hWf1 hg hce h4 h5
    have hc1 := hg.keeps hW10
    have hf1 : ∀ o, V.frozen? ⟨W1, o, none⟩ = false := fun o => (hg.marks _ _ (lt_of_cell hW10)).trans (hWf1 o)
    have ht : tv = (0, c) := by rw [← Htv.out]; exact hce
    subst ht
    unfold refusal
    refine leaves_cons (f := 50) (args := #[.pointer (some ⟨W1, 0, none⟩)]) (by simp) (by simp [go_sem]) ?_
    refine (pdefAsk_panic W1 c [] V hc1 hf1).mono ?_
    rintro e u' w'' ⟨rfl, rfl, q1, q2⟩
    have hG : Grow w w'' := Below.trans (hgW.trans hg) (grownBy_below q2 (by intro k hk; injection hk with hk; omega) (hgW.trans hg).size)
    simp [Leaves, settle, results, Try.results18, go_sem, h4, h5, q1]
    exact hG
  go_enter_defers Try.func18, Try.ntmps18
  go_wp2_with fail
  obtain ⟨W, hW⟩ : ∃ W, W = ((w.alloc (.cells #[.int .i64 E, .int .i64 F, .slice a ss.length cap] 32)).alloc (.cells #[.int .i64 0] 27)) := ⟨_, rfl⟩
  have hgW : Grow w W := by rw [hW]; exact (((Grow.refl w).alloc _).alloc _)
  have hW00 : W.cell? ⟨w.heap.size, 0, none⟩ = some (.int .i64 E) := by rw [hW]; exact Grow.keepA (cell_new (by simp) rfl) _
  have hW01 : W.cell? ⟨w.heap.size, 1, none⟩ = some (.int .i64 F) := by rw [hW]; exact Grow.keepA (cell_new (by simp) rfl) _
  have hW02 : W.cell? ⟨w.heap.size, 2, none⟩ = some (.slice a ss.length cap) := by rw [hW]; exact Grow.keepA (cell_new (by simp) rfl) _
  have hWf0 : ∀ o, W.frozen? ⟨w.heap.size, o, none⟩ = false := by intro o; rw [hW]; exact (((Grow.refl _).alloc _).marks _ _ (by simp <;> omega)).trans (hot_new (by simp))
  have hWl0 : w.heap.size < W.heap.size := by rw [hW]; simp; try omega
  have hW10 : W.cell? ⟨w.heap.size + 1, 0, none⟩ = some (.int .i64 0) := by rw [hW]; exact cell_new (by simp) rfl
  have hWf1 : ∀ o, W.frozen? ⟨w.heap.size + 1, o, none⟩ = false := by intro o; rw [hW]; exact hot_new (by simp)
  have hWl1 : w.heap.size + 1 < W.heap.size := by rw [hW]; simp; try omega
  rw [← hW]
  clear hW
  have hWd : ∀ n, (W.drewN n).heap.size = W.heap.size := fun _ => rfl
  have hWq : ∀ n o b j, b < W.heap.size → ((W.drewN n).alloc o).cell? ⟨b, j, none⟩ = W.cell? ⟨b, j, none⟩ := cell_drewN_alloc W
  have hWr : ∀ n o b j, b < W.heap.size → ((W.drewN n).alloc o).frozen? ⟨b, j, none⟩ = W.frozen? ⟨b, j, none⟩ := hot_drewN_alloc W
  have hWb0 : w.heap.size ≤ w.heap.size := by omega
  have hWb1 : w.heap.size ≤ w.heap.size + 1 := by omega
  have hWn01 : w.heap.size ≠ w.heap.size + 1 := by omega
  have hWn10 : w.heap.size + 1 ≠ w.heap.size := by omega
  obtain ⟨W1, hWe1⟩ : ∃ g, w.heap.size + 1 = g := ⟨_, rfl⟩
  rw [hWe1] at hW10 hWf1 hWl1 hWb1 hWn10 hWn01
  (try rw [hWe1])
  have hWk1 := Lib.hid hWe1
  clear hWe1
  obtain ⟨W0, hWe0⟩ : ∃ g, w.heap.size = g := ⟨_, rfl⟩
  have hWb0 : w.heap.size ≤ W0 := by omega
  rw [hWe0] at hW00 hW01 hW02 hWf0 hWl0 hWn01 hWn10
  (try rw [hWe0])
  have hWk0 := Lib.hid hWe0
  clear hWe0
  refine (popen E F _ ss true _ (Hv.out.grow hgW)).mono ?_
  rintro e w2 ⟨hg2, hbad, hok⟩
  rcases Decidable.em (codeO E F ss true = 0) with hc | hc
  · obtain ⟨c, rfl, hch, hcw, hcn⟩ := hok hc
    have Hc := Lib.hid hc
    have Hch := Lib.hid hch
    have hlen6 : (clocksOf E ss).length ≤ 6 := by rw [clocks_len]; exact valid_len hc
    clear hc hch hok hbad
    cases hfe : feasB (clocksOf E ss)
    · have Hfe := Lib.hid hfe
      clear hfe
      go_wp2_with (go_at_call 40; refine (ptold_no c F _ _ Hch.out Hfe.out (by omega)).mono ?_; rintro e w3 ⟨rfl, hg3⟩)
      show Leaves _ _ _ _ _ _ _
      exact dead W w3 W1 10 _ hgW hWb1 hW10 hWf1 (hg2.trans hg3) (askE_bad (errOf_clash Hc.out Hfe.out) (by decide)) rfl rfl
    · have Hfe := Lib.hid hfe
      have hbb := clocks_bounds (codeO_parts Hc.out).1
      obtain ⟨ks, hks⟩ : ∃ ks, clocksOf E ss = ks := ⟨_, rfl⟩
      have hav : tv = askV ks F := by rw [← Htv.out, askE_ok (errOf_zero Hc.out hfe), hks]
      have Hav := Lib.hid hav
      rw [hks] at hbb hlen6
      have Hbb := Lib.hid hbb
      have Hks := Lib.hid hks
      clear hfe hbb hks hav
      cases hsb : settledB ks F
      · have Hsb := Lib.hid hsb
        have hhw := hgW.size
        clear hsb
        go_wp2_with first | (go_at_call 40; refine (ptold_yes c F _ _ Hch.out (feasB_iff.1 Hfe.out) (by rw [Hks.out]; omega)).mono ?_; rintro e w3 ⟨rfl, hg3⟩) | (go_at_call 52; refine (psettled_any c F ks _ (by have := Hch.out.grow hg3; rw [Hks.out] at this; exact this) hlen6).mono ?_; rintro e w4 ⟨rfl, hg4⟩; rw [Hsb.out]) | (go_at_call 51; refine (pwant_yes _ _).mono ?_; rintro e w5 ⟨rfl, rfl⟩; have hch5 : ChaseIs w4 c F ks := (by have := Hch.out.grow (hg3.trans hg4); rw [Hks.out] at this; exact this); have Hch5 := Lib.hid hch5; obtain ⟨E', sa', sn', sc', a', cap', k0, k1, k2, k3, k4, k5⟩ := hch5; have K5 := Lib.hid k5; clear k5; have hG4 : Grow W w4 := (hg2.trans hg3).trans hg4; have y4 := hG4.keeps hW10; have y5 : ∀ o, w4.frozen? ⟨W1, o, none⟩ = false := (fun o => (hG4.marks _ _ hWl1).trans (hWf1 o)); have hl2 := lt_of_cell y4; have hcl := lt_of_cell k3)
        go_loopw [19] (fun i wr => ∃ k : Nat, k ≤ ks.length ∧ i = .int .i64 k ∧ (∀ j, j < k → settlesB ks F j = false) ∧ Grow w4 wr) (fun i _ => ks.length - (intOf i).toNat)
        case atStart => exact ⟨0, Nat.zero_le _, rfl, fun j hj => absurd hj (Nat.not_lt_zero _), Grow.refl _⟩
        case round =>
          obtain ⟨k, hk, rfl, hno, hg⟩ := hrel
          have Hno := Lib.hid hno
          clear hno
          by_cases hlt : k < ks.length
          · cases hse : settlesB ks F k
            · have Hse := Lib.hid hse
              clear hse
              go_wp2_with (go_at_call 53; refine (psettlesB_any c k F ks _ (Hch5.out.grow hg) hlt hlen6 Hbb.out).mono ?_; rintro e w6 ⟨rfl, hg6⟩; rw [Hse.out])
              refine ⟨⟨k + 1, by omega, by go_num, fun j hj => ?_, hg.trans hg6⟩, by simp [intOf]; omega⟩
              by_cases e : j = k
              · subst e; exact Hse.out
              · exact Hno.out j (by omega)
            · have Hse := Lib.hid hse
              clear hse
              go_wp2_with (go_at_call 53; refine (psettlesB_any c k F ks _ (Hch5.out.grow hg) hlt hlen6 Hbb.out).mono ?_; rintro e w6 ⟨rfl, hg6⟩; rw [Hse.out]; have q4 := (hg.trans hg6).keeps y4; have q5 : ∀ o, w6.frozen? ⟨W1, o, none⟩ = false := (fun o => ((hg.trans hg6).marks _ _ (lt_of_cell y4)).trans (y5 o)); have hl6 := lt_of_cell q4)
              have ht : tv = ((k : Int), 0) := by rw [Hav.out]; exact askV_some Hsb.out hlt Hse.out Hno.out
              subst ht
              have z5 : (w6.setCell ⟨W1, 0, none⟩ (.int .i64 0)).cell? ⟨W1, 0, none⟩ = some (.int .i64 0) := World.cell?_setCell_same' _ _ _ (by rw [q4]; rfl)
              have hG : Grow w (w6.setCell ⟨W1, 0, none⟩ (.int .i64 0)) := Below.setCell (p := ⟨W1, 0, none⟩) (hgW.trans (hG4.trans (hg.trans hg6))) (by omega) _
              show Leaves _ _ _ _ _ _ _
              refine leaves_cons (f := 50) (args := #[.pointer (some ⟨W1, 0, none⟩)]) (by simp) (by simp [go_sem]) ?_
              refine (pdefAsk_idle W1 _).mono ?_
              rintro e u' w'' ⟨rfl, rfl, rfl⟩
              simp [Leaves, settle, results, Try.results18, go_sem, z5]
              exact hG
          · obtain rfl : k = ks.length := by omega
            have q4 := hg.keeps y4
            have q5 : ∀ o, wr.frozen? ⟨W1, o, none⟩ = false := fun o => (hg.marks _ _ (lt_of_cell y4)).trans (y5 o)
            have hl6 := lt_of_cell q4
            go_wp2_with fail
            have ht : tv = (0, 4) := by rw [Hav.out]; exact askV_none Hsb.out Hno.out
            subst ht
            have z5 : (wr.setCell ⟨W1, 0, none⟩ (.int .i64 4)).cell? ⟨W1, 0, none⟩ = some (.int .i64 4) := World.cell?_setCell_same' _ _ _ (by rw [q4]; rfl)
            have hG : Grow w (wr.setCell ⟨W1, 0, none⟩ (.int .i64 4)) := Below.setCell (p := ⟨W1, 0, none⟩) (hgW.trans (hG4.trans hg)) (by omega) _
            show Leaves _ _ _ _ _ _ _
            refine leaves_cons (f := 50) (args := #[.pointer (some ⟨W1, 0, none⟩)]) (by simp) (by simp [go_sem]) ?_
            refine (pdefAsk_idle W1 _).mono ?_
            rintro e u' w'' ⟨rfl, rfl, rfl⟩
            simp [Leaves, settle, results, Try.results18, go_sem, z5]
            exact hG
      · have Hsb := Lib.hid hsb
        clear hsb
        go_wp2_with first | (go_at_call 40; refine (ptold_yes c F _ _ Hch.out (feasB_iff.1 Hfe.out) (by rw [Hks.out]; omega)).mono ?_; rintro e w3 ⟨rfl, hg3⟩) | (go_at_call 52; refine (psettled_any c F ks _ (by have := Hch.out.grow hg3; rw [Hks.out] at this; exact this) hlen6).mono ?_; rintro e w4 ⟨rfl, hg4⟩; rw [Hsb.out]) | (go_at_call 51; refine (pwant_no _ _).mono ?_; rintro e w5 ⟨rfl, rfl⟩)
        show Leaves _ _ _ _ _ _ _
        exact dead W w4 W1 11 _ hgW hWb1 hW10 hWf1 ((hg2.trans hg3).trans hg4) (by rw [Htv.out, Hav.out]; exact askV_settled Hsb.out) rfl rfl
  · have hbad := hbad hc
    subst hbad
    go_wp2
    show Leaves _ _ _ _ _ _ _
    exact dead W w2 W1 _ _ hgW hWb1 hW10 hWf1 hg2 (askE_bad (errOf_code hc) hc) rfl rfl
end Go.Proofs.Ytbeglemohfbdfaa
