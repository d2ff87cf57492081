/- The program of layer 7: Orders. Conditions: sizes. -/
import Derived.Test.YtbeglemohfbdfaaQpI
import Derived.Test.YtbeglemohfbdfaaQpG
import Derived.Deep.DeepCutAuto
import Derived.Laws.EntriesVeiled
namespace Go.Proofs.Ytbeglemohfbdfaa
open Go.RowKit Go.Instr

theorem two_pow6 {n : Nat} (h : n ≤ 6) : 1 ≤ 2 ^ n ∧ 2 ^ n ≤ 64 := ⟨Nat.one_le_two_pow, Nat.le_trans (Nat.pow_le_pow_right (by decide) h) (by decide)⟩
set_option maxRecDepth 100000 in
set_option maxHeartbeats 1000000 in
theorem pways_any (c : Nat) (F : Int) (ks : List (Int × Int)) (w : World) (h : ChaseIs w c F ks) (hl : ks.length ≤ 6) (hks : ∀ p, p < ks.length → 0 ≤ lo ks p ∧ lo ks p ≤ 1000 ∧ hi ks p ≤ 203) :
    Calls Try.prog 59 #[.pointer (some ⟨c, 0, none⟩)] w fun e w' => e = .returned (.int .i64 (ordersL ks).length) ∧ Grow w w' := by
  obtain ⟨E, sa, sn, sc, a, cap, h0, h1, h2, h3, h4, h5⟩ := h
  have hmf : ∀ (fn : Fn) (first cap : Array Value) (w : World), (Instr.makeFunc fn first cap).run Try.prog w = .ok (.func fn first cap) w := fun _ _ _ _ => rfl
  have hmm := @run_makeMap Try.prog
  have hp := two_pow6 hl
  obtain ⟨N, hN⟩ : ∃ N : Nat, N = 2 ^ ks.length - 1 := ⟨_, rfl⟩
  have hsh : IntKind.u64.wrap (2 ^ ks.length) = 2 ^ ks.length := by rw [show (2 : Int) ^ ks.length = ((2 ^ ks.length : Nat) : Int) by simp]; exact u64_nat (by omega)
  have hsu : IntKind.u64.wrap (2 ^ ks.length - 1) = (N : Int) := by rw [show (2 : Int) ^ ks.length - 1 = (N : Int) by rw [show (2 : Int) ^ ks.length = ((2 ^ ks.length : Nat) : Int) by simp]; omega]; exact u64_nat (by omega)
  have HN := Lib.hid hN
  clear hN
  have Hks := Lib.hid hks
  have H5 := Lib.hid h5
  have hcl := lt_of_cell h3
  clear h5 hks
  have h33 : (((w.alloc (.cells #[.pointer (some ⟨c, 0, none⟩)] 69)).alloc (.map #[] 0)).alloc (.cells #[.map (some (w.heap.size + 1))] 110)).cell? ⟨c, 3, none⟩ = some (.slice a ks.length cap) := ((((Grow.refl w).alloc _).alloc _).alloc _).keeps h3
  go_enter Try.func59, Try.ntmps59
  go_upto_region 5 with fail
  obtain ⟨V1, hV1⟩ : ∃ z, w.alloc (.cells #[.pointer (some ⟨c, 0, none⟩)] 69) = z := ⟨_, rfl⟩
  obtain ⟨V2, hV2⟩ : ∃ z, V1.alloc (.map #[] 0) = z := ⟨_, rfl⟩
  obtain ⟨V3, hV3⟩ : ∃ z, V2.alloc (.cells #[.map (some (w.heap.size + 1))] 110) = z := ⟨_, rfl⟩
  obtain ⟨V4, hV4⟩ : ∃ z, V3.alloc (.cells #[.int .u64 N] 77) = z := ⟨_, rfl⟩
  obtain ⟨V5, hV5⟩ : ∃ z, V4.alloc (.cells #[.func (.func 75) #[] #[.pointer (some ⟨w.heap.size + 1 + 1 + 1, 0, none⟩), .pointer (some ⟨w.heap.size + 1 + 1, 0, none⟩), .pointer (some ⟨w.heap.size, 0, none⟩), .pointer (some ⟨w.heap.size + 1 + 1 + 1 + 1, 0, none⟩)]] 111) = z := ⟨_, rfl⟩
  rw [hV1, hV2, hV3, hV4, hV5]
  have z1 : V1.heap.size = w.heap.size + 1 := by rw [← hV1]; simp
  have z2 : V2.heap.size = w.heap.size + 1 + 1 := by rw [← hV2]; simp [z1]
  have z3 : V3.heap.size = w.heap.size + 1 + 1 + 1 := by rw [← hV3]; simp [z2]
  have z4 : V4.heap.size = w.heap.size + 1 + 1 + 1 + 1 := by rw [← hV4]; simp [z3]
  have g1 : Grow w V1 := by rw [← hV1]; exact (Grow.refl _).alloc _
  have g2 : Grow V1 V2 := by rw [← hV2]; exact (Grow.refl _).alloc _
  have g3 : Grow V2 V3 := by rw [← hV3]; exact (Grow.refl _).alloc _
  have g4 : Grow V3 V4 := by rw [← hV4]; exact (Grow.refl _).alloc _
  have g5 : Grow V4 V5 := by rw [← hV5]; exact (Grow.refl _).alloc _
  have gV : Grow w V5 := (((g1.trans g2).trans g3).trans g4).trans g5
  have hm2 : MapIs V2 (w.heap.size + 1) stV [] := by rw [← hV2, ← z1]; exact MapIs.made V1 stV
  have hm5 := ((hm2.grow g3).grow g4).grow g5
  have henv : WEnv (w.heap.size + 1 + 1 + 1) (w.heap.size + 1 + 1) w.heap.size (w.heap.size + 1 + 1 + 1 + 1) (w.heap.size + 1) c a cap ks V5 := {
    all := by rw [← HN.out]; exact g5.keeps (by rw [← hV4]; exact cell_new z3.symm rfl)
    known := (g4.trans g5).keeps (by rw [← hV3]; exact cell_new z2.symm rfl)
    chase := (((g2.trans g3).trans g4).trans g5).keeps (by rw [← hV1]; exact cell_new rfl rfl)
    self := by rw [← hV5]; exact cell_new z4.symm rfl
    clocks := gV.keeps h3
    at' := H5.out.grow gV }
  have e4 := henv.self
  have Henv := Lib.hid henv
  have hlM : w.heap.size + 1 < V5.heap.size := hm5.lt
  have hSz : w.heap.size ≤ V5.heap.size := gV.size
  clear hV1 hV2 hV3 hV4 hV5 g1 g2 g3 g4 g5 hm2 henv h33 z1 z2 z3 z4
  (refine wp_region_held_drew (S := fun Vx => Vx.cell? ⟨w.heap.size + 1 + 1 + 1 + 1, 0, none⟩ = some (.func (.func 75) #[] #[.pointer (some ⟨w.heap.size + 1 + 1 + 1, 0, none⟩), .pointer (some ⟨w.heap.size + 1 + 1, 0, none⟩), .pointer (some ⟨w.heap.size, 0, none⟩), .pointer (some ⟨w.heap.size + 1 + 1 + 1 + 1, 0, none⟩)])) (by kernel_rfl) (e4) (fun hHeld => ?_); refine wpAnyH_take (i := 0) (oi := _) (v := ?_) rfl (by kernel_rfl) (by kernel_rfl) (by kernel_rfl) (fun _ _ _ h => h) (Or.inl ⟨by rfl, ?_⟩) (by assumption) ?_; rotate_left; (focus (intro w hSw; (try dsimp only at hSw); go_simp; (try with_reducible rfl))); (try simp only [Act.put, List.setIfInBounds_toArray, List.set_cons_zero, List.set_cons_succ, List.getElem_toArray, List.getElem_cons_zero]); refine wpAnyH_ready (rs := [1]) (by kernel_rfl) (by simp) ?_; refine AllReadyH.cons (o := _) rfl (fun K hK => ?_) AllReadyH.nil; (try simp only [List.getElem_toArray, List.getElem_cons_zero, List.getElem_cons_succ]); (try go_simp); (first | (go_at_call 77; refine (pbegin_any _).mono ?_; rintro e w1 ⟨rfl, hg1⟩; have hg1 : Grow V5 w1 := (Grow.refl V5).drew.trans hg1; have e41 := hg1.keeps e4) | (refine (pways1_any _ _ _ _ _ c a cap ks hl Hks.out _ .begin _ rfl (OkSt.begin ks) (Henv.out.kept fun b o v _ h => hg1.keeps h) ⟨[], hm5.grow hg1, by simp⟩).mono ?_; rintro e w2 ⟨rfl, hg2, hk2⟩; have e42 := keptM (hm5.grow hg1) hg2 e41)); (try (go_wp2_with fail)); refine hK.out _ _ ?_ (fun hHeld => ?_); (focus (first | assumption | exact Grow.keeps (by assumption) (by assumption))); clear hK K; (try simp only [Act.put, List.setIfInBounds_toArray, List.set_cons_zero, List.set_cons_succ, List.getElem_toArray, List.getElem_cons_zero, List.getElem_cons_succ]); refine wpAnyH_ready (rs := [2]) (by kernel_rfl) (by simp) ?_; refine AllReadyH.cons (o := _) rfl (fun K hK => ?_) AllReadyH.nil; (try simp only [List.getElem_toArray, List.getElem_cons_zero, List.getElem_cons_succ]); (try go_simp); (first | (go_at_call 77; refine (pbegin_any _).mono ?_; rintro e w1 ⟨rfl, hg1⟩; have hg1 : Grow V5 w1 := (Grow.refl V5).drew.trans hg1; have e41 := hg1.keeps e4) | (refine (pways1_any _ _ _ _ _ c a cap ks hl Hks.out _ .begin _ rfl (OkSt.begin ks) (Henv.out.kept fun b o v _ h => hg1.keeps h) ⟨[], hm5.grow hg1, by simp⟩).mono ?_; rintro e w2 ⟨rfl, hg2, hk2⟩; have e42 := keptM (hm5.grow hg1) hg2 e41)); (try (go_wp2_with fail)); refine hK.out _ _ ?_ (fun hHeld => ?_); (focus (first | assumption | exact Grow.keeps (by assumption) (by assumption))); clear hK K; (try simp only [Act.put, List.setIfInBounds_toArray, List.set_cons_zero, List.set_cons_succ, List.getElem_toArray, List.getElem_cons_zero, List.getElem_cons_succ]); refine wpAnyH_ready (rs := [3]) (by kernel_rfl) (by simp) ?_; refine AllReadyH.cons (o := _) rfl (fun K hK => ?_) AllReadyH.nil; (try simp only [List.getElem_toArray, List.getElem_cons_zero, List.getElem_cons_succ]); (try go_simp); (try (go_wp2_with fail)); refine hK.out _ _ ?_ (fun hHeld => ?_); (focus (first | assumption | exact Grow.keeps (by assumption) (by assumption))); clear hK K; (try simp only [Act.put, List.setIfInBounds_toArray, List.set_cons_zero, List.set_cons_succ, List.getElem_toArray, List.getElem_cons_zero, List.getElem_cons_succ]); refine wpAnyH_done (by kernel_rfl) ?_ _)
  go_wp2
  go_ret
  refine ⟨?_, Below.trans (gV.trans hg1) (grownBy_below hg2 (by intro k hk; injection hk with hk; omega) (by have := hg1.size; omega))⟩
  have : waysN ks .begin = (ordersL ks).length := by unfold waysN ordersL; rw [leftN_begin]
  rw [← this]
  rfl
/-- What Orders comes to. -/
def ordersV (E F : Int) (ss : List (List Int)) : Int := if errOf E F ss true = 0 then (ordersL (clocksOf E ss)).length else 0
theorem clocks_bounds {E F : Int} {ss : List (List Int)} (h : validB E F ss = true) : ∀ p, p < (clocksOf E ss).length → 0 ≤ lo (clocksOf E ss) p ∧ lo (clocksOf E ss) p ≤ 1000 ∧ hi (clocksOf E ss) p ≤ 203 := fun p hp => by
  rw [clocks_len] at hp
  obtain ⟨hE, _, _, hl⟩ := valid_parts h
  have hc := clocks_get (E := E) (List.getElem?_eq_getElem hp)
  have := loOf_range hE (fun n hn => ((hl _ (List.getElem_mem hp)).2 n hn))
  rw [hc.1, hc.2]
  exact ⟨this.1, by omega, hiOf_le _ _⟩
set_option maxRecDepth 100000 in
set_option maxHeartbeats 1000000 in
theorem pOrders_any (E F : Int) (v : Value) (ss : List (List Int)) (w : World) (hv : IsSheets w v ss) :
    Calls Try.prog 24 #[.agg #[.int .i64 E, .int .i64 F, v]] w fun e w' => e = .returned (.tuple #[.int .i64 (ordersV E F ss), .int .i64 (errOf E F ss true)]) ∧ Grow w w' := by
  have hmf : ∀ (fn : Fn) (first cap : Array Value) (w : World), (Instr.makeFunc fn first cap).run Try.prog w = .ok (.func fn first cap) w := fun _ _ _ _ => rfl
  obtain ⟨a, cap, rfl, hcap, hlen, hrow⟩ := id hv
  have Hv := Lib.hid hv
  obtain ⟨cd, hcd⟩ : ∃ cd, errOf E F ss true = cd := ⟨_, rfl⟩
  obtain ⟨tv, htv⟩ : ∃ tv, ordersV E F ss = tv := ⟨_, rfl⟩
  rw [hcd, htv]
  have Hcd := Lib.hid hcd
  have Htv := Lib.hid htv
  clear hcd htv hv hrow
  have dead : ∀ (W V : World) (W1 : Nat) (c : Int) (T : Array Value), Grow w W → w.heap.size ≤ W1 → W.cell? ⟨W1, 0, none⟩ = some (.int .i64 0) → (∀ o, W.frozen? ⟨W1, o, none⟩ = false) → Grow W V → errOf E F ss true = c → c ≠ 0 → T[2]?.getD undef = .int .i64 0 → T[3]?.getD undef = .pointer (some ⟨W1, 0, none⟩) →
      Leaves Try.prog Try.f24 T (fun e w' => e = .returned (.tuple #[.int .i64 tv, .int .i64 cd]) ∧ Grow w w') [{ target := .fn (.func 58) #[.pointer (some ⟨W1, 0, none⟩)], args := #[] }] (.panicking (refusal c)) V := by
    intro W V W1 c T hgW hW1 hW10 hWf1 hg hce hc0 h4 h5
    have hc1 := hg.keeps hW10
    have hf1 : ∀ o, V.frozen? ⟨W1, o, none⟩ = false := fun o => (hg.marks _ _ (lt_of_cell hW10)).trans (hWf1 o)
    have ht : tv = 0 := by rw [← Htv.out]; unfold ordersV; rw [if_neg (by rw [hce]; exact hc0)]
    have hcc : cd = c := by rw [← Hcd.out]; exact hce
    subst ht hcc
    unfold refusal
    refine leaves_cons (f := 58) (args := #[.pointer (some ⟨W1, 0, none⟩)]) (by simp) (by simp [go_sem]) ?_
    refine (pdefOrders_panic W1 cd [] V hc1 hf1).mono ?_
    rintro e u' w'' ⟨rfl, rfl, q1, q2⟩
    have hG : Grow w w'' := Below.trans (hgW.trans hg) (grownBy_below q2 (by intro k hk; injection hk with hk; omega) (hgW.trans hg).size)
    simp [Leaves, settle, results, Try.results24, go_sem, h4, h5, q1]
    exact hG
  go_enter_defers Try.func24, Try.ntmps24
  go_wp2_with fail
  obtain ⟨W, hW⟩ : ∃ W, W = ((w.alloc (.cells #[.int .i64 E, .int .i64 F, .slice a ss.length cap] 32)).alloc (.cells #[.int .i64 0] 27)) := ⟨_, rfl⟩
  have hgW : Grow w W := by rw [hW]; exact (((Grow.refl w).alloc _).alloc _)
  have hW00 : W.cell? ⟨w.heap.size, 0, none⟩ = some (.int .i64 E) := by rw [hW]; exact Grow.keepA (cell_new (by simp) rfl) _
  have hW01 : W.cell? ⟨w.heap.size, 1, none⟩ = some (.int .i64 F) := by rw [hW]; exact Grow.keepA (cell_new (by simp) rfl) _
  have hW02 : W.cell? ⟨w.heap.size, 2, none⟩ = some (.slice a ss.length cap) := by rw [hW]; exact Grow.keepA (cell_new (by simp) rfl) _
  have hWf0 : ∀ o, W.frozen? ⟨w.heap.size, o, none⟩ = false := by intro o; rw [hW]; exact (((Grow.refl _).alloc _).marks _ _ (by simp <;> omega)).trans (hot_new (by simp))
  have hWl0 : w.heap.size < W.heap.size := by rw [hW]; simp; try omega
  have hW10 : W.cell? ⟨w.heap.size + 1, 0, none⟩ = some (.int .i64 0) := by rw [hW]; exact cell_new (by simp) rfl
  have hWf1 : ∀ o, W.frozen? ⟨w.heap.size + 1, o, none⟩ = false := by intro o; rw [hW]; exact hot_new (by simp)
  have hWl1 : w.heap.size + 1 < W.heap.size := by rw [hW]; simp; try omega
  rw [← hW]
  clear hW
  have hWd : ∀ n, (W.drewN n).heap.size = W.heap.size := fun _ => rfl
  have hWq : ∀ n o b j, b < W.heap.size → ((W.drewN n).alloc o).cell? ⟨b, j, none⟩ = W.cell? ⟨b, j, none⟩ := cell_drewN_alloc W
  have hWr : ∀ n o b j, b < W.heap.size → ((W.drewN n).alloc o).frozen? ⟨b, j, none⟩ = W.frozen? ⟨b, j, none⟩ := hot_drewN_alloc W
  have hWb0 : w.heap.size ≤ w.heap.size := by omega
  have hWb1 : w.heap.size ≤ w.heap.size + 1 := by omega
  have hWn01 : w.heap.size ≠ w.heap.size + 1 := by omega
  have hWn10 : w.heap.size + 1 ≠ w.heap.size := by omega
  obtain ⟨W1, hWe1⟩ : ∃ g, w.heap.size + 1 = g := ⟨_, rfl⟩
  rw [hWe1] at hW10 hWf1 hWl1 hWb1 hWn10 hWn01
  (try rw [hWe1])
  have hWk1 := Lib.hid hWe1
  clear hWe1
  obtain ⟨W0, hWe0⟩ : ∃ g, w.heap.size = g := ⟨_, rfl⟩
  have hWb0 : w.heap.size ≤ W0 := by omega
  rw [hWe0] at hW00 hW01 hW02 hWf0 hWl0 hWn01 hWn10
  (try rw [hWe0])
  have hWk0 := Lib.hid hWe0
  clear hWe0
  refine (popen E F _ ss true _ (Hv.out.grow hgW)).mono ?_
  rintro e w2 ⟨hg2, hbad, hok⟩
  rcases Decidable.em (codeO E F ss true = 0) with hc | hc
  · obtain ⟨c, rfl, hch, hcw, hcn⟩ := hok hc
    have Hc := Lib.hid hc
    have Hch := Lib.hid hch
    have hlen6 : (clocksOf E ss).length ≤ 6 := by rw [clocks_len]; exact valid_len hc
    clear hc hch hok hbad
    cases hfe : feasB (clocksOf E ss)
    · have Hfe := Lib.hid hfe
      clear hfe
      go_wp2_with (go_at_call 40; refine (ptold_no c F _ _ Hch.out Hfe.out (by omega)).mono ?_; rintro e w3 ⟨rfl, hg3⟩)
      show Leaves _ _ _ _ _ _ _
      exact dead W w3 W1 10 _ hgW hWb1 hW10 hWf1 (hg2.trans hg3) (errOf_clash Hc.out Hfe.out) (by decide) rfl rfl
    · have Hfe := Lib.hid hfe
      clear hfe
      obtain ⟨nn, hnn⟩ : ∃ nn, (ordersL (clocksOf E ss)).length = nn := ⟨_, rfl⟩
      have Hnn := Lib.hid hnn
      clear hnn
      go_wp2_with first | (go_at_call 40; refine (ptold_yes c F _ _ Hch.out (feasB_iff.1 Hfe.out) (by omega)).mono ?_; rintro e w3 ⟨rfl, hg3⟩) | (go_at_call 59; refine (pways_any c F _ _ (Hch.out.grow hg3) hlen6 (clocks_bounds (codeO_parts Hc.out).1)).mono ?_; rintro e w4 ⟨rfl, hg4⟩; rw [Hnn.out]; have hG4 : Grow W w4 := (hg2.trans hg3).trans hg4; have y4 := hG4.keeps hW10; have y5 : ∀ o, w4.frozen? ⟨W1, o, none⟩ = false := (fun o => (hG4.marks _ _ hWl1).trans (hWf1 o)); have hl2 := lt_of_cell y4)
      have he : cd = 0 := by rw [← Hcd.out]; exact errOf_zero Hc.out Hfe.out
      have ht : tv = (nn : Int) := by
        rw [← Htv.out]
        unfold ordersV
        rw [if_pos (errOf_zero Hc.out Hfe.out), Hnn.out]
      subst he ht
      have z5 : (w4.setCell ⟨W1, 0, none⟩ (.int .i64 0)).cell? ⟨W1, 0, none⟩ = some (.int .i64 0) := World.cell?_setCell_same' _ _ _ (by rw [y4]; rfl)
      have hG : Grow w (w4.setCell ⟨W1, 0, none⟩ (.int .i64 0)) := Below.setCell (p := ⟨W1, 0, none⟩) (hgW.trans hG4) (by omega) _
      show Leaves _ _ _ _ _ _ _
      refine leaves_cons (f := 58) (args := #[.pointer (some ⟨W1, 0, none⟩)]) (by simp) (by simp [go_sem]) ?_
      refine (pdefOrders_idle W1 _).mono ?_
      rintro e u' w'' ⟨rfl, rfl, rfl⟩
      simp [Leaves, settle, results, Try.results24, go_sem, z5]
      exact hG
  · have hbad := hbad hc
    subst hbad
    go_wp2
    show Leaves _ _ _ _ _ _ _
    exact dead W w2 W1 _ _ hgW hWb1 hW10 hWf1 hg2 (errOf_code hc) hc rfl rfl
end Go.Proofs.Ytbeglemohfbdfaa
