/- The program of layer 7: whether a pair comes into the final, by places; settled. Conditions: sizes. -/
import Derived.Test.YtbeglemohfbdfaaQpT
namespace Go.Proofs.Ytbeglemohfbdfaa
open Go.RowKit Go.Instr

set_option maxRecDepth 100000 in
set_option maxHeartbeats 1000000 in
theorem pfinal_any (c k : Nat) (F : Int) (ks : List (Int × Int)) (w : World) (hch : ChaseIs w c F ks) (hk : k < ks.length) (hl : ks.length ≤ 6) :
    Calls Try.prog 71 #[.pointer (some ⟨c, 0, none⟩), .int .i64 k] w fun e w' => e = .returned (.int .i64 (finalP ks F k)) ∧ Grow w w' := by
  have Hch := Lib.hid hch
  unfold finalP
  obtain ⟨x, hx⟩ : ∃ x : Int, (placeLo ks k : Int) = x := ⟨_, rfl⟩
  obtain ⟨y, hy⟩ : ∃ y : Int, (placeHi ks k : Int) = y := ⟨_, rfl⟩
  rw [hx, hy]
  have Hx := Lib.hid hx
  have Hy := Lib.hid hy
  clear hch hx hy
  go_enter Try.func71, Try.ntmps71
  go_wp2_with (go_at_call 42; refine (pplace_any c k F ks _ Hch.out hk (by omega)).mono ?_; rintro e w1 ⟨rfl, hg1⟩; rw [Hx.out, Hy.out])
  obtain ⟨_, _, _, _, _, _, _, c1, _⟩ := Hch.out.grow hg1
  have hcl := lt_of_cell c1
  have c2 : (w1.alloc (.cells #[.int .i64 x, .int .i64 y] 23)).drew.cell? ⟨w1.heap.size, 0, none⟩ = some (.int .i64 x) ∧ (w1.alloc (.cells #[.int .i64 x, .int .i64 y] 23)).drew.cell? ⟨w1.heap.size, 1, none⟩ = some (.int .i64 y) ∧ (w1.alloc (.cells #[.int .i64 x, .int .i64 y] 23)).drew.cell? ⟨c, 1, none⟩ = some (.int .i64 F) := ⟨cell_new rfl rfl, cell_new rfl rfl, Grow.keepA c1 _⟩
  (refine wp_region_held_drew (S := fun Vx => Vx.cell? ⟨w1.heap.size, 0, none⟩ = some (.int .i64 x) ∧ Vx.cell? ⟨w1.heap.size, 1, none⟩ = some (.int .i64 y) ∧ Vx.cell? ⟨c, 1, none⟩ = some (.int .i64 F)) (by kernel_rfl) (c2) (fun hHeld => ?_); refine wpAnyH_take (i := 0) (oi := _) (v := ?_) rfl (by kernel_rfl) (by kernel_rfl) (by kernel_rfl) (fun _ _ _ h => h) (Or.inl ⟨by rfl, ?_⟩) (by assumption) ?_; rotate_left; (focus (intro w hSw; (try dsimp only at hSw); go_simp; (try with_reducible rfl))); (try simp only [Act.put, List.setIfInBounds_toArray, List.set_cons_zero, List.set_cons_succ, List.getElem_toArray, List.getElem_cons_zero]); refine wpAnyH_take (i := 1) (oi := _) (v := ?_) rfl (by kernel_rfl) (by kernel_rfl) (by kernel_rfl) (fun _ _ _ h => h) (Or.inl ⟨by rfl, ?_⟩) (by assumption) ?_; rotate_left; (focus (intro w hSw; (try dsimp only at hSw); go_simp; (try with_reducible rfl))); (try simp only [Act.put, List.setIfInBounds_toArray, List.set_cons_zero, List.set_cons_succ, List.getElem_toArray, List.getElem_cons_zero, List.getElem_cons_succ]); refine wpAnyH_take (i := 2) (oi := _) (v := ?_) rfl (by kernel_rfl) (by kernel_rfl) (by kernel_rfl) (fun _ _ _ h => h) (Or.inl ⟨by rfl, ?_⟩) (by assumption) ?_; rotate_left; (focus (intro w hSw; (try dsimp only at hSw); go_simp; (try with_reducible rfl))); (try simp only [Act.put, List.setIfInBounds_toArray, List.set_cons_zero, List.set_cons_succ, List.getElem_toArray, List.getElem_cons_zero, List.getElem_cons_succ]); refine wpAnyH_take (i := 3) (oi := _) (v := ?_) rfl (by kernel_rfl) (by kernel_rfl) (by kernel_rfl) (fun _ _ _ h => h) (Or.inl ⟨by rfl, ?_⟩) (by assumption) ?_; rotate_left; (focus (intro w hSw; (try dsimp only at hSw); go_simp; (try with_reducible rfl))); (try simp only [Act.put, List.setIfInBounds_toArray, List.set_cons_zero, List.set_cons_succ, List.getElem_toArray, List.getElem_cons_zero, List.getElem_cons_succ]); refine wpAnyH_take (i := 4) (oi := _) (v := ?_) rfl (by kernel_rfl) (by kernel_rfl) (by kernel_rfl) (fun _ _ _ h => h) (Or.inl ⟨by rfl, ?_⟩) (by assumption) ?_; rotate_left; (focus (intro w hSw; (try dsimp only at hSw); go_simp; (try with_reducible rfl))); (try simp only [Act.put, List.setIfInBounds_toArray, List.set_cons_zero, List.set_cons_succ, List.getElem_toArray, List.getElem_cons_zero, List.getElem_cons_succ]); refine wpAnyH_take (i := 5) (oi := _) (v := ?_) rfl (by kernel_rfl) (by kernel_rfl) (by kernel_rfl) (fun _ _ _ h => h) (Or.inl ⟨by rfl, ?_⟩) (by assumption) ?_; rotate_left; (focus (intro w hSw; (try dsimp only at hSw); go_simp; (try with_reducible rfl))); (try simp only [Act.put, List.setIfInBounds_toArray, List.set_cons_zero, List.set_cons_succ, List.getElem_toArray, List.getElem_cons_zero, List.getElem_cons_succ]); refine wpAnyH_take (i := 6) (oi := _) (v := ?_) rfl (by kernel_rfl) (by kernel_rfl) (by kernel_rfl) (fun _ _ _ h => h) (Or.inl ⟨by rfl, ?_⟩) (by assumption) ?_; rotate_left; (focus (intro w hSw; (try dsimp only at hSw); go_simp; (try with_reducible rfl))); (try simp only [Act.put, List.setIfInBounds_toArray, List.set_cons_zero, List.set_cons_succ, List.getElem_toArray, List.getElem_cons_zero, List.getElem_cons_succ]); refine wpAnyH_take (i := 7) (oi := _) (v := ?_) rfl (by kernel_rfl) (by kernel_rfl) (by kernel_rfl) (fun _ _ _ h => h) (Or.inl ⟨by rfl, ?_⟩) (by assumption) ?_; rotate_left; (focus (intro w hSw; (try dsimp only at hSw); go_simp; (try with_reducible rfl))); (try simp only [Act.put, List.setIfInBounds_toArray, List.set_cons_zero, List.set_cons_succ, List.getElem_toArray, List.getElem_cons_zero, List.getElem_cons_succ]); refine wpAnyH_take (i := 8) (oi := _) (v := ?_) rfl (by kernel_rfl) (by kernel_rfl) (by kernel_rfl) (fun _ _ _ h => h) (Or.inl ⟨by rfl, ?_⟩) (by assumption) ?_; rotate_left; (focus (intro w hSw; (try dsimp only at hSw); go_simp; (try with_reducible rfl))); (try simp only [Act.put, List.setIfInBounds_toArray, List.set_cons_zero, List.set_cons_succ, List.getElem_toArray, List.getElem_cons_zero, List.getElem_cons_succ]); refine wpAnyH_take (i := 9) (oi := _) (v := ?_) rfl (by kernel_rfl) (by kernel_rfl) (by kernel_rfl) (fun _ _ _ h => h) (Or.inl ⟨by rfl, ?_⟩) (by assumption) ?_; rotate_left; (focus (intro w hSw; (try dsimp only at hSw); go_simp; (try with_reducible rfl))); (try simp only [Act.put, List.setIfInBounds_toArray, List.set_cons_zero, List.set_cons_succ, List.getElem_toArray, List.getElem_cons_zero, List.getElem_cons_succ]); refine wpAnyH_take (i := 10) (oi := _) (v := ?_) rfl (by kernel_rfl) (by kernel_rfl) (by kernel_rfl) (fun _ _ _ h => h) (Or.inl ⟨by rfl, ?_⟩) (by assumption) ?_; rotate_left; (focus (intro w hSw; (try dsimp only at hSw); go_simp; (try with_reducible rfl))); (try simp only [Act.put, List.setIfInBounds_toArray, List.set_cons_zero, List.set_cons_succ, List.getElem_toArray, List.getElem_cons_zero, List.getElem_cons_succ]); refine wpAnyH_take (i := 11) (oi := _) (v := ?_) rfl (by kernel_rfl) (by kernel_rfl) (by kernel_rfl) (fun _ _ _ h => h) (Or.inl ⟨by rfl, ?_⟩) (by assumption) ?_; rotate_left; (focus (intro w hSw; (try dsimp only at hSw); go_simp; (try with_reducible rfl))); (try simp only [Act.put, List.setIfInBounds_toArray, List.set_cons_zero, List.set_cons_succ, List.getElem_toArray, List.getElem_cons_zero, List.getElem_cons_succ]); refine wpAnyH_take (i := 12) (oi := _) (v := ?_) rfl (by kernel_rfl) (by kernel_rfl) (by kernel_rfl) (fun _ _ _ h => h) (Or.inl ⟨by rfl, ?_⟩) (by assumption) ?_; rotate_left; (focus (intro w hSw; (try dsimp only at hSw); go_simp; (try with_reducible rfl))); (try simp only [Act.put, List.setIfInBounds_toArray, List.set_cons_zero, List.set_cons_succ, List.getElem_toArray, List.getElem_cons_zero, List.getElem_cons_succ]); refine wpAnyH_take (i := 13) (oi := _) (v := ?_) rfl (by kernel_rfl) (by kernel_rfl) (by kernel_rfl) (fun _ _ _ h => h) (Or.inl ⟨by rfl, ?_⟩) (by assumption) ?_; rotate_left; (focus (intro w hSw; (try dsimp only at hSw); go_simp; (try with_reducible rfl))); (try simp only [Act.put, List.setIfInBounds_toArray, List.set_cons_zero, List.set_cons_succ, List.getElem_toArray, List.getElem_cons_zero, List.getElem_cons_succ]); refine wpAnyH_take (i := 14) (oi := _) (v := ?_) rfl (by kernel_rfl) (by kernel_rfl) (by kernel_rfl) (fun _ _ _ h => h) (Or.inl ⟨by rfl, ?_⟩) (by assumption) ?_; rotate_left; (focus (intro w hSw; (try dsimp only at hSw); go_simp; (try with_reducible rfl))); (try simp only [Act.put, List.setIfInBounds_toArray, List.set_cons_zero, List.set_cons_succ, List.getElem_toArray, List.getElem_cons_zero, List.getElem_cons_succ]); refine wpAnyH_take (i := 15) (oi := _) (v := ?_) rfl (by kernel_rfl) (by kernel_rfl) (by kernel_rfl) (fun _ _ _ h => h) (Or.inl ⟨by rfl, ?_⟩) (by assumption) ?_; rotate_left; (focus (intro w hSw; (try dsimp only at hSw); go_simp; (try with_reducible rfl))); (try simp only [Act.put, List.setIfInBounds_toArray, List.set_cons_zero, List.set_cons_succ, List.getElem_toArray, List.getElem_cons_zero, List.getElem_cons_succ]); refine wpAnyH_ready (rs := [16]) (by kernel_rfl) (by simp) ?_; refine AllReadyH.cons (o := _) rfl (fun K hK => ?_) AllReadyH.nil; (try simp only [List.getElem_toArray, List.getElem_cons_zero, List.getElem_cons_succ]); (try go_simp); (try (go_wp2_with fail)); refine hK.out _ _ ?_ (fun hHeld => ?_); (focus (first | assumption | exact ⟨Grow.keepA c2.1 _, Grow.keepA c2.2.1 _, Grow.keepA c2.2.2 _⟩)); clear hK K; (try simp only [Act.put, List.setIfInBounds_toArray, List.set_cons_zero, List.set_cons_succ, List.getElem_toArray, List.getElem_cons_zero, List.getElem_cons_succ]); refine wpAnyH_ready (rs := [17]) (by kernel_rfl) (by simp) ?_; refine AllReadyH.cons (o := _) rfl (fun K hK => ?_) AllReadyH.nil; (try simp only [List.getElem_toArray, List.getElem_cons_zero, List.getElem_cons_succ]); (try go_simp); ((go_at_call 67; refine (pso_any _ [decide (x < F), decide (y < F)] _ ⟨_, _, rfl, by simp, (by intro i z hz; cases i with | zero => (simp at hz; subst hz; exact ⟨_, _, rfl, cell_new (by simp) rfl⟩) | succ i => cases i with | zero => (simp at hz; subst hz; exact ⟨_, _, rfl, cell_new (by simp) rfl⟩) | succ i => simp at hz)⟩).mono ?_; rintro e w2 ⟨rfl, hw2⟩; subst hw2)); (try (go_wp2_with fail)); refine hK.out _ _ ?_ (fun hHeld => ?_); (focus (first | assumption | exact ⟨Grow.keepA c2.1 _, Grow.keepA c2.2.1 _, Grow.keepA c2.2.2 _⟩)); clear hK K; (try simp only [Act.put, List.setIfInBounds_toArray, List.set_cons_zero, List.set_cons_succ, List.getElem_toArray, List.getElem_cons_zero, List.getElem_cons_succ]); refine wpAnyH_take (i := 18) (oi := _) (v := ?_) rfl (by kernel_rfl) (by kernel_rfl) (by kernel_rfl) (fun _ _ _ h => h) (Or.inl ⟨by rfl, ?_⟩) (by assumption) ?_; rotate_left; (focus (intro w hSw; (try dsimp only at hSw); go_simp; (try with_reducible rfl))); (try simp only [Act.put, List.setIfInBounds_toArray, List.set_cons_zero, List.set_cons_succ, List.getElem_toArray, List.getElem_cons_zero, List.getElem_cons_succ]); refine wpAnyH_done (by kernel_rfl) ?_ _)
  go_wp2
  go_ret
  exact ⟨rfl, ((hg1.alloc _).alloc _).drew⟩
/-- The closure: is a pair's place in the final not known? -/
theorem psettled1_any (c C k : Nat) (F x y : Int) (ks : List (Int × Int)) (w : World) (hC : w.cell? ⟨C, 0, none⟩ = some (.pointer (some ⟨c, 0, none⟩))) (hch : ChaseIs w c F ks) (hk : k < ks.length) (hl : ks.length ≤ 6) :
    Calls Try.prog 70 #[.agg #[.int .i64 x, .int .i64 y, .int .i64 k], .pointer (some ⟨C, 0, none⟩)] w fun e w' => e = .returned (.bool (decide (finalP ks F k = 1))) ∧ Grow w w' := by
  have Hch := Lib.hid hch
  have hCl := lt_of_cell hC
  obtain ⟨z, hz⟩ : ∃ z, finalP ks F k = z := ⟨_, rfl⟩
  rw [hz]
  have Hz := Lib.hid hz
  clear hch hz
  go_enter Try.func70, Try.ntmps70
  go_wp2_with (go_at_call 71; refine (pfinal_any c k F ks _ (Hch.out.grow ((Grow.refl w).alloc _)) hk hl).mono ?_; rintro e w1 ⟨rfl, hg1⟩; rw [Hz.out])
  go_ret
  refine ⟨?_, ((Grow.refl w).alloc _).trans hg1⟩
  show Ending.returned (.bool (z == 1)) = _
  exact ret_bool (Bool.eq_iff_iff.2 (by simp))
/-- Is the final settled? -/
def settledB (ks : List (Int × Int)) (F : Int) : Bool := (List.range ks.length).all fun p => decide (finalP ks F p ≠ 1)
set_option maxRecDepth 100000 in
set_option maxHeartbeats 1000000 in
theorem pindexF_any (c C : Nat) (a : Option Addr) (cap : Nat) (F : Int) (ks : List (Int × Int)) (w : World) (hC : w.cell? ⟨C, 0, none⟩ = some (.pointer (some ⟨c, 0, none⟩))) (hch : ChaseIs w c F ks) (hks : CksAt w a ks) (hl : ks.length ≤ 6) :
    Calls Try.prog 84 #[.slice a ks.length cap, .func (.func 70) #[] #[.pointer (some ⟨C, 0, none⟩)]] w fun e w' => ∃ i : Int, e = .returned (.int .i64 i) ∧ decide (0 ≤ i) = !settledB ks F ∧ -1 ≤ i ∧ Grow w w' := by
  have Hch := Lib.hid hch
  have Hks := Lib.hid hks
  clear hch hks
  go_enter Try.func84, Try.ntmps84
  go_wp2_with fail
  go_loopw [8] (fun i wr => ∃ k : Nat, k ≤ ks.length ∧ i = .int .i64 k ∧ (∀ j, j < k → finalP ks F j ≠ 1) ∧ Grow w wr) (fun i _ => ks.length - (intOf i).toNat)
  case atStart => exact ⟨0, Nat.zero_le _, rfl, fun j h => absurd h (Nat.not_lt_zero _), Grow.refl _⟩
  case round =>
    obtain ⟨k, hk, rfl, hno, hg⟩ := hrel
    have Hno := Lib.hid hno
    clear hno
    by_cases hlt : k < ks.length
    · obtain ⟨b, o, rfl, m1, m2, m3⟩ := Hks.out k ks[k] (by simp [hlt])
      replace m1 := hg.keeps m1
      replace m2 := hg.keeps m2
      replace m3 := hg.keeps m3
      obtain ⟨x, hx⟩ : ∃ x, x = ks[k].1 := ⟨_, rfl⟩
      obtain ⟨y, hy⟩ : ∃ y, y = ks[k].2 := ⟨_, rfl⟩
      rw [← hx] at m1
      rw [← hy] at m2
      have hbl := lt_of_cell m1
      clear hx hy
      by_cases hf : finalP ks F k = 1
      · have hd : decide (finalP ks F k = 1) = true := by simpa using hf
        have Hd := Lib.hid hd
        have Hf := Lib.hid hf
        clear hd hf
        go_wp2_with (refine (psettled1_any c C k F x y ks _ (hg.keeps hC) (Hch.out.grow hg) hlt hl).mono ?_; rintro e w1 ⟨rfl, hg1⟩; rw [Hd.out])
        go_ret
        refine ⟨_, rfl, ?_, by omega, hg.trans hg1⟩
        have : settledB ks F = false := by
          rw [Bool.eq_false_iff, ne_eq, settledB, List.all_eq_true]
          intro h
          have := h k (List.mem_range.2 hlt)
          simp [Hf.out] at this
        rw [this]
        simp
      · have hd : decide (finalP ks F k = 1) = false := by simpa using hf
        have Hd := Lib.hid hd
        have Hf := Lib.hid hf
        clear hd hf
        go_wp2_with (refine (psettled1_any c C k F x y ks _ (hg.keeps hC) (Hch.out.grow hg) hlt hl).mono ?_; rintro e w1 ⟨rfl, hg1⟩; rw [Hd.out])
        refine ⟨⟨k + 1, by omega, by go_num, fun j hj => ?_, hg.trans hg1⟩, by simp [intOf]; omega⟩
        by_cases e : j = k
        · subst e; exact Hf.out
        · exact Hno.out j (by omega)
    · obtain rfl : k = ks.length := by omega
      go_wp2_with fail
      go_ret
      refine ⟨_, rfl, ?_, by omega, hg⟩
      have : settledB ks F = true := List.all_eq_true.2 fun j hj => by simpa using Hno.out j (List.mem_range.1 hj)
      rw [this]
      rfl
theorem psettled_any (c : Nat) (F : Int) (ks : List (Int × Int)) (w : World) (hch : ChaseIs w c F ks) (hl : ks.length ≤ 6) :
    Calls Try.prog 52 #[.pointer (some ⟨c, 0, none⟩)] w fun e w' => e = .returned (.bool (settledB ks F)) ∧ Grow w w' := by
  have hmf : ∀ (fn : Fn) (first cap : Array Value) (w : World), (Instr.makeFunc fn first cap).run Try.prog w = .ok (.func fn first cap) w := fun _ _ _ _ => rfl
  have Hch := Lib.hid hch
  obtain ⟨_, _, _, _, a, cap, _, _, _, h3, _, h5⟩ := hch
  have H5 := Lib.hid h5
  have hcl := lt_of_cell h3
  obtain ⟨z, hz⟩ : ∃ z, settledB ks F = z := ⟨_, rfl⟩
  rw [hz]
  have Hz := Lib.hid hz
  clear hz h5
  have hcont : ∀ C w1, w1.cell? ⟨C, 0, none⟩ = some (.pointer (some ⟨c, 0, none⟩)) → Grow w w1 → Calls Try.prog 69 #[.slice a ks.length cap, .func (.func 70) #[] #[.pointer (some ⟨C, 0, none⟩)]] w1 fun e w' => e = .returned (.bool (!z)) ∧ Grow w1 w' := by
    intro C w1 hC hg
    go_enter Try.func69, Try.ntmps69
    go_wp2_with (go_at_call 84; refine (pindexF_any c C a cap F ks _ hC (Hch.out.grow hg) (H5.out.grow hg) hl).mono ?_; rintro e w2 ⟨i, rfl, hi, hi0, hg2⟩; rw [Hz.out] at hi)
    go_ret
    exact ⟨by rw [← hi]; rfl, hg2⟩
  go_enter Try.func52, Try.ntmps52
  go_wp2_with (go_at_call 69; refine (hcont _ _ (cell_new rfl rfl) ((Grow.refl w).alloc _)).mono ?_; rintro e w2 ⟨rfl, hg2⟩)
  go_ret
  exact ⟨rfl, ((Grow.refl w).alloc _).trans hg2⟩
end Go.Proofs.Ytbeglemohfbdfaa
