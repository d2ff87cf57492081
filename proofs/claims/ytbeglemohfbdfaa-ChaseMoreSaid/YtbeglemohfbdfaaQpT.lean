/- The program of layer 7: Wrong. Conditions: sizes. -/
import Derived.Test.YtbeglemohfbdfaaQpS
namespace Go.Proofs.Ytbeglemohfbdfaa
open Go.RowKit Go.Instr

/-- What Wrong comes to. -/
def wrongE (E F : Int) (ss : List (List Int)) (p : Int) : Int := if codeO E F ss (inB p 0 (ss.length - 1)) = 0 then ((wrongV E (ss[p.toNat]?.getD []) : Nat) : Int) else 0
set_option maxRecDepth 100000 in
set_option maxHeartbeats 2000000 in
theorem pWrong_any (E F p : Int) (v : Value) (ss : List (List Int)) (w : World) (hv : IsSheets w v ss) :
    Calls Try.prog 16 #[.agg #[.int .i64 E, .int .i64 F, v], .int .i64 p] w fun e w' => e = .returned (.tuple #[.int .i64 (wrongE E F ss p), .int .i64 (codeO E F ss (inB p 0 (ss.length - 1)))]) ∧ Grow w w' := by
  have hmf : ∀ (fn : Fn) (first cap : Array Value) (w : World), (Instr.makeFunc fn first cap).run Try.prog w = .ok (.func fn first cap) w := fun _ _ _ _ => rfl
  obtain ⟨a, cap, rfl, hcap, hlen, hrow⟩ := id hv
  have Hv := Lib.hid hv
  have Hrow := Lib.hid hrow
  obtain ⟨cd, hcd⟩ : ∃ cd, codeO E F ss (inB p 0 (ss.length - 1)) = cd := ⟨_, rfl⟩
  obtain ⟨tv, htv⟩ : ∃ tv, wrongE E F ss p = tv := ⟨_, rfl⟩
  rw [hcd, htv]
  have Hcd := Lib.hid hcd
  have Htv := Lib.hid htv
  clear hcd htv hv hrow
  go_enter_defers Try.func16, Try.ntmps16
  go_wp2_with fail
  obtain ⟨W, hW⟩ : ∃ W, W = ((w.alloc (.cells #[.int .i64 E, .int .i64 F, .slice a ss.length cap] 32)).alloc (.cells #[.int .i64 0] 27)) := ⟨_, rfl⟩
  have hgW : Grow w W := by rw [hW]; exact (((Grow.refl w).alloc _).alloc _)
  have hW00 : W.cell? ⟨w.heap.size, 0, none⟩ = some (.int .i64 E) := by rw [hW]; exact Grow.keepA (cell_new (by simp) rfl) _
  have hW01 : W.cell? ⟨w.heap.size, 1, none⟩ = some (.int .i64 F) := by rw [hW]; exact Grow.keepA (cell_new (by simp) rfl) _
  have hW02 : W.cell? ⟨w.heap.size, 2, none⟩ = some (.slice a ss.length cap) := by rw [hW]; exact Grow.keepA (cell_new (by simp) rfl) _
  have hWf0 : ∀ o, W.frozen? ⟨w.heap.size, o, none⟩ = false := by intro o; rw [hW]; exact (((Grow.refl _).alloc _).marks _ _ (by simp <;> omega)).trans (hot_new (by simp))
  have hWl0 : w.heap.size < W.heap.size := by rw [hW]; simp; try omega
  have hW10 : W.cell? ⟨w.heap.size + 1, 0, none⟩ = some (.int .i64 0) := by rw [hW]; exact cell_new (by simp) rfl
  have hWf1 : ∀ o, W.frozen? ⟨w.heap.size + 1, o, none⟩ = false := by intro o; rw [hW]; exact hot_new (by simp)
  have hWl1 : w.heap.size + 1 < W.heap.size := by rw [hW]; simp; try omega
  rw [← hW]
  clear hW
  have hWd : ∀ n, (W.drewN n).heap.size = W.heap.size := fun _ => rfl
  have hWq : ∀ n o b j, b < W.heap.size → ((W.drewN n).alloc o).cell? ⟨b, j, none⟩ = W.cell? ⟨b, j, none⟩ := cell_drewN_alloc W
  have hWr : ∀ n o b j, b < W.heap.size → ((W.drewN n).alloc o).frozen? ⟨b, j, none⟩ = W.frozen? ⟨b, j, none⟩ := hot_drewN_alloc W
  have hWb0 : w.heap.size ≤ w.heap.size := by omega
  have hWb1 : w.heap.size ≤ w.heap.size + 1 := by omega
  have hWn01 : w.heap.size ≠ w.heap.size + 1 := by omega
  have hWn10 : w.heap.size + 1 ≠ w.heap.size := by omega
  obtain ⟨W1, hWe1⟩ : ∃ g, w.heap.size + 1 = g := ⟨_, rfl⟩
  rw [hWe1] at hW10 hWf1 hWl1 hWb1 hWn10 hWn01
  (try rw [hWe1])
  have hWk1 := Lib.hid hWe1
  clear hWe1
  obtain ⟨W0, hWe0⟩ : ∃ g, w.heap.size = g := ⟨_, rfl⟩
  have hWb0 : w.heap.size ≤ W0 := by omega
  rw [hWe0] at hW00 hW01 hW02 hWf0 hWl0 hWn01 hWn10
  (try rw [hWe0])
  have hWk0 := Lib.hid hWe0
  clear hWe0
  refine wp_panicAt 4 5 (.int .i64 0) (.pointer (some ⟨W1, 0, none⟩)) [{ target := .fn (.func 45) #[.pointer (some ⟨W1, 0, none⟩)], args := #[] }] ?_
  have hSX : SX w W0 E F (.slice a ss.length cap) W.drew := ⟨hgW.drew, (Grow.refl W).drew.keeps hW00, (Grow.refl W).drew.keeps hW01, (Grow.refl W).drew.keeps hW02⟩
  have hD : Grow W W.drew := (Grow.refl W).drew
  have dead : ∀ (V : World) (c : Int), Grow W V → codeO E F ss (inB p 0 (ss.length - 1)) = c → c ≠ 0 → ∀ T : Array Value, T[4]?.getD undef = .int .i64 0 → T[5]?.getD undef = .pointer (some ⟨W1, 0, none⟩) →
      Leaves Try.prog Try.f16 T (fun e w' => e = .returned (.tuple #[.int .i64 tv, .int .i64 cd]) ∧ Grow w w') [{ target := .fn (.func 45) #[.pointer (some ⟨W1, 0, none⟩)], args := #[] }] (.panicking (refusal c)) V := by
    intro V c hg hce hc0 T h4 h5
    have hc1 := hg.keeps hW10
    have hf1 : ∀ o, V.frozen? ⟨W1, o, none⟩ = false := fun o => (hg.marks _ _ hWl1).trans (hWf1 o)
    have ht : tv = 0 := by rw [← Htv.out]; unfold wrongE; rw [if_neg (by rw [hce]; exact hc0)]
    have hcc : cd = c := by rw [← Hcd.out]; exact hce
    subst ht hcc
    unfold refusal
    refine leaves_cons (f := 45) (args := #[.pointer (some ⟨W1, 0, none⟩)]) (by simp) (by simp [go_sem]) ?_
    refine (pdefWrong_panic W1 cd [] V hc1 hf1).mono ?_
    rintro e u' w'' ⟨rfl, rfl, q1, q2⟩
    have hG : Grow w w'' := Below.trans (hgW.trans hg) (grownBy_below q2 (by intro k hk; injection hk with hk; omega) (hgW.trans hg).size)
    simp [Leaves, settle, results, Try.results16, go_sem, h4, h5, q1]
    exact hG
  (refine wp_region_held_drew (S := fun Vx => Grow w Vx ∧ Vx.cell? ⟨W0, 0, none⟩ = some (.int .i64 E) ∧ Vx.cell? ⟨W0, 1, none⟩ = some (.int .i64 F) ∧ Vx.cell? ⟨W0, 2, none⟩ = some (.slice a ss.length cap)) (by kernel_rfl) (hSX) (fun hHeld => ?_); refine wpAnyH_take (i := 0) (oi := _) (v := ?_) rfl (by kernel_rfl) (by kernel_rfl) (by kernel_rfl) (by intro _ _ _ h; exact PanicAt.put (by decide) (by decide) h) (Or.inl ⟨by rfl, ?_⟩) (by assumption) ?_; rotate_left; (focus (intro w hSw; (try dsimp only at hSw); go_simp; (try with_reducible rfl))); (try simp only [Act.put, List.setIfInBounds_toArray, List.set_cons_zero, List.set_cons_succ, List.getElem_toArray, List.getElem_cons_zero]); refine wpAnyH_take (i := 1) (oi := _) (v := ?_) rfl (by kernel_rfl) (by kernel_rfl) (by kernel_rfl) (by intro _ _ _ h; exact PanicAt.put (by decide) (by decide) h) (Or.inl ⟨by rfl, ?_⟩) (by assumption) ?_; rotate_left; (focus (intro w hSw; (try dsimp only at hSw); go_simp; (try with_reducible rfl))); (try simp only [Act.put, List.setIfInBounds_toArray, List.set_cons_zero, List.set_cons_succ, List.getElem_toArray, List.getElem_cons_zero, List.getElem_cons_succ]); refine wpAnyH_take (i := 2) (oi := _) (v := ?_) rfl (by kernel_rfl) (by kernel_rfl) (by kernel_rfl) (by intro _ _ _ h; exact PanicAt.put (by decide) (by decide) h) (Or.inl ⟨by rfl, ?_⟩) (by assumption) ?_; rotate_left; (focus (intro w hSw; (try dsimp only at hSw); go_simp; (try with_reducible rfl))); (try simp only [Act.put, List.setIfInBounds_toArray, List.set_cons_zero, List.set_cons_succ, List.getElem_toArray, List.getElem_cons_zero, List.getElem_cons_succ]); refine wpAnyH_ready (rs := [3]) (by kernel_rfl) (by simp) ?_; refine AllReadyH.cons (o := _) rfl (fun K hK => ?_) AllReadyH.nil; (try simp only [List.getElem_toArray, List.getElem_cons_zero, List.getElem_cons_succ]); (try go_simp); (first | (go_at_call 39; refine (pisPair_any E F a _ cap p _ (by omega)).mono ?_; rintro e w1 ⟨rfl, hg1⟩) | (go_at_call 38; refine (popen E F _ ss (inB p 0 (ss.length - 1)) _ (Hv.out.grow hHeld.1)).mono ?_; rintro e w2 ⟨hg2, hbad, hok⟩; rcases Decidable.em (codeO E F ss (inB p 0 (ss.length - 1)) = 0) with hc | hc; (case inr => (have hbad := hbad hc; subst hbad; go_simp; exact ⟨rfl, rfl, rfl, fun T h4 h5 => dead w2 _ ((hD.trans hg1).trans hg2) rfl hc T h4 h5⟩)); (obtain ⟨c, rfl, hch, hcw, hcn⟩ := hok hc; have Hch := Lib.hid hch; have Hc := Lib.hid hc; clear hbad hok hch hc))); (try (go_wp2_with fail)); refine hK.out _ _ ?_ (fun hHeld => ?_); (focus (first | assumption | exact SX.grow (by assumption) (by assumption) | exact SX.set (by assumption) hWb1 hWn01 _)); clear hK K; (try simp only [Act.put, List.setIfInBounds_toArray, List.set_cons_zero, List.set_cons_succ, List.getElem_toArray, List.getElem_cons_zero, List.getElem_cons_succ]); refine wpAnyH_ready (rs := [4]) (by kernel_rfl) (by simp) ?_; refine AllReadyH.cons (o := _) rfl (fun K hK => ?_) AllReadyH.nil; (try simp only [List.getElem_toArray, List.getElem_cons_zero, List.getElem_cons_succ]); (try go_simp); (first | (go_at_call 39; refine (pisPair_any E F a _ cap p _ (by omega)).mono ?_; rintro e w1 ⟨rfl, hg1⟩) | (go_at_call 38; refine (popen E F _ ss (inB p 0 (ss.length - 1)) _ (Hv.out.grow hHeld.1)).mono ?_; rintro e w2 ⟨hg2, hbad, hok⟩; rcases Decidable.em (codeO E F ss (inB p 0 (ss.length - 1)) = 0) with hc | hc; (case inr => (have hbad := hbad hc; subst hbad; go_simp; exact ⟨rfl, rfl, rfl, fun T h4 h5 => dead w2 _ ((hD.trans hg1).trans hg2) rfl hc T h4 h5⟩)); (obtain ⟨c, rfl, hch, hcw, hcn⟩ := hok hc; have Hch := Lib.hid hch; have Hc := Lib.hid hc; clear hbad hok hch hc))); (try (go_wp2_with fail)); refine hK.out _ _ ?_ (fun hHeld => ?_); (focus (first | assumption | exact SX.grow (by assumption) (by assumption) | exact SX.set (by assumption) hWb1 hWn01 _)); clear hK K; (try simp only [Act.put, List.setIfInBounds_toArray, List.set_cons_zero, List.set_cons_succ, List.getElem_toArray, List.getElem_cons_zero, List.getElem_cons_succ]); refine wpAnyH_done (by kernel_rfl) ?_ _)
  simp only [PanicAt]
  have he : cd = 0 := by rw [← Hcd.out]; exact Hc.out
  have hpp := inB_true.1 (codeO_parts Hc.out).2
  obtain ⟨k, rfl⟩ : ∃ k : Nat, p = k := ⟨p.toNat, by omega⟩
  have hk : k < ss.length := by omega
  obtain ⟨b, o, s, sa, sc, hs, rfl, hcs, hsc, hsl, hsr⟩ := Hrow.out.get hk
  obtain ⟨hE, _, _, hvl⟩ := valid_parts (codeO_parts Hc.out).1
  have hls := hvl s (List.mem_of_getElem? hs)
  have ht : tv = ((wrongV E s : Nat) : Int) := by
    rw [← Htv.out]
    unfold wrongE
    rw [if_pos Hc.out, Int.toNat_natCast, hs]
    rfl
  have hG2 : Grow W w2 := (hD.trans hg1).trans hg2
  have hGw : Grow w w2 := hgW.trans hG2
  have y0 := hG2.keeps hW00
  have y2 := hG2.keeps hW02
  have y4 := hG2.keeps hW10
  have y5 : ∀ o, w2.frozen? ⟨W1, o, none⟩ = false := fun o => (hG2.marks _ _ hWl1).trans (hWf1 o)
  have ycs := hGw.keeps hcs
  have Hsr := Lib.hid (hsr.grow hGw)
  have Hls := Lib.hid hls
  have hl0 := lt_of_cell y0
  have hl4 := lt_of_cell y4
  have hlb := lt_of_cell ycs
  subst he ht
  clear dead hs hcs hsr hls hvl hHeld
  have hl3 : s.length ≤ 3 := by have := Hls.out.1; omega
  have hwb : wrongV E s < 8 := Nat.lt_of_lt_of_le (wrong_is hl3).lt (Nat.le_trans (Nat.pow_le_pow_right (by decide) hl3) (by decide))
  have hwv : IntKind.i64.wrap ((wrongV E s : Nat) : Int) = ((wrongV E s : Nat) : Int) := IntWalk.i64_in _ (by omega)
  go_wp2_with (go_at_call 46; refine (pfewest_any w2.heap.size W0 sa sc s E _ hl3 (fun n hn => Hls.out.2 n hn) hE (cell_new rfl rfl) (Grow.keepA y0 _) (Hsr.out.grow ((Grow.refl w2).alloc _))).mono ?_; rintro e w5 ⟨rfl, hg5⟩; have hG5 : Grow W w5 := (hG2.alloc _).trans hg5; have z4 := hG5.keeps hW10; have z5 : ∀ o, w5.frozen? ⟨W1, o, none⟩ = false := (fun o => (hG5.marks _ _ hWl1).trans (hWf1 o)); have hl5 := lt_of_cell z4)
  have z6 : (w5.setCell ⟨W1, 0, none⟩ (.int .i64 0)).cell? ⟨W1, 0, none⟩ = some (.int .i64 0) := World.cell?_setCell_same' _ _ _ (by rw [z4]; rfl)
  have hG : Grow w (w5.setCell ⟨W1, 0, none⟩ (.int .i64 0)) := Below.setCell (p := ⟨W1, 0, none⟩) (hgW.trans hG5) (by omega) _
  show Leaves _ _ _ _ _ _ _
  refine leaves_cons (f := 45) (args := #[.pointer (some ⟨W1, 0, none⟩)]) (by simp) (by simp [go_sem]) ?_
  refine (pdefWrong_idle W1 _).mono ?_
  rintro e u' w'' ⟨rfl, rfl, rfl⟩
  simp [Leaves, settle, results, Try.results16, go_sem, z6]
  exact hG
end Go.Proofs.Ytbeglemohfbdfaa
