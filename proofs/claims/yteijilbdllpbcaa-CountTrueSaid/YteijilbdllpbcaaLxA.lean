/- CountTrue's own functions: draws, what it returns, and first. Conditions: sizes. -/
import Derived.Test.YteijilbdllpbcaaLwC
import Derived.Test.YteijilbdllpbcaaLwP
import Derived.Test.YteijilbdllpbcaaPlQ
namespace Go.Proofs.Yteijilbdllpbcaa
open Go.RowKit

theorem ldraws_any (a : Option Addr) (n c : Nat) (w : World) :
    Calls Try.prog 31 #[.slice a n c] w fun e w' => ∃ A Y : Nat, e = .returned (.func (.func 75) #[] #[.pointer (some ⟨A, 0, none⟩), .pointer (some ⟨Y, 0, none⟩)]) ∧ Grow w w' ∧ w.heap.size ≤ A ∧ A < w'.heap.size ∧ A ≠ Y ∧
      w'.cell? ⟨A, 0, none⟩ = some (.int .i64 0) ∧ (∀ o, w'.frozen? ⟨A, o, none⟩ = false) ∧ w'.cell? ⟨Y, 0, none⟩ = some (.slice a n c) := by
  have hmf : ∀ (fn : Fn) (first cap : Array Value) (w : World), (Instr.makeFunc fn first cap).run Try.prog w = .ok (.func fn first cap) w := fun _ _ _ _ => rfl
  go_enter Try.func31, Try.ntmps31
  go_wp2_with fail
  go_ret
  refine ⟨w.heap.size + 1, w.heap.size, rfl, ((Grow.refl w).alloc _).alloc _, by omega, by simp, by omega, cell_new (by simp) rfl, fun o => hot_new (by simp), Grow.keepA (cell_new rfl rfl) _⟩

/-- One number is drawn. -/
def DrawPost (w : World) (A : Nat) (k n : Int) (e : Ending) (w' : World) : Prop :=
  ∃ r : Int, e = .returned (.int .i64 r) ∧ 0 ≤ r ∧ r < n ∧ w.grownBy w' (some A) ∧ w'.cell? ⟨A, 0, none⟩ = some (.int .i64 (k + 1)) ∧ ∀ o, w'.frozen? ⟨A, o, none⟩ = false
set_option maxRecDepth 100000 in
set_option maxHeartbeats 1000000 in
theorem ldraw_any (A Y : Nat) (k n : Int) (u : Value) (l : List Int) (w : World) (hA : w.cell? ⟨A, 0, none⟩ = some (.int .i64 k)) (hAf : ∀ o, w.frozen? ⟨A, o, none⟩ = false) (hY : w.cell? ⟨Y, 0, none⟩ = some u) (hne : A ≠ Y) (hu : IsK .u16 w u l) (huA : l = [] ∨ ∀ b, u.ownBlock = some b → b ≠ A) (hk : 0 ≤ k ∧ k ≤ 1000) (hn : 1 ≤ n ∧ n ≤ 1000) :
    Calls Try.prog 75 #[.int .i64 n, .pointer (some ⟨A, 0, none⟩), .pointer (some ⟨Y, 0, none⟩)] w (DrawPost w A k n) := by
  obtain ⟨a, cap, rfl, hcap, hlen, hrow, hwf⟩ := id hu
  have hlen2 : l.length ≤ 9223372036854775807 := by simpa [maxLen] using hlen
  have E1 : IntKind.i64.wrap (k + 1) = k + 1 := IntWalk.i64_in _ (by omega)
  have G1 : wrap64 (k + 1) = k + 1 := IntWalk.wrap64_in _ (by omega)
  obtain ⟨j, hj⟩ : ∃ j : Nat, k + 1 = j := ⟨(k + 1).toNat, by omega⟩
  have hg := bySet w A 0 (.int .i64 (k + 1))
  have hA1 : (w.setCell ⟨A, 0, none⟩ (.int .i64 (k + 1))).cell? ⟨A, 0, none⟩ = some (.int .i64 (k + 1)) := World.cell?_setCell_same' _ _ _ (by rw [hA]; rfl)
  have hY1 : (w.setCell ⟨A, 0, none⟩ (.int .i64 (k + 1))).cell? ⟨Y, 0, none⟩ = some (.slice a l.length cap) := byCell1 hg hY (by intro e; injection e with e; exact hne e)
  have hf1 : ∀ o, (w.setCell ⟨A, 0, none⟩ (.int .i64 (k + 1))).frozen? ⟨A, o, none⟩ = false := fun o => by rw [World.frozen?_setCell]; exact hAf o
  have hn0 : ¬ n = 0 := by omega
  by_cases hl : l = []
  · subst hl
    have R1 : 0 ≤ (k + 1).tmod n := Int.tmod_nonneg _ (by omega)
    have R2 : (k + 1).tmod n < n := Int.tmod_lt_of_pos _ (by omega)
    obtain ⟨r, hr⟩ : ∃ r, (k + 1).tmod n = r := ⟨_, rfl⟩
    rw [hr] at R1 R2
    have G2 : wrap64 r = r := IntWalk.wrap64_in _ (by omega)
    clear hu hrow hwf huA hj hcap hlen hlen2
    go_enter Try.func75, Try.ntmps75
    go_wp2_with fail
    go_ret
    exact ⟨r, rfl, R1, R2, hg, hA1, hf1⟩
  · have hpos : 0 < l.length := List.length_pos_iff.2 hl
    obtain ⟨b, o, x, hx, rfl, hc⟩ := hrow.kind (i := j % l.length) (Nat.mod_lt _ hpos)
    have hxr := wf_u16 (hwf x (List.mem_of_getElem? hx))
    have hbA : b ≠ A := huA.resolve_left hl b rfl
    have hc1 : (w.setCell ⟨A, 0, none⟩ (.int .i64 (k + 1))).cell? ⟨b, o + j % l.length, none⟩ = some (.int .u16 x) := byCell1 hg hc (by intro e; injection e with e; exact hbA e.symm)
    have hidx : (k + 1).tmod (l.length : Int) = ((j % l.length : Nat) : Int) := by rw [hj, Int.tmod_eq_emod_of_nonneg (by omega), Int.natCast_emod]
    obtain ⟨i, hi⟩ : ∃ i, j % l.length = i := ⟨_, rfl⟩
    have hil : i < l.length := by rw [← hi]; exact Nat.mod_lt _ hpos
    rw [hi] at hidx hc1
    have E0 : ((l.length : Int) == 0) = false := beq_eq_false_iff_ne.2 (by omega)
    have F0 : (l.length == 0) = false := beq_eq_false_iff_ne.2 (by omega)
    have Z0 : ¬ (l.length : Int) = 0 := by omega
    have Z1 : ¬ l.length = 0 := by omega
    have E2 : IntKind.i64.wrap x = x := IntWalk.i64_in _ (by omega)
    have E3 : IntKind.i64.wrap (19 * (k + 1)) = 19 * (k + 1) := IntWalk.i64_in _ (by omega)
    have E4 : IntKind.i64.wrap (x + 19 * (k + 1)) = x + 19 * (k + 1) := IntWalk.i64_in _ (by omega)
    have R1 : 0 ≤ (x + 19 * (k + 1)).tmod n := Int.tmod_nonneg _ (by omega)
    have R2 : (x + 19 * (k + 1)).tmod n < n := Int.tmod_lt_of_pos _ (by omega)
    obtain ⟨r, hr⟩ : ∃ r, (x + 19 * (k + 1)).tmod n = r := ⟨_, rfl⟩
    rw [hr] at R1 R2
    have E5 : IntKind.i64.wrap r = r := IntWalk.i64_in _ (by omega)
    have E6 : IntKind.i64.wrap (i : Int) = i := IntWalk.i64_in _ (by omega)
    have hi1 : (i : Int) < l.length := by omega
    clear hu hrow hwf huA hj hcap hlen hx hc hi hl hbA
    obtain ⟨W, hW⟩ : ∃ W, w.setCell ⟨A, 0, none⟩ (.int .i64 (k + 1)) = W := ⟨_, rfl⟩
    have Hg := Lib.hid hg
    have Hf1 := Lib.hid hf1
    have HA1 := Lib.hid hA1
    rw [hW] at Hg Hf1 HA1 hA1 hY1 hc1
    clear hg hf1
    go_enter Try.func75, Try.ntmps75
    go_upto_region 4 with fail
    (try rw [hW])
    clear hW hA hY
    (refine wp_region_held_drew (S := fun Wx => Grow W Wx ∧ Wx.cell? ⟨Y, 0, none⟩ = some (.slice (some ⟨b, o, none⟩) l.length cap) ∧ Wx.cell? ⟨A, 0, none⟩ = some (.int .i64 (k + 1)) ∧ Wx.cell? ⟨b, o + i, none⟩ = some (.int .u16 x)) (by kernel_rfl) ⟨(Below.refl _ _).drew, Grow.keeps (Below.refl _ _).drew (by assumption), Grow.keeps (Below.refl _ _).drew (by assumption), Grow.keeps (Below.refl _ _).drew (by assumption)⟩ (fun hHeld => ?_); refine wpAnyH_take (i := 0) (oi := _) (v := ?_) rfl (by kernel_rfl) (by kernel_rfl) (by kernel_rfl) (fun _ _ _ h => h) (Or.inl ⟨by rfl, ?_⟩) (by assumption) ?_; rotate_left; (focus (intro w hSw; (try dsimp only at hSw); go_simp; (try with_reducible rfl))); (try simp only [Act.put, List.setIfInBounds_toArray, List.set_cons_zero, List.set_cons_succ, List.getElem_toArray, List.getElem_cons_zero]); refine wpAnyH_take (i := 1) (oi := _) (v := ?_) rfl (by kernel_rfl) (by kernel_rfl) (by kernel_rfl) (fun _ _ _ h => h) (Or.inl ⟨by rfl, ?_⟩) (by assumption) ?_; rotate_left; (focus (intro w hSw; (try dsimp only at hSw); go_simp; (try with_reducible rfl))); (try simp only [Act.put, List.setIfInBounds_toArray, List.set_cons_zero, List.set_cons_succ, List.getElem_toArray, List.getElem_cons_zero, List.getElem_cons_succ]); refine wpAnyH_take (i := 2) (oi := _) (v := ?_) rfl (by kernel_rfl) (by kernel_rfl) (by kernel_rfl) (fun _ _ _ h => h) (Or.inl ⟨by rfl, ?_⟩) (by assumption) ?_; rotate_left; (focus (intro w hSw; (try dsimp only at hSw); go_simp; (try with_reducible rfl))); (try simp only [Act.put, List.setIfInBounds_toArray, List.set_cons_zero, List.set_cons_succ, List.getElem_toArray, List.getElem_cons_zero, List.getElem_cons_succ]); refine wpAnyH_take (i := 3) (oi := _) (v := ?_) rfl (by kernel_rfl) (by kernel_rfl) (by kernel_rfl) (fun _ _ _ h => h) (Or.inl ⟨by rfl, ?_⟩) (by assumption) ?_; rotate_left; (focus (intro w hSw; (try dsimp only at hSw); go_simp; (try with_reducible rfl))); (try simp only [Act.put, List.setIfInBounds_toArray, List.set_cons_zero, List.set_cons_succ, List.getElem_toArray, List.getElem_cons_zero, List.getElem_cons_succ]); refine wpAnyH_take (i := 4) (oi := _) (v := ?_) rfl (by kernel_rfl) (by kernel_rfl) (by kernel_rfl) (fun _ _ _ h => h) (Or.inl ⟨by rfl, ?_⟩) (by assumption) ?_; rotate_left; (focus (intro w hSw; (try dsimp only at hSw); go_simp; (try with_reducible rfl))); (try simp only [Act.put, List.setIfInBounds_toArray, List.set_cons_zero, List.set_cons_succ, List.getElem_toArray, List.getElem_cons_zero, List.getElem_cons_succ]); refine wpAnyH_take (i := 5) (oi := _) (v := ?_) rfl (by kernel_rfl) (by kernel_rfl) (by kernel_rfl) (fun _ _ _ h => h) (Or.inl ⟨by rfl, ?_⟩) (by assumption) ?_; rotate_left; (focus (intro w hSw; (try dsimp only at hSw); go_simp; (try with_reducible rfl))); (try simp only [Act.put, List.setIfInBounds_toArray, List.set_cons_zero, List.set_cons_succ, List.getElem_toArray, List.getElem_cons_zero, List.getElem_cons_succ]); refine wpAnyH_take (i := 6) (oi := _) (v := ?_) rfl (by kernel_rfl) (by kernel_rfl) (by kernel_rfl) (fun _ _ _ h => h) (Or.inl ⟨by rfl, ?_⟩) (by assumption) ?_; rotate_left; (focus (intro w hSw; (try dsimp only at hSw); go_simp; (try with_reducible rfl))); (try simp only [Act.put, List.setIfInBounds_toArray, List.set_cons_zero, List.set_cons_succ, List.getElem_toArray, List.getElem_cons_zero, List.getElem_cons_succ]); refine wpAnyH_take (i := 7) (oi := _) (v := ?_) rfl (by kernel_rfl) (by kernel_rfl) (by kernel_rfl) (fun _ _ _ h => h) (Or.inl ⟨by rfl, ?_⟩) (by assumption) ?_; rotate_left; (focus (intro w hSw; (try dsimp only at hSw); go_simp; (try with_reducible rfl))); (try simp only [Act.put, List.setIfInBounds_toArray, List.set_cons_zero, List.set_cons_succ, List.getElem_toArray, List.getElem_cons_zero, List.getElem_cons_succ]); refine wpAnyH_take (i := 8) (oi := _) (v := ?_) rfl (by kernel_rfl) (by kernel_rfl) (by kernel_rfl) (fun _ _ _ h => h) (Or.inl ⟨by rfl, ?_⟩) (by assumption) ?_; rotate_left; (focus (intro w hSw; (try dsimp only at hSw); go_simp; (try with_reducible rfl))); (try simp only [Act.put, List.setIfInBounds_toArray, List.set_cons_zero, List.set_cons_succ, List.getElem_toArray, List.getElem_cons_zero, List.getElem_cons_succ]); refine wpAnyH_take (i := 9) (oi := _) (v := ?_) rfl (by kernel_rfl) (by kernel_rfl) (by kernel_rfl) (fun _ _ _ h => h) (Or.inl ⟨by rfl, ?_⟩) (by assumption) ?_; rotate_left; (focus (intro w hSw; (try dsimp only at hSw); go_simp; (try with_reducible rfl))); (try simp only [Act.put, List.setIfInBounds_toArray, List.set_cons_zero, List.set_cons_succ, List.getElem_toArray, List.getElem_cons_zero, List.getElem_cons_succ]); refine wpAnyH_take (i := 10) (oi := _) (v := ?_) rfl (by kernel_rfl) (by kernel_rfl) (by kernel_rfl) (fun _ _ _ h => h) (Or.inl ⟨by rfl, ?_⟩) (by assumption) ?_; rotate_left; (focus (intro w hSw; (try dsimp only at hSw); go_simp; (try with_reducible rfl))); (try simp only [Act.put, List.setIfInBounds_toArray, List.set_cons_zero, List.set_cons_succ, List.getElem_toArray, List.getElem_cons_zero, List.getElem_cons_succ]); refine wpAnyH_take (i := 11) (oi := _) (v := ?_) rfl (by kernel_rfl) (by kernel_rfl) (by kernel_rfl) (fun _ _ _ h => h) (Or.inl ⟨by rfl, ?_⟩) (by assumption) ?_; rotate_left; (focus (intro w hSw; (try dsimp only at hSw); go_simp; (try with_reducible rfl))); (try simp only [Act.put, List.setIfInBounds_toArray, List.set_cons_zero, List.set_cons_succ, List.getElem_toArray, List.getElem_cons_zero, List.getElem_cons_succ]); refine wpAnyH_take (i := 12) (oi := _) (v := ?_) rfl (by kernel_rfl) (by kernel_rfl) (by kernel_rfl) (fun _ _ _ h => h) (Or.inl ⟨by rfl, ?_⟩) (by assumption) ?_; rotate_left; (focus (intro w hSw; (try dsimp only at hSw); go_simp; (try with_reducible rfl))); (try simp only [Act.put, List.setIfInBounds_toArray, List.set_cons_zero, List.set_cons_succ, List.getElem_toArray, List.getElem_cons_zero, List.getElem_cons_succ]); refine wpAnyH_take (i := 13) (oi := _) (v := ?_) rfl (by kernel_rfl) (by kernel_rfl) (by kernel_rfl) (fun _ _ _ h => h) (Or.inl ⟨by rfl, ?_⟩) (by assumption) ?_; rotate_left; (focus (intro w hSw; (try dsimp only at hSw); go_simp; (try with_reducible rfl))); (try simp only [Act.put, List.setIfInBounds_toArray, List.set_cons_zero, List.set_cons_succ, List.getElem_toArray, List.getElem_cons_zero, List.getElem_cons_succ]); refine wpAnyH_done (by kernel_rfl) ?_ _)
    have hh := hHeld.1
    go_wp2_with fail
    go_ret
    exact ⟨_, rfl, R1, R2, byThen Hg.out hh, hh.keeps HA1.out, fun o => (hh.marks _ _ (lt_of_cell HA1.out)).trans (Hf1.out o)⟩

set_option maxRecDepth 100000 in
theorem lfirst_any (P : Int) (ss : List (List Int)) (a : Option Addr) (cap n : Nat) (w : World) (hv : IsSheets w (.slice a ss.length cap) ss) (hn : n ≤ ss.length) :
    Calls Try.prog 33 #[.agg #[.int .i64 P, .slice a ss.length cap], .int .i64 n] w fun e w' => ∃ a2 c2, e = .returned (.agg #[.int .i64 P, .slice a2 n c2]) ∧ IsSheets w' (.slice a2 n c2) (ss.take n) ∧ Grow w w' := by
  obtain ⟨a', cap', he, hcap, hlen, hrow⟩ := id hv
  cases he
  obtain ⟨a2, _, h0, h2⟩ := sub_sheets (a := a) (ss := ss) (cap := cap) (lo := 0) (hi := n) (Nat.zero_le _) hn hcap hlen
  have hsl := h0 rfl
  clear h0
  have hI := h2 w hrow
  rw [Nat.sub_zero, Nat.sub_zero, List.drop_zero] at hI
  have HI := Lib.hid hI
  clear h2 hI hv hrow
  go_enter Try.func33, Try.ntmps33
  go_wp2_with fail
  have z0 : ((w.alloc (.cells #[.int .i64 P, .slice a2 n cap] 24)).alloc (.cells #[.int .i64 P, .slice a2 n cap] 24)).cell? ⟨w.heap.size + 1, 0, none⟩ = some (.int .i64 P) := cell_new (by simp) rfl
  have z1 : ((w.alloc (.cells #[.int .i64 P, .slice a2 n cap] 24)).alloc (.cells #[.int .i64 P, .slice a2 n cap] 24)).cell? ⟨w.heap.size + 1, 1, none⟩ = some (.slice a2 n cap) := cell_new (by simp) rfl
  exact bodyPost_ret (v := .agg #[.int .i64 P, .slice a2 n cap]) (by simp [results, Try.results33, go_sem, z0, z1]) rfl ⟨_, _, rfl, HI.out.grow (((Grow.refl w).alloc _).alloc _), ((Grow.refl w).alloc _).alloc _⟩
end Go.Proofs.Yteijilbdllpbcaa
