/- ChaseTrue: reading a slice of whole numbers of any kind; the law's own functions draws and what it returns. Conditions: sizes. -/
import Derived.Test.YtbeglemohfbdfaaLwO
import Derived.Test.YtbeglemohfbdfaaRfB
namespace Go.Proofs.Ytbeglemohfbdfaa
open Go.ChangeShapes Go.WideShapes Go.ChangeAt Go.RowKit Go.Deep Go.Joins

/-- A slice of whole numbers of a kind that reads as a list. -/
def IsK (k : IntKind) (w : World) (v : Value) (l : List Int) : Prop :=
  ∃ a cap, v = .slice a l.length cap ∧ l.length ≤ cap ∧ l.length ≤ maxLen ∧ RowAt w a (l.map (Value.int k)) ∧ ∀ x ∈ l, (Lit.int k x).wf = true
theorem IsK.grow {k : IntKind} {w w' : World} {v : Value} {l : List Int} (h : IsK k w v l) (hg : Grow w w') : IsK k w' v l := by
  obtain ⟨a, cap, h1, h2, h3, h4, h5⟩ := h
  exact ⟨a, cap, h1, h2, h3, h4.grow hg, h5⟩
theorem RowAt.kind {k : IntKind} {w : World} {a : Option Addr} {l : List Int} (h : RowAt w a (l.map (Value.int k))) {i : Nat} (hi : i < l.length) :
    ∃ b o x, l[i]? = some x ∧ a = some ⟨b, o, none⟩ ∧ w.cell? ⟨b, o + i, none⟩ = some (.int k x) := by
  obtain ⟨b, o, ha, hc⟩ := h i (.int k l[i]) (by simp [hi])
  exact ⟨b, o, l[i], by simp [hi], ha, hc⟩
theorem wf_u8 {n : Int} (h : (Lit.int .u8 n).wf = true) : 0 ≤ n ∧ n ≤ 255 := by
  simpa [Lit.wf, IntKind.min, IntKind.max, IntKind.signed, IntKind.bits] using h
theorem wf_u16 {n : Int} (h : (Lit.int .u16 n).wf = true) : 0 ≤ n ∧ n ≤ 65535 := by
  simpa [Lit.wf, IntKind.min, IntKind.max, IntKind.signed, IntKind.bits] using h
set_option maxRecDepth 1000000 in
theorem open_kind {k : IntKind} {t e : TypeId} {H : Type} {enc : TypeId × Value → H} {W : World} {base b0 : Nat} {v : Value} {d : DataW H} {p : List MemPlace} {r : Reach} (ht : Try.prog.underlying t = some (.slice e)) (he : Try.prog.underlying e = some (.int k)) (hc : Try.prog.cellsOf e = 1)
    (hv : Value.okWide Try.prog W r b0 t v) (h : DataW.Trod enc Try.prog W base (fun _ => true) true t v d p) : ∃ l : List Int, IsK k W v l := by
  obtain ⟨a0, len0, cap0, rfl⟩ := okWide_slice ht hv
  obtain ⟨fuel, hf⟩ := h
  rcases open_ints ht he hc hf with ⟨hcs, hx⟩ | ⟨a, len, cap, zs, hcs, _, hl, hm, hz, hx, hc, hwf⟩
  · simp [Value.cells] at hcs
    obtain ⟨rfl, rfl, rfl⟩ := hcs
    exact ⟨[], none, 0, rfl, Nat.le_refl _, by simp, (fun i x hx => by simp at hx), by simp⟩
  · simp [Value.cells] at hcs
    obtain ⟨rfl, rfl, rfl⟩ := hcs
    simp only [if_true] at hz
    have hL : (zs.take len0).length = len0 := by rw [List.length_take]; omega
    refine ⟨zs.take len0, some a, cap0, by rw [hL], by rw [hL]; exact hl, by rw [hL]; omega, fun i x hx => ?_, fun x hx => hwf x (List.mem_of_mem_take hx)⟩
    rw [List.getElem?_map] at hx
    obtain ⟨z, hz2, rfl⟩ := Option.map_eq_some_iff.1 hx
    have hi := (List.getElem?_eq_some_iff.1 hz2).1
    rw [hL] at hi
    rw [List.getElem?_take_of_lt hi] at hz2
    have hc2 := hc i (by omega)
    obtain ⟨b, o, sp⟩ := a
    have hs : sp = none := by simpa [Addr.add] using World.cell?_spot (hc 0 (by omega))
    subst hs
    refine ⟨b, o, rfl, ?_⟩
    rw [show (⟨b, o + i, none⟩ : Addr) = (⟨b, o, none⟩ : Addr).add i by unfold Addr.add; split <;> simp_all, hc2]
    simp [List.getD, hz2]

theorem ldraws_any (a : Option Addr) (n c : Nat) (w : World) :
    Calls Try.prog 21 #[.slice a n c] w fun e w' => ∃ A Y : Nat, e = .returned (.func (.func 55) #[] #[.pointer (some ⟨A, 0, none⟩), .pointer (some ⟨Y, 0, none⟩)]) ∧ Grow w w' ∧ w.heap.size ≤ A ∧ A < w'.heap.size ∧ A ≠ Y ∧
      w'.cell? ⟨A, 0, none⟩ = some (.int .i64 0) ∧ (∀ o, w'.frozen? ⟨A, o, none⟩ = false) ∧ w'.cell? ⟨Y, 0, none⟩ = some (.slice a n c) := by
  have hmf : ∀ (fn : Fn) (first cap : Array Value) (w : World), (Instr.makeFunc fn first cap).run Try.prog w = .ok (.func fn first cap) w := fun _ _ _ _ => rfl
  go_enter Try.func21, Try.ntmps21
  go_wp2_with fail
  go_ret
  refine ⟨w.heap.size + 1, w.heap.size, rfl, ((Grow.refl w).alloc _).alloc _, by omega, by simp, by omega, cell_new (by simp) rfl, fun o => hot_new (by simp), Grow.keepA (cell_new rfl rfl) _⟩

/-- One number is drawn. -/
def DrawPost (w : World) (A : Nat) (k n : Int) (e : Ending) (w' : World) : Prop :=
  ∃ r : Int, e = .returned (.int .i64 r) ∧ 0 ≤ r ∧ r < n ∧ w.grownBy w' (some A) ∧ w'.cell? ⟨A, 0, none⟩ = some (.int .i64 (k + 1)) ∧ ∀ o, w'.frozen? ⟨A, o, none⟩ = false
set_option maxRecDepth 100000 in
set_option maxHeartbeats 1000000 in
theorem ldraw_any (A Y : Nat) (k n : Int) (u : Value) (l : List Int) (w : World) (hA : w.cell? ⟨A, 0, none⟩ = some (.int .i64 k)) (hAf : ∀ o, w.frozen? ⟨A, o, none⟩ = false) (hY : w.cell? ⟨Y, 0, none⟩ = some u) (hne : A ≠ Y) (hu : IsK .u16 w u l) (huA : l = [] ∨ ∀ b, u.ownBlock = some b → b ≠ A) (hk : 0 ≤ k ∧ k ≤ 1000) (hn : 1 ≤ n ∧ n ≤ 1000) :
    Calls Try.prog 55 #[.int .i64 n, .pointer (some ⟨A, 0, none⟩), .pointer (some ⟨Y, 0, none⟩)] w (DrawPost w A k n) := by
  obtain ⟨a, cap, rfl, hcap, hlen, hrow, hwf⟩ := id hu
  have hlen2 : l.length ≤ 9223372036854775807 := by simpa [maxLen] using hlen
  have E1 : IntKind.i64.wrap (k + 1) = k + 1 := IntWalk.i64_in _ (by omega)
  have G1 : wrap64 (k + 1) = k + 1 := IntWalk.wrap64_in _ (by omega)
  obtain ⟨j, hj⟩ : ∃ j : Nat, k + 1 = j := ⟨(k + 1).toNat, by omega⟩
  have hg := bySet w A 0 (.int .i64 (k + 1))
  have hA1 : (w.setCell ⟨A, 0, none⟩ (.int .i64 (k + 1))).cell? ⟨A, 0, none⟩ = some (.int .i64 (k + 1)) := World.cell?_setCell_same' _ _ _ (by rw [hA]; rfl)
  have hY1 : (w.setCell ⟨A, 0, none⟩ (.int .i64 (k + 1))).cell? ⟨Y, 0, none⟩ = some (.slice a l.length cap) := byCell1 hg hY (by intro e; injection e with e; exact hne e)
  have hf1 : ∀ o, (w.setCell ⟨A, 0, none⟩ (.int .i64 (k + 1))).frozen? ⟨A, o, none⟩ = false := fun o => by rw [World.frozen?_setCell]; exact hAf o
  have hn0 : ¬ n = 0 := by omega
  by_cases hl : l = []
  · subst hl
    have R1 : 0 ≤ (k + 1).tmod n := Int.tmod_nonneg _ (by omega)
    have R2 : (k + 1).tmod n < n := Int.tmod_lt_of_pos _ (by omega)
    obtain ⟨r, hr⟩ : ∃ r, (k + 1).tmod n = r := ⟨_, rfl⟩
    rw [hr] at R1 R2
    have G2 : wrap64 r = r := IntWalk.wrap64_in _ (by omega)
    clear hu hrow hwf huA hj hcap hlen hlen2
    go_enter Try.func55, Try.ntmps55
    go_wp2_with fail
    go_ret
    exact ⟨r, rfl, R1, R2, hg, hA1, hf1⟩
  · have hpos : 0 < l.length := List.length_pos_iff.2 hl
    obtain ⟨b, o, x, hx, rfl, hc⟩ := hrow.kind (i := j % l.length) (Nat.mod_lt _ hpos)
    have hxr := wf_u16 (hwf x (List.mem_of_getElem? hx))
    have hbA : b ≠ A := huA.resolve_left hl b rfl
    have hc1 : (w.setCell ⟨A, 0, none⟩ (.int .i64 (k + 1))).cell? ⟨b, o + j % l.length, none⟩ = some (.int .u16 x) := byCell1 hg hc (by intro e; injection e with e; exact hbA e.symm)
    have hidx : (k + 1).tmod (l.length : Int) = ((j % l.length : Nat) : Int) := by rw [hj, Int.tmod_eq_emod_of_nonneg (by omega), Int.natCast_emod]
    obtain ⟨i, hi⟩ : ∃ i, j % l.length = i := ⟨_, rfl⟩
    have hil : i < l.length := by rw [← hi]; exact Nat.mod_lt _ hpos
    rw [hi] at hidx hc1
    have E0 : ((l.length : Int) == 0) = false := beq_eq_false_iff_ne.2 (by omega)
    have F0 : (l.length == 0) = false := beq_eq_false_iff_ne.2 (by omega)
    have Z0 : ¬ (l.length : Int) = 0 := by omega
    have Z1 : ¬ l.length = 0 := by omega
    have E2 : IntKind.i64.wrap x = x := IntWalk.i64_in _ (by omega)
    have E3 : IntKind.i64.wrap (53 * (k + 1)) = 53 * (k + 1) := IntWalk.i64_in _ (by omega)
    have E4 : IntKind.i64.wrap (x + 53 * (k + 1)) = x + 53 * (k + 1) := IntWalk.i64_in _ (by omega)
    have R1 : 0 ≤ (x + 53 * (k + 1)).tmod n := Int.tmod_nonneg _ (by omega)
    have R2 : (x + 53 * (k + 1)).tmod n < n := Int.tmod_lt_of_pos _ (by omega)
    obtain ⟨r, hr⟩ : ∃ r, (x + 53 * (k + 1)).tmod n = r := ⟨_, rfl⟩
    rw [hr] at R1 R2
    have E5 : IntKind.i64.wrap r = r := IntWalk.i64_in _ (by omega)
    have E6 : IntKind.i64.wrap (i : Int) = i := IntWalk.i64_in _ (by omega)
    have hi1 : (i : Int) < l.length := by omega
    clear hu hrow hwf huA hj hcap hlen hx hc hi hl hbA
    obtain ⟨W, hW⟩ : ∃ W, w.setCell ⟨A, 0, none⟩ (.int .i64 (k + 1)) = W := ⟨_, rfl⟩
    have Hg := Lib.hid hg
    have Hf1 := Lib.hid hf1
    have HA1 := Lib.hid hA1
    rw [hW] at Hg Hf1 HA1 hA1 hY1 hc1
    clear hg hf1
    go_enter Try.func55, Try.ntmps55
    go_upto_region 4 with fail
    (try rw [hW])
    clear hW hA hY
    (refine wp_region_held_drew (S := fun Wx => Grow W Wx ∧ Wx.cell? ⟨Y, 0, none⟩ = some (.slice (some ⟨b, o, none⟩) l.length cap) ∧ Wx.cell? ⟨A, 0, none⟩ = some (.int .i64 (k + 1)) ∧ Wx.cell? ⟨b, o + i, none⟩ = some (.int .u16 x)) (by kernel_rfl) ⟨(Below.refl _ _).drew, Grow.keeps (Below.refl _ _).drew (by assumption), Grow.keeps (Below.refl _ _).drew (by assumption), Grow.keeps (Below.refl _ _).drew (by assumption)⟩ (fun hHeld => ?_); refine wpAnyH_take (i := 0) (oi := _) (v := ?_) rfl (by kernel_rfl) (by kernel_rfl) (by kernel_rfl) (fun _ _ _ h => h) (Or.inl ⟨by rfl, ?_⟩) (by assumption) ?_; rotate_left; (focus (intro w hSw; (try dsimp only at hSw); go_simp; (try with_reducible rfl))); (try simp only [Act.put, List.setIfInBounds_toArray, List.set_cons_zero, List.set_cons_succ, List.getElem_toArray, List.getElem_cons_zero]); refine wpAnyH_take (i := 1) (oi := _) (v := ?_) rfl (by kernel_rfl) (by kernel_rfl) (by kernel_rfl) (fun _ _ _ h => h) (Or.inl ⟨by rfl, ?_⟩) (by assumption) ?_; rotate_left; (focus (intro w hSw; (try dsimp only at hSw); go_simp; (try with_reducible rfl))); (try simp only [Act.put, List.setIfInBounds_toArray, List.set_cons_zero, List.set_cons_succ, List.getElem_toArray, List.getElem_cons_zero, List.getElem_cons_succ]); refine wpAnyH_take (i := 2) (oi := _) (v := ?_) rfl (by kernel_rfl) (by kernel_rfl) (by kernel_rfl) (fun _ _ _ h => h) (Or.inl ⟨by rfl, ?_⟩) (by assumption) ?_; rotate_left; (focus (intro w hSw; (try dsimp only at hSw); go_simp; (try with_reducible rfl))); (try simp only [Act.put, List.setIfInBounds_toArray, List.set_cons_zero, List.set_cons_succ, List.getElem_toArray, List.getElem_cons_zero, List.getElem_cons_succ]); refine wpAnyH_take (i := 3) (oi := _) (v := ?_) rfl (by kernel_rfl) (by kernel_rfl) (by kernel_rfl) (fun _ _ _ h => h) (Or.inl ⟨by rfl, ?_⟩) (by assumption) ?_; rotate_left; (focus (intro w hSw; (try dsimp only at hSw); go_simp; (try with_reducible rfl))); (try simp only [Act.put, List.setIfInBounds_toArray, List.set_cons_zero, List.set_cons_succ, List.getElem_toArray, List.getElem_cons_zero, List.getElem_cons_succ]); refine wpAnyH_take (i := 4) (oi := _) (v := ?_) rfl (by kernel_rfl) (by kernel_rfl) (by kernel_rfl) (fun _ _ _ h => h) (Or.inl ⟨by rfl, ?_⟩) (by assumption) ?_; rotate_left; (focus (intro w hSw; (try dsimp only at hSw); go_simp; (try with_reducible rfl))); (try simp only [Act.put, List.setIfInBounds_toArray, List.set_cons_zero, List.set_cons_succ, List.getElem_toArray, List.getElem_cons_zero, List.getElem_cons_succ]); refine wpAnyH_take (i := 5) (oi := _) (v := ?_) rfl (by kernel_rfl) (by kernel_rfl) (by kernel_rfl) (fun _ _ _ h => h) (Or.inl ⟨by rfl, ?_⟩) (by assumption) ?_; rotate_left; (focus (intro w hSw; (try dsimp only at hSw); go_simp; (try with_reducible rfl))); (try simp only [Act.put, List.setIfInBounds_toArray, List.set_cons_zero, List.set_cons_succ, List.getElem_toArray, List.getElem_cons_zero, List.getElem_cons_succ]); refine wpAnyH_take (i := 6) (oi := _) (v := ?_) rfl (by kernel_rfl) (by kernel_rfl) (by kernel_rfl) (fun _ _ _ h => h) (Or.inl ⟨by rfl, ?_⟩) (by assumption) ?_; rotate_left; (focus (intro w hSw; (try dsimp only at hSw); go_simp; (try with_reducible rfl))); (try simp only [Act.put, List.setIfInBounds_toArray, List.set_cons_zero, List.set_cons_succ, List.getElem_toArray, List.getElem_cons_zero, List.getElem_cons_succ]); refine wpAnyH_take (i := 7) (oi := _) (v := ?_) rfl (by kernel_rfl) (by kernel_rfl) (by kernel_rfl) (fun _ _ _ h => h) (Or.inl ⟨by rfl, ?_⟩) (by assumption) ?_; rotate_left; (focus (intro w hSw; (try dsimp only at hSw); go_simp; (try with_reducible rfl))); (try simp only [Act.put, List.setIfInBounds_toArray, List.set_cons_zero, List.set_cons_succ, List.getElem_toArray, List.getElem_cons_zero, List.getElem_cons_succ]); refine wpAnyH_take (i := 8) (oi := _) (v := ?_) rfl (by kernel_rfl) (by kernel_rfl) (by kernel_rfl) (fun _ _ _ h => h) (Or.inl ⟨by rfl, ?_⟩) (by assumption) ?_; rotate_left; (focus (intro w hSw; (try dsimp only at hSw); go_simp; (try with_reducible rfl))); (try simp only [Act.put, List.setIfInBounds_toArray, List.set_cons_zero, List.set_cons_succ, List.getElem_toArray, List.getElem_cons_zero, List.getElem_cons_succ]); refine wpAnyH_take (i := 9) (oi := _) (v := ?_) rfl (by kernel_rfl) (by kernel_rfl) (by kernel_rfl) (fun _ _ _ h => h) (Or.inl ⟨by rfl, ?_⟩) (by assumption) ?_; rotate_left; (focus (intro w hSw; (try dsimp only at hSw); go_simp; (try with_reducible rfl))); (try simp only [Act.put, List.setIfInBounds_toArray, List.set_cons_zero, List.set_cons_succ, List.getElem_toArray, List.getElem_cons_zero, List.getElem_cons_succ]); refine wpAnyH_take (i := 10) (oi := _) (v := ?_) rfl (by kernel_rfl) (by kernel_rfl) (by kernel_rfl) (fun _ _ _ h => h) (Or.inl ⟨by rfl, ?_⟩) (by assumption) ?_; rotate_left; (focus (intro w hSw; (try dsimp only at hSw); go_simp; (try with_reducible rfl))); (try simp only [Act.put, List.setIfInBounds_toArray, List.set_cons_zero, List.set_cons_succ, List.getElem_toArray, List.getElem_cons_zero, List.getElem_cons_succ]); refine wpAnyH_take (i := 11) (oi := _) (v := ?_) rfl (by kernel_rfl) (by kernel_rfl) (by kernel_rfl) (fun _ _ _ h => h) (Or.inl ⟨by rfl, ?_⟩) (by assumption) ?_; rotate_left; (focus (intro w hSw; (try dsimp only at hSw); go_simp; (try with_reducible rfl))); (try simp only [Act.put, List.setIfInBounds_toArray, List.set_cons_zero, List.set_cons_succ, List.getElem_toArray, List.getElem_cons_zero, List.getElem_cons_succ]); refine wpAnyH_take (i := 12) (oi := _) (v := ?_) rfl (by kernel_rfl) (by kernel_rfl) (by kernel_rfl) (fun _ _ _ h => h) (Or.inl ⟨by rfl, ?_⟩) (by assumption) ?_; rotate_left; (focus (intro w hSw; (try dsimp only at hSw); go_simp; (try with_reducible rfl))); (try simp only [Act.put, List.setIfInBounds_toArray, List.set_cons_zero, List.set_cons_succ, List.getElem_toArray, List.getElem_cons_zero, List.getElem_cons_succ]); refine wpAnyH_take (i := 13) (oi := _) (v := ?_) rfl (by kernel_rfl) (by kernel_rfl) (by kernel_rfl) (fun _ _ _ h => h) (Or.inl ⟨by rfl, ?_⟩) (by assumption) ?_; rotate_left; (focus (intro w hSw; (try dsimp only at hSw); go_simp; (try with_reducible rfl))); (try simp only [Act.put, List.setIfInBounds_toArray, List.set_cons_zero, List.set_cons_succ, List.getElem_toArray, List.getElem_cons_zero, List.getElem_cons_succ]); refine wpAnyH_done (by kernel_rfl) ?_ _)
    have hh := hHeld.1
    go_wp2_with fail
    go_ret
    exact ⟨_, rfl, R1, R2, byThen Hg.out hh, hh.keeps HA1.out, fun o => (hh.marks _ _ (lt_of_cell HA1.out)).trans (Hf1.out o)⟩

end Go.Proofs.Ytbeglemohfbdfaa
