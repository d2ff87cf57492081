/- The program of layer 7: all orders, one after the other. Conditions: sizes. -/
import Derived.Test.YtbeglemohfbdfaaQpK
import Derived.Test.YtbeglemohfbdfaaQpE
import Derived.Laws.EntriesVeiled
namespace Go.Proofs.Ytbeglemohfbdfaa
open Go.RowKit Go.Instr

attribute [local go_sem] Oper.semAt_some

def natL (l : List Nat) : List Int := l.map fun n : Nat => (n : Int)
/-- An order, as it is handed on: the list, and the slice. -/
abbrev Od (ks : List (Int × Int)) : Type := { x : List Nat × Value // x.1 ∈ ordersL ks }
def OdX (ks : List (Int × Int)) (x : Od ks) (W : World) : Prop := IsInts W x.1.2 (natL x.1.1)
/-- What goes on by. -/
structure OEnv (C Y On c l0 : Nat) (a : Option Addr) (cap : Nat) (ks : List (Int × Int)) (W : World) : Prop where
  chase : W.cell? ⟨C, 0, none⟩ = some (.pointer (some ⟨c, 0, none⟩))
  yields : W.cell? ⟨Y, 0, none⟩ = some (.func (.yield l0) #[] #[])
  self : W.cell? ⟨On, 0, none⟩ = some (.func (.func 79) #[] #[.pointer (some ⟨C, 0, none⟩), .pointer (some ⟨Y, 0, none⟩), .pointer (some ⟨On, 0, none⟩)])
  clocks : W.cell? ⟨c, 3, none⟩ = some (.slice a ks.length cap)
  at' : CksAt W a ks
structure Apart (T : Nat → Prop) (C Y On c : Nat) (a : Option Addr) : Prop where
  C : ¬ T C
  Y : ¬ T Y
  On : ¬ T On
  c : ¬ T c
  a : ∀ b o, a = some ⟨b, o, none⟩ → ¬ T b
theorem Apart.fp {T F G : Nat → Prop} {C Y On c n : Nat} {a : Option Addr} (h : Apart (TF T F) C Y On c a) (hg : ∀ b, G b → F b ∨ n ≤ b) (hC : C < n) (hY : Y < n) (hO : On < n) (hc : c < n) (ha : ∀ b o, a = some ⟨b, o, none⟩ → b < n) : Apart (TF T G) C Y On c a := by
  have key : ∀ b, b < n → ¬ TF T F b → ¬ TF T G b := fun b hb h k => h (k.imp id fun g => (hg b g).resolve_right (by omega))
  exact ⟨key _ hC h.C, key _ hY h.Y, key _ hO h.On, key _ hc h.c, fun b o e => key _ (ha b o e) (h.a b o e)⟩
theorem OEnv.kp {C Y On c l0 : Nat} {a : Option Addr} {cap : Nat} {ks : List (Int × Int)} {W W' : World} {T : Nat → Prop} (h : OEnv C Y On c l0 a cap ks W) (ha : Apart T C Y On c a) (k : KpT T W W') : OEnv C Y On c l0 a cap ks W' :=
  ⟨k.cell ha.C h.chase, k.cell ha.Y h.yields, k.cell ha.On h.self, k.cell ha.c h.clocks, k.cks ha.a h.at'⟩
theorem OdX.kept {ks : List (Int × Int)} {x : Od ks} {W W' : World} {row : Option Nat} (h : OdX ks x W) (hg : W.grownBy W' row) (hne : x.1.2.ownBlock ≠ row) : OdX ks x W' := IsInts.kept h hg (.inr hne)
theorem OdX.keptN {ks : List (Int × Int)} {x : Od ks} {W W' : World} {row : Option Nat} (h : OdX ks x W) (hg : W.grownBy W' row) (hr : ∀ r, row = some r → ∃ o : Obj, W.heap[r]? = some o ∧ o.isCells = false) : OdX ks x W' := by
  obtain ⟨a, cap, h1, h2, h3, h4⟩ := h
  exact ⟨a, cap, h1, h2, h3, fun i y hy => by
    obtain ⟨b, o, ha, hc⟩ := h4 i y hy
    exact ⟨b, o, ha, cell_kept hc hg hr⟩⟩
/-- The last order that was handed on still is there. -/
def LastOk (ks : List (Int × Int)) (lv : Value) (n0 : Nat) (xs : List (Od ks)) (W : World) : Prop := xs ≠ [] ∧ ∀ x, xs.getLast? = some x → OdX ks x W ∧ ∀ b, x.1.2.ownBlock = some b → lv.ownBlock = some b ∨ n0 ≤ b
def LastIn (ks : List (Int × Int)) (n0 : Nat) (Fo : Nat → Prop) (xs : List (Od ks)) (W : World) : Prop := xs ≠ [] ∧ ∀ x, xs.getLast? = some x → OdX ks x W ∧ ∀ b, x.1.2.ownBlock = some b → n0 ≤ b ∧ Fo b
def OnPost (T : Nat → Prop) (B : Nat) (ks : List (Int × Int)) (J Jx : List (Od ks) → (Nat → Prop) → World → Prop) (m : Nat) (s : St) (ll : List Nat) (lv : Value) (pre : List (Od ks)) (F : Nat → Prop) (w : World) (e : Ending) (w' : World) : Prop :=
  KeepsFrom B w w' ∧ KpT (TF T F) w w' ∧ ∃ F', Fp F F' w w' ∧ ((e = .returned (.bool true) ∧ ∃ xs : List (Od ks), xs.map (·.1.1) = (ordersF ks m s).map (ll ++ ·) ∧ J (pre ++ xs) F' w') ∨
    (e = .returned (.bool false) ∧ ∃ xs : List (Od ks), xs.map (·.1.1) <+: (ordersF ks m s).map (ll ++ ·) ∧ Jx (pre ++ xs) F' w' ∧ LastOk ks lv w.heap.size xs w'))
theorem KpT.setNew {T : Nat → Prop} {A B : World} (h : KpT T A B) {b : Nat} (hb : A.heap.size ≤ b) (o : Nat) (v : Value) : KpT T A (B.setCell ⟨b, o, none⟩ v) :=
  ⟨by simpa using h.1, fun k ob hk ho hc => ((bySet B b o v).block k (by have := (Array.getElem?_eq_some_iff.1 (h.2 k ob hk ho hc)).1; exact this) (by intro e; injection e with e; have := (Array.getElem?_eq_some_iff.1 ho).1; omega)).trans (h.2 k ob hk ho hc)⟩
theorem kf_grow {B : Nat} {X Y : World} (h : Grow X Y) : KeepsFrom B X Y := KeepsFrom.of_grownBy (h.grownBy none) fun j e => by cases e
theorem kf_set {B : Nat} (X : World) (b o : Nat) (v : Value) : KeepsFrom B X (X.setCell ⟨b, o, none⟩ v) := (KeepsOthers.setCell _ _ _).from _
theorem Fp.old {F F' : Nat → Prop} {w V V2 : World} (h : Fp F F' V V2) (hs : w.heap.size ≤ V.heap.size) : Fp F F' w V2 := ⟨fun b hb => (h.1 b hb).imp id fun k => Nat.le_trans hs k, h.2⟩
theorem Fp.new {F F' : Nat → Prop} {w V V2 : World} (h : Fp F F' V V2) (hs : V2.heap.size ≤ w.heap.size) : Fp F F' V w := ⟨h.1, fun b hb => Nat.lt_of_lt_of_le (h.2 b hb) hs⟩
set_option maxRecDepth 100000 in
set_option maxHeartbeats 2000000 in
theorem pon_zero (T : Nat → Prop) (C Y On c l0 B N : Nat) (a : Option Addr) (cap : Nat) (ks : List (Int × Int)) (hl : ks.length ≤ 6) (hTB : ∀ b, T b → b < B) (J Jx : List (Od ks) → (Nat → Prop) → World → Prop) (hJ : OwnFp B J) (hJx : OwnFp B Jx)
    (hY : ∀ pre F x W1, J pre F W1 → (∀ b, F b → b < W1.heap.size) → OdX ks x W1 → pre.length < N → YieldAt Fence.wide 8 Try.prog l0 #[x.1.2] W1 fun e W' => KeepsFrom B W1 W' ∧ KpT (TF T F) W1 W' ∧ ((e = .returned (.bool true) ∧ ∃ F', Fp F F' W1 W' ∧ J (pre ++ [x]) F' W') ∨ (e = .returned (.bool false) ∧ ∃ F', Fp F F' W1 W' ∧ Jx (pre ++ [x]) F' W')))
    (s : St) (ll : List Nat) (lv : Value) (pre : List (Od ks)) (F : Nat → Prop) (w : World) (hll : ll.length = ks.length) (hmem : ll ∈ ordersL ks) (hN : pre.length < N) (hlv : Own w B 3 lv ((natL ll).map (Value.int .i64))) (henv : OEnv C Y On c l0 a cap ks w) (hlf : ∀ b, lv.ownBlock = some b → ¬ F b) (hB : B ≤ w.heap.size) (hF : ∀ b, F b → b < w.heap.size) (hj : J pre F w) :
    Calls Try.prog 79 #[stV s, lv, .pointer (some ⟨C, 0, none⟩), .pointer (some ⟨Y, 0, none⟩), .pointer (some ⟨On, 0, none⟩)] w (OnPost T B ks J Jx 0 s ll lv pre F w) := by
  have hint : IsInts w lv (natL ll) := hlv.ints (by rw [natL, List.length_map]; omega)
  have Hint := Lib.hid hint
  have Hlv := Lib.hid hlv
  obtain ⟨la, lcap, rfl, _⟩ := hint
  have HJ := Lib.hid hJ
  have HJx := Lib.hid hJx
  have HY := Lib.hid hY
  have Hj := Lib.hid hj
  have Hmem := Lib.hid hmem
  have HF := Lib.hid hF
  obtain ⟨e1, e2, e3, e4, e5⟩ := henv
  have hC := lt_of_cell e1
  have hYl := lt_of_cell e2
  have hcl := lt_of_cell e4
  have hnl : (natL ll).length = ks.length := by rw [natL, List.length_map, hll]
  rw [hnl]
  have Hnl := Lib.hid hnl
  clear hJ hJx hY hj hmem hlv e5 hnl hll hF
  have hst : stV s = .agg #[.int .u64 s.placed, .int .i64 s.last, .int .i64 s.time] := rfl
  rw [hst]
  clear hst
  refine (callsIn_wide (n := 9)).1 (callsIn_of_wp_marks Try.func79 rfl trivial ?_ rfl)
  simp only [Try.ntmps79, List.size_toArray, List.length_cons, List.length_nil, Nat.reduceAdd, Nat.reduceSub, Array.replicate_succ, Array.replicate_zero, List.push_toArray, List.append_toArray, List.nil_append, List.cons_append]
  gi_wp2
  refine wpIn_wide.2 (wp_noP ?_)
  obtain ⟨W, hW⟩ : ∃ W, W = (((w.alloc (.cells #[.int .u64 s.placed, .int .i64 s.last, .int .i64 s.time] 113)).alloc (.cells #[.slice la ks.length lcap] 40)).alloc (.cells #[.bool false] 4)) := ⟨_, rfl⟩
  have hgW : Grow w W := by rw [hW]; exact ((((Grow.refl w).alloc _).alloc _).alloc _)
  have hW00 : W.cell? ⟨w.heap.size, 0, none⟩ = some (.int .u64 s.placed) := by rw [hW]; exact Grow.keepA (Grow.keepA (cell_new (by simp) rfl) _) _
  have hW01 : W.cell? ⟨w.heap.size, 1, none⟩ = some (.int .i64 s.last) := by rw [hW]; exact Grow.keepA (Grow.keepA (cell_new (by simp) rfl) _) _
  have hW02 : W.cell? ⟨w.heap.size, 2, none⟩ = some (.int .i64 s.time) := by rw [hW]; exact Grow.keepA (Grow.keepA (cell_new (by simp) rfl) _) _
  have hWf0 : ∀ o, W.frozen? ⟨w.heap.size, o, none⟩ = false := by intro o; rw [hW]; exact (((Grow.refl _).alloc _).marks _ _ (by simp <;> omega)).trans ((((Grow.refl _).alloc _).marks _ _ (by simp <;> omega)).trans (hot_new (by simp)))
  have hWl0 : w.heap.size < W.heap.size := by rw [hW]; simp; try omega
  have hW10 : W.cell? ⟨w.heap.size + 1, 0, none⟩ = some (.slice la ks.length lcap) := by rw [hW]; exact Grow.keepA (cell_new (by simp) rfl) _
  have hWf1 : ∀ o, W.frozen? ⟨w.heap.size + 1, o, none⟩ = false := by intro o; rw [hW]; exact (((Grow.refl _).alloc _).marks _ _ (by simp <;> omega)).trans (hot_new (by simp))
  have hWl1 : w.heap.size + 1 < W.heap.size := by rw [hW]; simp; try omega
  have hW20 : W.cell? ⟨w.heap.size + 1 + 1, 0, none⟩ = some (.bool false) := by rw [hW]; exact cell_new (by simp) rfl
  have hWf2 : ∀ o, W.frozen? ⟨w.heap.size + 1 + 1, o, none⟩ = false := by intro o; rw [hW]; exact hot_new (by simp)
  have hWl2 : w.heap.size + 1 + 1 < W.heap.size := by rw [hW]; simp; try omega
  rw [← hW]
  clear hW
  have hWd : ∀ n, (W.drewN n).heap.size = W.heap.size := fun _ => rfl
  have hWq : ∀ n o b j, b < W.heap.size → ((W.drewN n).alloc o).cell? ⟨b, j, none⟩ = W.cell? ⟨b, j, none⟩ := cell_drewN_alloc W
  have hWr : ∀ n o b j, b < W.heap.size → ((W.drewN n).alloc o).frozen? ⟨b, j, none⟩ = W.frozen? ⟨b, j, none⟩ := hot_drewN_alloc W
  have hWb0 : w.heap.size ≤ w.heap.size := by omega
  have hWb1 : w.heap.size ≤ w.heap.size + 1 := by omega
  have hWn01 : w.heap.size ≠ w.heap.size + 1 := by omega
  have hWn10 : w.heap.size + 1 ≠ w.heap.size := by omega
  have hWb2 : w.heap.size ≤ w.heap.size + 1 + 1 := by omega
  have hWn02 : w.heap.size ≠ w.heap.size + 1 + 1 := by omega
  have hWn20 : w.heap.size + 1 + 1 ≠ w.heap.size := by omega
  have hWn12 : w.heap.size + 1 ≠ w.heap.size + 1 + 1 := by omega
  have hWn21 : w.heap.size + 1 + 1 ≠ w.heap.size + 1 := by omega
  obtain ⟨W2, hWe2⟩ : ∃ g, w.heap.size + 1 + 1 = g := ⟨_, rfl⟩
  rw [hWe2] at hW20 hWf2 hWl2 hWb2 hWn20 hWn21 hWn02 hWn12
  (try rw [hWe2])
  have hWk2 := Lib.hid hWe2
  clear hWe2
  obtain ⟨W1, hWe1⟩ : ∃ g, w.heap.size + 1 = g := ⟨_, rfl⟩
  rw [hWe1] at hW10 hWf1 hWl1 hWb1 hWn10 hWn12 hWn01 hWn21
  (try rw [hWe1])
  have hWk1 := Lib.hid hWe1
  clear hWe1
  obtain ⟨W0, hWe0⟩ : ∃ g, w.heap.size = g := ⟨_, rfl⟩
  have hWb0 : w.heap.size ≤ W0 := by omega
  rw [hWe0] at hW00 hW01 hW02 hWf0 hWl0 hWn01 hWn02 hWn10 hWn20
  (try rw [hWe0])
  have hWk0 := Lib.hid hWe0
  clear hWe0
  have c1 := hgW.keeps e1
  have c2 := hgW.keeps e2
  have c4 := hgW.keeps e4
  (refine wp_region_held_drew (S := fun Vx => Vx.cell? ⟨W1, 0, none⟩ = some (.slice la ks.length lcap) ∧ Vx.cell? ⟨C, 0, none⟩ = some (.pointer (some ⟨c, 0, none⟩)) ∧ Vx.cell? ⟨c, 3, none⟩ = some (.slice a ks.length cap)) (by kernel_rfl) (⟨hW10, c1, c4⟩) (fun hHeld => ?_); refine wpAnyH_take (i := 0) (oi := _) (v := ?_) rfl (by kernel_rfl) (by kernel_rfl) (by kernel_rfl) (fun _ _ _ h => h) (Or.inl ⟨by rfl, ?_⟩) (by assumption) ?_; rotate_left; (focus (intro w hSw; (try dsimp only at hSw); go_simp; (try with_reducible rfl))); (try simp only [Act.put, List.setIfInBounds_toArray, List.set_cons_zero, List.set_cons_succ, List.getElem_toArray, List.getElem_cons_zero]); refine wpAnyH_take (i := 1) (oi := _) (v := ?_) rfl (by kernel_rfl) (by kernel_rfl) (by kernel_rfl) (fun _ _ _ h => h) (Or.inl ⟨by rfl, ?_⟩) (by assumption) ?_; rotate_left; (focus (intro w hSw; (try dsimp only at hSw); go_simp; (try with_reducible rfl))); (try simp only [Act.put, List.setIfInBounds_toArray, List.set_cons_zero, List.set_cons_succ, List.getElem_toArray, List.getElem_cons_zero, List.getElem_cons_succ]); refine wpAnyH_take (i := 2) (oi := _) (v := ?_) rfl (by kernel_rfl) (by kernel_rfl) (by kernel_rfl) (fun _ _ _ h => h) (Or.inl ⟨by rfl, ?_⟩) (by assumption) ?_; rotate_left; (focus (intro w hSw; (try dsimp only at hSw); go_simp; (try with_reducible rfl))); (try simp only [Act.put, List.setIfInBounds_toArray, List.set_cons_zero, List.set_cons_succ, List.getElem_toArray, List.getElem_cons_zero, List.getElem_cons_succ]); refine wpAnyH_take (i := 3) (oi := _) (v := ?_) rfl (by kernel_rfl) (by kernel_rfl) (by kernel_rfl) (fun _ _ _ h => h) (Or.inl ⟨by rfl, ?_⟩) (by assumption) ?_; rotate_left; (focus (intro w hSw; (try dsimp only at hSw); go_simp; (try with_reducible rfl))); (try simp only [Act.put, List.setIfInBounds_toArray, List.set_cons_zero, List.set_cons_succ, List.getElem_toArray, List.getElem_cons_zero, List.getElem_cons_succ]); refine wpAnyH_take (i := 4) (oi := _) (v := ?_) rfl (by kernel_rfl) (by kernel_rfl) (by kernel_rfl) (fun _ _ _ h => h) (Or.inl ⟨by rfl, ?_⟩) (by assumption) ?_; rotate_left; (focus (intro w hSw; (try dsimp only at hSw); go_simp; (try with_reducible rfl))); (try simp only [Act.put, List.setIfInBounds_toArray, List.set_cons_zero, List.set_cons_succ, List.getElem_toArray, List.getElem_cons_zero, List.getElem_cons_succ]); refine wpAnyH_take (i := 5) (oi := _) (v := ?_) rfl (by kernel_rfl) (by kernel_rfl) (by kernel_rfl) (fun _ _ _ h => h) (Or.inl ⟨by rfl, ?_⟩) (by assumption) ?_; rotate_left; (focus (intro w hSw; (try dsimp only at hSw); go_simp; (try with_reducible rfl))); (try simp only [Act.put, List.setIfInBounds_toArray, List.set_cons_zero, List.set_cons_succ, List.getElem_toArray, List.getElem_cons_zero, List.getElem_cons_succ]); refine wpAnyH_take (i := 6) (oi := _) (v := ?_) rfl (by kernel_rfl) (by kernel_rfl) (by kernel_rfl) (fun _ _ _ h => h) (Or.inl ⟨by rfl, ?_⟩) (by assumption) ?_; rotate_left; (focus (intro w hSw; (try dsimp only at hSw); go_simp; (try with_reducible rfl))); (try simp only [Act.put, List.setIfInBounds_toArray, List.set_cons_zero, List.set_cons_succ, List.getElem_toArray, List.getElem_cons_zero, List.getElem_cons_succ]); refine wpAnyH_take (i := 7) (oi := _) (v := ?_) rfl (by kernel_rfl) (by kernel_rfl) (by kernel_rfl) (fun _ _ _ h => h) (Or.inl ⟨by rfl, ?_⟩) (by assumption) ?_; rotate_left; (focus (intro w hSw; (try dsimp only at hSw); go_simp; (try with_reducible rfl))); (try simp only [Act.put, List.setIfInBounds_toArray, List.set_cons_zero, List.set_cons_succ, List.getElem_toArray, List.getElem_cons_zero, List.getElem_cons_succ]); refine wpAnyH_done (by kernel_rfl) ?_ _)
  simp only [NoP]
  have hGd : Grow w W.drew := hgW.drew
  have hod : OdX ks ⟨(ll, .slice la ks.length lcap), Hmem.out⟩ W.drew := by
    show IsInts W.drew (.slice la ks.length lcap) (natL ll)
    rw [← Hnl.out]
    exact Hint.out.grow hGd
  obtain ⟨fn, tmps, assign, body, hyl, hRd⟩ := HY.out pre F ⟨(ll, .slice la ks.length lcap), Hmem.out⟩ W.drew (HJ.out.grow Hj.out hGd) (fun b hb => Nat.lt_of_lt_of_le (HF.out b hb) hGd.size) hod hN
  have hWh : W.drew.heap.size = W.heap.size := rfl
  obtain ⟨V, hV⟩ : ∃ V, W.drew = V := ⟨_, rfl⟩
  have v1 : V.cell? ⟨W1, 0, none⟩ = some (.slice la ks.length lcap) := by rw [← hV]; exact hW10
  have v2 : V.cell? ⟨Y, 0, none⟩ = some (.func (.yield l0) #[] #[]) := by rw [← hV]; exact c2
  have v3 : V.cell? ⟨W2, 0, none⟩ = some (.bool false) := by rw [← hV]; exact hW20
  have v4 : ∀ o, V.frozen? ⟨W2, o, none⟩ = false := fun o => by rw [← hV]; exact hWf2 o
  rw [hV] at hyl hRd hGd ⊢
  have hTW2 : ¬ TF T F W2 := fun h => h.elim (fun h => by have := hTB _ h; omega) (fun h => by have := HF.out _ h; omega)
  clear hV hod hWh hW00 hW01 hW02 hW10 hW20 hWf0 hWf1 hWf2 c1 c2 c4 hHeld
  dsimp only at hyl
  gi_wp2
  refine hRd.mono ?_
  rintro e V2 ⟨hkf, hkp, hd⟩
  obtain ⟨bb, rfl, hd⟩ : ∃ bb : Bool, e = .returned (.bool bb) ∧ ((bb = true ∧ ∃ F', Fp F F' V V2 ∧ J (pre ++ [⟨(ll, .slice la ks.length lcap), Hmem.out⟩]) F' V2) ∨ (bb = false ∧ ∃ F', Fp F F' V V2 ∧ Jx (pre ++ [⟨(ll, .slice la ks.length lcap), Hmem.out⟩]) F' V2)) := by
    rcases hd with ⟨rfl, h⟩ | ⟨rfl, h⟩
    · exact ⟨true, rfl, .inl ⟨rfl, h⟩⟩
    · exact ⟨false, rfl, .inr ⟨rfl, h⟩⟩
  have Hd := Lib.hid hd
  clear hd
  have x3 := hkp.cell hTW2 v3
  have x4 : ∀ o, V2.frozen? ⟨W2, o, none⟩ = false := fun o => (hkp.hot hTW2 v3 o).trans (v4 o)
  have x5 := lt_of_cell x3
  gi_wp2
  have x6 : (V2.setCell ⟨W2, 0, none⟩ (.bool bb)).cell? ⟨W2, 0, none⟩ = some (.bool bb) := World.cell?_setCell_same' _ _ _ (by rw [x3]; rfl)
  have hlt2 := lt_of_cell v3
  refine ⟨.bool bb, by simp [results, Try.results79, go_sem, x6], ((kf_grow hGd).trans hkf).trans (kf_set _ _ _ _), ((KpT.grow hGd).trans hkp).setNew hWb2 _ _, ?_⟩
  have key : ∀ {F' : Nat → Prop}, Fp F F' V V2 → ∀ r, some W2 = some r → B ≤ r ∧ ((∃ o : Obj, V2.heap[r]? = some o ∧ o.isCells = false) ∨ ¬ F' r) := fun {F'} h r e => by
    cases e
    refine ⟨by omega, .inr fun hf => ?_⟩
    rcases h.1 _ hf with h1 | h1
    · have := HF.out _ h1; omega
    · omega
  rcases Hd.out with ⟨h1, F', hF', hx⟩ | ⟨h1, F', hF', hx⟩
  · injection h1 with h1
    injection h1 with h1
    subst h1
    exact ⟨F', (hF'.old hGd.size).new (by simp), .inl ⟨rfl, [⟨(ll, .slice la ks.length lcap), Hmem.out⟩], by simp [ordersF], HJ.out _ _ _ _ _ hx (bySet V2 W2 0 _) (key hF')⟩⟩
  · injection h1 with h1
    injection h1 with h1
    subst h1
    exact ⟨F', (hF'.old hGd.size).new (by simp), .inr ⟨rfl, [⟨(ll, .slice la ks.length lcap), Hmem.out⟩], by simp [ordersF], HJx.out _ _ _ _ _ hx (bySet V2 W2 0 _) (key hF'), by simp, fun x e => by
      have e : some _ = some x := e
      cases e
      have hown := ((KpT.grow hGd).trans hkp).own2 (fun b hb h => h.elim (fun h => by have := hTB _ h; have := (Hlv.out.lt b hb).1; omega) (hlf b hb)) Hlv.out
      refine ⟨?_, fun b hb => .inl hb⟩
      show IsInts _ (.slice la ks.length lcap) (natL ll)
      rw [← Hnl.out]
      exact (hown.ints (by rw [Hnl.out]; omega)).kept (bySet V2 W2 0 _) (.inr fun h => by have := Hlv.out.ne (b := W2) (by omega); exact this h)⟩⟩
end Go.Proofs.Ytbeglemohfbdfaa
namespace Go.Proofs.Ytbeglemohfbdfaa
open Go.RowKit Go.Instr

attribute [local go_sem] Oper.semAt_some

theorem nextsTo_prefix (ks : List (Int × Int)) (s : St) {k : Nat} (hk : k ≤ ks.length) : nextsTo ks s k <+: nexts ks s := by
  unfold nextsTo nexts
  have h : List.range k = (List.range ks.length).take k := by rw [List.take_range, Nat.min_eq_left hk]
  rw [h]
  exact List.IsPrefix.map _ (List.IsPrefix.filter _ (List.take_prefix _ _))
/-- What has come of what can come next. -/
def outOf (ks : List (Int × Int)) (m : Nat) (ll : List Nat) (os : List St) : List (List Nat) := os.flatMap fun o => (ordersF ks m o).map fun t => ll ++ (o.last.toNat :: t)
theorem outOf_all (ks : List (Int × Int)) (m : Nat) (ll : List Nat) (s : St) : outOf ks m ll (nexts ks s) = (ordersF ks (m + 1) s).map (ll ++ ·) := by
  unfold outOf
  rw [ordersF, List.map_flatMap]
  simp only [List.map_map]
  rfl
theorem outOf_snoc (ks : List (Int × Int)) (m : Nat) (ll : List Nat) (os : List St) (o : St) : outOf ks m ll (os ++ [o]) = outOf ks m ll os ++ (ordersF ks m o).map fun t => ll ++ (o.last.toNat :: t) := by simp [outOf]
theorem outOf_len (ks : List (Int × Int)) (hl : ks.length ≤ 6) (m : Nat) (ll : List Nat) (os : List St) : (outOf ks m ll os).length ≤ os.length * 6 ^ m := by
  unfold outOf
  rw [List.length_flatMap]
  exact sum_le _ _ _ fun o _ => by rw [List.length_map]; exact ordersF_len ks hl m o
theorem outOf_prefix {ks : List (Int × Int)} {m : Nat} {ll : List Nat} {os : List St} {s : St} (h : os <+: nexts ks s) : outOf ks m ll os <+: (ordersF ks (m + 1) s).map (ll ++ ·) := by
  obtain ⟨r, hr⟩ := h
  rw [← outOf_all, ← hr]
  exact ⟨outOf ks m ll r, by simp [outOf]⟩
theorem kf_rows {B : Nat} {w X Z : World} {row : Option Nat} (h : KeepsFrom B w X) (hg : X.grownBy Z row) (hr : ∀ r, row = some r → w.heap.size ≤ r) : KeepsFrom B w Z :=
  ⟨Nat.le_trans h.size hg.size, fun k o hb hk ho => by
    have h1 := h.same k o hb hk ho
    exact (hg.block k (Array.getElem?_eq_some_iff.1 h1).1 fun e => by have := hr k e.symm; have := (Array.getElem?_eq_some_iff.1 hk).1; omega).trans h1⟩
theorem kp_rows {T : Nat → Prop} {w X Z : World} {row : Option Nat} (h : KpT T w X) (hg : X.grownBy Z row) (hr : ∀ r, row = some r → w.heap.size ≤ r) : KpT T w Z :=
  ⟨Nat.le_trans h.1 hg.size, fun k o hb hk ho => by
    have h1 := h.2 k o hb hk ho
    exact (hg.block k (Array.getElem?_eq_some_iff.1 h1).1 fun e => by have := hr k e.symm; have := (Array.getElem?_eq_some_iff.1 hk).1; omega).trans h1⟩
theorem pinfo_int7 : (Try.prog.info? 3).map (fun i => (i.zero, i.size, i.bytes)) = some (some (.int .i64 0), 1, 8) := by kernel_rfl
/-- What is said of going on from a state. -/
def OnSaid (T : Nat → Prop) (C Y On c l0 B N : Nat) (a : Option Addr) (cap : Nat) (ks : List (Int × Int)) (J Jx : List (Od ks) → (Nat → Prop) → World → Prop) (m : Nat) : Prop :=
  ∀ (s : St) (ll : List Nat) (lv : Value) (pre : List (Od ks)) (F : Nat → Prop) (w : World), leftN ks s = m → OkSt ks s → ll.length + m = ks.length → (∀ t ∈ ordersF ks m s, ll ++ t ∈ ordersL ks) → pre.length + 6 ^ m ≤ N → Own w B 3 lv ((natL ll).map (Value.int .i64)) → OEnv C Y On c l0 a cap ks w → Apart (TF T F) C Y On c a → (∀ b, lv.ownBlock = some b → ¬ F b) → B ≤ w.heap.size → (∀ b, F b → b < w.heap.size) → J pre F w →
    Calls Try.prog 79 #[stV s, lv, .pointer (some ⟨C, 0, none⟩), .pointer (some ⟨Y, 0, none⟩), .pointer (some ⟨On, 0, none⟩)] w (OnPost T B ks J Jx m s ll lv pre F w)
set_option maxRecDepth 100000 in
set_option maxHeartbeats 4000000 in
theorem pon_succ (T : Nat → Prop) (C Y On c l0 B N : Nat) (a : Option Addr) (cap : Nat) (ks : List (Int × Int)) (hl : ks.length ≤ 6) (hks : ∀ p, p < ks.length → 0 ≤ lo ks p ∧ lo ks p ≤ 1000 ∧ hi ks p ≤ 203) (hTB : ∀ b, T b → b < B) (J Jx : List (Od ks) → (Nat → Prop) → World → Prop) (hJ : OwnFp B J) (hJx : OwnFp B Jx)
    (m : Nat) (ih : OnSaid T C Y On c l0 B N a cap ks J Jx m) : OnSaid T C Y On c l0 B N a cap ks J Jx (m + 1) := by
  intro s ll lv pre F w hm hok hll hmem hN hlv henv hA hlf hB hF hj
  have hnl : (natL ll).length = ll.length := by rw [natL, List.length_map]
  have hint : IsInts w lv (natL ll) := hlv.ints (by rw [hnl]; omega)
  have Hint := Lib.hid hint
  have Hlv := Lib.hid hlv
  obtain ⟨la, lcap, rfl, _⟩ := hint
  have HJ := Lib.hid hJ
  have HJx := Lib.hid hJx
  have Hj := Lib.hid hj
  have Hmem := Lib.hid hmem
  have HF := Lib.hid hF
  have Hm := Lib.hid hm
  have Hih := Lib.hid ih
  have Hok := Lib.hid hok
  have Henv := Lib.hid henv
  obtain ⟨e1, e2, e3, e4, e5⟩ := henv
  have H5 := Lib.hid e5
  have hC := lt_of_cell e1
  have hYl := lt_of_cell e2
  have hcl := lt_of_cell e4
  have hlt : ((ll.length : Int) == (ks.length : Int)) = false := by rw [beq_eq_false_iff_ne]; omega
  have hltn : (ll.length == ks.length) = false := by rw [beq_eq_false_iff_ne]; omega
  rw [hnl]
  rw [hnl] at Hint Hlv hlf
  clear hJ hJx hj hmem hlv e5 hnl hF hm ih hok
  have hst : stV s = .agg #[.int .u64 s.placed, .int .i64 s.last, .int .i64 s.time] := rfl
  rw [hst]
  clear hst
  refine (callsIn_wide (n := 10)).1 (callsIn_of_wp_marks Try.func79 rfl trivial ?_ rfl)
  simp only [Try.ntmps79, List.size_toArray, List.length_cons, List.length_nil, Nat.reduceAdd, Nat.reduceSub, Array.replicate_succ, Array.replicate_zero, List.push_toArray, List.append_toArray, List.nil_append, List.cons_append]
  gi_wp2
  refine wpIn_wide.2 (wp_noP ?_)
  obtain ⟨W, hW⟩ : ∃ W, W = (((w.alloc (.cells #[.int .u64 s.placed, .int .i64 s.last, .int .i64 s.time] 113)).alloc (.cells #[.slice la ll.length lcap] 40)).alloc (.cells #[.bool false] 4)) := ⟨_, rfl⟩
  have hgW : Grow w W := by rw [hW]; exact ((((Grow.refl w).alloc _).alloc _).alloc _)
  have hW00 : W.cell? ⟨w.heap.size, 0, none⟩ = some (.int .u64 s.placed) := by rw [hW]; exact Grow.keepA (Grow.keepA (cell_new (by simp) rfl) _) _
  have hW01 : W.cell? ⟨w.heap.size, 1, none⟩ = some (.int .i64 s.last) := by rw [hW]; exact Grow.keepA (Grow.keepA (cell_new (by simp) rfl) _) _
  have hW02 : W.cell? ⟨w.heap.size, 2, none⟩ = some (.int .i64 s.time) := by rw [hW]; exact Grow.keepA (Grow.keepA (cell_new (by simp) rfl) _) _
  have hWf0 : ∀ o, W.frozen? ⟨w.heap.size, o, none⟩ = false := by intro o; rw [hW]; exact (((Grow.refl _).alloc _).marks _ _ (by simp <;> omega)).trans ((((Grow.refl _).alloc _).marks _ _ (by simp <;> omega)).trans (hot_new (by simp)))
  have hWl0 : w.heap.size < W.heap.size := by rw [hW]; simp; try omega
  have hW10 : W.cell? ⟨w.heap.size + 1, 0, none⟩ = some (.slice la ll.length lcap) := by rw [hW]; exact Grow.keepA (cell_new (by simp) rfl) _
  have hWf1 : ∀ o, W.frozen? ⟨w.heap.size + 1, o, none⟩ = false := by intro o; rw [hW]; exact (((Grow.refl _).alloc _).marks _ _ (by simp <;> omega)).trans (hot_new (by simp))
  have hWl1 : w.heap.size + 1 < W.heap.size := by rw [hW]; simp; try omega
  have hW20 : W.cell? ⟨w.heap.size + 1 + 1, 0, none⟩ = some (.bool false) := by rw [hW]; exact cell_new (by simp) rfl
  have hWf2 : ∀ o, W.frozen? ⟨w.heap.size + 1 + 1, o, none⟩ = false := by intro o; rw [hW]; exact hot_new (by simp)
  have hWl2 : w.heap.size + 1 + 1 < W.heap.size := by rw [hW]; simp; try omega
  rw [← hW]
  clear hW
  have hWd : ∀ n, (W.drewN n).heap.size = W.heap.size := fun _ => rfl
  have hWq : ∀ n o b j, b < W.heap.size → ((W.drewN n).alloc o).cell? ⟨b, j, none⟩ = W.cell? ⟨b, j, none⟩ := cell_drewN_alloc W
  have hWr : ∀ n o b j, b < W.heap.size → ((W.drewN n).alloc o).frozen? ⟨b, j, none⟩ = W.frozen? ⟨b, j, none⟩ := hot_drewN_alloc W
  have hWb0 : w.heap.size ≤ w.heap.size := by omega
  have hWb1 : w.heap.size ≤ w.heap.size + 1 := by omega
  have hWn01 : w.heap.size ≠ w.heap.size + 1 := by omega
  have hWn10 : w.heap.size + 1 ≠ w.heap.size := by omega
  have hWb2 : w.heap.size ≤ w.heap.size + 1 + 1 := by omega
  have hWn02 : w.heap.size ≠ w.heap.size + 1 + 1 := by omega
  have hWn20 : w.heap.size + 1 + 1 ≠ w.heap.size := by omega
  have hWn12 : w.heap.size + 1 ≠ w.heap.size + 1 + 1 := by omega
  have hWn21 : w.heap.size + 1 + 1 ≠ w.heap.size + 1 := by omega
  obtain ⟨W2, hWe2⟩ : ∃ g, w.heap.size + 1 + 1 = g := ⟨_, rfl⟩
  rw [hWe2] at hW20 hWf2 hWl2 hWb2 hWn20 hWn21 hWn02 hWn12
  (try rw [hWe2])
  have hWk2 := Lib.hid hWe2
  clear hWe2
  obtain ⟨W1, hWe1⟩ : ∃ g, w.heap.size + 1 = g := ⟨_, rfl⟩
  rw [hWe1] at hW10 hWf1 hWl1 hWb1 hWn10 hWn12 hWn01 hWn21
  (try rw [hWe1])
  have hWk1 := Lib.hid hWe1
  clear hWe1
  obtain ⟨W0, hWe0⟩ : ∃ g, w.heap.size = g := ⟨_, rfl⟩
  have hWb0 : w.heap.size ≤ W0 := by omega
  rw [hWe0] at hW00 hW01 hW02 hWf0 hWl0 hWn01 hWn02 hWn10 hWn20
  (try rw [hWe0])
  have hWk0 := Lib.hid hWe0
  clear hWe0
  have c1 := hgW.keeps e1
  have c2 := hgW.keeps e2
  have c4 := hgW.keeps e4
  (refine wp_region_held_drew (S := fun Vx => Vx.cell? ⟨W1, 0, none⟩ = some (.slice la ll.length lcap) ∧ Vx.cell? ⟨C, 0, none⟩ = some (.pointer (some ⟨c, 0, none⟩)) ∧ Vx.cell? ⟨c, 3, none⟩ = some (.slice a ks.length cap)) (by kernel_rfl) (⟨hW10, c1, c4⟩) (fun hHeld => ?_); refine wpAnyH_take (i := 0) (oi := _) (v := ?_) rfl (by kernel_rfl) (by kernel_rfl) (by kernel_rfl) (fun _ _ _ h => h) (Or.inl ⟨by rfl, ?_⟩) (by assumption) ?_; rotate_left; (focus (intro w hSw; (try dsimp only at hSw); go_simp; (try with_reducible rfl))); (try simp only [Act.put, List.setIfInBounds_toArray, List.set_cons_zero, List.set_cons_succ, List.getElem_toArray, List.getElem_cons_zero]); refine wpAnyH_take (i := 1) (oi := _) (v := ?_) rfl (by kernel_rfl) (by kernel_rfl) (by kernel_rfl) (fun _ _ _ h => h) (Or.inl ⟨by rfl, ?_⟩) (by assumption) ?_; rotate_left; (focus (intro w hSw; (try dsimp only at hSw); go_simp; (try with_reducible rfl))); (try simp only [Act.put, List.setIfInBounds_toArray, List.set_cons_zero, List.set_cons_succ, List.getElem_toArray, List.getElem_cons_zero, List.getElem_cons_succ]); refine wpAnyH_take (i := 2) (oi := _) (v := ?_) rfl (by kernel_rfl) (by kernel_rfl) (by kernel_rfl) (fun _ _ _ h => h) (Or.inl ⟨by rfl, ?_⟩) (by assumption) ?_; rotate_left; (focus (intro w hSw; (try dsimp only at hSw); go_simp; (try with_reducible rfl))); (try simp only [Act.put, List.setIfInBounds_toArray, List.set_cons_zero, List.set_cons_succ, List.getElem_toArray, List.getElem_cons_zero, List.getElem_cons_succ]); refine wpAnyH_take (i := 3) (oi := _) (v := ?_) rfl (by kernel_rfl) (by kernel_rfl) (by kernel_rfl) (fun _ _ _ h => h) (Or.inl ⟨by rfl, ?_⟩) (by assumption) ?_; rotate_left; (focus (intro w hSw; (try dsimp only at hSw); go_simp; (try with_reducible rfl))); (try simp only [Act.put, List.setIfInBounds_toArray, List.set_cons_zero, List.set_cons_succ, List.getElem_toArray, List.getElem_cons_zero, List.getElem_cons_succ]); refine wpAnyH_take (i := 4) (oi := _) (v := ?_) rfl (by kernel_rfl) (by kernel_rfl) (by kernel_rfl) (fun _ _ _ h => h) (Or.inl ⟨by rfl, ?_⟩) (by assumption) ?_; rotate_left; (focus (intro w hSw; (try dsimp only at hSw); go_simp; (try with_reducible rfl))); (try simp only [Act.put, List.setIfInBounds_toArray, List.set_cons_zero, List.set_cons_succ, List.getElem_toArray, List.getElem_cons_zero, List.getElem_cons_succ]); refine wpAnyH_take (i := 5) (oi := _) (v := ?_) rfl (by kernel_rfl) (by kernel_rfl) (by kernel_rfl) (fun _ _ _ h => h) (Or.inl ⟨by rfl, ?_⟩) (by assumption) ?_; rotate_left; (focus (intro w hSw; (try dsimp only at hSw); go_simp; (try with_reducible rfl))); (try simp only [Act.put, List.setIfInBounds_toArray, List.set_cons_zero, List.set_cons_succ, List.getElem_toArray, List.getElem_cons_zero, List.getElem_cons_succ]); refine wpAnyH_take (i := 6) (oi := _) (v := ?_) rfl (by kernel_rfl) (by kernel_rfl) (by kernel_rfl) (fun _ _ _ h => h) (Or.inl ⟨by rfl, ?_⟩) (by assumption) ?_; rotate_left; (focus (intro w hSw; (try dsimp only at hSw); go_simp; (try with_reducible rfl))); (try simp only [Act.put, List.setIfInBounds_toArray, List.set_cons_zero, List.set_cons_succ, List.getElem_toArray, List.getElem_cons_zero, List.getElem_cons_succ]); refine wpAnyH_take (i := 7) (oi := _) (v := ?_) rfl (by kernel_rfl) (by kernel_rfl) (by kernel_rfl) (fun _ _ _ h => h) (Or.inl ⟨by rfl, ?_⟩) (by assumption) ?_; rotate_left; (focus (intro w hSw; (try dsimp only at hSw); go_simp; (try with_reducible rfl))); (try simp only [Act.put, List.setIfInBounds_toArray, List.set_cons_zero, List.set_cons_succ, List.getElem_toArray, List.getElem_cons_zero, List.getElem_cons_succ]); refine wpAnyH_done (by kernel_rfl) ?_ _)
  simp only [NoP]
  have hGd : Grow w W.drew := hgW.drew
  obtain ⟨V, hV⟩ : ∃ V, W.drew = V := ⟨_, rfl⟩
  have hVs : V.heap.size = W.heap.size := by rw [← hV]; rfl
  have v1 : V.cell? ⟨W1, 0, none⟩ = some (.slice la ll.length lcap) := by rw [← hV]; exact hW10
  have v2 : V.cell? ⟨C, 0, none⟩ = some (.pointer (some ⟨c, 0, none⟩)) := by rw [← hV]; exact c1
  have v3 : V.cell? ⟨W2, 0, none⟩ = some (.bool false) := by rw [← hV]; exact hW20
  have v4 : ∀ o, V.frozen? ⟨W2, o, none⟩ = false := fun o => by rw [← hV]; exact hWf2 o
  have v5 : V.cell? ⟨W0, 0, none⟩ = some (.int .u64 s.placed) := by rw [← hV]; exact hW00
  have v6 : V.cell? ⟨W0, 1, none⟩ = some (.int .i64 s.last) := by rw [← hV]; exact hW01
  have v7 : V.cell? ⟨W0, 2, none⟩ = some (.int .i64 s.time) := by rw [← hV]; exact hW02
  rw [hV] at hGd ⊢
  have hTn : ∀ b, w.heap.size ≤ b → ¬ TF T F b := fun b hb h => h.elim (fun h => by have := hTB _ h; omega) (fun h => by have := HF.out _ h; omega)
  clear hV hW00 hW01 hW02 hW10 hW20 hWf0 hWf1 hWf2 c1 c2 c4 hHeld
  gi_wp2
  refine ⟨trivial, (callsIn_wide.2 (pnext_any c a cap ks s _ (hGd.keeps e4) (H5.out.grow hGd))).mono ?_⟩
  rintro e w1 ⟨C1, S1, rfl, hR1, hC1, hS1, hg1⟩
  gi_wp2
  have hGw : Grow w w1 := hGd.trans hg1
  have r1 := hg1.keeps v1
  have r2 := hg1.keeps v2
  have r3 := hg1.keeps v3
  have r4 : ∀ o, w1.frozen? ⟨W2, o, none⟩ = false := fun o => (hg1.marks _ _ (lt_of_cell v3)).trans (v4 o)
  have HR1 := Lib.hid hR1
  have hw1s : W.heap.size ≤ w1.heap.size := by have := hg1.size; omega
  have hE : ∀ args w, (callFunc 96 args).run Try.prog w = .ok (.enter 96 args) w := enters_of Try.func96 (by kernel_rfl) rfl
  have hseq := pnext1_stops C1 S1 c a cap ks s w1 hR1 hl ⟨Nat.lt_of_lt_of_le Hok.out.lt (Nat.pow_le_pow_right (by decide) hl), by have := Hok.out.last; omega, by have := Hok.out.last; omega, Hok.out.time.1, by have := Hok.out.time; omega⟩ (fun p hp => ⟨(hks p hp).1, (hks p hp).2.1⟩)
  refine wp_range (g := .tmp 23) (gf := 96) (lb := #[.pointer (some ⟨C1, 0, none⟩), .pointer (some ⟨S1, 0, none⟩)]) rfl hE hseq (fun _ _ _ _ _ _ _ _ => trivial) (fun {F X Y Z} h k hx => k (h hx)) (fun F W l o o' hl hlo hoc h => h.put o' hlo hoc) (Grow.refl _) (fun _ => rfl)
    (fun pre' Fo Wx => KeepsFrom B w Wx ∧ KpT (TF T F) w Wx ∧ KpT (TF T F) w1 Wx ∧ ∃ (G : Nat → Prop) (xs : List (Od ks)), Fp F G w1 Wx ∧ (∀ b, G b → b < w1.heap.size ∨ Fo b) ∧ xs.map (·.1.1) = outOf ks m ll (pre'.map (·.1)) ∧ J (pre ++ xs) G Wx)
    (fun cc pre' Fo Wx => cc = .ret ∧ KeepsFrom B w Wx ∧ KpT (TF T F) w Wx ∧ Wx.cell? ⟨W2, 0, none⟩ = some (.bool false) ∧ ∃ (G : Nat → Prop) (xs : List (Od ks)), Fp F G w1 Wx ∧ (∀ b, G b → b < w1.heap.size ∨ Fo b) ∧ xs.map (·.1.1) <+: outOf ks m ll (pre'.map (·.1)) ∧ Jx (pre ++ xs) G Wx ∧ LastIn ks w.heap.size Fo xs Wx)
    ?hI ?hIx ?h0
    (fun x a' Wx => ∃ Bx, w1.heap.size ≤ Bx ∧ Wx.cell? ⟨Bx, 0, none⟩ = some (.int .u64 x.1.placed) ∧ Wx.cell? ⟨Bx, 1, none⟩ = some (.int .i64 x.1.last) ∧ Wx.cell? ⟨Bx, 2, none⟩ = some (.int .i64 x.1.time) ∧ a' = { tmps := #[.agg #[.int .u64 s.placed, .int .i64 s.last, .int .i64 s.time], .slice la ll.length lcap, .pointer (some ⟨C, 0, none⟩), .pointer (some ⟨Y, 0, none⟩), .pointer (some ⟨On, 0, none⟩), .pointer (some ⟨W0, 0, none⟩), .pointer (some ⟨W1, 0, none⟩), .pointer (some ⟨W2, 0, none⟩), .pointer (some ⟨Bx, 0, none⟩), undef, .slice la ll.length lcap, .int .i64 ll.length, .pointer (some ⟨c, 0, none⟩), .pointer (some ⟨c, 0, none⟩), .pointer (some ⟨c, 3, none⟩), .slice a ks.length cap, .int .i64 ks.length, .bool false, undef, undef, undef, .pointer (some ⟨c, 0, none⟩), .agg #[.int .u64 s.placed, .int .i64 s.last, .int .i64 s.time], .func (.func 96) #[] #[.pointer (some ⟨C1, 0, none⟩), .pointer (some ⟨S1, 0, none⟩)], stV x.1, undef, undef, undef, undef, undef, undef, undef, undef, undef, undef, undef, undef, undef, undef, undef, undef, undef, undef], defers := [] }) ?hAx ?assign ?body ?done ?stop
  case hI =>
    rintro pre' Fo X Z row ⟨i1, i2, i3, G, xs, i4, i5, i6, i7⟩ hg hr
    have hrow : ∀ r, row = some r → w1.heap.size ≤ r := fun r e => (hr r e).1
    refine ⟨kf_rows i1 hg (fun r e => Nat.le_trans hGw.size (hrow r e)), kp_rows i2 hg (fun r e => Nat.le_trans hGw.size (hrow r e)), kp_rows i3 hg hrow, G, xs, i4.new hg.size, i5, i6, HJ.out _ _ _ _ _ i7 hg fun r e => ⟨Nat.le_trans hB (Nat.le_trans hGw.size (hrow r e)), (hr r e).2.imp id fun k h => ?_⟩⟩
    rcases i5 r h with h | h
    · have := hrow r e; omega
    · exact k h
  case hIx =>
    rintro cc pre' Fo X Z row ⟨i0, i1, i2, i3, G, xs, i4, i5, i6, i7, i8, i9⟩ hg hr
    have hrow : ∀ r, row = some r → w1.heap.size ≤ r := fun r e => (hr r e).1
    refine ⟨i0, kf_rows i1 hg (fun r e => Nat.le_trans hGw.size (hrow r e)), kp_rows i2 hg (fun r e => Nat.le_trans hGw.size (hrow r e)), byCell1 hg i3 (fun e => by have := hrow _ e; omega), G, xs, i4.new hg.size, i5, i6, HJx.out _ _ _ _ _ i7 hg fun r e => ⟨Nat.le_trans hB (Nat.le_trans hGw.size (hrow r e)), (hr r e).2.imp id fun k h => ?_⟩, i8, fun x hx => ⟨?_, (i9 x hx).2⟩⟩
    · rcases i5 r h with h | h
      · have := hrow r e; omega
      · exact k h
    · by_cases hrb : x.1.2.ownBlock = row
      · refine (i9 x hx).1.keptN hg fun r e => (hr r e).2.resolve_right fun k => k ((i9 x hx).2 r (hrb.trans e)).2
      · exact (i9 x hx).1.kept hg hrb
  case h0 => exact ⟨kf_grow hGw, KpT.grow hGw, KpT.refl _ _, F, [], ⟨fun b hb => .inl hb, fun b hb => Nat.lt_of_lt_of_le (HF.out b hb) hGw.size⟩, fun b hb => .inl (Nat.lt_of_lt_of_le (HF.out b hb) hGw.size), rfl, by rw [List.append_nil]; exact HJ.out.grow Hj.out hGw⟩
  case hAx =>
    rintro x a' _ X Y row ⟨Bx, h1, h2, h3, h4, rfl⟩ hg hr
    exact ⟨Bx, h1, cell_kept h2 hg (fun r e => (hr r e).2), cell_kept h3 hg (fun r e => (hr r e).2), cell_kept h4 hg (fun r e => (hr r e).2), rfl⟩
  case assign =>
    rintro l pre' Fo x Wx K9 hwl hi hFo _ hK
    simp only [stV]
    obtain ⟨i1, i2, i3, G, xs, i4, i5, i6, i7⟩ := hi
    gi_wp2
    have hGW : Grow Wx (Wx.alloc (.cells #[.int .u64 x.1.placed, .int .i64 x.1.last, .int .i64 x.1.time] 113)) := (Grow.refl Wx).alloc _
    exact hK _ _ ((KeepsOthers.alloc _ _).from _) (fun h => h.grow hGW) ⟨i1.trans (kf_grow hGW), i2.trans (KpT.grow hGW), i3.trans (KpT.grow hGW), G, xs, i4.new hGW.size, i5, i6, HJ.out.grow i7 hGW⟩ trivial ⟨Wx.heap.size, i3.1, cell_new rfl rfl, cell_new rfl rfl, cell_new rfl rfl, rfl⟩
  case body =>
    rintro l pre' Fo x a' Wx hwl ⟨i1, i2, i3, G, xs, i4, i5, i6, i7⟩ hFo _ ⟨Bx, hBx, b1, b2, b3, rfl⟩ hlen
    obtain ⟨y, hy⟩ := x
    dsimp only at b1 b2 b3
    obtain ⟨j0, hj0, hj1, hj2, hj3⟩ := info_parts pinfo_int7
    have q1 := i3.cell (hTn W1 hWb1) r1
    have hlW1 := lt_of_cell q1
    have ownL := i2.own2 (fun b hb h => h.elim (fun h => by have := hTB _ h; have := (Hlv.out.lt b hb).1; omega) (hlf b hb)) Hlv.out
    have haW : ∀ b o, a = some ⟨b, o, none⟩ → b < w.heap.size := fun b o e => by
      have hk0 : ks[0]? = some ks[0] := List.getElem?_eq_getElem (by omega)
      obtain ⟨b', o', e', h1, _⟩ := H5.out 0 _ hk0
      rw [e] at e'
      cases e'
      exact lt_of_cell h1
    have hOw := lt_of_cell Henv.out.self
    have hws := hGw.size
    have hAG : Apart (TF T G) C Y On c a := hA.fp i4.1 (by omega) (by omega) (by omega) (by omega) (fun b o e => by have := haW b o e; omega)
    have hTG : ∀ b, w.heap.size ≤ b → b < w1.heap.size → ¬ TF T G b := fun b hb hb1 h => hTn b hb (h.imp id fun g => (i4.1 b g).resolve_right (by omega))
    have hlw := hw1s
    refine wpIn_block (wpIn_seq (wpIn_region_plain l _ (by kernel_rfl) (no_out_then (no_out_inBlock no_out_postC)) ?_))
    go_wp2_with (at_make; refine wpl_makeR _ rfl _ _ 40 rfl Wx.heap.size 3 j0 _ (by kernel_rfl) hj0 hj1 hj2 rfl _ _ ll.length (ll.length + 1) rfl rfl rfl (by omega) (by omega) (by rw [hj3]; omega) (by simp only [maxLen]; omega) (Nat.le_refl _) ?_; intro Wy hown1 hg2)
    obtain ⟨la', lcap', hE', _, _, rowL⟩ := ownL.row
    have hui : Try.prog.underlying 40 = some (.slice 3) := by kernel_rfl
    have hnl : ((natL ll).map (Value.int .i64)).length = ll.length := by simp [natL]
    rw [hnl] at hE'
    cases hE'
    have q2 := hg2.keeps q1
    refine wpIn_seq (wpIn_region_plain l _ (by kernel_rfl) (no_out_then (no_out_inBlock no_out_postC)) ?_)
    go_wp2_with (refine wpl_copyR rfl (.tmp 31) (.tmp 32) 40 40 rfl 3 hui (by kernel_rfl) Wx.heap.size 3 Wx.heap.size ll.length (ll.length + 1) lcap la _ ((natL ll).map (Value.int .i64)) (by simp) (by simp [natL]) (by rfl) (by rfl) hown1 (rowL.grow hg2) (by intro v hv; simp only [natL, List.map_map, List.mem_map] at hv; obtain ⟨_, _, rfl⟩ := hv; rfl) ?_; intro Wz hown2 hg3)
    have hGz : Grow Wx Wz := Below.trans hg2 (grownBy_below hg3 (by intro k hk; injection hk with hk; omega) hg2.size)
    have hzs := hGz.size
    have envX := Henv.out.kp hA i2
    have s1 := hGz.keeps envX.self
    have s2 := hGz.keeps b1
    have s3 := hGz.keeps b2
    have s4 := hGz.keeps b3
    have hBl := lt_of_cell b1
    have hOl := lt_of_cell envX.self
    have EnvX := Lib.hid envX
    have Hown2 := Lib.hid hown2
    have hown1' := hown2.lt Wx.heap.size rfl
    clear envX hown2 hown1 q1 q2 ownL rowL
    have hleft : leftN ks y = m := by have := leftN_next hy; rw [Hm.out] at this; omega
    have hoky : OkSt ks y := Hok.out.next (fun p hp => ⟨(hks p hp).1, (hks p hp).2.2⟩) hy
    have hyl : ((y.last.toNat : Nat) : Int) = y.last := by obtain ⟨p, _, _, rfl⟩ := mem_nexts hy; simp [stepSt]
    have hll2 : (ll ++ [y.last.toNat]).length + m = ks.length := by simp; omega
    have hmem2 : ∀ t ∈ ordersF ks m y, (ll ++ [y.last.toNat]) ++ t ∈ ordersL ks := fun t ht => by
      rw [List.append_assoc]
      refine Hmem.out (y.last.toNat :: t) ?_
      rw [ordersF, List.mem_flatMap]
      exact ⟨y, hy, List.mem_map.2 ⟨t, ht, rfl⟩⟩
    have hxs : xs.length ≤ pre'.length * 6 ^ m := by
      have h1 := congrArg List.length i6
      have h2 := outOf_len ks hl m ll (pre'.map (·.1))
      rw [List.length_map] at h1 h2
      omega
    have hbound : (pre ++ xs).length + 6 ^ m ≤ N := by
      rw [List.length_append]
      have h6 : pre'.length * 6 ^ m ≤ 5 * 6 ^ m := Nat.mul_le_mul_right _ (by omega)
      have h7 : 6 ^ (m + 1) = 6 * 6 ^ m := by rw [Nat.pow_succ, Nat.mul_comm]
      omega
    have hnat : (natL (ll ++ [y.last.toNat])).map (Value.int .i64) = (natL ll).map (Value.int .i64) ++ [.int .i64 y.last] := by simp [natL, hyl]
    have Hcall := Lib.hid (fun (v7 : Value) (W7 : World) (h1 : Own W7 Wx.heap.size 3 v7 ((natL ll).map (Value.int .i64) ++ [.int .i64 y.last])) (h2 : OEnv C Y On c l0 a cap ks W7) (h3 : Wx.heap.size ≤ W7.heap.size) (h4 : J (pre ++ xs) G W7) =>
      Hih.out y (ll ++ [y.last.toNat]) v7 (pre ++ xs) G W7 hleft hoky hll2 hmem2 hbound (by rw [hnat]; exact h1.lower (by omega)) h2 hAG (fun b hb hg => by have := (h1.lt b hb).1; have := i4.2 b hg; omega) (by omega) (fun b hb => Nat.lt_of_lt_of_le (i4.2 b hb) h3) h4)
    clear hleft hoky hll2 hmem2 hxs hbound hnat
    refine wpIn_seq ?_
    have hS0 : Wz.drew.cell? ⟨On, 0, none⟩ = some (.func (.func 79) #[] #[.pointer (some ⟨C, 0, none⟩), .pointer (some ⟨Y, 0, none⟩), .pointer (some ⟨On, 0, none⟩)]) ∧ Wz.drew.cell? ⟨Bx, 0, none⟩ = some (.int .u64 y.placed) ∧ Wz.drew.cell? ⟨Bx, 1, none⟩ = some (.int .i64 y.last) ∧ Wz.drew.cell? ⟨Bx, 2, none⟩ = some (.int .i64 y.time) := ⟨s1, s2, s3, s4⟩
    (refine wpIn_region_left l _ (fun Vx => Vx.cell? ⟨On, 0, none⟩ = some (.func (.func 79) #[] #[.pointer (some ⟨C, 0, none⟩), .pointer (some ⟨Y, 0, none⟩), .pointer (some ⟨On, 0, none⟩)]) ∧ Vx.cell? ⟨Bx, 0, none⟩ = some (.int .u64 y.placed) ∧ Vx.cell? ⟨Bx, 1, none⟩ = some (.int .i64 y.last) ∧ Vx.cell? ⟨Bx, 2, none⟩ = some (.int .i64 y.time)) (fun k => decide (k < 7)) (by kernel_rfl) (by kernel_rfl) (no_out_then (no_out_inBlock no_out_postC)) ?_; refine Left.take 5 (i := 0) (oi := _) (v := ?_) rfl (by kernel_rfl) (by kernel_rfl) (by kernel_rfl) (by kernel_rfl) (fun _ _ _ h => h) (Or.inl ⟨by rfl, ?_⟩) (by assumption) (by kernel_rfl) ?_; rotate_left; (focus (intro w hSw; (try dsimp only at hSw); go_simp; (try with_reducible rfl))); (try simp only [Act.put, List.setIfInBounds_toArray, List.set_cons_zero, List.set_cons_succ, List.getElem_toArray, List.getElem_cons_zero]); refine Left.take 5 (i := 1) (oi := _) (v := ?_) rfl (by kernel_rfl) (by kernel_rfl) (by kernel_rfl) (by kernel_rfl) (fun _ _ _ h => h) (Or.inl ⟨by rfl, ?_⟩) (by assumption) (by kernel_rfl) ?_; rotate_left; (focus (intro w hSw; (try dsimp only at hSw); go_simp; (try with_reducible rfl))); (try simp only [Act.put, List.setIfInBounds_toArray, List.set_cons_zero, List.set_cons_succ, List.getElem_toArray, List.getElem_cons_zero, List.getElem_cons_succ]); refine Left.take 5 (i := 2) (oi := _) (v := ?_) rfl (by kernel_rfl) (by kernel_rfl) (by kernel_rfl) (by kernel_rfl) (fun _ _ _ h => h) (Or.inl ⟨by rfl, ?_⟩) (by assumption) (by kernel_rfl) ?_; rotate_left; (focus (intro w hSw; (try dsimp only at hSw); go_simp; (try with_reducible rfl))); (try simp only [Act.put, List.setIfInBounds_toArray, List.set_cons_zero, List.set_cons_succ, List.getElem_toArray, List.getElem_cons_zero, List.getElem_cons_succ]); refine Left.take 5 (i := 3) (oi := _) (v := ?_) rfl (by kernel_rfl) (by kernel_rfl) (by kernel_rfl) (by kernel_rfl) (fun _ _ _ h => h) (Or.inl ⟨by rfl, ?_⟩) (by assumption) (by kernel_rfl) ?_; rotate_left; (focus (intro w hSw; (try dsimp only at hSw); go_simp; (try with_reducible rfl))); (try simp only [Act.put, List.setIfInBounds_toArray, List.set_cons_zero, List.set_cons_succ, List.getElem_toArray, List.getElem_cons_zero, List.getElem_cons_succ]); refine Left.take 5 (i := 4) (oi := _) (v := ?_) rfl (by kernel_rfl) (by kernel_rfl) (by kernel_rfl) (by kernel_rfl) (fun _ _ _ h => h) (Or.inl ⟨by rfl, ?_⟩) (by assumption) (by kernel_rfl) ?_; rotate_left; (focus (intro w hSw; (try dsimp only at hSw); go_simp; (try with_reducible rfl))); (try simp only [Act.put, List.setIfInBounds_toArray, List.set_cons_zero, List.set_cons_succ, List.getElem_toArray, List.getElem_cons_zero, List.getElem_cons_succ]); refine Left.ready (rs := [5]) (by kernel_rfl) (by simp) ?_; refine LeftAll.cons (o := _) rfl (fun K hK => ?_) LeftAll.nil; (try simp only [List.getElem_toArray, List.getElem_cons_zero, List.getElem_cons_succ]); (try go_simp); (try (go_wp2_with fail)); refine hK.out _ _ ?_ ?_; (focus (intro hJ; first | (exact absurd hJ (by decide)) | (first | assumption | exact ⟨Grow.keepA hS0.1 _, Grow.keepA hS0.2.1 _, Grow.keepA hS0.2.2.1 _, Grow.keepA hS0.2.2.2 _⟩))); clear hK K; (try simp only [Act.put, List.setIfInBounds_toArray, List.set_cons_zero, List.set_cons_succ, List.getElem_toArray, List.getElem_cons_zero, List.getElem_cons_succ]); refine Left.ready (rs := [6]) (by kernel_rfl) (by simp) ?_; refine LeftAll.cons (o := _) rfl (fun K hK => ?_) LeftAll.nil; (try simp only [List.getElem_toArray, List.getElem_cons_zero, List.getElem_cons_succ]); (first | (refine (if_pos (by rfl)).mpr ?_; refine wp_app (.tmp 36) (.tmp 39) 40 rfl Wx.heap.size 3 j0 _ 8 hui hj0 hj1 hj2 hj3 rfl (.slice (some ⟨Wx.heap.size, 0, none⟩) ll.length (ll.length + 1)) ((natL ll).map (Value.int .i64)) (by rfl) (Hown2.out.grow ((Grow.refl Wz).drew.alloc _)) (some ⟨Wz.heap.size, 0, none⟩) 1 [.int .i64 y.last] 1 (by rfl) rfl (fun h => nomatch h) (row_new1 _ _ _ (by simp)) (by simp [Value.oneCell']) (by simp [natL]; omega) (by omega) (by simp; omega) ?_; intro v7 W7 hown7 hg7 hm7; have hS7 : W7.cell? ⟨On, 0, none⟩ = some (.func (.func 79) #[] #[.pointer (some ⟨C, 0, none⟩), .pointer (some ⟨Y, 0, none⟩), .pointer (some ⟨On, 0, none⟩)]) ∧ W7.cell? ⟨Bx, 0, none⟩ = some (.int .u64 y.placed) ∧ W7.cell? ⟨Bx, 1, none⟩ = some (.int .i64 y.last) ∧ W7.cell? ⟨Bx, 2, none⟩ = some (.int .i64 y.time) := ⟨byCell1 hg7 (Grow.keepA hS0.1 _) (fun e => by injection e with e; have e : Wx.heap.size = _ := e; omega), byCell1 hg7 (Grow.keepA hS0.2.1 _) (fun e => by injection e with e; have e : Wx.heap.size = _ := e; omega), byCell1 hg7 (Grow.keepA hS0.2.2.1 _) (fun e => by injection e with e; have e : Wx.heap.size = _ := e; omega), byCell1 hg7 (Grow.keepA hS0.2.2.2 _) (fun e => by injection e with e; have e : Wx.heap.size = _ := e; omega)⟩; have hk7 : ∀ S, KpT S Wx W7 := fun S => kp_rows (KpT.grow (hGz.trans ((Grow.refl Wz).drew.alloc _))) hg7 (fun r e => by injection e with e; have e : Wx.heap.size = _ := e; omega); have hs7 : Wx.heap.size ≤ W7.heap.size := (hk7 noF).1; have hj7 : J (pre ++ xs) G W7 := HJ.out _ _ _ _ _ (HJ.out.grow i7 (hGz.trans ((Grow.refl Wz).drew.alloc _))) hg7 (fun r e => by injection e with e; have e : Wx.heap.size = _ := e; subst e; exact ⟨by omega, .inr fun hG => by have := i4.2 _ hG; omega⟩); have env7 := EnvX.out.kp hA (hk7 _)) | (refine (Hcall.out v7 W7 hown7 env7 hs7 hj7).mono ?_; rintro e W8 ⟨k1, k2, G', k3, k4⟩; obtain ⟨bb, rfl, k4⟩ : ∃ bb : Bool, e = .returned (.bool bb) ∧ ((bb = true ∧ ∃ ys : List (Od ks), ys.map (·.1.1) = (ordersF ks m y).map ((ll ++ [y.last.toNat]) ++ ·) ∧ J ((pre ++ xs) ++ ys) G' W8) ∨ (bb = false ∧ ∃ ys : List (Od ks), ys.map (·.1.1) <+: (ordersF ks m y).map ((ll ++ [y.last.toNat]) ++ ·) ∧ Jx ((pre ++ xs) ++ ys) G' W8 ∧ LastOk ks v7 W7.heap.size ys W8)) := (by rcases k4 with ⟨rfl, h⟩ | ⟨rfl, h⟩; exact ⟨true, rfl, .inl ⟨rfl, h⟩⟩; exact ⟨false, rfl, .inr ⟨rfl, h⟩⟩); have K4 := Lib.hid k4; clear k4)); (try (go_wp2_with fail)); refine hK.out _ _ ?_ ?_; (focus (intro hJ; first | (exact absurd hJ (by decide)) | (first | assumption | exact ⟨Grow.keepA hS0.1 _, Grow.keepA hS0.2.1 _, Grow.keepA hS0.2.2.1 _, Grow.keepA hS0.2.2.2 _⟩))); clear hK K; (try simp only [Act.put, List.setIfInBounds_toArray, List.set_cons_zero, List.set_cons_succ, List.getElem_toArray, List.getElem_cons_zero, List.getElem_cons_succ]); refine Left.ready (rs := [7]) (by kernel_rfl) (by simp) ?_; refine LeftAll.cons (o := _) rfl (fun K hK => ?_) LeftAll.nil; (try simp only [List.getElem_toArray, List.getElem_cons_zero, List.getElem_cons_succ]); (try go_simp); (first | (refine (if_pos (by rfl)).mpr ?_; refine wp_app (.tmp 36) (.tmp 39) 40 rfl Wx.heap.size 3 j0 _ 8 hui hj0 hj1 hj2 hj3 rfl (.slice (some ⟨Wx.heap.size, 0, none⟩) ll.length (ll.length + 1)) ((natL ll).map (Value.int .i64)) (by rfl) (Hown2.out.grow ((Grow.refl Wz).drew.alloc _)) (some ⟨Wz.heap.size, 0, none⟩) 1 [.int .i64 y.last] 1 (by rfl) rfl (fun h => nomatch h) (row_new1 _ _ _ (by simp)) (by simp [Value.oneCell']) (by simp [natL]; omega) (by omega) (by simp; omega) ?_; intro v7 W7 hown7 hg7 hm7; have hS7 : W7.cell? ⟨On, 0, none⟩ = some (.func (.func 79) #[] #[.pointer (some ⟨C, 0, none⟩), .pointer (some ⟨Y, 0, none⟩), .pointer (some ⟨On, 0, none⟩)]) ∧ W7.cell? ⟨Bx, 0, none⟩ = some (.int .u64 y.placed) ∧ W7.cell? ⟨Bx, 1, none⟩ = some (.int .i64 y.last) ∧ W7.cell? ⟨Bx, 2, none⟩ = some (.int .i64 y.time) := ⟨byCell1 hg7 (Grow.keepA hS0.1 _) (fun e => by injection e with e; have e : Wx.heap.size = _ := e; omega), byCell1 hg7 (Grow.keepA hS0.2.1 _) (fun e => by injection e with e; have e : Wx.heap.size = _ := e; omega), byCell1 hg7 (Grow.keepA hS0.2.2.1 _) (fun e => by injection e with e; have e : Wx.heap.size = _ := e; omega), byCell1 hg7 (Grow.keepA hS0.2.2.2 _) (fun e => by injection e with e; have e : Wx.heap.size = _ := e; omega)⟩; have hk7 : ∀ S, KpT S Wx W7 := fun S => kp_rows (KpT.grow (hGz.trans ((Grow.refl Wz).drew.alloc _))) hg7 (fun r e => by injection e with e; have e : Wx.heap.size = _ := e; omega); have hs7 : Wx.heap.size ≤ W7.heap.size := (hk7 noF).1; have hj7 : J (pre ++ xs) G W7 := HJ.out _ _ _ _ _ (HJ.out.grow i7 (hGz.trans ((Grow.refl Wz).drew.alloc _))) hg7 (fun r e => by injection e with e; have e : Wx.heap.size = _ := e; subst e; exact ⟨by omega, .inr fun hG => by have := i4.2 _ hG; omega⟩); have env7 := EnvX.out.kp hA (hk7 _)) | (refine (Hcall.out v7 W7 hown7 env7 hs7 hj7).mono ?_; rintro e W8 ⟨k1, k2, G', k3, k4⟩; obtain ⟨bb, rfl, k4⟩ : ∃ bb : Bool, e = .returned (.bool bb) ∧ ((bb = true ∧ ∃ ys : List (Od ks), ys.map (·.1.1) = (ordersF ks m y).map ((ll ++ [y.last.toNat]) ++ ·) ∧ J ((pre ++ xs) ++ ys) G' W8) ∨ (bb = false ∧ ∃ ys : List (Od ks), ys.map (·.1.1) <+: (ordersF ks m y).map ((ll ++ [y.last.toNat]) ++ ·) ∧ Jx ((pre ++ xs) ++ ys) G' W8 ∧ LastOk ks v7 W7.heap.size ys W8)) := (by rcases k4 with ⟨rfl, h⟩ | ⟨rfl, h⟩; exact ⟨true, rfl, .inl ⟨rfl, h⟩⟩; exact ⟨false, rfl, .inr ⟨rfl, h⟩⟩); have K4 := Lib.hid k4; clear k4)); (try (go_wp2_with fail)); refine hK.out _ _ ?_ ?_; (focus (intro hJ; first | (exact absurd hJ (by decide)) | (first | assumption | exact ⟨Grow.keepA hS0.1 _, Grow.keepA hS0.2.1 _, Grow.keepA hS0.2.2.1 _, Grow.keepA hS0.2.2.2 _⟩))); clear hK K; (try simp only [Act.put, List.setIfInBounds_toArray, List.set_cons_zero, List.set_cons_succ, List.getElem_toArray, List.getElem_cons_zero, List.getElem_cons_succ]); refine Left.ready (rs := [8]) (by kernel_rfl) (by simp) ?_; refine LeftAll.cons (o := _) rfl (fun K hK => ?_) LeftAll.nil; (try simp only [List.getElem_toArray, List.getElem_cons_zero, List.getElem_cons_succ]); (try go_simp); (try (go_wp2_with fail)); refine hK.out _ _ ?_ ?_; (focus (intro hJ; first | (exact absurd hJ (by decide)) | (first | assumption | exact ⟨Grow.keepA hS0.1 _, Grow.keepA hS0.2.1 _, Grow.keepA hS0.2.2.1 _, Grow.keepA hS0.2.2.2 _⟩))); clear hK K; (try simp only [Act.put, List.setIfInBounds_toArray, List.set_cons_zero, List.set_cons_succ, List.getElem_toArray, List.getElem_cons_zero, List.getElem_cons_succ]); refine Left.done (by kernel_rfl) ?_ _)
    have hGa : Grow Wx (Wz.drew.alloc (.cells #[.int .i64 y.last] 3)) := hGz.trans ((Grow.refl Wz).drew.alloc _)
    have hgB : KeepsFrom B Wx W8 := (kf_rows (kf_grow hGa : KeepsFrom B Wx _) hg7 (fun r e => by injection e with e; have e : Wx.heap.size = _ := e; omega)).trans k1
    have hBw : B ≤ w1.heap.size := by omega
    have m1 : KpT (TF T F) w1 W8 := (i3.trans (hk7 _)).trans2 k2 fun b hb h => h.imp id fun g => (i4.1 b g).resolve_right (by omega)
    have m2 : KpT (TF T F) w W8 := (i2.trans (hk7 _)).trans2 k2 fun b hb h => h.imp id fun g => (i4.1 b g).resolve_right (by omega)
    have m3 : KpT (TF T G) Wx W8 := (hk7 _).trans k2
    have hwV := hGd.size
    have hW2w1 : W2 < w1.heap.size := lt_of_cell r3
    have hC1l : C1 < w1.heap.size := lt_of_cell hR1.1
    have hS1l : S1 < w1.heap.size := lt_of_cell hR1.2.2.2.1
    have hNR : NextR C1 S1 c a cap ks s Wx → NextR C1 S1 c a cap ks s W8 := fun h => ⟨m3.cell (hTG C1 (by omega) hC1l) h.1, m3.cell hAG.c h.2.1, m3.cks hAG.a h.2.2.1, m3.cell (hTG S1 (by omega) hS1l) h.2.2.2.1, m3.cell (hTG S1 (by omega) hS1l) h.2.2.2.2.1, m3.cell (hTG S1 (by omega) hS1l) h.2.2.2.2.2⟩
    have hFG : ∀ b, G' b → F b ∨ w1.heap.size ≤ b := fun b hb => by
      rcases k3.1 b hb with h | h
      · exact i4.1 b h
      · have := i3.1; exact .inr (by omega)
    have hcov : ∀ b, G' b → b < w1.heap.size ∨ (w1.heap.size ≤ b ∧ G' b) := fun b hb => by
      by_cases h : b < w1.heap.size
      · exact .inl h
      · exact .inr ⟨by omega, hb⟩
    have hFo2 : ∀ {V : World}, W8.heap.size ≤ V.heap.size → Fp Fo (fun b => w1.heap.size ≤ b ∧ G' b) Wx V := fun {V} hV => ⟨fun b hb => by
      rcases k3.1 b hb.2 with h | h
      · rcases i5 b h with h | h
        · omega
        · exact .inl h
      · exact .inr (by omega), fun b hb => Nat.lt_of_lt_of_le (k3.2 b hb.2) hV⟩
    have n1 : W8.cell? ⟨W2, 0, none⟩ = some (.bool false) := m1.cell (hTn W2 hWb2) r3
    have n2 : ∀ o, W8.frozen? ⟨W2, o, none⟩ = false := fun o => (m1.hot (hTn W2 hWb2) r3 o).trans (r4 o)
    have happ : ∀ ts : List (List Nat), ts.map ((ll ++ [y.last.toNat]) ++ ·) = ts.map fun t => ll ++ (y.last.toNat :: t) := fun ts => List.map_congr_left fun t _ => by simp
    rw [happ] at K4
    have Hgz := Lib.hid hg7
    have Hown7 := Lib.hid hown7
    clear hS7 hS0 s1 s2 s3 s4 hg7 hown7 env7 hj7 hk7
    generalize hQ : postC _ _ _ _ _ _ _ = Q
    cases bb
    · obtain ⟨ys, hys, hjx, hla, hlb⟩ : ∃ ys : List (Od ks), ys.map (·.1.1) <+: ((ordersF ks m y).map fun t => ll ++ (y.last.toNat :: t)) ∧ Jx ((pre ++ xs) ++ ys) G' W8 ∧ LastOk ks v7 W7.heap.size ys W8 := by
        rcases K4.out with ⟨h, _⟩ | ⟨_, h⟩
        · cases h
        · exact h
      have hst : NextR C1 S1 c a cap ks s Wx → NextR C1 S1 c a cap ks s (W8.setCell ⟨W2, 0, none⟩ (.bool false)) := fun h => (hNR h).by0 (N := W2) (fun b o v hb hc => byCell1 (bySet W8 W2 0 _) hc (fun e => hb (Option.some.inj e).symm)) (by omega) (by omega) (by omega) (fun b o e h => by subst h; have := haW _ _ e; omega)
      gi_wp2
      rw [← hQ]
      refine ⟨(kf_lower hgB hBw).trans (kf_set _ _ _ _), hst, fun b => w1.heap.size ≤ b ∧ (G' b ∨ (Wx.heap.size ≤ b ∧ b < W8.heap.size)), ⟨fun b hb => ?_, fun b hb => ?_⟩, rfl, (i1.trans hgB).trans (kf_set _ _ _ _), m2.setNew hWb2 _ _, ?_, G', ⟨hFG, fun b hb => by simpa using k3.2 b hb⟩, fun b hb => (hcov b hb).imp id fun h => ⟨h.1, .inl h.2⟩, xs ++ ys, ?_, ?_, by simp [hla], fun x hx => ?_⟩
      · rcases hb.2 with h | h
        · exact (hFo2 (Nat.le_refl _)).1 b ⟨hb.1, h⟩
        · exact .inr h.1
      · rcases hb.2 with h | h
        · simpa using k3.2 b h
        · simpa using h.2
      · exact World.cell?_setCell_same' _ _ _ (by rw [n1]; rfl)
      · show _ <+: outOf ks m ll ((pre' ++ [⟨y, hy⟩] : List (Nx ks s)).map (·.1))
        rw [List.map_append, List.map_append, List.map_singleton, outOf_snoc, i6]
        exact (List.prefix_append_right_inj _).2 hys
      · rw [← List.append_assoc]
        exact HJx.out _ _ _ _ _ hjx (bySet W8 W2 0 _) fun r e => by
          cases e
          refine ⟨by omega, .inr fun h => ?_⟩
          rcases hFG _ h with h | h
          · have := HF.out _ h; omega
          · omega
      · have hx : ys.getLast? = some x := by
          rw [List.getLast?_append, List.getLast?_eq_some_getLast hla] at hx
          rw [List.getLast?_eq_some_getLast hla]
          simpa using hx
        obtain ⟨hx1, hx2⟩ := hlb x hx
        have hbd : ∀ b, x.1.2.ownBlock = some b → Wx.heap.size ≤ b := fun b hb => by
          rcases hx2 b hb with h | h
          · exact (Hown7.out.lt b h).1
          · omega
        refine ⟨hx1.kept (bySet W8 W2 0 _) fun e => ?_, fun b hb => ?_⟩
        · have := hbd W2 e; have := i3.1; omega
        · have hb2 := hbd b hb
          have hne : natL x.1.1 ≠ [] := fun e => by
            have h1 := ((mem_ordersF ks _ _ _).1 x.2).1
            have h2 := congrArg List.length e
            simp [natL] at h2
            rw [h2] at h1
            simp at h1
            omega
          obtain ⟨k, hk1, hk2⟩ := IsInts.lt hx1 hne
          rw [hk1] at hb
          cases hb
          have := i3.1
          exact ⟨by omega, by omega, .inr ⟨hb2, hk2⟩⟩
    · obtain ⟨ys, hys, hjx⟩ : ∃ ys : List (Od ks), ys.map (·.1.1) = ((ordersF ks m y).map fun t => ll ++ (y.last.toNat :: t)) ∧ J ((pre ++ xs) ++ ys) G' W8 := by
        rcases K4.out with ⟨_, h⟩ | ⟨h, _⟩
        · exact h
        · cases h
      gi_wp2
      rw [← hQ]
      refine ⟨kf_lower hgB hBw, hNR, _, hFo2 (Nat.le_refl _), i1.trans hgB, m2, m1, G', ⟨hFG, k3.2⟩, hcov, xs ++ ys, ?_, ?_⟩
      · show _ = outOf ks m ll ((pre' ++ [⟨y, hy⟩] : List (Nx ks s)).map (·.1))
        rw [List.map_append, List.map_append, List.map_singleton, outOf_snoc, i6, hys]
      · rw [← List.append_assoc]
        exact hjx
  case done =>
    rintro D xs' Fo W9 hD hxs ⟨i1, i2, i3, G, xs, i4, i5, i6, i7⟩ hKd
    rw [hxs, outOf_all] at i6
    have n1 : W9.cell? ⟨W2, 0, none⟩ = some (.bool false) := i3.cell (hTn W2 hWb2) r3
    have n2 : ∀ o, W9.frozen? ⟨W2, o, none⟩ = false := fun o => (i3.hot (hTn W2 hWb2) r3 o).trans (r4 o)
    have hW2w1 : W2 < w1.heap.size := lt_of_cell r3
    have hDl := (Array.getElem?_eq_some_iff.1 hKd).1
    have Hi6 := Lib.hid i6
    have Hi7 := Lib.hid i7
    clear i6 i7 hxs
    have hne : some D ≠ some W2 := fun e => by injection e with e; omega
    gi_wp2
    have hb2 : (W9.setCell ⟨W2, 0, none⟩ (.bool true)).cell? ⟨W2, 0, none⟩ = some (.bool true) := World.cell?_setCell_same' _ _ _ (by rw [n1]; rfl)
    have hKd2 : (W9.setCell ⟨W2, 0, none⟩ (.bool true)).heap[D]? = some (.deferred (some [])) := ((bySet W9 W2 0 _).block D hDl hne).trans hKd
    refine ⟨by simp, .inl ⟨_, _, rfl, run_takeDeferred hKd2, ?_⟩⟩
    have hb3 := cell_kept hb2 (grownBy_putObj' (W9.setCell ⟨W2, 0, none⟩ (.bool true)) D (.deferred none)) (fun r e => by cases e; exact ⟨_, hKd2, rfl⟩)
    refine ⟨.bool true, by simp [results, Try.results79, go_sem, hb3], kf_rows (i1.trans (kf_set _ _ _ _)) (grownBy_putObj' _ D _) (fun r e => by cases e; omega), (i2.setNew hWb2 _ _).trans (KpT.put _ hKd2 rfl), G, ((i4.old hGw.size).new (by simp)), .inl ⟨rfl, xs, Hi6.out, ?_⟩⟩
    refine HJ.out _ _ _ _ _ (HJ.out _ _ _ _ _ Hi7.out (bySet W9 W2 0 _) fun r e => ?_) (grownBy_putObj' _ D _) fun r e => ?_
    · cases e
      refine ⟨by omega, .inr fun h => ?_⟩
      rcases i4.1 _ h with h | h
      · have := HF.out _ h; omega
      · omega
    · cases e
      exact ⟨by omega, .inl ⟨_, hKd2, rfl⟩⟩
  case stop =>
    rintro D cc xs' Fo W9 hD ⟨k, hk, hxs⟩ ⟨rfl, i1, i2, i3, G, xs, i4, i5, i6, i7, i8, i9⟩ hKd _
    have hpx : (outOf ks m ll (xs'.map (·.1))) <+: (ordersF ks (m + 1) s).map (ll ++ ·) := outOf_prefix (by rw [hxs]; exact nextsTo_prefix ks s hk)
    have i6' := i6.trans hpx
    have hDl := (Array.getElem?_eq_some_iff.1 hKd).1
    have Hi6 := Lib.hid i6'
    have Hi7 := Lib.hid i7
    clear i6 i6' i7 hxs hpx
    gi_wp2
    refine ⟨by simp, .inl ⟨_, _, rfl, run_takeDeferred hKd, ?_⟩⟩
    have hb3 := cell_kept i3 (grownBy_putObj' W9 D (.deferred none)) (fun r e => by cases e; exact ⟨_, hKd, rfl⟩)
    refine ⟨.bool false, by simp [results, Try.results79, go_sem, hb3], kf_rows i1 (grownBy_putObj' _ D _) (fun r e => by cases e; omega), i2.trans (KpT.put _ hKd rfl), G, ((i4.old hGw.size).new (by simp)), .inr ⟨rfl, xs, Hi6.out, ?_, i8, fun x hx => ⟨(i9 x hx).1.keptN (grownBy_putObj' _ D _) fun r e => by cases e; exact ⟨_, hKd, rfl⟩, fun b hb => .inr ((i9 x hx).2 b hb).1⟩⟩⟩
    exact HJx.out _ _ _ _ _ Hi7.out (grownBy_putObj' _ D _) fun r e => by
      cases e
      exact ⟨by omega, .inl ⟨_, hKd, rfl⟩⟩
end Go.Proofs.Ytbeglemohfbdfaa
