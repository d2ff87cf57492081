/- The program of layer 1: Is. Conditions: sizes. -/
import Derived.Test.YteijilbdllpbcaaPhC
import Derived.Test.YteijilbdllpbcaaPhA
import Derived.Test.YteijilbdllpbcaaRefC
import Derived.Test.YteijilbdllpbcaaLibX
import Derived.Test.YteijilbdllpbcaaPgV
import Derived.Test.YteijilbdllpbcaaPgS
namespace Go.Proofs.Yteijilbdllpbcaa
open Go.RowKit

def IsInv (W : World) (W0 W1 : Nat) (P : Int) (a : Option Addr) (n cap : Nat) (u : Value) (rb : Bool) (L : Array Bool) (A : Act) (V : World) : Prop :=
  ∃ v7 v8 v9 v10 v15, A = { tmps := #[.agg #[.int .i64 P, .slice a n cap], u, .pointer (some ⟨W0, 0, none⟩), undef, .bool false, .pointer (some ⟨W1, 0, none⟩), .func (.func 50) #[] #[.pointer (some ⟨W1, 0, none⟩)], v7, v8, v9, v10, undef, undef, undef, undef, v15, undef, undef], defers := [{ target := .fn (.func 50) #[.pointer (some ⟨W1, 0, none⟩)], args := #[] }] } ∧ (Grow W V) ∧ (Over L 0 → v7 = .agg #[.int .i64 P, .slice a n cap]) ∧ (Over L 1 → v8 = .agg #[.int .i64 P, .slice a n cap]) ∧ (Over L 2 → v9 = u) ∧ (Over L 3 → v10 = .bool rb) ∧ (Over L 8 → v15 = u) ∧ ¬ Over L 4 ∧ ¬ Over L 5 ∧ ¬ Over L 6 ∧ ¬ Over L 7 ∧ ¬ Over L 9 ∧ ¬ Over L 10 ∧ ¬ Over L 11 ∧ ¬ Over L 12
set_option maxRecDepth 100000 in
set_option maxHeartbeats 1000000 in
theorem pIs_bad (P : Int) (v u : Value) (ss : List (List Int)) (rb : Bool) (w : World) (hv : IsSheets w v ss) (hr : ∀ V, Grow w V → Calls Try.prog 52 #[.agg #[.int .i64 P, v], u] V fun e w' => e = .returned (.bool rb) ∧ Grow V w') (hc : codeO P ss rb ≠ 0) :
    Calls Try.prog 19 #[.agg #[.int .i64 P, v], u] w fun e w' => e = .returned (.tuple #[.bool false, .int .i64 (codeO P ss rb)]) ∧ Grow w w' := by
  have hmf : ∀ (fn : Fn) (first cap : Array Value) (w : World), (Instr.makeFunc fn first cap).run Try.prog w = .ok (.func fn first cap) w := fun _ _ _ _ => rfl
  obtain ⟨a, cap, rfl, hcap, hlen, hrow⟩ := id hv
  have Hv := Lib.hid hv
  have HR := Lib.hid hr
  clear hv hr
  obtain ⟨cd, hcd⟩ : ∃ cd, cd = codeO P ss rb := ⟨_, rfl⟩
  have Hcd := Lib.hid hcd
  rw [← hcd] at hc ⊢
  clear hcd
  go_enter_defers Try.func19, Try.ntmps19
  go_wp2_with fail
  obtain ⟨W, hW⟩ : ∃ W, W = ((w.alloc (.cells #[.int .i64 P, .slice a ss.length cap] 24)).alloc (.cells #[.int .i64 0] 28)) := ⟨_, rfl⟩
  have hgW : Grow w W := by rw [hW]; exact (((Grow.refl w).alloc _).alloc _)
  have hW00 : W.cell? ⟨w.heap.size, 0, none⟩ = some (.int .i64 P) := by rw [hW]; exact Grow.keepA (cell_new (by simp) rfl) _
  have hW01 : W.cell? ⟨w.heap.size, 1, none⟩ = some (.slice a ss.length cap) := by rw [hW]; exact Grow.keepA (cell_new (by simp) rfl) _
  have hWf0 : ∀ o, W.frozen? ⟨w.heap.size, o, none⟩ = false := by intro o; rw [hW]; exact (((Grow.refl _).alloc _).marks _ _ (by simp <;> omega)).trans (hot_new (by simp))
  have hWl0 : w.heap.size < W.heap.size := by rw [hW]; simp; try omega
  have hW10 : W.cell? ⟨w.heap.size + 1, 0, none⟩ = some (.int .i64 0) := by rw [hW]; exact cell_new (by simp) rfl
  have hWf1 : ∀ o, W.frozen? ⟨w.heap.size + 1, o, none⟩ = false := by intro o; rw [hW]; exact hot_new (by simp)
  have hWl1 : w.heap.size + 1 < W.heap.size := by rw [hW]; simp; try omega
  rw [← hW]
  clear hW
  have hWd : ∀ n, (W.drewN n).heap.size = W.heap.size := fun _ => rfl
  have hWq : ∀ n o b j, b < W.heap.size → ((W.drewN n).alloc o).cell? ⟨b, j, none⟩ = W.cell? ⟨b, j, none⟩ := cell_drewN_alloc W
  have hWr : ∀ n o b j, b < W.heap.size → ((W.drewN n).alloc o).frozen? ⟨b, j, none⟩ = W.frozen? ⟨b, j, none⟩ := hot_drewN_alloc W
  have hWb0 : w.heap.size ≤ w.heap.size := by omega
  have hWb1 : w.heap.size ≤ w.heap.size + 1 := by omega
  have hWn01 : w.heap.size ≠ w.heap.size + 1 := by omega
  have hWn10 : w.heap.size + 1 ≠ w.heap.size := by omega
  obtain ⟨W1, hWe1⟩ : ∃ g, w.heap.size + 1 = g := ⟨_, rfl⟩
  rw [hWe1] at hW10 hWf1 hWl1 hWb1 hWn10 hWn01
  (try rw [hWe1])
  have hWk1 := Lib.hid hWe1
  clear hWe1
  obtain ⟨W0, hWe0⟩ : ∃ g, w.heap.size = g := ⟨_, rfl⟩
  have hWb0 : w.heap.size ≤ W0 := by omega
  rw [hWe0] at hW00 hW01 hWf0 hWl0 hWn01 hWn10
  (try rw [hWe0])
  have hWk0 := Lib.hid hWe0
  clear hWe0
  refine wp_region_inv (by kernel_rfl) (IsInv W W0 W1 P a ss.length cap u rb) (by kernel_rfl) ?_ ?_ ?_
  · exact fun L hL => ⟨_, _, _, _, _, rfl, (Grow.refl W).drew, fun h => absurd h (hL _), fun h => absurd h (hL _), fun h => absurd h (hL _), fun h => absurd h (hL _), fun h => absurd h (hL _), hL _, hL _, hL _, hL _, hL _, hL _, hL _, hL _⟩
  · rintro L A V ⟨v7, v8, v9, v10, v15, rfl, hg, h0, h1, h2, h3, h8, n4, n5, n6, n7, n9, n10, n11, n12⟩ hall
    exact absurd (hall 4 (by simp)) n4
  · rintro i o L A V ho hi ⟨v7, v8, v9, v10, v15, rfl, hg, h0, h1, h2, h3, h8, n4, n5, n6, n7, n9, n10, n11, n12⟩ hno hd
    have hio := (Array.getElem?_eq_some_iff.1 ho).1
    simp only [List.size_toArray, List.length_cons, List.length_nil, Nat.reduceAdd] at hio
    obtain rfl | rfl | rfl | rfl | rfl | rfl | rfl | rfl | rfl | rfl | rfl | rfl | rfl : i = 0 ∨ i = 1 ∨ i = 2 ∨ i = 3 ∨ i = 4 ∨ i = 5 ∨ i = 6 ∨ i = 7 ∨ i = 8 ∨ i = 9 ∨ i = 10 ∨ i = 11 ∨ i = 12 := by omega
    · cases ho
      have c0 := hg.keeps hW00
      have c1 := hg.keeps hW01
      go_simp
      exact ⟨_, _, _, _, _, rfl, hg, fun _ => rfl, fun h => h1 (over_ne h (by decide)), fun h => h2 (over_ne h (by decide)), fun h => h3 (over_ne h (by decide)), fun h => h8 (over_ne h (by decide)), fun h => n4 (over_ne h (by decide)), fun h => n5 (over_ne h (by decide)), fun h => n6 (over_ne h (by decide)), fun h => n7 (over_ne h (by decide)), fun h => n9 (over_ne h (by decide)), fun h => n10 (over_ne h (by decide)), fun h => n11 (over_ne h (by decide)), fun h => n12 (over_ne h (by decide))⟩
    · cases ho
      have c0 := hg.keeps hW00
      have c1 := hg.keeps hW01
      go_simp
      exact ⟨_, _, _, _, _, rfl, hg, fun h => h0 (over_ne h (by decide)), fun _ => rfl, fun h => h2 (over_ne h (by decide)), fun h => h3 (over_ne h (by decide)), fun h => h8 (over_ne h (by decide)), fun h => n4 (over_ne h (by decide)), fun h => n5 (over_ne h (by decide)), fun h => n6 (over_ne h (by decide)), fun h => n7 (over_ne h (by decide)), fun h => n9 (over_ne h (by decide)), fun h => n10 (over_ne h (by decide)), fun h => n11 (over_ne h (by decide)), fun h => n12 (over_ne h (by decide))⟩
    · cases ho
      go_simp
      exact ⟨_, _, _, _, _, rfl, hg, fun h => h0 (over_ne h (by decide)), fun h => h1 (over_ne h (by decide)), fun _ => rfl, fun h => h3 (over_ne h (by decide)), fun h => h8 (over_ne h (by decide)), fun h => n4 (over_ne h (by decide)), fun h => n5 (over_ne h (by decide)), fun h => n6 (over_ne h (by decide)), fun h => n7 (over_ne h (by decide)), fun h => n9 (over_ne h (by decide)), fun h => n10 (over_ne h (by decide)), fun h => n11 (over_ne h (by decide)), fun h => n12 (over_ne h (by decide))⟩
    · cases ho
      have d1 := h1 (hd { on := 1, ground := .data } (by simp) rfl)
      have d2 := h2 (hd { on := 2, ground := .data } (by simp) rfl)
      subst d1 d2
      go_simp
      go_at_call 52
      refine (HR.out _ (hgW.trans hg)).mono ?_
      rintro e V2 ⟨rfl, hgV⟩
      go_simp
      exact ⟨_, _, _, _, _, rfl, (fun h => h.trans hgV) hg, fun h => h0 (over_ne h (by decide)), fun h => h1 (over_ne h (by decide)), fun h => h2 (over_ne h (by decide)), fun _ => rfl, fun h => h8 (over_ne h (by decide)), fun h => n4 (over_ne h (by decide)), fun h => n5 (over_ne h (by decide)), fun h => n6 (over_ne h (by decide)), fun h => n7 (over_ne h (by decide)), fun h => n9 (over_ne h (by decide)), fun h => n10 (over_ne h (by decide)), fun h => n11 (over_ne h (by decide)), fun h => n12 (over_ne h (by decide))⟩
    · cases ho
      have d0 := h0 (hd { on := 0, ground := .data } (by simp) rfl)
      have d3 := h3 (hd { on := 3, ground := .data } (by simp) rfl)
      subst d0 d3
      go_simp
      go_at_call 43
      refine (popen P _ ss _ _ (Hv.out.grow (hgW.trans hg))).mono ?_
      rintro e w1 ⟨hg1, hbad, _⟩
      have hbad := hbad (by rw [← Hcd.out]; exact hc)
      rw [← Hcd.out] at hbad
      subst hbad
      go_simp
      have hG1 : Grow W w1 := hg.trans hg1
      have hc1 : w1.cell? ⟨W1, 0, none⟩ = some (.int .i64 0) := hG1.keeps hW10
      have hf1 : ∀ o, w1.frozen? ⟨W1, o, none⟩ = false := fun o => (hG1.marks _ _ hWl1).trans (hWf1 o)
      unfold refusal
      show Leaves _ _ _ _ _ _ _
      refine leaves_cons (f := 50) (args := #[.pointer (some ⟨W1, 0, none⟩)]) (by simp) (by simp [go_sem]) ?_
      refine (pdefIs_panic W1 cd [] w1 hc1 hf1).mono ?_
      rintro e u' w'' ⟨rfl, rfl, q1, q2⟩
      have hG : Grow w w'' := Below.trans (hgW.trans hG1) (grownBy_below q2 (by intro k hk; injection hk with hk; omega) (hgW.trans hG1).size)
      simp [Leaves, settle, results, Try.results19, go_sem, q1]
      exact hG
    · cases ho
      exact absurd (hd { on := 4, ground := .data } (by simp) rfl) n4
    · cases ho
      exact absurd (hd { on := 5, ground := .data } (by simp) rfl) n5
    · cases ho
      exact absurd (hd { on := 6, ground := .data } (by simp) rfl) n6
    · cases ho
      go_simp
      exact ⟨_, _, _, _, _, rfl, hg, fun h => h0 (over_ne h (by decide)), fun h => h1 (over_ne h (by decide)), fun h => h2 (over_ne h (by decide)), fun h => h3 (over_ne h (by decide)), fun _ => rfl, fun h => n4 (over_ne h (by decide)), fun h => n5 (over_ne h (by decide)), fun h => n6 (over_ne h (by decide)), fun h => n7 (over_ne h (by decide)), fun h => n9 (over_ne h (by decide)), fun h => n10 (over_ne h (by decide)), fun h => n11 (over_ne h (by decide)), fun h => n12 (over_ne h (by decide))⟩
    · cases ho
      exact absurd (hd { on := 4, ground := .chain } (by simp) rfl) n4
    · cases ho
      exact absurd (hd { on := 7, ground := .data } (by simp) rfl) n7
    · cases ho
      exact absurd (hd { on := 10, ground := .data } (by simp) rfl) n10
    · cases ho
      exact absurd (hd { on := 11, ground := .chain } (by simp) rfl) n11
theorem intsB_toB {l : List Int} (h : ∀ x ∈ l, 0 ≤ x ∧ x ≤ 255) : intsB (toB l) = l := by
  rw [intsB_eq, intsL, strOfNums_data, List.map_map]
  refine (List.map_congr_left fun x hxm => ?_).trans (List.map_id' l)
  have := h x hxm
  simp
  omega
theorem toB_intsB (t : ByteArray) : toB (intsB t) = t := by
  have h : (toB (intsB t)).data.toList = t.data.toList := by
    rw [strOfNums_data, intsB, List.map_map]
    refine (List.map_congr_left fun x _ => ?_).trans (List.map_id' _)
    simp
  exact ByteArray.ext (Array.toList_inj.1 h)
theorem mem_toB {l : List Int} {ts : List ByteArray} (h : ∀ x ∈ l, 0 ≤ x ∧ x ≤ 255) : toB l ∈ ts ↔ l ∈ ts.map intsB := by
  rw [List.mem_map]
  constructor
  · exact fun hm => ⟨_, hm, intsB_toB h⟩
  · rintro ⟨t, ht, rfl⟩
    rw [toB_intsB]; exact ht
theorem mem_bool {l : List Int} {ts : List ByteArray} {T : List (List Int)} {b : Bool} (h : ∀ x ∈ l, 0 ≤ x ∧ x ≤ 255) (hT : ts.map intsB = T) (hb : b = true ↔ toB l ∈ ts) : b = decide (l ∈ T) := by
  rw [mem_toB h, hT] at hb
  by_cases hc : l ∈ T <;> cases b <;> simp_all
/-- The same cells. -/
def Same (V V2 : World) : Prop := ∀ b o, V2.cell? ⟨b, o, none⟩ = V.cell? ⟨b, o, none⟩
theorem same_store {V : World} {b o : Nat} {x : Value} (h : V.cell? ⟨b, o, none⟩ = some x) : Same V (V.setCell ⟨b, o, none⟩ x) := fun b' o' => by
  by_cases e : b' = b ∧ o' = o
  · obtain ⟨rfl, rfl⟩ := e
    rw [World.cell?_setCell_same' _ _ _ (by rw [h]; rfl), h]
  · exact World.cell?_setCell_other _ _ _ _ (by intro k; injection k with k1 k2; exact e ⟨k1.symm, k2.symm⟩)
theorem RowAt.same {V V2 : World} {a : Option Addr} {vs : List Value} (h : RowAt V a vs) (hs : Same V V2) : RowAt V2 a vs := fun i x hx => by
  obtain ⟨b, o, ha, hc⟩ := h i x hx
  exact ⟨b, o, ha, (hs _ _).trans hc⟩
theorem IsRaces.same {V V2 : World} {v : Value} {rs : List ByteArray} (h : IsRaces V v rs) (hs : Same V V2) : IsRaces V2 v rs := by
  obtain ⟨a, cap, h1, h2, h3, h4, h5⟩ := h
  exact ⟨a, cap, h1, h2, h3, h4, h5.same hs⟩
/-- A count's address, its truths. -/
def CountAt1 (V : World) (T : List (List Int)) (v : Value) : Prop :=
  ∃ c ts a3 c3, v = .pointer (some ⟨c, 1, none⟩) ∧ V.cell? ⟨c, 1, none⟩ = some (.slice a3 ts.length c3) ∧ IsRaces V (.slice a3 ts.length c3) ts ∧ ts.map intsB = T
def CountAt (V : World) (T : List (List Int)) (v : Value) : Prop :=
  ∃ c ts a3 c3, v = .pointer (some ⟨c, 0, none⟩) ∧ V.cell? ⟨c, 1, none⟩ = some (.slice a3 ts.length c3) ∧ IsRaces V (.slice a3 ts.length c3) ts ∧ ts.map intsB = T
def TruthsAt (V : World) (T : List (List Int)) (v : Value) : Prop := ∃ ts, IsRaces V v ts ∧ ts.map intsB = T
theorem CountAt1.grow {V V2 : World} {T : List (List Int)} {v : Value} (h : CountAt1 V T v) (hg : Grow V V2) : CountAt1 V2 T v := by
  obtain ⟨c, ts, a3, c3, h1, h2, h3, h4⟩ := h
  exact ⟨c, ts, a3, c3, h1, hg.keeps h2, h3.grow hg, h4⟩
theorem CountAt.grow {V V2 : World} {T : List (List Int)} {v : Value} (h : CountAt V T v) (hg : Grow V V2) : CountAt V2 T v := by
  obtain ⟨c, ts, a3, c3, h1, h2, h3, h4⟩ := h
  exact ⟨c, ts, a3, c3, h1, hg.keeps h2, h3.grow hg, h4⟩
theorem TruthsAt.grow {V V2 : World} {T : List (List Int)} {v : Value} (h : TruthsAt V T v) (hg : Grow V V2) : TruthsAt V2 T v := by
  obtain ⟨ts, h3, h4⟩ := h
  exact ⟨ts, h3.grow hg, h4⟩
theorem CountAt1.same {V V2 : World} {T : List (List Int)} {v : Value} (h : CountAt1 V T v) (hs : Same V V2) : CountAt1 V2 T v := by
  obtain ⟨c, ts, a3, c3, h1, h2, h3, h4⟩ := h
  exact ⟨c, ts, a3, c3, h1, (hs _ _).trans h2, h3.same hs, h4⟩
theorem CountAt.same {V V2 : World} {T : List (List Int)} {v : Value} (h : CountAt V T v) (hs : Same V V2) : CountAt V2 T v := by
  obtain ⟨c, ts, a3, c3, h1, h2, h3, h4⟩ := h
  exact ⟨c, ts, a3, c3, h1, (hs _ _).trans h2, h3.same hs, h4⟩
theorem TruthsAt.same {V V2 : World} {T : List (List Int)} {v : Value} (h : TruthsAt V T v) (hs : Same V V2) : TruthsAt V2 T v := by
  obtain ⟨ts, h3, h4⟩ := h
  exact ⟨ts, h3.same hs, h4⟩
/-- The cells of a function that defers: the count, and the error. -/
def CellsAt (W0 W1 : Nat) (P : Int) (s : Value) (V : World) : Prop :=
  V.cell? ⟨W0, 0, none⟩ = some (.int .i64 P) ∧ V.cell? ⟨W0, 1, none⟩ = some s ∧ V.cell? ⟨W1, 0, none⟩ = some (.int .i64 0) ∧ (∀ o, V.frozen? ⟨W1, o, none⟩ = false) ∧ W1 < V.heap.size
theorem CellsAt.grow {W0 W1 : Nat} {P : Int} {s : Value} {V V2 : World} (h : CellsAt W0 W1 P s V) (hg : Grow V V2) : CellsAt W0 W1 P s V2 :=
  ⟨hg.keeps h.1, hg.keeps h.2.1, hg.keeps h.2.2.1, fun o => (hg.marks _ _ h.2.2.2.2).trans (h.2.2.2.1 o), Nat.lt_of_lt_of_le h.2.2.2.2 hg.size⟩
theorem CellsAt.store {W0 W1 : Nat} {P : Int} {s : Value} {V : World} (h : CellsAt W0 W1 P s V) (hne : W0 ≠ W1) : CellsAt W0 W1 P s (V.setCell ⟨W1, 0, none⟩ (.int .i64 0)) := by
  obtain ⟨h1, h2, h3, h4, h5⟩ := h
  exact ⟨byCell1 (bySet V W1 0 _) h1 (by intro e; injection e with e; omega), byCell1 (bySet V W1 0 _) h2 (by intro e; injection e with e; omega), World.cell?_setCell_same' _ _ _ (by rw [h3]; rfl), fun o => by rw [World.frozen?_setCell]; exact h4 o, by simpa using h5⟩
def IsInv2 (w : World) (W0 W1 : Nat) (P : Int) (a : Option Addr) (n cap : Nat) (u : Value) (T : List (List Int)) (l : List Int) (L : Array Bool) (A : Act) (V : World) : Prop :=
  ∃ v4 v7 v8 v9 v10 v11 v12 v13 v14 v15 v16 v17, A = { tmps := #[.agg #[.int .i64 P, .slice a n cap], u, .pointer (some ⟨W0, 0, none⟩), undef, v4, .pointer (some ⟨W1, 0, none⟩), .func (.func 50) #[] #[.pointer (some ⟨W1, 0, none⟩)], v7, v8, v9, v10, v11, v12, v13, v14, v15, v16, v17], defers := [{ target := .fn (.func 50) #[.pointer (some ⟨W1, 0, none⟩)], args := #[] }] } ∧ (Grow w V) ∧ (CellsAt W0 W1 P (.slice a n cap) V) ∧ (Over L 0 → v7 = .agg #[.int .i64 P, .slice a n cap]) ∧ (Over L 1 → v8 = .agg #[.int .i64 P, .slice a n cap]) ∧ (Over L 2 → v9 = u) ∧ (Over L 3 → v10 = .bool true) ∧ (Over L 4 → CountAt V T v11) ∧ (Over L 5 → CountAt V T v12) ∧ (Over L 6 → CountAt1 V T v13) ∧ (Over L 7 → TruthsAt V T v14) ∧ (Over L 8 → v15 = u) ∧ (Over L 9 → v16 = .string (toB l)) ∧ (Over L 10 → v17 = .bool (decide (l ∈ T))) ∧ (Over L 11 → v4 = .bool (decide (l ∈ T)))
def IsPost (w : World) (T : List (List Int)) (l : List Int) (e : Ending) (w' : World) : Prop := e = .returned (.tuple #[.bool (decide (l ∈ T)), .int .i64 0]) ∧ Grow w w'
set_option maxRecDepth 100000 in
set_option maxHeartbeats 1000000 in
theorem pIs_ok (P : Int) (v u : Value) (ss : List (List Int)) (l : List Int) (w : World) (hv : IsSheets w v ss) (hu : IsInts w u l) (hc : codeO P ss true = 0) (hp1 : 1 ≤ P) (hp4 : P ≤ 4) (hrb : raceB P l = true) :
    Calls Try.prog 19 #[.agg #[.int .i64 P, v], u] w (IsPost w (truthsR P.toNat ss).1 l) := by
  have hmf : ∀ (fn : Fn) (first cap : Array Value) (w : World), (Instr.makeFunc fn first cap).run Try.prog w = .ok (.func fn first cap) w := fun _ _ _ _ => rfl
  have hb255 : ∀ x ∈ l, 0 ≤ x ∧ x ≤ 255 := fun x hx => by
    have := inB_true.1 (List.all_eq_true.1 hrb x hx)
    omega
  obtain ⟨a, cap, rfl, hcap, hlen, hrow⟩ := id hv
  have Hv := Lib.hid hv
  have Hu := Lib.hid hu
  have Hc := Lib.hid hc
  have Hrb := Lib.hid hrb
  have Hb := Lib.hid hb255
  clear hv hu hc hrb hb255
  go_enter_defers Try.func19, Try.ntmps19
  go_wp2_with fail
  obtain ⟨W, hW⟩ : ∃ W, W = ((w.alloc (.cells #[.int .i64 P, .slice a ss.length cap] 24)).alloc (.cells #[.int .i64 0] 28)) := ⟨_, rfl⟩
  have hgW : Grow w W := by rw [hW]; exact (((Grow.refl w).alloc _).alloc _)
  have hW00 : W.cell? ⟨w.heap.size, 0, none⟩ = some (.int .i64 P) := by rw [hW]; exact Grow.keepA (cell_new (by simp) rfl) _
  have hW01 : W.cell? ⟨w.heap.size, 1, none⟩ = some (.slice a ss.length cap) := by rw [hW]; exact Grow.keepA (cell_new (by simp) rfl) _
  have hWf0 : ∀ o, W.frozen? ⟨w.heap.size, o, none⟩ = false := by intro o; rw [hW]; exact (((Grow.refl _).alloc _).marks _ _ (by simp <;> omega)).trans (hot_new (by simp))
  have hWl0 : w.heap.size < W.heap.size := by rw [hW]; simp; try omega
  have hW10 : W.cell? ⟨w.heap.size + 1, 0, none⟩ = some (.int .i64 0) := by rw [hW]; exact cell_new (by simp) rfl
  have hWf1 : ∀ o, W.frozen? ⟨w.heap.size + 1, o, none⟩ = false := by intro o; rw [hW]; exact hot_new (by simp)
  have hWl1 : w.heap.size + 1 < W.heap.size := by rw [hW]; simp; try omega
  rw [← hW]
  clear hW
  have hWd : ∀ n, (W.drewN n).heap.size = W.heap.size := fun _ => rfl
  have hWq : ∀ n o b j, b < W.heap.size → ((W.drewN n).alloc o).cell? ⟨b, j, none⟩ = W.cell? ⟨b, j, none⟩ := cell_drewN_alloc W
  have hWr : ∀ n o b j, b < W.heap.size → ((W.drewN n).alloc o).frozen? ⟨b, j, none⟩ = W.frozen? ⟨b, j, none⟩ := hot_drewN_alloc W
  have hWb0 : w.heap.size ≤ w.heap.size := by omega
  have hWb1 : w.heap.size ≤ w.heap.size + 1 := by omega
  have hWn01 : w.heap.size ≠ w.heap.size + 1 := by omega
  have hWn10 : w.heap.size + 1 ≠ w.heap.size := by omega
  obtain ⟨W1, hWe1⟩ : ∃ g, w.heap.size + 1 = g := ⟨_, rfl⟩
  rw [hWe1] at hW10 hWf1 hWl1 hWb1 hWn10 hWn01
  (try rw [hWe1])
  have hWk1 := Lib.hid hWe1
  clear hWe1
  obtain ⟨W0, hWe0⟩ : ∃ g, w.heap.size = g := ⟨_, rfl⟩
  have hWb0 : w.heap.size ≤ W0 := by omega
  rw [hWe0] at hW00 hW01 hWf0 hWl0 hWn01 hWn10
  (try rw [hWe0])
  have hWk0 := Lib.hid hWe0
  clear hWe0
  refine wp_region_inv (by kernel_rfl) (IsInv2 w W0 W1 P a ss.length cap u (truthsR P.toNat ss).1 l) (by kernel_rfl) ?_ ?_ ?_
  · exact fun L hL => ⟨.bool false, _, _, _, _, _, _, _, _, _, _, _, rfl, hgW.drew, ⟨(Grow.refl W).drew.keeps hW00, (Grow.refl W).drew.keeps hW01, (Grow.refl W).drew.keeps hW10, fun o => ((Grow.refl W).drew.marks _ _ hWl1).trans (hWf1 o), hWl1⟩, fun h => absurd h (hL _), fun h => absurd h (hL _), fun h => absurd h (hL _), fun h => absurd h (hL _), fun h => absurd h (hL _), fun h => absurd h (hL _), fun h => absurd h (hL _), fun h => absurd h (hL _), fun h => absurd h (hL _), fun h => absurd h (hL _), fun h => absurd h (hL _), fun h => absurd h (hL _)⟩
  · rintro L A V ⟨v4, v7, v8, v9, v10, v11, v12, v13, v14, v15, v16, v17, rfl, hg, hC, h0, h1, h2, h3, h4, h5, h6, h7, h8, h9, h10, h11⟩ hall
    have f0 := h0 (hall 0 (by simp))
    have f1 := h1 (hall 1 (by simp))
    have f2 := h2 (hall 2 (by simp))
    have f3 := h3 (hall 3 (by simp))
    have f4 := h4 (hall 4 (by simp))
    have f5 := h5 (hall 5 (by simp))
    have f6 := h6 (hall 6 (by simp))
    have f7 := h7 (hall 7 (by simp))
    have f8 := h8 (hall 8 (by simp))
    have f9 := h9 (hall 9 (by simp))
    have f10 := h10 (hall 10 (by simp))
    have f11 := h11 (hall 11 (by simp))
    clear hall h0 h1 h2 h3 h4 h5 h6 h7 h8 h9 h10 h11
    subst f11
    have hV0 := hC.2.2.1
    clear f0 f1 f2 f3 f4 f5 f6 f7 f8 f9 f10
    go_wp2
    show Leaves _ _ _ _ _ _ _
    refine leaves_cons (f := 50) (args := #[.pointer (some ⟨W1, 0, none⟩)]) (by simp) (by simp [go_sem]) ?_
    refine (pdefIs_idle W1 _).mono ?_
    rintro e u' w'' ⟨rfl, rfl, rfl⟩
    simp [Leaves, settle, results, Try.results19, go_sem, hV0]
    exact ⟨rfl, hg⟩
  · rintro i o L A V ho hi ⟨v4, v7, v8, v9, v10, v11, v12, v13, v14, v15, v16, v17, rfl, hg, hC, h0, h1, h2, h3, h4, h5, h6, h7, h8, h9, h10, h11⟩ hno hd
    have hio := (Array.getElem?_eq_some_iff.1 ho).1
    simp only [List.size_toArray, List.length_cons, List.length_nil, Nat.reduceAdd] at hio
    obtain rfl | rfl | rfl | rfl | rfl | rfl | rfl | rfl | rfl | rfl | rfl | rfl | rfl : i = 0 ∨ i = 1 ∨ i = 2 ∨ i = 3 ∨ i = 4 ∨ i = 5 ∨ i = 6 ∨ i = 7 ∨ i = 8 ∨ i = 9 ∨ i = 10 ∨ i = 11 ∨ i = 12 := by omega
    · cases ho
      have c0 := hC.1
      have c1 := hC.2.1
      go_simp
      exact ⟨_, _, _, _, _, _, _, _, _, _, _, _, rfl, hg, hC, fun _ => rfl, fun h => h1 (over_ne h (by decide)), fun h => h2 (over_ne h (by decide)), fun h => h3 (over_ne h (by decide)), fun h => h4 (over_ne h (by decide)), fun h => h5 (over_ne h (by decide)), fun h => h6 (over_ne h (by decide)), fun h => h7 (over_ne h (by decide)), fun h => h8 (over_ne h (by decide)), fun h => h9 (over_ne h (by decide)), fun h => h10 (over_ne h (by decide)), fun h => h11 (over_ne h (by decide))⟩
    · cases ho
      have c0 := hC.1
      have c1 := hC.2.1
      go_simp
      exact ⟨_, _, _, _, _, _, _, _, _, _, _, _, rfl, hg, hC, fun h => h0 (over_ne h (by decide)), fun _ => rfl, fun h => h2 (over_ne h (by decide)), fun h => h3 (over_ne h (by decide)), fun h => h4 (over_ne h (by decide)), fun h => h5 (over_ne h (by decide)), fun h => h6 (over_ne h (by decide)), fun h => h7 (over_ne h (by decide)), fun h => h8 (over_ne h (by decide)), fun h => h9 (over_ne h (by decide)), fun h => h10 (over_ne h (by decide)), fun h => h11 (over_ne h (by decide))⟩
    · cases ho
      go_simp
      exact ⟨_, _, _, _, _, _, _, _, _, _, _, _, rfl, hg, hC, fun h => h0 (over_ne h (by decide)), fun h => h1 (over_ne h (by decide)), fun _ => rfl, fun h => h3 (over_ne h (by decide)), fun h => h4 (over_ne h (by decide)), fun h => h5 (over_ne h (by decide)), fun h => h6 (over_ne h (by decide)), fun h => h7 (over_ne h (by decide)), fun h => h8 (over_ne h (by decide)), fun h => h9 (over_ne h (by decide)), fun h => h10 (over_ne h (by decide)), fun h => h11 (over_ne h (by decide))⟩
    · cases ho
      have d1 := h1 (hd { on := 1, ground := .data } (by simp) rfl)
      have d2 := h2 (hd { on := 2, ground := .data } (by simp) rfl)
      subst d1 d2
      go_simp
      go_at_call 52
      refine (pisRace_any P _ _ _ _ l _ (by omega) (by omega) (by omega) (Hu.out.grow hg)).mono ?_
      rw [Hrb.out]
      rintro e V2 ⟨rfl, hgV⟩
      go_simp
      exact ⟨_, _, _, _, _, _, _, _, _, _, _, _, rfl, (fun h => h.trans hgV) hg, (fun h => h.grow hgV) hC, fun h => h0 (over_ne h (by decide)), fun h => h1 (over_ne h (by decide)), fun h => h2 (over_ne h (by decide)), fun _ => rfl, fun h => (fun h => h.grow hgV) (h4 (over_ne h (by decide))), fun h => (fun h => h.grow hgV) (h5 (over_ne h (by decide))), fun h => (fun h => h.grow hgV) (h6 (over_ne h (by decide))), fun h => (fun h => h.grow hgV) (h7 (over_ne h (by decide))), fun h => h8 (over_ne h (by decide)), fun h => h9 (over_ne h (by decide)), fun h => h10 (over_ne h (by decide)), fun h => h11 (over_ne h (by decide))⟩
    · cases ho
      have d0 := h0 (hd { on := 0, ground := .data } (by simp) rfl)
      have d3 := h3 (hd { on := 3, ground := .data } (by simp) rfl)
      subst d0 d3
      go_simp
      go_at_call 43
      refine (popen P _ ss _ _ (Hv.out.grow hg)).mono ?_
      rintro e V2 ⟨hgV, _, hok⟩
      obtain ⟨c, sheets, ts, n, rfl, ⟨v1, v2, q1, q2, q3, q4, q5⟩, hwc, _, hts, hn, hz12⟩ := hok Hc.out
      obtain ⟨a3, c3, rfl, _⟩ := id q4
      go_simp
      exact ⟨_, _, _, _, _, _, _, _, _, _, _, _, rfl, (fun h => h.trans hgV) hg, (fun h => h.grow hgV) hC, fun h => h0 (over_ne h (by decide)), fun h => h1 (over_ne h (by decide)), fun h => h2 (over_ne h (by decide)), fun h => h3 (over_ne h (by decide)), fun _ => ⟨c, ts, a3, c3, rfl, q3, q4, hts⟩, fun h => (fun h => h.grow hgV) (h5 (over_ne h (by decide))), fun h => (fun h => h.grow hgV) (h6 (over_ne h (by decide))), fun h => (fun h => h.grow hgV) (h7 (over_ne h (by decide))), fun h => h8 (over_ne h (by decide)), fun h => h9 (over_ne h (by decide)), fun h => h10 (over_ne h (by decide)), fun h => h11 (over_ne h (by decide))⟩
    · cases ho
      have d4 := h4 (hd { on := 4, ground := .data } (by simp) rfl)
      obtain ⟨c, ts, a3, c3, rfl, q3, q4, hts⟩ := d4
      go_simp
      exact ⟨_, _, _, _, _, _, _, _, _, _, _, _, rfl, hg, hC, fun h => h0 (over_ne h (by decide)), fun h => h1 (over_ne h (by decide)), fun h => h2 (over_ne h (by decide)), fun h => h3 (over_ne h (by decide)), fun h => h4 (over_ne h (by decide)), fun _ => ⟨c, ts, a3, c3, rfl, q3, q4, hts⟩, fun h => h6 (over_ne h (by decide)), fun h => h7 (over_ne h (by decide)), fun h => h8 (over_ne h (by decide)), fun h => h9 (over_ne h (by decide)), fun h => h10 (over_ne h (by decide)), fun h => h11 (over_ne h (by decide))⟩
    · cases ho
      have d5 := h5 (hd { on := 5, ground := .data } (by simp) rfl)
      obtain ⟨c, ts, a3, c3, rfl, q3, q4, hts⟩ := d5
      go_simp
      exact ⟨_, _, _, _, _, _, _, _, _, _, _, _, rfl, hg, hC, fun h => h0 (over_ne h (by decide)), fun h => h1 (over_ne h (by decide)), fun h => h2 (over_ne h (by decide)), fun h => h3 (over_ne h (by decide)), fun h => h4 (over_ne h (by decide)), fun h => h5 (over_ne h (by decide)), fun _ => ⟨c, ts, a3, c3, rfl, q3, q4, hts⟩, fun h => h7 (over_ne h (by decide)), fun h => h8 (over_ne h (by decide)), fun h => h9 (over_ne h (by decide)), fun h => h10 (over_ne h (by decide)), fun h => h11 (over_ne h (by decide))⟩
    · cases ho
      have d6 := h6 (hd { on := 6, ground := .data } (by simp) rfl)
      obtain ⟨c, ts, a3, c3, rfl, q3, q4, hts⟩ := d6
      go_simp
      exact ⟨_, _, _, _, _, _, _, _, _, _, _, _, rfl, hg, hC, fun h => h0 (over_ne h (by decide)), fun h => h1 (over_ne h (by decide)), fun h => h2 (over_ne h (by decide)), fun h => h3 (over_ne h (by decide)), fun h => h4 (over_ne h (by decide)), fun h => h5 (over_ne h (by decide)), fun h => h6 (over_ne h (by decide)), fun _ => ⟨ts, q4, hts⟩, fun h => h8 (over_ne h (by decide)), fun h => h9 (over_ne h (by decide)), fun h => h10 (over_ne h (by decide)), fun h => h11 (over_ne h (by decide))⟩
    · cases ho
      go_simp
      exact ⟨_, _, _, _, _, _, _, _, _, _, _, _, rfl, hg, hC, fun h => h0 (over_ne h (by decide)), fun h => h1 (over_ne h (by decide)), fun h => h2 (over_ne h (by decide)), fun h => h3 (over_ne h (by decide)), fun h => h4 (over_ne h (by decide)), fun h => h5 (over_ne h (by decide)), fun h => h6 (over_ne h (by decide)), fun h => h7 (over_ne h (by decide)), fun _ => rfl, fun h => h9 (over_ne h (by decide)), fun h => h10 (over_ne h (by decide)), fun h => h11 (over_ne h (by decide))⟩
    · cases ho
      have d8 := h8 (hd { on := 8, ground := .data } (by simp) rfl)
      subst d8
      go_simp
      go_at_call 53
      refine (praceOf_any _ l _ (Hu.out.grow hg) Hb.out).mono ?_
      rintro e V2 ⟨rfl, hgV⟩
      go_simp
      exact ⟨_, _, _, _, _, _, _, _, _, _, _, _, rfl, (fun h => h.trans hgV) hg, (fun h => h.grow hgV) hC, fun h => h0 (over_ne h (by decide)), fun h => h1 (over_ne h (by decide)), fun h => h2 (over_ne h (by decide)), fun h => h3 (over_ne h (by decide)), fun h => (fun h => h.grow hgV) (h4 (over_ne h (by decide))), fun h => (fun h => h.grow hgV) (h5 (over_ne h (by decide))), fun h => (fun h => h.grow hgV) (h6 (over_ne h (by decide))), fun h => (fun h => h.grow hgV) (h7 (over_ne h (by decide))), fun h => h8 (over_ne h (by decide)), fun _ => rfl, fun h => h10 (over_ne h (by decide)), fun h => h11 (over_ne h (by decide))⟩
    · cases ho
      have d7 := h7 (hd { on := 7, ground := .data } (by simp) rfl)
      have d9 := h9 (hd { on := 9, ground := .data } (by simp) rfl)
      subst d9
      obtain ⟨ts, q4, hts⟩ := d7
      go_simp
      go_at_call 51
      refine (pContains_any _ ts _ _ q4).mono ?_
      rintro e V2 ⟨⟨bb, rfl, hbb⟩, rfl⟩
      go_simp
      exact ⟨_, _, _, _, _, _, _, _, _, _, _, _, rfl, hg, hC, fun h => h0 (over_ne h (by decide)), fun h => h1 (over_ne h (by decide)), fun h => h2 (over_ne h (by decide)), fun h => h3 (over_ne h (by decide)), fun h => h4 (over_ne h (by decide)), fun h => h5 (over_ne h (by decide)), fun h => h6 (over_ne h (by decide)), fun h => h7 (over_ne h (by decide)), fun h => h8 (over_ne h (by decide)), fun h => h9 (over_ne h (by decide)), fun _ => by rw [mem_bool Hb.out hts hbb], fun h => h11 (over_ne h (by decide))⟩
    · cases ho
      have d10 := h10 (hd { on := 10, ground := .data } (by simp) rfl)
      subst d10
      go_simp
      exact ⟨_, _, _, _, _, _, _, _, _, _, _, _, rfl, hg, hC, fun h => h0 (over_ne h (by decide)), fun h => h1 (over_ne h (by decide)), fun h => h2 (over_ne h (by decide)), fun h => h3 (over_ne h (by decide)), fun h => h4 (over_ne h (by decide)), fun h => h5 (over_ne h (by decide)), fun h => h6 (over_ne h (by decide)), fun h => h7 (over_ne h (by decide)), fun h => h8 (over_ne h (by decide)), fun h => h9 (over_ne h (by decide)), fun h => h10 (over_ne h (by decide)), fun _ => rfl⟩
    · cases ho
      have c2 := hC.2.2.1
      have c3 := hC.2.2.2.1
      have hlt := hC.2.2.2.2
      go_simp
      exact ⟨_, _, _, _, _, _, _, _, _, _, _, _, rfl, hg.setCell (p := ⟨W1, 0, none⟩) (by omega) _, hC.store (by omega), fun h => h0 (over_ne h (by decide)), fun h => h1 (over_ne h (by decide)), fun h => h2 (over_ne h (by decide)), fun h => h3 (over_ne h (by decide)), fun h => (fun h => h.same (same_store hC.2.2.1)) (h4 (over_ne h (by decide))), fun h => (fun h => h.same (same_store hC.2.2.1)) (h5 (over_ne h (by decide))), fun h => (fun h => h.same (same_store hC.2.2.1)) (h6 (over_ne h (by decide))), fun h => (fun h => h.same (same_store hC.2.2.1)) (h7 (over_ne h (by decide))), fun h => h8 (over_ne h (by decide)), fun h => h9 (over_ne h (by decide)), fun h => h10 (over_ne h (by decide)), fun h => h11 (over_ne h (by decide))⟩
theorem pIs_any (P : Int) (v u : Value) (ss : List (List Int)) (l : List Int) (w : World) (hP1 : -9223372036854775808 ≤ P) (hP2 : P ≤ 9223372036854775807) (hv : IsSheets w v ss) (hu : IsInts w u l) :
    Calls Try.prog 19 #[.agg #[.int .i64 P, v], u] w fun e w' => e = .returned (.tuple #[.bool (isR P ss l), .int .i64 (isE P ss l)]) ∧ Grow w w' := by
  obtain ⟨a, cap, rfl, hcap, hlen, hrow⟩ := id hv
  by_cases hval : validB P ss = true
  · have hp := valid_sheets hval
    cases hrb : raceB P l with
    | true =>
      have hc : codeO P ss true = 0 := by unfold codeO; rw [hval]; rfl
      have hE : isE P ss l = 0 := by unfold isE; rw [hval, hrb]; rfl
      have hR : isR P ss l = decide (l ∈ (truthsR P.toNat ss).1) := by unfold isR; rw [if_pos hE]; simp
      rw [hE, hR]
      exact (pIs_ok P _ u ss l w hv hu hc (by omega) (by omega) hrb).mono fun e w' h => h
    | false =>
      have hc : codeO P ss false = 2 := by unfold codeO; rw [hval]; rfl
      have hE : isE P ss l = 2 := by unfold isE; rw [hval, hrb]; rfl
      have hR : isR P ss l = false := by unfold isR; rw [if_neg (by rw [hE]; decide)]
      have h := pIs_bad P _ u ss false w hv (fun V hg => by rw [← hrb]; exact pisRace_any P _ _ _ u l V hP1 hP2 (by omega) (hu.grow hg)) (by rw [hc]; decide)
      rw [hc] at h
      rw [hE, hR]
      exact h
  · have hval' : validB P ss = false := by simpa using hval
    have hc : ∀ b, codeO P ss b = 1 := fun b => by unfold codeO; rw [hval']; rfl
    have hE : isE P ss l = 1 := by unfold isE; rw [hval']; rfl
    have hR : isR P ss l = false := by unfold isR; rw [if_neg (by rw [hE]; decide)]
    have h := pIs_bad P _ u ss (raceQ (wrap64 (P - 1)) l) w hv (fun V hg => pisRace_w P _ _ _ _ u l V (Lib.hid rfl) (hu.grow hg)) (by rw [hc]; decide)
    rw [hc] at h
    rw [hE, hR]
    exact h
end Go.Proofs.Yteijilbdllpbcaa
