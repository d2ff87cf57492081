/- The program of layer 1: Laps. Conditions: sizes. -/
import Derived.Test.YteijilbdllpbcaaPhE
import Derived.RecoverIn
import Derived.RegionIn
namespace Go.Proofs.Yteijilbdllpbcaa
open Go.RowKit

attribute [local go_sem] Oper.semAt_some

theorem wpSIn_of_wpS {n : Nat} {P : Program} {c : Code} {Q : Exit → Act → List Frame → World → Prop} {a : Act} {cs : List Frame} {w : World} (hl : ∀ e a' cs' w', Q e a' cs' w' → cs'.length = cs.length) (h : c.wpS P Q a cs w) : c.wpSIn Fence.wide n P Q a cs w := fun b k hb hr _ _ => by
  obtain ⟨e, a', cs', w', q, r⟩ := h b k hb hr
  refine ⟨e, a', cs', w', hl _ _ _ _ q, q, ?_⟩
  rw [Frame.atR_of_none hr]
  exact (arrivesIn_iff (fun _ _ => stepsIn_wide) hr).2 r
theorem bodyPostS_len {P : Program} {fn : Func} {c₀ : Frame} {cs : List Frame} {R : Ending → FrameMode → World → Prop} (hR : ∀ u w, ¬ R .outgrown u w) : ∀ e a' cs' w', bodyPostS P fn c₀ cs R e a' cs' w' → cs'.length = (c₀ :: cs).length := by
  intro e a' cs' w' h
  cases e with
  | normal => obtain ⟨_, u', rfl, _⟩ := h; rfl
  | ret => obtain ⟨_, u', rfl, _⟩ := h; rfl
  | panic c => obtain ⟨_, u', rfl, _⟩ := h; rfl
  | outgrown => obtain ⟨u', h⟩ := h; exact absurd h (hR _ _)
  | exit i => exact h.elim
  | goto t => exact h.elim
/-- A number of laps. -/
structure Lap where
  n : Int
  lo : 0 ≤ n
  hi : n ≤ 12
def lapF (p : Int) (r : ByteArray) : Lap := if h : r.size ≤ 12 then ⟨lapsB r p, (lapsB_range r p).1, by have := lapsB_range r p; omega⟩ else ⟨0, by omega, by omega⟩
theorem lapF_val (p : Int) {r : ByteArray} (h : r.size ≤ 12) : (lapF p r).n = lapsB r p := by unfold lapF; rw [dif_pos h]
theorem _root_.Go.RowKit.Below.drew' {B : Nat} {a b : World} (h : Below B a b) : Below B a b.drew := ⟨h.os, h.tape, h.output, h.size, h.block⟩
theorem bits_or (m n : Nat) (hm : m < 8192) (hn : n < 8192) : bits .or .i64 (m : Int) (n : Int) = ((m ||| n : Nat) : Int) := by
  have h : m ||| n < 2 ^ 13 := Nat.or_lt_two_pow hm hn
  have e : ∀ k : Nat, k < 8192 → (BitVec.ofInt IntKind.i64.bits (k : Int)).toNat = k := fun k hk => by
    rw [BitVec.ofInt_natCast, BitVec.toNat_ofNat]
    exact Nat.mod_eq_of_lt (Nat.lt_of_lt_of_le hk (by decide))
  show IntKind.i64.wrap (((BitVec.ofInt IntKind.i64.bits (m : Int)) ||| (BitVec.ofInt IntKind.i64.bits (n : Int))).toNat : Int) = _
  rw [BitVec.toNat_or, e m hm, e n hn]
  exact IntWalk.i64_in _ (by omega)
theorem wrap_nat {m : Nat} (h : m < 8192) : IntKind.i64.wrap (m : Int) = m := IntWalk.i64_in _ (by omega)
theorem two_pow12 {x : Int} (h0 : 0 ≤ x) (h1 : x ≤ 12) : 2 ^ x.toNat < 8192 := by
  have : x.toNat ≤ 12 := by omega
  exact Nat.lt_of_le_of_lt (Nat.pow_le_pow_right (by decide) this) (by decide)
/-- The set of some numbers. -/
def setOfN (l : List Nat) : Nat := l.foldl (fun acc n => acc ||| 2 ^ n) 0
theorem setOfN_lt (l : List Nat) (h : ∀ n ∈ l, n ≤ 12) : setOfN l < 8192 := by
  have : ∀ (l : List Nat) (a : Nat), a < 2 ^ 13 → (∀ n ∈ l, n ≤ 12) → l.foldl (fun acc n => acc ||| 2 ^ n) a < 2 ^ 13 := by
    intro l
    induction l with
    | nil => exact fun a h _ => h
    | cons n l ih =>
      intro a ha hl
      exact ih _ (Nat.or_lt_two_pow ha (Nat.pow_lt_pow_right (by decide) (by have := hl n (by simp); omega))) fun m hm => hl m (by simp [hm])
  exact this l 0 (by decide) h
theorem setOfN_snoc (l : List Nat) (n : Nat) : setOfN (l ++ [n]) = setOfN l ||| 2 ^ n := by simp [setOfN]
/-- All numbers of laps that a pair can have. -/
def lapsZ (T : List (List Int)) (p : Int) : Int := ((setOfN (T.map fun t => t.count p) : Nat) : Int)
theorem count_intsB (r : ByteArray) (p : Int) : (lapsB r p).toNat = (intsB r).count p := by
  unfold lapsB intsB
  rw [List.count, List.countP_map, Int.toNat_natCast]
  rfl
def LapsI (w : World) (W2 W3 : Nat) (pre : List Lap) (V : World) : Prop :=
  V.cell? ⟨W2, 0, none⟩ = some (.int .i64 (setOfN (pre.map fun x => x.n.toNat))) ∧ (∀ o, V.frozen? ⟨W2, o, none⟩ = false) ∧ V.cell? ⟨W3, 0, none⟩ = some (.int .i64 0) ∧ (∀ o, V.frozen? ⟨W3, o, none⟩ = false) ∧ Below w.heap.size w V
/-- All cells below a block are as they were, but one. -/
def CellsBut (n0 r : Nat) (A B : World) : Prop := A.heap.size ≤ B.heap.size ∧ ∀ b o, b < n0 → ¬ (b = r ∧ o = 0) → B.cell? ⟨b, o, none⟩ = A.cell? ⟨b, o, none⟩
theorem CellsBut.refl (n0 r : Nat) (A : World) : CellsBut n0 r A A := ⟨Nat.le_refl _, fun _ _ _ _ => rfl⟩
theorem CellsBut.trans {n0 r : Nat} {A B C : World} (h : CellsBut n0 r A B) (k : CellsBut n0 r B C) : CellsBut n0 r A C := ⟨Nat.le_trans h.1 k.1, fun b o hb hn => (k.2 b o hb hn).trans (h.2 b o hb hn)⟩
theorem CellsBut.grow {n0 r : Nat} {A B : World} (hn : n0 ≤ A.heap.size) (h : Grow A B) : CellsBut n0 r A B := ⟨h.size, fun b o hb _ => h.cells b o (Nat.lt_of_lt_of_le hb hn)⟩
theorem CellsBut.set (n0 r : Nat) (A : World) (x : Value) : CellsBut n0 r A (A.setCell ⟨r, 0, none⟩ x) := ⟨by simp [World.setCell], fun b o _ hn => World.cell?_setCell_other _ _ _ _ (by intro e; injection e with e1 e2; exact hn ⟨e1.symm, e2.symm⟩)⟩
theorem CellsBut.keeps {n0 r b o : Nat} {A B : World} {v u : Value} (h : CellsBut n0 r A B) (hb : b < n0) (hr : A.cell? ⟨r, 0, none⟩ = some u) (hc : A.cell? ⟨b, o, none⟩ = some v) (hne : v ≠ u) : B.cell? ⟨b, o, none⟩ = some v :=
  (h.2 b o hb fun e => hne (by rw [e.1, e.2, hr] at hc; exact (Option.some.inj hc).symm)).trans hc
theorem CellsBut.put {n0 r l : Nat} {W : World} {ob : Obj} (o' : Obj) (hl : n0 ≤ l) (h : W.heap[l]? = some ob) : CellsBut n0 r W (W.putObj l o') := by
  have hg := grownBy_putObj' W l o'
  exact ⟨hg.size, fun b o hb _ => by
    have hlt := (Array.getElem?_eq_some_iff.1 h).1
    have hbl := hg.block b (by omega) (by intro e; injection e with e; omega)
    unfold World.cell?
    rw [hbl]⟩
theorem pdefLaps_idle_in (n q : Nat) (w : World) :
    CallsDIn Fence.wide n Try.prog 61 #[.pointer (some ⟨q, 0, none⟩)] .returning w fun e u' w' => e = .returned (.tuple #[]) ∧ u' = .returning ∧ w' = w := by
  refine callsDIn_of_wpSIn Try.func61 rfl trivial fun c₀ cs hu => wpSIn_of_wpS (bodyPostS_len (by rintro u w ⟨h, _⟩; cases h)) ?_
  apply wpS_region
  simp [wpOpsS, go_sem, recoverD, hu, Try.ntmps61]
  refine (psaid_nil q w).mono ?_
  rintro e w' ⟨rfl, rfl⟩
  simp [bodyPostS, results, Try.results61]
  cases c₀
  simp_all
def LapsInvO (W : World) (W0 W1 W2 W3 : Nat) (P p : Int) (a : Option Addr) (n cap : Nat) (rb : Bool) (ss T : List (List Int)) (L : Array Bool) (A : Act) (V : World) : Prop :=
  ∃ v6 v10 v11 v12 v13 v14 v15, A = { tmps := #[.agg #[.int .i64 P, .slice a n cap], .int .i64 p, .pointer (some ⟨W0, 0, none⟩), .pointer (some ⟨W1, 0, none⟩), .pointer (some ⟨W2, 0, none⟩), .pointer (some ⟨W3, 0, none⟩), v6, undef, undef, .func (.func 61) #[] #[.pointer (some ⟨W3, 0, none⟩)], v10, v11, v12, v13, v14, v15, undef, undef, undef, undef, undef, undef, undef, undef, undef], defers := [{ target := .fn (.func 61) #[.pointer (some ⟨W3, 0, none⟩)], args := #[] }] } ∧ (Grow W V) ∧ (Over L 0 → (v10 = .agg #[.int .i64 P, .slice a n cap])) ∧ (Over L 1 → (v11 = .agg #[.int .i64 P, .slice a n cap])) ∧ (Over L 2 → (v12 = .int .i64 p)) ∧ (Over L 3 → (v13 = .bool rb)) ∧ (Over L 4 → (FullAt V ss T v14)) ∧ (Over L 5 → (FullAt V ss T v15)) ∧ (Over L 6 → (FullAt V ss T v6))
set_option maxRecDepth 100000 in
set_option maxHeartbeats 1000000 in
theorem pLaps_ok (P p : Int) (v : Value) (ss : List (List Int)) (rb : Bool) (w : World) (hv : IsSheets w v ss) (hr : ∀ V, Grow w V → Calls Try.prog 62 #[.agg #[.int .i64 P, v], .int .i64 p] V fun e w' => e = .returned (.bool rb) ∧ Grow V w') (hval : validB P ss = true) (hrb : rb = true) (h0 : (truthsR P.toNat ss).1 ≠ []) :
    Calls Try.prog 26 #[.agg #[.int .i64 P, v], .int .i64 p] w fun e w' => e = .returned (.tuple #[.int .i64 (lapsZ (truthsR P.toNat ss).1 p), .int .i64 0]) ∧ Grow w w' := by
  have hmf : ∀ (fn : Fn) (first cap : Array Value) (w : World), (Instr.makeFunc fn first cap).run Try.prog w = .ok (.func fn first cap) w := fun _ _ _ _ => rfl
  have hlenT : ∀ (ts : List ByteArray), ts.map intsB = (truthsR P.toNat ss).1 → ts.length ≤ 13841287201 := by
    intro ts h
    have := truths2_len hval ss.length (Nat.le_refl _)
    unfold truths2 at this
    rw [List.take_length, ← h, List.length_map] at this
    omega
  have hc : codeO P ss rb = 0 := by unfold codeO; rw [hval, hrb]; rfl
  obtain ⟨a, cap, rfl, hcap, hlen, hrow⟩ := id hv
  have Hv := Lib.hid hv
  have HR := Lib.hid hr
  have Hc := Lib.hid hc
  have H0 := Lib.hid h0
  have Hlen := Lib.hid hlenT
  clear hv hr hc h0 hlenT hval hrb
  refine (callsIn_wide (n := 10)).1 (callsIn_of_wp_marks Try.func26 rfl trivial (wpIn_wide.2 ?_) rfl)
  simp only [Try.ntmps26, List.size_toArray, List.length_cons, List.length_nil, Nat.reduceAdd, Nat.reduceSub, Array.replicate_succ, Array.replicate_zero, List.push_toArray, List.append_toArray, List.nil_append, List.cons_append]
  go_wp2_with fail
  obtain ⟨W, hW⟩ : ∃ W, W = ((((w.alloc (.cells #[.int .i64 P, .slice a ss.length cap] 24)).alloc (.cells #[.int .i64 p] 3)).alloc (.cells #[.int .i64 0] 3)).alloc (.cells #[.int .i64 0] 28)) := ⟨_, rfl⟩
  have hgW : Grow w W := by rw [hW]; exact (((((Grow.refl w).alloc _).alloc _).alloc _).alloc _)
  have hW00 : W.cell? ⟨w.heap.size, 0, none⟩ = some (.int .i64 P) := by rw [hW]; exact Grow.keepA (Grow.keepA (Grow.keepA (cell_new (by simp) rfl) _) _) _
  have hW01 : W.cell? ⟨w.heap.size, 1, none⟩ = some (.slice a ss.length cap) := by rw [hW]; exact Grow.keepA (Grow.keepA (Grow.keepA (cell_new (by simp) rfl) _) _) _
  have hWf0 : ∀ o, W.frozen? ⟨w.heap.size, o, none⟩ = false := by intro o; rw [hW]; exact (((Grow.refl _).alloc _).marks _ _ (by simp <;> omega)).trans ((((Grow.refl _).alloc _).marks _ _ (by simp <;> omega)).trans ((((Grow.refl _).alloc _).marks _ _ (by simp <;> omega)).trans (hot_new (by simp))))
  have hWl0 : w.heap.size < W.heap.size := by rw [hW]; simp; try omega
  have hW10 : W.cell? ⟨w.heap.size + 1, 0, none⟩ = some (.int .i64 p) := by rw [hW]; exact Grow.keepA (Grow.keepA (cell_new (by simp) rfl) _) _
  have hWf1 : ∀ o, W.frozen? ⟨w.heap.size + 1, o, none⟩ = false := by intro o; rw [hW]; exact (((Grow.refl _).alloc _).marks _ _ (by simp <;> omega)).trans ((((Grow.refl _).alloc _).marks _ _ (by simp <;> omega)).trans (hot_new (by simp)))
  have hWl1 : w.heap.size + 1 < W.heap.size := by rw [hW]; simp; try omega
  have hW20 : W.cell? ⟨w.heap.size + 1 + 1, 0, none⟩ = some (.int .i64 0) := by rw [hW]; exact Grow.keepA (cell_new (by simp) rfl) _
  have hWf2 : ∀ o, W.frozen? ⟨w.heap.size + 1 + 1, o, none⟩ = false := by intro o; rw [hW]; exact (((Grow.refl _).alloc _).marks _ _ (by simp <;> omega)).trans (hot_new (by simp))
  have hWl2 : w.heap.size + 1 + 1 < W.heap.size := by rw [hW]; simp; try omega
  have hW30 : W.cell? ⟨w.heap.size + 1 + 1 + 1, 0, none⟩ = some (.int .i64 0) := by rw [hW]; exact cell_new (by simp) rfl
  have hWf3 : ∀ o, W.frozen? ⟨w.heap.size + 1 + 1 + 1, o, none⟩ = false := by intro o; rw [hW]; exact hot_new (by simp)
  have hWl3 : w.heap.size + 1 + 1 + 1 < W.heap.size := by rw [hW]; simp; try omega
  rw [← hW]
  clear hW
  have hWd : ∀ n, (W.drewN n).heap.size = W.heap.size := fun _ => rfl
  have hWq : ∀ n o b j, b < W.heap.size → ((W.drewN n).alloc o).cell? ⟨b, j, none⟩ = W.cell? ⟨b, j, none⟩ := cell_drewN_alloc W
  have hWr : ∀ n o b j, b < W.heap.size → ((W.drewN n).alloc o).frozen? ⟨b, j, none⟩ = W.frozen? ⟨b, j, none⟩ := hot_drewN_alloc W
  have hWb0 : w.heap.size ≤ w.heap.size := by omega
  have hWb1 : w.heap.size ≤ w.heap.size + 1 := by omega
  have hWn01 : w.heap.size ≠ w.heap.size + 1 := by omega
  have hWn10 : w.heap.size + 1 ≠ w.heap.size := by omega
  have hWb2 : w.heap.size ≤ w.heap.size + 1 + 1 := by omega
  have hWn02 : w.heap.size ≠ w.heap.size + 1 + 1 := by omega
  have hWn20 : w.heap.size + 1 + 1 ≠ w.heap.size := by omega
  have hWn12 : w.heap.size + 1 ≠ w.heap.size + 1 + 1 := by omega
  have hWn21 : w.heap.size + 1 + 1 ≠ w.heap.size + 1 := by omega
  have hWb3 : w.heap.size ≤ w.heap.size + 1 + 1 + 1 := by omega
  have hWn03 : w.heap.size ≠ w.heap.size + 1 + 1 + 1 := by omega
  have hWn30 : w.heap.size + 1 + 1 + 1 ≠ w.heap.size := by omega
  have hWn13 : w.heap.size + 1 ≠ w.heap.size + 1 + 1 + 1 := by omega
  have hWn31 : w.heap.size + 1 + 1 + 1 ≠ w.heap.size + 1 := by omega
  have hWn23 : w.heap.size + 1 + 1 ≠ w.heap.size + 1 + 1 + 1 := by omega
  have hWn32 : w.heap.size + 1 + 1 + 1 ≠ w.heap.size + 1 + 1 := by omega
  obtain ⟨W3, hWe3⟩ : ∃ g, w.heap.size + 1 + 1 + 1 = g := ⟨_, rfl⟩
  rw [hWe3] at hW30 hWf3 hWl3 hWb3 hWn30 hWn31 hWn32 hWn03 hWn13 hWn23
  (try rw [hWe3])
  have hWk3 := Lib.hid hWe3
  clear hWe3
  obtain ⟨W2, hWe2⟩ : ∃ g, w.heap.size + 1 + 1 = g := ⟨_, rfl⟩
  rw [hWe2] at hW20 hWf2 hWl2 hWb2 hWn20 hWn21 hWn23 hWn02 hWn12 hWn32
  (try rw [hWe2])
  have hWk2 := Lib.hid hWe2
  clear hWe2
  obtain ⟨W1, hWe1⟩ : ∃ g, w.heap.size + 1 = g := ⟨_, rfl⟩
  rw [hWe1] at hW10 hWf1 hWl1 hWb1 hWn10 hWn12 hWn13 hWn01 hWn21 hWn31
  (try rw [hWe1])
  have hWk1 := Lib.hid hWe1
  clear hWe1
  obtain ⟨W0, hWe0⟩ : ∃ g, w.heap.size = g := ⟨_, rfl⟩
  have hWb0 : w.heap.size ≤ W0 := by omega
  rw [hWe0] at hW00 hW01 hWf0 hWl0 hWn01 hWn02 hWn03 hWn10 hWn20 hWn30
  (try rw [hWe0])
  have hWk0 := Lib.hid hWe0
  clear hWe0
  refine wp_region_inv (by kernel_rfl) (LapsInvO W W0 W1 W2 W3 P p a ss.length cap rb ss (truthsR P.toNat ss).1) (by kernel_rfl) ?_ ?_ ?_
  · exact fun L hL => ⟨undef, _, _, _, _, _, _, rfl, (Grow.refl W).drew, fun h => absurd h (hL _), fun h => absurd h (hL _), fun h => absurd h (hL _), fun h => absurd h (hL _), fun h => absurd h (hL _), fun h => absurd h (hL _), fun h => absurd h (hL _)⟩
  · rintro L A V ⟨v6, v10, v11, v12, v13, v14, v15, rfl, hg, h0, h1, h2, h3, h4, h5, h6⟩ hall
    have f0 := h0 (hall 0 (by simp))
    have f1 := h1 (hall 1 (by simp))
    have f2 := h2 (hall 2 (by simp))
    have f3 := h3 (hall 3 (by simp))
    have f4 := h4 (hall 4 (by simp))
    have f5 := h5 (hall 5 (by simp))
    have f6 := h6 (hall 6 (by simp))
    clear hall h0 h1 h2 h3 h4 h5 h6
    obtain ⟨c, sheets, ts, m, rfl, hcs, hsh, hts, hz12⟩ := f6
    clear f0 f1 f2 f3 f4 f5
    obtain ⟨u1, u2, x2, x3, x8, ⟨ra, c2, rfl, x9, x10, x11, x12⟩, x13⟩ := id hcs
    have ht0 : ts ≠ [] := fun e => H0.out (by rw [← hts, e]; rfl)
    have htl : ts.length ≤ 13841287201 := Hlen.out ts hts
    have hW1V : V.cell? ⟨W1, 0, none⟩ = some (.int .i64 p) := hg.keeps hW10
    have hW2V : V.cell? ⟨W2, 0, none⟩ = some (.int .i64 0) := hg.keeps hW20
    have hW3V : V.cell? ⟨W3, 0, none⟩ = some (.int .i64 0) := hg.keeps hW30
    have hW2f : ∀ o, V.frozen? ⟨W2, o, none⟩ = false := fun o => (hg.marks _ _ hWl2).trans (hWf2 o)
    have hW3f : ∀ o, V.frozen? ⟨W3, o, none⟩ = false := fun o => (hg.marks _ _ hWl3).trans (hWf3 o)
    have X8 := Lib.hid x8
    have X12 := Lib.hid x12
    have Hz := Lib.hid hz12
    have Hts := Lib.hid hts
    clear x2 x3 x8 x9 x10 x11 x12 x13 hcs hsh hts hz12
    go_wp2_with (go_at_call 64; refine (peach_any c _ _ _ _).mono ?_; rintro e w1 ⟨g, h, rfl, hg1, hh1, hw1⟩; have Hg1 := Lib.hid hg1; have Hh1 := Lib.hid hh1; clear hg1 hh1)
    have hV1 : Grow V w1 := ((Grow.refl V).alloc _).trans hw1
    have hq1 : w1.cell? ⟨V.heap.size, 0, none⟩ = some (.func (.func 63) #[] #[]) := hw1.keeps (cell_new rfl rfl)
    have hsz : V.heap.size < w1.heap.size := lt_of_cell hq1
    have hb : ∀ b o i x, ra = some ⟨b, o, none⟩ → (ts.map Value.string)[i]? = some x → w1.cell? ⟨b, o + i, none⟩ = some x ∧ b < w1.heap.size ∧ x ≠ .int .i64 0 := by
      intro b o i x hra hx
      obtain ⟨b', o', ha', hc'⟩ := X12.out i x hx
      rw [hra] at ha'; cases ha'
      obtain ⟨r, _, rfl⟩ := List.mem_map.1 (List.mem_of_getElem? hx)
      exact ⟨hV1.keeps hc', lt_of_cell (hV1.keeps hc'), by simp⟩
    have hw1a : w1.cell? ⟨W2, 0, none⟩ = some (.int .i64 0) := hV1.keeps hW2V
    have hW12 : W1 ≠ W2 := hWn12
    have hseq := peach_stops (fun x : Lap => x.n) c g h 65 #[] #[.pointer (some ⟨V.heap.size, 0, none⟩), .pointer (some ⟨W1, 0, none⟩)] (enters_of Try.func65 (by kernel_rfl) rfl) (CellsBut w1.heap.size W2) ra ts c2 (lapF p) w1 htl
      (CellsBut.refl _ _) (fun A B C h k => h.trans k) (fun X A B hg hk hab => CellsBut.grow (Nat.le_trans hg.size hk.1) hab)
      (fun r X A hr' hg' hk => by rw [lapF_val p (Hz.out r hr')]; exact plaps2_any r V.heap.size W1 p A (by have := Hz.out r hr'; omega) (hk.keeps hsz (hg'.keeps hw1a) (hg'.keeps hq1) (by simp)) ((hk.2 W1 0 (lt_of_cell (hV1.keeps hW1V)) (fun e => hW12 e.1)).trans (hg'.keeps (hV1.keeps hW1V)))) Hg1.out (hV1.keeps X8.out)
      (fun X A hg' hk => ⟨hk.keeps (lt_of_cell Hh1.out) (hg'.keeps hw1a) (hg'.keeps Hh1.out) (by simp), fun i x hx => by
        obtain ⟨b', o', ha', hc'⟩ := X12.out i x hx
        obtain ⟨k1, k2, k3⟩ := hb b' o' i x ha' hx
        exact ⟨b', o', ha', hk.keeps k2 (hg'.keeps hw1a) (hg'.keeps k1) k3⟩⟩)
    have Hseq := Lib.hid hseq
    have hWW : Grow W w1 := hg.trans hV1
    have hw1b : w1.cell? ⟨W3, 0, none⟩ = some (.int .i64 0) := hV1.keeps hW3V
    have hw1c : ∀ o, w1.frozen? ⟨W2, o, none⟩ = false := fun o => (hV1.marks _ _ (lt_of_cell hW2V)).trans (hW2f o)
    have hw1d : ∀ o, w1.frozen? ⟨W3, o, none⟩ = false := fun o => (hV1.marks _ _ (lt_of_cell hW3V)).trans (hW3f o)
    have hw1e : Grow w w1 := hgW.trans hWW
    clear hseq X8 X12 hb hq1 hW1V hW2V hW3V hW2f hW3f
    refine (wpIn_wide (n := 10)).1 ?_
    have hE : ∀ args w, (callFunc 89 args).run Try.prog w = .ok (.enter 89 args) w := enters_of Try.func89 (by kernel_rfl) rfl
    refine wpIn_rangeFunc_ownF rfl (by omega) (gf := 89) (lb := #[.pointer (some ⟨g, 0, none⟩), .pointer (some ⟨h, 0, none⟩)]) rfl trivial hE Hseq.out (fun {A B C} h k => CellsBut.trans h k) (fun X l o o' hl hX _ _ => CellsBut.put o' hl hX) (Below.refl _ w1) (fun _ => rfl) (LapsI w W2 W3) (fun _ _ _ => False) ?hI ?hIx ?h0 (fun x => { tmps := #[.agg #[.int .i64 P, .slice a ss.length cap], .int .i64 p, .pointer (some ⟨W0, 0, none⟩), .pointer (some ⟨W1, 0, none⟩), .pointer (some ⟨W2, 0, none⟩), .pointer (some ⟨W3, 0, none⟩), .pointer (some ⟨c, 0, none⟩), .pointer (some ⟨V.heap.size, 0, none⟩), .int .i64 x.n, .func (.func 61) #[] #[.pointer (some ⟨W3, 0, none⟩)], v10, v11, v12, v13, v14, v15, .pointer (some ⟨c, 0, none⟩), .func (.func 65) #[] #[.pointer (some ⟨V.heap.size, 0, none⟩), .pointer (some ⟨W1, 0, none⟩)], .func (.func 89) #[] #[.pointer (some ⟨g, 0, none⟩), .pointer (some ⟨h, 0, none⟩)], .int .i64 x.n, undef, undef, undef, undef, undef], defers := [] }) ?assign ?body ?done ?stop
    case hI =>
      rintro pre A B row ⟨i1, i2, i3, i4, i5⟩ hgr hr
      have hne : ∀ b o y, A.cell? ⟨b, o, none⟩ = some y → row ≠ some b := fun b o y hy e => by
        obtain ⟨ob, ho, hoc⟩ := (hr b e).2
        obtain ⟨o', ho', hc'⟩ := cells_of_cell hy
        rw [ho] at ho'
        cases ho'
        rw [hoc] at hc'
        cases hc'
      exact ⟨byCell1 hgr i1 (hne _ _ _ i1), fun o => (byHot hgr (lt_of_cell i1) (hne _ _ _ i1) o).trans (i2 o), byCell1 hgr i3 (hne _ _ _ i3), fun o => (byHot hgr (lt_of_cell i3) (hne _ _ _ i3) o).trans (i4 o), byBelow' i5 hgr fun k hk => by have := (hr k hk).1; have := hw1e.size; omega⟩
    case hIx => exact fun c s A B row hs hg hr => hs
    case h0 => exact ⟨hw1a, hw1c, hw1b, hw1d, hw1e⟩
    case assign => intro l x X K hK; gi_wp2; exact hK
    case body =>
      rintro l pre x X ⟨i1, i2, i3, i4, i5⟩ hlen
      have hs13 := setOfN_lt (pre.map fun x => x.n.toNat) (by intro n hn; obtain ⟨y, _, rfl⟩ := List.mem_map.1 hn; have := y.hi; omega)
      have hsn := setOfN_snoc (pre.map fun x => x.n.toNat) x.n.toNat
      have hxx : Hid (setOfN ((pre ++ [x]).map fun x => x.n.toNat) = setOfN (pre.map fun x => x.n.toNat) ||| 2 ^ x.n.toNat) := by
        show _ = _
        rw [List.map_append]; exact hsn
      obtain ⟨xv, hx0, hx12⟩ := x
      have hp := two_pow12 hx0 hx12
      have hpI : IntKind.i64.wrap (2 ^ xv.toNat) = ((2 ^ xv.toNat : Nat) : Int) := by
        rw [show (2 : Int) ^ xv.toNat = ((2 ^ xv.toNat : Nat) : Int) by simp]
        exact wrap_nat hp
      have hor := Lib.hid (bits_or _ _ hs13 hp)
      have HpI := Lib.hid hpI
      have hlt2 := lt_of_cell i1
      clear hs13 hsn hp hpI
      gi_wp2
      gi_region
      all_goals
        gi_wp2
        rw [HpI.out, hor.out, ← hxx.out]
        refine ⟨KeepsOthers.trans (KeepsOthers.setCell _ _ _) (KeepsOthers.drew _), CellsBut.trans (CellsBut.set _ _ _ _) ⟨Nat.le_refl _, fun _ _ _ _ => rfl⟩, ?_, ?_, ?_, ?_, ?_⟩
        · exact World.cell?_setCell_same' _ _ _ (by rw [i1]; rfl)
        · exact fun o => (World.frozen?_setCell _ _ _ _).trans (i2 o)
        · exact byCell1 (r := some W2) (byThen (bySet X W2 0 _) ((Grow.refl _).drew)) i3 (by intro e; injection e with e; omega)
        · exact fun o => (World.frozen?_setCell _ _ _ _).trans (i4 o)
        · exact (i5.setCell (p := ⟨W2, 0, none⟩) (by omega) _).drew'
    case stop => rintro D c pre X hD hSp hx; exact hx.elim
    case done =>
      rintro D xs X hD rfl ⟨i1, i2, i3, i4, i5⟩ hK
      have hlt2 := lt_of_cell i1
      have hlt3 := lt_of_cell i3
      have hset : Hid ((((ts.map (lapF p)).map fun x : Lap => x.n.toNat)) = ts.map fun r => (lapsB r p).toNat) := by
        show _ = _
        rw [List.map_map]
        exact List.map_congr_left fun r hr => by show (lapF p r).n.toNat = _; rw [lapF_val p (Hz.out r hr)]
      rw [hset.out] at i1
      obtain ⟨S, hS⟩ : ∃ S : Int, S = ((setOfN (ts.map fun r => (lapsB r p).toNat) : Nat) : Int) := ⟨_, rfl⟩
      rw [← hS] at i1
      have HSs : Hid (S = lapsZ (truthsR P.toNat ss).1 p) := by
        show _ = _
        rw [hS, ← Hts.out, lapsZ, List.map_map]
        congr 2
        exact List.map_congr_left fun r _ => by show _ = ((intsB r).count p); rw [count_intsB]
      clear hS
      have k1 : ((X.setCell ⟨W2, 0, none⟩ (.int .i64 S)).setCell ⟨W3, 0, none⟩ (.int .i64 0)).heap[D]? = some (.deferred (some [])) := (KeepsOthers.trans (KeepsOthers.setCell _ _ _) (KeepsOthers.setCell _ _ _)).same D _ hK rfl
      obtain ⟨Y, hY⟩ : ∃ Y, Y = ((X.setCell ⟨W2, 0, none⟩ (.int .i64 S)).setCell ⟨W3, 0, none⟩ (.int .i64 0)) := ⟨_, rfl⟩
      have y1 : Y.cell? ⟨W2, 0, none⟩ = some (.int .i64 S) := by rw [hY]; exact byCell1 (bySet _ W3 0 _) (World.cell?_setCell_same' _ _ _ (by rw [i1]; rfl)) (by intro e; injection e with e; omega)
      have y2 : Y.cell? ⟨W3, 0, none⟩ = some (.int .i64 0) := by rw [hY]; exact World.cell?_setCell_same' _ _ _ (by rw [byCell1 (bySet _ W2 0 _) i3 (by intro e; injection e with e; omega)]; rfl)
      have y3 : Grow w Y := by rw [hY]; exact (i5.setCell (p := ⟨W2, 0, none⟩) (by omega) _).setCell (p := ⟨W3, 0, none⟩) (by omega) _
      rw [← hY] at k1
      have HY := Lib.hid hY
      clear hY
      have hsw := hw1e.size
      have hD2 := lt_of_cell hw1a
      have hD3 := lt_of_cell hw1b
      have z1 := byCell1 (grownBy_putObj' Y D (.deferred none)) y1 (by intro e; injection e with e; omega)
      have z2 := byCell1 (grownBy_putObj' Y D (.deferred none)) y2 (by intro e; injection e with e; omega)
      have z3 : Grow w (Y.putObj D (.deferred none)) := Below.trans y3 (belowK_b (w := w1) (Nat.le_trans hsw (Nat.le_refl _)) Y D _ _ (by omega) k1 rfl rfl)
      clear hw1a hw1b hw1c hw1d hset
      go_wp2
      rw [← HY.out, ← HSs.out]
      show LeavesInM _ _ _ _ _ _ _ _ _
      refine ⟨by simp, .inl ⟨_, _, rfl, run_takeDeferred k1, ?_⟩⟩
      refine ⟨by simp, .inr ⟨fun _ => by omega, _, _, 61, #[.pointer (some ⟨W3, 0, none⟩)], rfl, by simp [go_sem], fun _ _ => trivial, (pdefLaps_idle_in _ W3 _).mono ?_⟩⟩
      rintro e u' w'' ⟨rfl, rfl, rfl⟩
      simp [LeavesInM, LeavesIn, settle, results, Try.results26, go_sem, z1, z2]
      exact z3
  · rintro i o L A V ho hi ⟨v6, v10, v11, v12, v13, v14, v15, rfl, hg, h0, h1, h2, h3, h4, h5, h6⟩ hno hd
    have hio := (Array.getElem?_eq_some_iff.1 ho).1
    simp only [List.size_toArray, List.length_cons, List.length_nil, Nat.reduceAdd] at hio
    obtain rfl | rfl | rfl | rfl | rfl | rfl | rfl : i = 0 ∨ i = 1 ∨ i = 2 ∨ i = 3 ∨ i = 4 ∨ i = 5 ∨ i = 6 := by omega
    · cases ho
      have c0 := hg.keeps hW00
      have c1 := hg.keeps hW01
      have c2 := hg.keeps hW10
      go_simp
      exact ⟨_, _, _, _, _, _, _, rfl, hg, fun _ => rfl, fun h => h1 (over_ne h (by decide)), fun h => h2 (over_ne h (by decide)), fun h => h3 (over_ne h (by decide)), fun h => h4 (over_ne h (by decide)), fun h => h5 (over_ne h (by decide)), fun h => h6 (over_ne h (by decide))⟩
    · cases ho
      have c0 := hg.keeps hW00
      have c1 := hg.keeps hW01
      have c2 := hg.keeps hW10
      go_simp
      exact ⟨_, _, _, _, _, _, _, rfl, hg, fun h => h0 (over_ne h (by decide)), fun _ => rfl, fun h => h2 (over_ne h (by decide)), fun h => h3 (over_ne h (by decide)), fun h => h4 (over_ne h (by decide)), fun h => h5 (over_ne h (by decide)), fun h => h6 (over_ne h (by decide))⟩
    · cases ho
      have c0 := hg.keeps hW00
      have c1 := hg.keeps hW01
      have c2 := hg.keeps hW10
      go_simp
      exact ⟨_, _, _, _, _, _, _, rfl, hg, fun h => h0 (over_ne h (by decide)), fun h => h1 (over_ne h (by decide)), fun _ => rfl, fun h => h3 (over_ne h (by decide)), fun h => h4 (over_ne h (by decide)), fun h => h5 (over_ne h (by decide)), fun h => h6 (over_ne h (by decide))⟩
    · cases ho
      have d1 := h1 (hd { on := 1, ground := .data } (by simp) rfl)
      have d2 := h2 (hd { on := 2, ground := .data } (by simp) rfl)
      subst d1 d2
      go_simp
      go_at_call 62
      refine (HR.out _ (hgW.trans hg)).mono ?_
      rintro e V2 ⟨rfl, hgV⟩
      go_simp
      exact ⟨_, _, _, _, _, _, _, rfl, (fun h => h.trans hgV) hg, fun h => h0 (over_ne h (by decide)), fun h => h1 (over_ne h (by decide)), fun h => h2 (over_ne h (by decide)), fun _ => rfl, fun h => (fun h => h.grow hgV) (h4 (over_ne h (by decide))), fun h => (fun h => h.grow hgV) (h5 (over_ne h (by decide))), fun h => (fun h => h.grow hgV) (h6 (over_ne h (by decide)))⟩
    · cases ho
      have d0 := h0 (hd { on := 0, ground := .data } (by simp) rfl)
      have d3 := h3 (hd { on := 3, ground := .data } (by simp) rfl)
      subst d0 d3
      go_simp
      go_at_call 43
      refine (popen P _ ss _ _ (Hv.out.grow (hgW.trans hg))).mono ?_
      rintro e V2 ⟨hgV, _, hok⟩
      obtain ⟨c, sheets, ts, m, rfl, hcs, hwc, hsh, hts, hn, hz12⟩ := hok Hc.out
      go_simp
      exact ⟨_, _, _, _, _, _, _, rfl, (fun h => h.trans hgV) hg, fun h => h0 (over_ne h (by decide)), fun h => h1 (over_ne h (by decide)), fun h => h2 (over_ne h (by decide)), fun h => h3 (over_ne h (by decide)), fun _ => ⟨c, sheets, ts, m, rfl, hcs, hsh, hts, hz12⟩, fun h => (fun h => h.grow hgV) (h5 (over_ne h (by decide))), fun h => (fun h => h.grow hgV) (h6 (over_ne h (by decide)))⟩
    · cases ho
      have d4 := h4 (hd { on := 4, ground := .data } (by simp) rfl)
      obtain ⟨c, sheets, ts, m, rfl, hcs, hsh, hts, hz12⟩ := d4
      go_simp
      go_at_call 44
      refine (ptold_yes c sheets ts m _ hcs (fun e => H0.out (by rw [← hts, e]; rfl))).mono ?_
      rintro e w1 ⟨rfl, rfl⟩
      go_simp
      exact ⟨_, _, _, _, _, _, _, rfl, hg, fun h => h0 (over_ne h (by decide)), fun h => h1 (over_ne h (by decide)), fun h => h2 (over_ne h (by decide)), fun h => h3 (over_ne h (by decide)), fun h => h4 (over_ne h (by decide)), fun _ => ⟨c, sheets, ts, m, rfl, hcs, hsh, hts, hz12⟩, fun h => h6 (over_ne h (by decide))⟩
    · cases ho
      have d5 := h5 (hd { on := 5, ground := .data } (by simp) rfl)
      obtain ⟨c, sheets, ts, m, rfl, hcs, hsh, hts, hz12⟩ := d5
      go_simp
      exact ⟨_, _, _, _, _, _, _, rfl, hg, fun h => h0 (over_ne h (by decide)), fun h => h1 (over_ne h (by decide)), fun h => h2 (over_ne h (by decide)), fun h => h3 (over_ne h (by decide)), fun h => h4 (over_ne h (by decide)), fun h => h5 (over_ne h (by decide)), fun _ => ⟨c, sheets, ts, m, rfl, hcs, hsh, hts, hz12⟩⟩
end Go.Proofs.Yteijilbdllpbcaa
