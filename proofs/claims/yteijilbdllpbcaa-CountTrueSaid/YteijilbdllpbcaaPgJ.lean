/- The program of layer 1: all races with the fewest errors from some place on: the walk. Conditions: sizes. -/
import Derived.Test.YteijilbdllpbcaaPgH
namespace Go.Proofs.Yteijilbdllpbcaa
open Go.RowKit Go.Instr

def passV (q : Nat) : Value := if q = 0 then .iface 136 (.agg #[]) else if q = 1 then .iface 137 (.agg #[]) else .iface 139 (.agg #[])
def passA : Value := .agg #[.iface 136 (.agg #[]), .iface 137 (.agg #[]), .iface 139 (.agg #[])]
theorem meth {t k : Nat} (s : String) (w : World) (h : (method 280 t (.agg #[]) s).run Try.prog w = .ok (k, .agg #[]) w) : (method 280 t (.agg #[]) s).run Try.prog w = .ok (k, .agg #[]) w := h
/-- What the loop over all that can happen keeps. -/
def R1 (w : World) (m : Nat) (X : Nat → Prop) (a b : List UInt8) (i j W0 W1 W2 q : Nat) (wr : World) : Prop :=
  w.grownBy wr (some m) ∧ wr.cell? ⟨W0, 0, none⟩ = some (.int .i64 i) ∧ wr.cell? ⟨W0, 1, none⟩ = some (.int .i64 j) ∧ wr.cell? ⟨W1, 0, none⟩ = some (.int .i64 0) ∧ wr.cell? ⟨W1, 1, none⟩ = some (.map none) ∧
    (∀ o, wr.frozen? ⟨W1, o, none⟩ = false) ∧ (∀ o, wr.frozen? ⟨W2, o, none⟩ = false) ∧ wr.cell? ⟨W2, 0, none⟩ = some (.int .i64 (bc (a.drop i) (b.drop j) q)) ∧
    ((wr.cell? ⟨W2, 1, none⟩ = some (.map none) ∧ bc (a.drop i) (b.drop j) q = 1000 ∧ SeenOk wr m X a b) ∨
     (∃ kb, wr.cell? ⟨W2, 1, none⟩ = some (.map (some kb)) ∧ (¬ X kb ∧ w.heap.size ≤ kb) ∧ SetIs wr kb (BS (a.drop i) (b.drop j) q) ∧ SeenOk wr m (fun k => X k ∨ k = kb) a b))

theorem R1.grow {w : World} {m : Nat} {X : Nat → Prop} {a b : List UInt8} {i j W0 W1 W2 q : Nat} {wr V : World} (h : R1 w m X a b i j W0 W1 W2 q wr) (hg : Grow wr V) : R1 w m X a b i j W0 W1 W2 q V := by
  obtain ⟨h1, h2, h3, h4, h5, h6, h7, h8, h9⟩ := h
  refine ⟨byThen h1 hg, hg.keeps h2, hg.keeps h3, hg.keeps h4, hg.keeps h5, fun o => (hg.marks _ _ (lt_of_cell h4)).trans (h6 o), fun o => (hg.marks _ _ (lt_of_cell h8)).trans (h7 o), hg.keeps h8, ?_⟩
  rcases h9 with ⟨c1, c2, c3⟩ | ⟨kb, c1, c2, c3, c4⟩
  · exact .inl ⟨hg.keeps c1, c2, c3.grow hg⟩
  · exact .inr ⟨kb, hg.keeps c1, c2, c3.grow hg, c4.grow hg⟩
theorem R1.skip {w : World} {m : Nat} {X : Nat → Prop} {a b : List UInt8} {i j W0 W1 W2 q : Nat} {wr : World} (h : R1 w m X a b i j W0 W1 W2 q wr) (hm : mvs (a.drop i) (b.drop j) q = .none) : R1 w m X a b i j W0 W1 W2 (q + 1) wr := by
  obtain ⟨h1, h2, h3, h4, h5, h6, h7, h8, h9⟩ := h
  refine ⟨h1, h2, h3, h4, h5, h6, h7, by rw [bc_none hm]; exact h8, ?_⟩
  rw [bc_none hm]
  rcases h9 with h9 | ⟨kb, c1, c2, c3, c4⟩
  · exact .inl h9
  · exact .inr ⟨kb, c1, c2, c3.iff fun t => (BS_none hm t).symm, c4⟩
theorem R1.more {w : World} {m : Nat} {X : Nat → Prop} {a b : List UInt8} {i j W0 W1 W2 q n : Nat} {nx : List UInt8 × List UInt8} {who : List UInt8} {wr : World} (h : R1 w m X a b i j W0 W1 W2 q wr) (hm : mvs (a.drop i) (b.drop j) q = some (nx, who, n)) (hlt : bc (a.drop i) (b.drop j) q < n + dist nx.1 nx.2) : R1 w m X a b i j W0 W1 W2 (q + 1) wr := by
  obtain ⟨h1, h2, h3, h4, h5, h6, h7, h8, h9⟩ := h
  have e : bc (a.drop i) (b.drop j) (q + 1) = bc (a.drop i) (b.drop j) q := by rw [bc_some hm]; omega
  refine ⟨h1, h2, h3, h4, h5, h6, h7, by rw [e]; exact h8, ?_⟩
  rw [e]
  rcases h9 with h9 | ⟨kb, c1, c2, c3, c4⟩
  · exact .inl h9
  · exact .inr ⟨kb, c1, c2, c3.iff fun t => (BS_more hm hlt t).symm, c4⟩
/-- The rest of the relation, whatever the best is. -/
def R0 (w : World) (m : Nat) (i j W0 W1 W2 : Nat) (wr : World) : Prop :=
  w.grownBy wr (some m) ∧ wr.cell? ⟨W0, 0, none⟩ = some (.int .i64 i) ∧ wr.cell? ⟨W0, 1, none⟩ = some (.int .i64 j) ∧ wr.cell? ⟨W1, 0, none⟩ = some (.int .i64 0) ∧ wr.cell? ⟨W1, 1, none⟩ = some (.map none) ∧
    (∀ o, wr.frozen? ⟨W1, o, none⟩ = false) ∧ (∀ o, wr.frozen? ⟨W2, o, none⟩ = false)
theorem R0.by {w : World} {m : Nat} {i j W0 W1 W2 : Nat} {wr V : World} {u : Value} (h : R0 w m i j W0 W1 W2 wr) (hc : wr.cell? ⟨W2, 0, none⟩ = some u) (hg : wr.grownBy V (some m)) (h0 : m ≠ W0) (h1 : m ≠ W1) (h2 : m ≠ W2) : R0 w m i j W0 W1 W2 V := by
  obtain ⟨k1, k2, k3, k4, k5, k6, k7⟩ := h
  exact ⟨byBy k1 hg, byCell1 hg k2 (by simpa using h0), byCell1 hg k3 (by simpa using h0), byCell1 hg k4 (by simpa using h1), byCell1 hg k5 (by simpa using h1), fun o => (byHot hg (lt_of_cell k4) (by simpa using h1) o).trans (k6 o), fun o => (byHot hg (lt_of_cell hc) (by simpa using h2) o).trans (k7 o)⟩
theorem R0.grow {w : World} {m : Nat} {i j W0 W1 W2 : Nat} {wr V : World} {u : Value} (h : R0 w m i j W0 W1 W2 wr) (hc : wr.cell? ⟨W2, 0, none⟩ = some u) (hg : Grow wr V) : R0 w m i j W0 W1 W2 V := by
  obtain ⟨k1, k2, k3, k4, k5, k6, k7⟩ := h
  exact ⟨byThen k1 hg, hg.keeps k2, hg.keeps k3, hg.keeps k4, hg.keeps k5, fun o => (hg.marks _ _ (lt_of_cell k4)).trans (k6 o), fun o => (hg.marks _ _ (lt_of_cell hc)).trans (k7 o)⟩
/-- The best so far, with the blocks to keep apart. -/
def Best (B0 : Nat) (X X' : Nat → Prop) (A B : List UInt8) (q : Nat) (mv : Option Nat) (V : World) : Prop :=
  (mv = none ∧ bc A B q = 1000 ∧ X' = X) ∨ (∃ kb, mv = some kb ∧ (¬ X kb ∧ B0 ≤ kb) ∧ SetIs V kb (BS A B q) ∧ X' = fun k => X k ∨ k = kb)
theorem R1.best {w : World} {m : Nat} {X : Nat → Prop} {a b : List UInt8} {i j W0 W1 W2 q : Nat} {V : World} (h : R1 w m X a b i j W0 W1 W2 q V) :
    ∃ (mv : Option Nat) (X' : Nat → Prop), R0 w m i j W0 W1 W2 V ∧ V.cell? ⟨W2, 0, none⟩ = some (.int .i64 (bc (a.drop i) (b.drop j) q)) ∧ V.cell? ⟨W2, 1, none⟩ = some (.map mv) ∧ SeenOk V m X' a b ∧ (∀ k, X' k → X k ∨ k < V.heap.size) ∧ Best w.heap.size X X' (a.drop i) (b.drop j) q mv V := by
  obtain ⟨h1, h2, h3, h4, h5, h6, h7, h8, h9⟩ := h
  rcases h9 with ⟨c1, c2, c3⟩ | ⟨kb, c1, c2, c3, c4⟩
  · exact ⟨none, X, ⟨h1, h2, h3, h4, h5, h6, h7⟩, h8, c1, c3, fun k hk => .inl hk, .inl ⟨rfl, c2, rfl⟩⟩
  · exact ⟨some kb, _, ⟨h1, h2, h3, h4, h5, h6, h7⟩, h8, c1, c4, fun k hk => hk.elim .inl fun e => .inr (by rw [e]; exact c3.lt), .inr ⟨kb, rfl, c2, c3, rfl⟩⟩
theorem R1.of {w : World} {m : Nat} {X X' : Nat → Prop} {a b : List UInt8} {i j W0 W1 W2 q : Nat} {V : World} {mv : Option Nat} (h : R0 w m i j W0 W1 W2 V) (hc : V.cell? ⟨W2, 0, none⟩ = some (.int .i64 (bc (a.drop i) (b.drop j) q))) (h1 : V.cell? ⟨W2, 1, none⟩ = some (.map mv))
    (hs : SeenOk V m X' a b) (hb : Best w.heap.size X X' (a.drop i) (b.drop j) q mv V) : R1 w m X a b i j W0 W1 W2 q V := by
  obtain ⟨k1, k2, k3, k4, k5, k6, k7⟩ := h
  refine ⟨k1, k2, k3, k4, k5, k6, k7, hc, ?_⟩
  rcases hb with ⟨rfl, c2, rfl⟩ | ⟨kb, rfl, c2, c3, rfl⟩
  · exact .inl ⟨h1, c2, hs⟩
  · exact .inr ⟨kb, h1, c2, c3, hs⟩
theorem Best.kept {B0 : Nat} {X X' : Nat → Prop} {A B : List UInt8} {q : Nat} {mv : Option Nat} {V V' : World} {m : Nat} (h : Best B0 X X' A B q mv V) (hg : V.grownBy V' (some m)) (hm : X m) : Best B0 X X' A B q mv V' := by
  rcases h with h | ⟨kb, h1, h2, h3, h4⟩
  · exact .inl h
  · exact .inr ⟨kb, h1, h2, h3.kept hg (fun e => by injection e with e; exact h2.1 (e ▸ hm)), h4⟩
theorem Best.sub {B0 : Nat} {X X' : Nat → Prop} {A B : List UInt8} {q : Nat} {mv : Option Nat} {V : World} (h : Best B0 X X' A B q mv V) : ∀ k, X k → X' k := by
  rcases h with ⟨_, _, rfl⟩ | ⟨kb, _, _, _, rfl⟩
  · exact fun _ h => h
  · exact fun _ h => .inl h
theorem Best.grow {B0 : Nat} {X X' : Nat → Prop} {A B : List UInt8} {q : Nat} {mv : Option Nat} {V V' : World} (h : Best B0 X X' A B q mv V) (hg : Grow V V') : Best B0 X X' A B q mv V' := by
  rcases h with h | ⟨kb, h1, h2, h3, h4⟩
  · exact .inl h
  · exact .inr ⟨kb, h1, h2, h3.grow hg, h4⟩
theorem R0.set {w : World} {m : Nat} {i j W0 W1 W2 : Nat} {V : World} (h : R0 w m i j W0 W1 W2 V) (h0 : W0 ≠ W2) (h1 : W1 ≠ W2) (hb : w.heap.size ≤ W2) (o : Nat) (x : Value) : R0 w m i j W0 W1 W2 (V.setCell ⟨W2, o, none⟩ x) := by
  obtain ⟨k1, k2, k3, k4, k5, k6, k7⟩ := h
  have hc : ∀ b o' v, b ≠ W2 → V.cell? ⟨b, o', none⟩ = some v → (V.setCell ⟨W2, o, none⟩ x).cell? ⟨b, o', none⟩ = some v := fun b o' v hne hv => by
    rw [World.cell?_setCell_other _ _ _ _ (by simp)]; exact hv
  refine ⟨⟨k1.os, k1.tape, k1.output, by simpa using k1.size, fun k hk hne => ?_⟩, hc _ _ _ h0 k2, hc _ _ _ h0 k3, hc _ _ _ h1 k4, hc _ _ _ h1 k5, fun o' => by rw [World.frozen?_setCell]; exact k6 o', fun o' => by rw [World.frozen?_setCell]; exact k7 o'⟩
  rw [Below.heap_setCell _ _ _ _ (by simp; omega)]
  exact k1.block k hk hne
theorem RowAt.byMap {w w' : World} {a : Option Addr} {vs : List Value} {m : Nat} {κ : Type} {ke : κ → Value} {l : List (κ × Value)} (h : RowAt w a vs) (hg : w.grownBy w' (some m)) (hm : MapIs w m ke l) : RowAt w' a vs := fun i x hx => by
  obtain ⟨b, o, ha, hc⟩ := h i x hx
  exact ⟨b, o, ha, byCell1 hg hc (by simpa using hm.apart hc)⟩
/-- Behind the comparison with the best so far: where the new races go, and what is there already. -/
def R2 (w : World) (m : Nat) (X : Nat → Prop) (a b : List UInt8) (i j W0 W1 W2 q K0 kk : Nat) (nx : List UInt8 × List UInt8) (who : List UInt8) (ua : Option Addr) (V : World) : Prop :=
  ∃ kb S0, R0 w m i j W0 W1 W2 V ∧ V.cell? ⟨W2, 0, none⟩ = some (.int .i64 (bc (a.drop i) (b.drop j) (q + 1))) ∧ V.cell? ⟨W2, 1, none⟩ = some (.map (some kb)) ∧ (¬ X kb ∧ w.heap.size ≤ kb) ∧ SeenOk V m (fun k => X k ∨ k = kb) a b ∧ SetIs V kb S0 ∧
    (∀ t, BS (a.drop i) (b.drop j) (q + 1) t ↔ S0 t ∨ NW nx who t) ∧ kk ≠ kb ∧ SetIs V kk (fun t => IsT t nx.1 nx.2) ∧ V.cell? ⟨K0, 1, none⟩ = some (.map (some kk)) ∧ RowAt V ua (who.map fun c => .int .u8 c.toNat)
theorem R2.new {w : World} {m : Nat} {X : Nat → Prop} {a b : List UInt8} {i j W0 W1 W2 q K0 kk e n : Nat} {nx : List UInt8 × List UInt8} {who : List UInt8} {ua : Option Addr} {V : World} {mv : Option Nat}
    (h : R0 w m i j W0 W1 W2 V) (h0 : W0 ≠ W2) (h1 : W1 ≠ W2) (hb : w.heap.size ≤ W2) (hc : V.cell? ⟨W2, 0, none⟩ = some (.int .i64 e)) (hc1 : V.cell? ⟨W2, 1, none⟩ = some (.map mv)) (hX : ∀ k, X k → k < V.heap.size)
    (hs : SeenOk V m X a b) (hm : mvs (a.drop i) (b.drop j) q = some (nx, who, n)) (hlt : n + dist nx.1 nx.2 < bc (a.drop i) (b.drop j) q) (hk : SetIs V kk (fun t => IsT t nx.1 nx.2)) (hK : V.cell? ⟨K0, 1, none⟩ = some (.map (some kk))) (hKW : K0 ≠ W2) (hr : RowAt V ua (who.map fun c => .int .u8 c.toNat)) (x : Int) (hx : x = ((n + dist nx.1 nx.2 : Nat) : Int)) (hrW : ∀ b o, ua = some ⟨b, o, none⟩ → b ≠ W2) :
    R2 w m X a b i j W0 W1 W2 q K0 kk nx who ua (((V.setCell ⟨W2, 0, none⟩ (.int .i64 x)).setCell ⟨W2, 1, none⟩ (.map (some V.heap.size))).alloc (.map #[] 0)) := by
  have h2 := cells2 (x := .int .i64 x) (y := .map (some V.heap.size)) hc hc1
  have hR := (h.set h0 h1 hb 0 (.int .i64 x)).set h0 h1 hb 1 (.map (some V.heap.size))
  have hs1 := (hs.setCell ⟨W2, 0, none⟩ (.int .i64 x)).setCell ⟨W2, 1, none⟩ (.map (some V.heap.size))
  have hk1 := (hk.setCell ⟨W2, 0, none⟩ (.int .i64 x)).setCell ⟨W2, 1, none⟩ (.map (some V.heap.size))
  have hK1 : ((V.setCell ⟨W2, 0, none⟩ (.int .i64 x)).setCell ⟨W2, 1, none⟩ (.map (some V.heap.size))).cell? ⟨K0, 1, none⟩ = some (.map (some kk)) := by
    rw [World.cell?_setCell_other _ _ _ _ (by simp), World.cell?_setCell_other _ _ _ _ (by simp)]; exact hK
  have hr1 : RowAt ((V.setCell ⟨W2, 0, none⟩ (.int .i64 x)).setCell ⟨W2, 1, none⟩ (.map (some V.heap.size))) ua (who.map fun c => .int .u8 c.toNat) := by
    intro i x hx
    obtain ⟨b, o, ha, hc⟩ := hr i x hx
    have := hrW b o ha
    exact ⟨b, o, ha, by rw [World.cell?_setCell_other _ _ _ _ (by simp), World.cell?_setCell_other _ _ _ _ (by simp)]; exact hc⟩
  have hz : ((V.setCell ⟨W2, 0, none⟩ (.int .i64 x)).setCell ⟨W2, 1, none⟩ (.map (some V.heap.size))).heap.size = V.heap.size := h2.2.2.2
  obtain ⟨V1, hV1⟩ : ∃ V1, V1 = (V.setCell ⟨W2, 0, none⟩ (.int .i64 x)).setCell ⟨W2, 1, none⟩ (.map (some V.heap.size)) := ⟨_, rfl⟩
  rw [← hV1] at h2 hR hs1 hk1 hK1 hr1 hz ⊢
  have hg := (Grow.refl V1).alloc (.map #[] 0)
  have hnew := MapIs.made V1 Value.string
  rw [hz] at hnew
  refine ⟨V.heap.size, fun _ => False, hR.grow h2.1 hg, ?_, hg.keeps h2.2.1, ⟨fun h => absurd (hX _ h) (by omega), by have := hR.1.size; omega⟩, (hs1.more (by omega)).grow hg, ⟨[], hnew, by simp⟩, ?_, ?_, hk1.grow hg, hg.keeps hK1, hr1.grow hg⟩
  · rw [hg.keeps h2.1, hx, bc_some hm, Nat.min_eq_right (by omega)]
  · intro t; rw [BS_less hm hlt]; simp
  · have := hk.lt; omega
theorem R2.old {w : World} {m : Nat} {X X' : Nat → Prop} {a b : List UInt8} {i j W0 W1 W2 q K0 kk n : Nat} {nx : List UInt8 × List UInt8} {who : List UInt8} {ua : Option Addr} {V : World} {mv : Option Nat}
    (h : R0 w m i j W0 W1 W2 V) (hc : V.cell? ⟨W2, 0, none⟩ = some (.int .i64 (bc (a.drop i) (b.drop j) q))) (hc1 : V.cell? ⟨W2, 1, none⟩ = some (.map mv))
    (hs : SeenOk V m X' a b) (hbst : Best w.heap.size X X' (a.drop i) (b.drop j) q mv V) (hm : mvs (a.drop i) (b.drop j) q = some (nx, who, n)) (heq : n + dist nx.1 nx.2 = bc (a.drop i) (b.drop j) q) (hlt : n + dist nx.1 nx.2 < 1000) (hkk : ¬ X' kk) (hk : SetIs V kk (fun t => IsT t nx.1 nx.2)) (hK : V.cell? ⟨K0, 1, none⟩ = some (.map (some kk))) (hr : RowAt V ua (who.map fun c => .int .u8 c.toNat)) :
    R2 w m X a b i j W0 W1 W2 q K0 kk nx who ua V := by
  rcases hbst with ⟨_, c2, _⟩ | ⟨kb, rfl, c2, c3, rfl⟩
  · omega
  · refine ⟨kb, _, h, ?_, hc1, c2, hs, c3, fun t => BS_same hm heq t, fun e => hkk (.inr e), hk, hK, hr⟩
    rw [hc, bc_some hm, Nat.min_eq_left (by omega)]
theorem R0.row {w : World} {m r : Nat} {i j W0 W1 W2 : Nat} {wr V : World} {u : Value} (h : R0 w m i j W0 W1 W2 wr) (hc : wr.cell? ⟨W2, 0, none⟩ = some u) (hg : wr.grownBy V (some r)) (hr : w.heap.size ≤ r) (h0 : r ≠ W0) (h1 : r ≠ W1) (h2 : r ≠ W2) : R0 w m i j W0 W1 W2 V := by
  obtain ⟨k1, k2, k3, k4, k5, k6, k7⟩ := h
  have hB : Below w.heap.size wr V := grownBy_below hg (by intro k hk; injection hk with hk; omega) k1.size
  exact ⟨byBelow k1 hB, byCell1 hg k2 (by simpa using h0), byCell1 hg k3 (by simpa using h0), byCell1 hg k4 (by simpa using h1), byCell1 hg k5 (by simpa using h1), fun o => (byHot hg (lt_of_cell k4) (by simpa using h1) o).trans (k6 o), fun o => (byHot hg (lt_of_cell hc) (by simpa using h2) o).trans (k7 o)⟩
/-- The races that are told of behind some of the best ones that follow. -/
def upSet (S0 : List UInt8 → Prop) (who : List UInt8) (lk todo : List (ByteArray × Value)) (t : List UInt8) : Prop :=
  S0 t ∨ ∃ c, c ∈ who ∧ ∃ p, p ∈ lk ∧ p.1 ∉ todo.map (·.1) ∧ t = c :: p.1.data.toList
def upSet2 (S0 : List UInt8 → Prop) (who : List UInt8) (lk todo : List (ByteArray × Value)) (x : ByteArray) (k : Nat) (t : List UInt8) : Prop :=
  upSet S0 who lk todo t ∨ ∃ c, c ∈ who.take k ∧ t = c :: x.data.toList
theorem upSet_start (S0 : List UInt8 → Prop) (who : List UInt8) (lk : List (ByteArray × Value)) (t : List UInt8) : upSet S0 who lk lk t ↔ S0 t := by
  unfold upSet
  constructor
  · rintro (h | ⟨c, hc, p, hp, hn, _⟩)
    · exact h
    · exact absurd (List.mem_map_of_mem hp) hn
  · exact .inl
theorem upSet_step {S0 : List UInt8 → Prop} {who : List UInt8} {lk pre post : List (ByteArray × Value)} {p : ByteArray × Value} (hsub : ∀ r ∈ pre ++ p :: post, r ∈ lk) (hnd : ((pre ++ p :: post).map (·.1)).Nodup) (t : List UInt8) :
    upSet S0 who lk (pre ++ post) t ↔ upSet2 S0 who lk (pre ++ p :: post) p.1 who.length t := by
  unfold upSet2 upSet
  rw [List.take_length]
  have hp : p ∈ lk := hsub p (by simp)
  have hn : p.1 ∉ (pre ++ post).map (·.1) := by
    simp only [List.map_append, List.map_cons] at hnd ⊢
    have := (List.nodup_append.1 hnd)
    have h2 := List.nodup_cons.1 this.2.1
    intro h
    rcases List.mem_append.1 h with h | h
    · exact this.2.2 _ h _ (List.mem_cons_self) rfl
    · exact h2.1 h
  have hiff : ∀ x, x ∉ (pre ++ post).map (·.1) ↔ x ∉ (pre ++ p :: post).map (·.1) ∨ x = p.1 := by
    intro x
    simp only [List.map_append, List.map_cons, List.mem_append, List.mem_cons]
    constructor
    · intro h
      by_cases e : x = p.1
      · exact .inr e
      · exact .inl fun h' => h'.elim (fun h1 => h (.inl h1)) (fun h1 => h1.elim e fun h2 => h (.inr h2))
    · rintro (h | rfl)
      · exact fun h' => h'.elim (fun h1 => h (.inl h1)) (fun h1 => h (.inr (.inr h1)))
      · simpa [List.map_append] using hn
  constructor
  · rintro (h | ⟨c, hc, r, hr, hnr, ht⟩)
    · exact .inl (.inl h)
    · rcases (hiff _).1 hnr with h | h
      · exact .inl (.inr ⟨c, hc, r, hr, h, ht⟩)
      · exact .inr ⟨c, hc, by rw [ht, h]⟩
  · rintro ((h | ⟨c, hc, r, hr, hnr, ht⟩) | ⟨c, hc, ht⟩)
    · exact .inl h
    · exact .inr ⟨c, hc, r, hr, (hiff _).2 (.inl hnr), ht⟩
    · exact .inr ⟨c, hc, p, hp, hn, ht⟩
theorem upSet2_zero (S0 : List UInt8 → Prop) (who : List UInt8) (lk todo : List (ByteArray × Value)) (x : ByteArray) (t : List UInt8) : upSet2 S0 who lk todo x 0 t ↔ upSet S0 who lk todo t := by simp [upSet2]
theorem upSet2_succ {S0 : List UInt8 → Prop} {who : List UInt8} {lk todo : List (ByteArray × Value)} {x : ByteArray} {k : Nat} {c : UInt8} (h : who[k]? = some c) (t : List UInt8) : upSet2 S0 who lk todo x (k + 1) t ↔ upSet2 S0 who lk todo x k t ∨ t = c :: x.data.toList := by
  unfold upSet2
  rw [take_get h]
  constructor
  · rintro (h | ⟨c', hc, ht⟩)
    · exact .inl (.inl h)
    · rcases List.mem_append.1 hc with hc | hc
      · exact .inl (.inr ⟨c', hc, ht⟩)
      · simp at hc; subst hc; exact .inr ht
  · rintro ((h | ⟨c', hc, ht⟩) | h)
    · exact .inl h
    · exact .inr ⟨c', by simp [hc], ht⟩
    · exact .inr ⟨c, by simp, h⟩
theorem upSet_end {S0 : List UInt8 → Prop} {who : List UInt8} {lk : List (ByteArray × Value)} {nx : List UInt8 × List UInt8} (hlk : ∀ t : ByteArray, t ∈ lk.map (·.1) ↔ IsT t.data.toList nx.1 nx.2) (t : List UInt8) : upSet S0 who lk [] t ↔ S0 t ∨ NW nx who t := by
  unfold upSet NW
  refine or_congr_right ⟨?_, ?_⟩
  · rintro ⟨c, hc, p, hp, _, ht⟩
    exact ⟨c, _, hc, ht, (hlk _).1 (List.mem_map_of_mem hp)⟩
  · rintro ⟨c, t', hc, ht, hT⟩
    obtain ⟨p, hp, he⟩ := List.mem_map.1 ((hlk ⟨t'.toArray⟩).2 (by simpa using hT))
    exact ⟨c, hc, p, hp, by simp, by rw [ht, he]⟩
theorem conv1 (V : World) (c : UInt8) (g : Nat) (hg : V.cell? ⟨g, 0, none⟩ = some (.int .u8 c.toNat)) : (convert 56 79 (.slice (some ⟨g, 0, none⟩) 1 1)).run Try.prog V = .ok (.string ⟨#[c]⟩) V := by
  have h := run_convert_bytes_arg (P := Try.prog) V 56 5 (by kernel_rfl) (by kernel_rfl) g 0 1 1 [(c.toNat : Int)] rfl (fun i hi => by
    obtain rfl : i = 0 := by simpa using hi
    simpa using hg) 79 (by kernel_rfl)
  rw [h, show strOfNums [(c.toNat : Int)] = ⟨#[c]⟩ by simp [strOfNums]]
theorem cat1 (c : UInt8) (x : ByteArray) : ((⟨#[c]⟩ : ByteArray) ++ x).data.toList = c :: x.data.toList := by simp
theorem eq_cat1 (t x : ByteArray) (c : UInt8) : t = (⟨#[c]⟩ : ByteArray) ++ x ↔ t.data.toList = c :: x.data.toList := by
  constructor
  · rintro rfl; exact cat1 c x
  · intro h
    have : t.data = ((⟨#[c]⟩ : ByteArray) ++ x).data := Array.toList_inj.1 (by rw [cat1]; exact h)
    cases t
    simp only at this
    rw [this]
/-- What the two inner loops keep. -/
def R3 (w : World) (m : Nat) (X : Nat → Prop) (a b : List UInt8) (i j W0 W1 W2 n kb : Nat) (who : List UInt8) (ua : Option Addr) (S : List UInt8 → Prop) (V : World) : Prop :=
  R0 w m i j W0 W1 W2 V ∧ V.cell? ⟨W2, 0, none⟩ = some (.int .i64 n) ∧ V.cell? ⟨W2, 1, none⟩ = some (.map (some kb)) ∧ SeenOk V m (fun k => X k ∨ k = kb) a b ∧ SetIs V kb S ∧ RowAt V ua (who.map fun c => .int .u8 c.toNat)
theorem R3.grow {w : World} {m : Nat} {X : Nat → Prop} {a b : List UInt8} {i j W0 W1 W2 n kb : Nat} {who : List UInt8} {ua : Option Addr} {S : List UInt8 → Prop} {V V' : World} (h : R3 w m X a b i j W0 W1 W2 n kb who ua S V) (hg : Grow V V') : R3 w m X a b i j W0 W1 W2 n kb who ua S V' := by
  obtain ⟨h1, h2, h3, h4, h5, h6⟩ := h
  exact ⟨h1.grow h2 hg, hg.keeps h2, hg.keeps h3, h4.grow hg, h5.grow hg, h6.grow hg⟩
theorem R3.iff {w : World} {m : Nat} {X : Nat → Prop} {a b : List UInt8} {i j W0 W1 W2 n kb : Nat} {who : List UInt8} {ua : Option Addr} {S S' : List UInt8 → Prop} {V : World} (h : R3 w m X a b i j W0 W1 W2 n kb who ua S V) (hs : ∀ t, S t ↔ S' t) : R3 w m X a b i j W0 W1 W2 n kb who ua S' V := by
  obtain ⟨h1, h2, h3, h4, h5, h6⟩ := h
  exact ⟨h1, h2, h3, h4, h5.iff hs, h6⟩
theorem MapIs.iter {κ : Type} {ke : κ → Value} {w w' : World} {b r : Nat} {l : List (κ × Value)} {x : Option Nat} {s : Nat} {sn : Array Nat} {c : Nat} (h : MapIs w b ke l) (hr : w.heap[r]? = some (.mapIter x s sn c)) (hg : w.grownBy w' (some r)) : MapIs w' b ke l :=
  h.kept hg (by intro e; injection e with e; subst e; obtain ⟨es, c', h1, _⟩ := h; rw [h1] at hr; cases hr)
theorem R3.iter {w : World} {m : Nat} {X : Nat → Prop} {a b : List UInt8} {i j W0 W1 W2 n kb r : Nat} {who : List UInt8} {ua : Option Addr} {S : List UInt8 → Prop} {V V' : World} {x : Option Nat} {s : Nat} {sn : Array Nat} {c : Nat}
    (h : R3 w m X a b i j W0 W1 W2 n kb who ua S V) (hr : V.heap[r]? = some (.mapIter x s sn c)) (hg : V.grownBy V' (some r)) (hwr : w.heap.size ≤ r) : R3 w m X a b i j W0 W1 W2 n kb who ua S V' := by
  obtain ⟨h1, h2, h3, ⟨hm, sl, s1, s2⟩, ⟨l, l1, l2⟩, h6⟩ := h
  have hne : ∀ b o v, V.cell? ⟨b, o, none⟩ = some v → r ≠ b := fun b o v hv e => by subst e; simp [World.cell?, hr] at hv
  refine ⟨h1.row h2 hg hwr (hne _ _ _ h1.2.1) (hne _ _ _ h1.2.2.2.1) (hne _ _ _ h2), byCell1 hg h2 (by simpa using hne _ _ _ h2), byCell1 hg h3 (by simpa using hne _ _ _ h3), ⟨hm, sl, s1.iter hr hg, fun p hp => ⟨(s2 p hp).1, (s2 p hp).2.1, ?_⟩⟩, ⟨l, l1.iter hr hg, l2⟩, ?_⟩
  · obtain ⟨k, k1, k2, l', k3, k4⟩ := (s2 p hp).2.2
    exact ⟨k, k1, k2, l', k3.iter hr hg, k4⟩
  · intro q y hy
    obtain ⟨b, o, ha, hc⟩ := h6 q y hy
    exact ⟨b, o, ha, byCell1 hg hc (by simpa using hne _ _ _ hc)⟩
theorem R3.put {w : World} {m : Nat} {X : Nat → Prop} {a b : List UInt8} {i j W0 W1 W2 n kb : Nat} {who : List UInt8} {ua : Option Addr} {S S' : List UInt8 → Prop} {V V' : World} {l : List (ByteArray × Value)} {x : ByteArray} {v : Value}
    (h : R3 w m X a b i j W0 W1 W2 n kb who ua S V) (hl : MapIs V kb Value.string l) (hlm : ∀ t : ByteArray, t ∈ l.map (·.1) ↔ S t.data.toList) (hp : MapIs V' kb Value.string (putKey l x v)) (hg : V.grownBy V' (some kb)) (hwk : w.heap.size ≤ kb) (hmk : m ≠ kb)
    (hS : ∀ t : ByteArray, S' t.data.toList ↔ S t.data.toList ∨ t = x) : R3 w m X a b i j W0 W1 W2 n kb who ua S' V' := by
  obtain ⟨h1, h2, h3, h4, _, h6⟩ := h
  have hne : ∀ b o v, V.cell? ⟨b, o, none⟩ = some v → kb ≠ b := fun b o v hv => hl.apart hv
  refine ⟨h1.row h2 hg hwk (hne _ _ _ h1.2.1) (hne _ _ _ h1.2.2.2.1) (hne _ _ _ h2), byCell1 hg h2 (by simpa using hne _ _ _ h2), byCell1 hg h3 (by simpa using hne _ _ _ h3), h4.kept hg (.inl ⟨.inr rfl, hmk⟩), ⟨_, hp, fun t => ?_⟩, h6.byMap hg hl⟩
  rw [keys_put, hS, hlm]
theorem R3.best {w : World} {m : Nat} {X : Nat → Prop} {a b : List UInt8} {i j W0 W1 W2 q n kb : Nat} {who : List UInt8} {ua : Option Addr} {S : List UInt8 → Prop} {V : World} (h : R3 w m X a b i j W0 W1 W2 n kb who ua S V) (hn : n = bc (a.drop i) (b.drop j) (q + 1)) (hX : ¬ X kb) (hB : w.heap.size ≤ kb)
    (hS : ∀ t, S t ↔ BS (a.drop i) (b.drop j) (q + 1) t) : R1 w m X a b i j W0 W1 W2 (q + 1) V := by
  obtain ⟨h1, h2, h3, h4, h5, h6⟩ := h
  exact R1.of h1 (by rw [← hn]; exact h2) h3 h4 (.inr ⟨kb, rfl, ⟨hX, hB⟩, h5.iff hS, rfl⟩)
end Go.Proofs.Yteijilbdllpbcaa
