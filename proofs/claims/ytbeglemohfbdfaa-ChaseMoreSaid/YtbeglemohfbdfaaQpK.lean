/- Words on worlds in which a round's body may write some blocks; make with room and copy, within a round. Conditions: sizes. -/
import Derived.Test.YtbeglemohfbdfaaQpI
import Derived.Laws.OwnMore
namespace Go.Proofs.Ytbeglemohfbdfaa
open Go.RowKit Go.Instr

/-- All cells are as they were, but those of blocks T. -/
def KpT (T : Nat → Prop) (A B : World) : Prop := A.heap.size ≤ B.heap.size ∧ ∀ b ob, ¬ T b → A.heap[b]? = some ob → ob.isCells = true → B.heap[b]? = some ob
section
variable {T : Nat → Prop} {A B C : World}
theorem KpT.refl (T : Nat → Prop) (A : World) : KpT T A A := ⟨Nat.le_refl _, fun _ _ _ h _ => h⟩
theorem KpT.trans (h : KpT T A B) (k : KpT T B C) : KpT T A C := ⟨Nat.le_trans h.1 k.1, fun b ob hb ho hc => k.2 b ob hb (h.2 b ob hb ho hc) hc⟩
theorem KpT.by' {row : Option Nat} (hg : A.grownBy B row) (hr : ∀ r, row = some r → T r ∨ ∃ ob : Obj, A.heap[r]? = some ob ∧ ob.isCells = false) : KpT T A B := ⟨hg.size, fun b ob hb ho hc => by
  refine (hg.block b (Array.getElem?_eq_some_iff.1 ho).1 fun e => ?_).trans ho
  rcases hr b e.symm with h | ⟨o2, h1, h2⟩
  · exact hb h
  · rw [ho] at h1; cases h1; rw [hc] at h2; cases h2⟩
theorem KpT.grow (hg : Grow A B) : KpT T A B := KpT.by' (hg.grownBy none) fun r e => by cases e
theorem KpT.put {l : Nat} {o : Obj} (o' : Obj) (hl : A.heap[l]? = some o) (ho : o.isCells = false) : KpT T A (A.putObj l o') := KpT.by' (grownBy_putObj' A l o') fun r e => by cases e; exact .inr ⟨o, hl, ho⟩
theorem KpT.set {b : Nat} (h : T b) (o : Nat) (v : Value) : KpT T A (A.setCell ⟨b, o, none⟩ v) := KpT.by' (bySet A b o v) fun r e => by cases e; exact .inl h
theorem KpT.heap (h : KpT T A B) {b o : Nat} {v : Value} (hb : ¬ T b) (hc : A.cell? ⟨b, o, none⟩ = some v) : B.heap[b]? = A.heap[b]? := by
  obtain ⟨ob, h1, h2⟩ := cells_of_cell hc
  rw [h1]
  exact h.2 b ob hb h1 h2
theorem KpT.cell (h : KpT T A B) {b o : Nat} {v : Value} (hb : ¬ T b) (hc : A.cell? ⟨b, o, none⟩ = some v) : B.cell? ⟨b, o, none⟩ = some v := by
  rw [← hc]
  unfold World.cell?
  rw [h.heap hb hc]
theorem KpT.hot (h : KpT T A B) {b o : Nat} {v : Value} (hb : ¬ T b) (hc : A.cell? ⟨b, o, none⟩ = some v) (q : Nat) : B.frozen? ⟨b, q, none⟩ = A.frozen? ⟨b, q, none⟩ := by
  unfold World.frozen?
  rw [h.heap hb hc]
theorem KpT.cks (h : KpT T A B) {a : Option Addr} {ks : List (Int × Int)} (ha : ∀ b o, a = some ⟨b, o, none⟩ → ¬ T b) (hc : CksAt A a ks) : CksAt B a ks := fun p k hk => by
  obtain ⟨b, o, h1, h2, h3, h4⟩ := hc p k hk
  exact ⟨b, o, h1, h.cell (ha b o h1) h2, h.cell (ha b o h1) h3, h.cell (ha b o h1) h4⟩
theorem KpT.own (h : KpT T A B) {K E : Nat} {v : Value} {vs : List Value} (hT : ∀ b, T b → b < K) (ho : Own A K E v vs) : Own B K E v vs := by
  refine ⟨ho.1, ?_⟩
  rcases ho.2 with h2 | ⟨g, cap, cur, rfl, hb, hg, r⟩
  · exact .inl h2
  · exact .inr ⟨g, cap, cur, rfl, hb, h.2 g _ (fun ht => by have := hT g ht; omega) hg rfl, r⟩
theorem KpT.trans2 {S : Nat → Prop} (h : KpT T A B) (k : KpT S B C) (hs : ∀ b, b < A.heap.size → S b → T b) : KpT T A C := ⟨Nat.le_trans h.1 k.1, fun b ob hb ho hc => k.2 b ob (fun h => hb (hs b (Array.getElem?_eq_some_iff.1 ho).1 h)) (h.2 b ob hb ho hc) hc⟩
theorem KpT.own2 (h : KpT T A B) {K E : Nat} {v : Value} {vs : List Value} (hT : ∀ b, v.ownBlock = some b → ¬ T b) (ho : Own A K E v vs) : Own B K E v vs := by
  refine ⟨ho.1, ?_⟩
  rcases ho.2 with h2 | ⟨g, cap, cur, rfl, hb, hg, r⟩
  · exact .inl h2
  · exact .inr ⟨g, cap, cur, rfl, hb, h.2 g _ (hT g rfl) hg rfl, r⟩
/-- Blocks that may change: some, and those of a footprint. -/
def TF (T F : Nat → Prop) : Nat → Prop := fun b => T b ∨ F b
theorem KpT.ofOwn {β : Type} {K : Nat} {w0 : World} (hK : w0.heap.size ≤ K) : OwnFrom K (fun (_ : β) W => KpT T w0 W) := fun _ X Y row hs hg hr => ⟨Nat.le_trans hs.1 hg.size, fun b ob hb ho hc => by
  have h1 := hs.2 b ob hb ho hc
  refine (hg.block b (Array.getElem?_eq_some_iff.1 h1).1 fun e => ?_).trans h1
  have := (hr b e.symm).1
  have := (Array.getElem?_eq_some_iff.1 ho).1
  omega⟩
end
section
variable {P : Program}
/-- make([]T, n, c), elements of one cell each. -/
theorem wpl_makeR (w : World) {ops : Array Oper} {rest : List Oper} {o : Oper} {a : Act} {Q : Exit → Act → World → Prop}
    (hg : o.guard = none) (l c : Operand) (t : TypeId) (hop : o.op = Op.makeSlice t l c)
    (base : Nat) (e : TypeId) (i : TypeInfo) (z : Value) (h1 : P.underlying t = some (.slice e)) (h2 : P.info? e = some i) (h3 : i.zero = some z) (h4 : i.size = 1) (hz : z.cells = #[z])
    (L C : Int) (n m : Nat) (hl : a.eval l = .int .i64 L) (hc : a.eval c = .int .i64 C) (hL : L = (n : Int)) (hC : C = (m : Int)) (hnm : n ≤ m) (b2 : i.bytes * m ≤ 281474976710656) (b3 : m ≤ maxLen) (b4 : base ≤ w.heap.size)
    (hK : ∀ w', Own w' base e (.slice (some ⟨w.heap.size, 0, none⟩) n m) (List.replicate n z) → Grow w w' → wpList P ops Q rest (a.put o.dst (.slice (some ⟨w.heap.size, 0, none⟩) n m)) w') : wpList P ops Q (o :: rest) a w := by
  refine wpList_plain hg fun K' hK' => ?_
  have h63' : (m : Int) ≤ 9223372036854775807 := by
    have h := b3
    simp [maxLen] at h
    omega
  have hb' : (i.bytes : Int) * (m : Int) ≤ 281474976710656 := by
    have h : ((i.bytes * m : Nat) : Int) ≤ 281474976710656 := by omega
    rwa [Int.natCast_mul] at h
  have hr := run_make (P := P) w t e i z h1 h2 h3 .i64 .i64 n m (by omega) (by omega) hb' h63'
  simp only [Int.toNat_natCast] at hr
  subst hL hC
  unfold Oper.wp
  simp only [execOp, hop, hl, hc, Sem.run_bind, hr, Result.andThen_ok, Sem.run_pure]
  refine hK' _ _ (hK _ ⟨by simp, .inr ⟨w.heap.size, m, _, by simp, b4, World.alloc_heap_new w _, by simpa using hnm, b3, by rw [h4]; simp [madeCells], ?_⟩⟩ ((Grow.refl w).alloc _))
  rw [h4, Nat.mul_one, madeCells_one z hz, List.length_replicate, Nat.mul_one, List.take_replicate]
  congr 1
  omega
/-- copy(dst, src), both of one length, dst an array of the call's own, perhaps with room. -/
theorem wpl_copyR {w : World} {ops : Array Oper} {rest : List Oper} {o : Oper} {a : Act} {Q : Exit → Act → World → Prop} (hgd : o.guard = none) (d s : Operand) (dT sT : TypeId)
    (ho : o.op = .call { callee := .builtin .copy, args := #[d, s], argTypes := #[dT, sT] }) (elem : TypeId) (hu : P.underlying dT = some (.slice elem)) (hsz : (P.info? elem).map (·.size) = some 1)
    (B E g n m sCap : Nat) (sp : Option Addr) (vs us : List Value) (hn : n = vs.length) (hm : n = us.length) (hd : a.eval d = .slice (some ⟨g, 0, none⟩) n m) (hs : a.eval s = .slice sp n sCap)
    (hown : Own w B E (.slice (some ⟨g, 0, none⟩) n m) vs) (hsrc : RowAt w sp us) (h1 : ∀ v ∈ us, v.oneCell' = true)
    (h : ∀ w', Own w' B E (.slice (some ⟨g, 0, none⟩) n m) us → w.grownBy w' (some g) → wpList P ops Q rest (a.put o.dst (goInt us.length)) w') : wpList P ops Q (o :: rest) a w := by
  subst hn
  by_cases h0 : vs.length = 0
  · have hv : vs = [] := List.eq_nil_of_length_eq_zero h0
    have hu' : us = [] := List.eq_nil_of_length_eq_zero (by omega)
    subst hv hu'
    refine wpList_copy_nothing hgd d s dT sT ho elem hu hsz _ _ _ _ _ _ hd hs (by simp) (h w hown (grownBy_refl _ _))
  · rcases hown.2 with ⟨e0, _⟩ | ⟨g', cap, cur, e0, hbg, hg, hnc, hcm, hcs, htake⟩
    · cases e0
    · cases e0
      obtain ⟨b, q, hsp, _⟩ : ∃ b q, sp = some ⟨b, q, none⟩ ∧ True := by
        obtain ⟨b, q, e1, _⟩ := hsrc 0 (us[0]'(by omega)) (by simp)
        exact ⟨b, q, e1, trivial⟩
      subst hsp
      refine wpList_copy_own hgd d s dT sT ho elem hu hsz g 0 vs.length m ⟨b, q, none⟩ vs.length sCap hd hs cur E hg us (by simp [← hm]) (fun j v hj => ?_) (by rw [hcs, ← hm]; omega) h1 (h _ ?_ ⟨rfl, rfl, rfl, by simp, fun k _ hk => setRow_other w g k _ (fun e => hk (by rw [e]))⟩)
      · obtain ⟨b', q', e1, e2⟩ := hsrc j v hj
        cases e1
        have e : (⟨b, q, none⟩ : Addr).add j = ⟨b, q + j, none⟩ := by unfold Addr.add; split <;> simp_all
        rw [e]; exact e2
      · refine ⟨by rw [Nat.mul_one], .inr ⟨g, m, _, by rw [← hm], hbg, setRow_heap w g cur _ E _ hg, by omega, hcm, ?_, ?_⟩⟩
        · have := hcs
          simp only [List.size_toArray, List.length_append, List.length_take, List.length_drop, Array.length_toList]
          omega
        · simp
end
end Go.Proofs.Ytbeglemohfbdfaa
