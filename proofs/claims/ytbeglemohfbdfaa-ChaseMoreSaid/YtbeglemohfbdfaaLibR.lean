/- A range over a function whose iterator itself ranges over functions: what a round keeps, by both of its ends. Conditions: none. -/
import Derived.Test.YtbeglemohfbdfaaLibX
import Derived.RangeFuncNested
import Derived.RangeFuncBound
import Derived.RangeFuncCalls
import Derived.RangeFuncLeaves
import Derived.RangeFuncBox
import Derived.Shelf.Abstract
import Derived.OwnWalkIn
import Derived.TacticsInMore
import Derived.LoopNIn
import Derived.LoopIn
import Derived.RegionIn
import Derived.OrdersHeld
import Derived.RegionTactic
namespace Go.Proofs.Ytbeglemohfbdfaa
open Go.RowKit

/-- What an invariant abides: new blocks; turns of blocks from B on that are no cells, or that it does not speak of (F: those of which it does). -/
def OwnFp {β : Type} (B : Nat) (J : β → (Nat → Prop) → World → Prop) : Prop :=
  ∀ s F W W' row, J s F W → W.grownBy W' row → (∀ r, row = some r → B ≤ r ∧ ((∃ o : Obj, W.heap[r]? = some o ∧ o.isCells = false) ∨ ¬ F r)) → J s F W'
/-- What is spoken of behind a round: what was, or is new. -/
def Fp (F F' : Nat → Prop) (W W' : World) : Prop := (∀ b, F' b → F b ∨ W.heap.size ≤ b) ∧ ∀ b, F' b → b < W'.heap.size
def noF : Nat → Prop := fun _ => False
theorem Fp.none (F : Nat → Prop) (W W' : World) : Fp F noF W W' := ⟨fun _ h => h.elim, fun _ h => h.elim⟩
theorem OwnFp.from {β : Type} {B : Nat} {J : β → (Nat → Prop) → World → Prop} (h : OwnFp B J) (F : Nat → Prop) : OwnFrom B (fun s W => J s F W) := fun s W W' row hs hg hr => h s F W W' row hs hg fun r e => ⟨(hr r e).1, .inl (hr r e).2⟩
theorem OwnFp.lift {β : Type} {B B' : Nat} {J : β → (Nat → Prop) → World → Prop} (h : OwnFp B J) (hb : B ≤ B') : OwnFp B' J := fun s F W W' row hs hg hr => h s F W W' row hs hg fun r e => ⟨Nat.le_trans hb (hr r e).1, (hr r e).2⟩
theorem OwnFp.grow {β : Type} {B : Nat} {J : β → (Nat → Prop) → World → Prop} (h : OwnFp B J) {s : β} {F : Nat → Prop} {W W' : World} (hs : J s F W) (hg : Grow W W') : J s F W' := h s F W W' none hs (hg.grownBy none) fun r e => by cases e
/-- The contract of an iterator: it goes on while a round says so, and keeps what does not hang on blocks of its own. -/
def SeqC {α : Type} (P : Program) (g : Nat) (lb : Array Value) (encs : α → Array Value) (X : α → World → Prop) (Kp : (Nat → Prop) → World → World → Prop) (S Sp : List α → Prop) (N : Nat) (w : World) : Prop :=
  ∀ (l : Nat) (J Jx : List α → (Nat → Prop) → World → Prop) (W : World), Grow w W → OwnFp W.heap.size J → OwnFp W.heap.size Jx →
    (∀ pre F x W1, J pre F W1 → (∀ b, F b → b < W1.heap.size) → X x W1 → pre.length < N → YieldAt Fence.wide 8 P l (encs x) W1 fun e W' => KeepsFrom W.heap.size W1 W' ∧ Kp F W1 W' ∧
      ((e = .returned (.bool true) ∧ ∃ F', Fp F F' W1 W' ∧ J (pre ++ [x]) F' W') ∨ (e = .returned (.bool false) ∧ ∃ F', Fp F F' W1 W' ∧ Jx (pre ++ [x]) F' W'))) →
    J [] noF W →
    CallsIn Fence.wide 9 P g (#[.func (.yield l) #[] #[]] ++ lb) W fun e W' => (∃ v, e = .returned v) ∧ ((∃ xs F, S xs ∧ J xs F W') ∨ (∃ pre F, Sp pre ∧ Jx pre F W' ∧ ∀ x, pre.getLast? = some x → X x W'))
def postC {α : Type} (B : Nat) (Kp : (Nat → Prop) → World → World → Prop) (I : List α → (Nat → Prop) → World → Prop) (Ix : Code → List α → (Nat → Prop) → World → Prop) (xs : List α) (F : Nat → Prop) (W : World) : Exit → Act → World → Prop
  | .normal, _, W' => KeepsFrom B W W' ∧ Kp F W W' ∧ ∃ F', Fp F F' W W' ∧ I xs F' W'
  | .ret, _, W' => KeepsFrom B W W' ∧ Kp F W W' ∧ ∃ F', Fp F F' W W' ∧ Ix .ret xs F' W'
  | .exit id, _, W' => KeepsFrom B W W' ∧ Kp F W W' ∧ ∃ F', Fp F F' W W' ∧ Ix (.exit id) xs F' W'
  | .goto t, _, W' => KeepsFrom B W W' ∧ Kp F W W' ∧ ∃ F', Fp F F' W W' ∧ Ix (.goto t) xs F' W'
  | .panic _, _, _ => False
  | .outgrown, _, _ => False
theorem kf_lower {B B' : Nat} {X Y : World} (h : KeepsFrom B X Y) (hb : B ≤ B') : KeepsFrom B' X Y := ⟨h.size, fun k o hk => h.same k o (Nat.le_trans hb hk)⟩
theorem kf_put {B l : Nat} {X : World} (o' : Obj) (hl : l < B) : KeepsFrom B X (X.putObj l o') :=
  KeepsFrom.of_grownBy (grownBy_putObj' X l o') fun j e => by cases e; exact hl
theorem of_rec {β : Type} {B : Nat} {I : β → (Nat → Prop) → World → Prop} (h : OwnFp B I) {B' k : Nat} (hB : B ≤ B') (hk : k < B') (o : Obj) : OwnFp B' (fun s F W => I s F W ∧ W.heap[k]? = some o) :=
  fun s F X Y row hs hg hr => ⟨h s F X Y row hs.1 hg fun r e => ⟨Nat.le_trans hB (hr r e).1, (hr r e).2⟩, (hg.block k (Array.getElem?_eq_some_iff.1 hs.2).1 fun e => by have := (hr k e.symm).1; omega).trans hs.2⟩

variable {P : Program} in
theorem wp_range {α : Type} {g : Operand} {ps : Array Tmp} {assign body : Code} {Q : Exit → Act → World → Prop} {a : Act} {w : World}
    {gf : Nat} {lb : Array Value} (hg : a.eval g = .func (.func gf) #[] lb) (eg : ∀ args w, (callFunc gf args).run P w = .ok (.enter gf args) w)
    {encs : α → Array Value} {X : α → World → Prop} {Kp : (Nat → Prop) → World → World → Prop} {S Sp : List α → Prop} {N : Nat} {w0 : World} (hseq : SeqC P gf lb encs X Kp S Sp N w0) (hX : ∀ x, OwnFrom w.heap.size (fun (_ : Unit) W => X x W))
    (hKt : ∀ {F : Nat → Prop} {A B C : World}, Kp F A B → Kp F B C → Kp F A C) (hKb : ∀ (F : Nat → Prop) (W : World) (l : Nat) (o o' : Obj), w.heap.size ≤ l → W.heap[l]? = some o → o.isCells = false → Kp F W (W.putObj l o')) (hb0 : Grow w0 w) (hps : ∀ x, (encs x).size = ps.size)
    (I : List α → (Nat → Prop) → World → Prop) (Ix : Code → List α → (Nat → Prop) → World → Prop) (hI : OwnFp w.heap.size I) (hIx : ∀ c, OwnFp w.heap.size (Ix c)) (h0 : I [] noF w) (Ax : α → Act → World → Prop) (hAx : ∀ x a', OwnFrom w.heap.size (fun (_ : Unit) W => Ax x a' W))
    (hassign : ∀ (l : Nat) (pre : List α) (F : Nat → Prop) (x : α) (W : World) (K : Act → World → Prop), w.heap.size ≤ l → I pre F W → (∀ b, F b → b < W.heap.size) → X x W → (∀ a' W', KeepsFrom w.heap.size W W' → Kp F W W' → I pre F W' → X x W' → Ax x a' W' → K a' W') →
      assign.wpIn (Fence.wide.inRound l) 8 P (Exit.then K (fun _ _ _ => False)) { tmps := (ps.zip (encs x)).foldl (fun t (p, v) => t.setIfInBounds p v) a.tmps, defers := [] } W)
    (hbody : ∀ (l : Nat) (pre : List α) (F : Nat → Prop) (x : α) (a' : Act) (W : World), w.heap.size ≤ l → I pre F W → (∀ b, F b → b < W.heap.size) → X x W → Ax x a' W → pre.length < N → body.wpIn (Fence.wide.inRound l) 8 P (postC w.heap.size Kp I Ix (pre ++ [x]) F W) a' W)
    (hdone : ∀ (D : Nat) (xs : List α) (F : Nat → Prop) (W : World), w.heap.size ≤ D → S xs → I xs F W → W.heap[D]? = some (.deferred (some [])) → Q .normal { a with defers := { target := .collected D, args := #[] } :: a.defers } W)
    (hstop : ∀ (D : Nat) (c : Code) (pre : List α) (F : Nat → Prop) (W : World), w.heap.size ≤ D → Sp pre → Ix c pre F W → W.heap[D]? = some (.deferred (some [])) → (∀ x, pre.getLast? = some x → X x W) → c.wpIn Fence.wide 10 P Q { a with defers := { target := .collected D, args := #[] } :: a.defers } W) :
    (Code.rangeFunc g ps assign body).wpIn Fence.wide 10 P Q a w := by
  refine wpIn_rangeFunc ?_
  intro fn hfn
  obtain ⟨rec, hrec⟩ : ∃ rec : LoopState → Option Code → Loop, rec = fun st pe => { state := st, pending := pe, fn, tmps := a.tmps, params := ps, assign, body, defers := w.heap.size } := ⟨_, rfl⟩
  obtain ⟨W1, hW1⟩ : ∃ W1, (w.alloc (.deferred (some []))).alloc (.loop (rec .ready none)) = W1 := ⟨_, rfl⟩
  have hs1 : W1.heap.size = w.heap.size + 2 := by rw [← hW1]; simp
  have hL1 : W1.heap[w.heap.size + 1]? = some (.loop (rec .ready none)) := by
    rw [← hW1]; have := World.alloc_heap_new (w.alloc (.deferred (some []))) (.loop (rec .ready none)); rwa [World.size_alloc] at this
  have hK1 : W1.heap[w.heap.size]? = some (.deferred (some [])) := by
    rw [← hW1]; exact (Below.heap_alloc _ _ _ (by simp)).trans (World.alloc_heap_new w _)
  have hg1 : Grow w W1 := by rw [← hW1]; exact ((Grow.refl w).alloc _).alloc _
  have hI1 : I [] noF W1 := hI.grow h0 hg1
  have hb1 : Grow w0 W1 := hb0.trans hg1
  refine ⟨w.heap.size + 1, [{ target := .collected w.heap.size, args := #[] }], W1, { target := .fn (.func gf) lb, args := #[.func (.yield (w.heap.size + 1)) #[] #[]] }, W1, gf,
    #[.func (.yield (w.heap.size + 1)) #[] #[]] ++ lb, W1, ?_, ?_, ?_, ?_, ?_, ?_⟩
  · rw [← hW1, hrec]; exact run_enterLoop_outer _ _ _ _ _
  · simp only [resolve, hg]
    simp [go_sem]
  · intro f' hf'; trivial
  · simp [invoke, go_sem, eg]
  · intro _; omega
  · refine (hseq (w.heap.size + 1)
      (fun pre F W => (I pre F W ∧ W.heap[w.heap.size + 1]? = some (.loop (rec .ready none))) ∧ W.heap[w.heap.size]? = some (.deferred (some [])))
      (fun pre F W => ∃ c, (Ix c pre F W ∧ W.heap[w.heap.size + 1]? = some (.loop (rec .done (some c)))) ∧ W.heap[w.heap.size]? = some (.deferred (some [])))
      W1 hb1
      (of_rec (of_rec hI (B' := W1.heap.size) (by omega) (by omega) _) (Nat.le_refl _) (by omega) _)
      (fun s F A B row hs hg' hr => by
        obtain ⟨c, hc⟩ := hs
        exact ⟨c, (of_rec (of_rec (hIx c) (B' := W1.heap.size) (by omega) (by omega) _) (Nat.le_refl _) (by omega) _) s F A B row hc hg' hr⟩)
      ?_ ⟨⟨hI1, hL1⟩, hK1⟩).mono ?_
    · rintro pre F x W ⟨⟨hi, hl⟩, hk⟩ hF hx hlen
      have hy := run_yield (P := P) (args := encs x) hl (by rw [hrec]; exact hps x)
      rw [hrec] at hy
      refine ⟨fn, _, assign, body, hy, roundIn_of_wpIn hfn (hassign _ pre F x W _ (by omega) hi hF hx ?_)⟩
      clear hy
      intro a' Wa hkfa hkpa hia hxa hax
      have hl' := hkfa.same _ _ (by omega) hl rfl
      have hk' := hkfa.same _ _ (Nat.le_refl _) hk rfl
      have hlt : w.heap.size + 1 < Wa.heap.size := (Array.getElem?_eq_some_iff.1 hl').1
      refine ⟨_, run_beginRound hl' (by rw [hrec]), ?_⟩
      obtain ⟨V, hV⟩ : ∃ V, Wa.putObj (w.heap.size + 1) (.loop { rec .ready none with state := .busy }) = V := ⟨_, rfl⟩
      have hVs : V.heap.size = Wa.heap.size := by rw [← hV]; simp
      have hl2 : V.heap[w.heap.size + 1]? = some (.loop { rec .ready none with state := .busy }) := by rw [← hV]; exact World.putObj_heap_same hlt
      have hk2 : V.heap[w.heap.size]? = some (.deferred (some [])) := by rw [← hV]; exact (World.putObj_heap_other (by omega)).trans hk'
      have hw2 : Kp F Wa V := by rw [← hV]; exact hKb _ _ _ _ _ (by omega) hl' rfl
      have hkf : KeepsFrom W1.heap.size W V := by rw [← hV]; exact (kf_lower hkfa (by omega)).trans (kf_put _ (by omega))
      have hi2 : I pre F V := by rw [← hV]; exact (hI.from F).putObj _ hia (by omega) hl' rfl
      have hax2 : Ax x a' V := by rw [← hV]; exact (hAx x a').putObj (s := ()) _ hax (by omega) hl' rfl
      have hx2 : X x V := by rw [← hV]; exact (hX x).putObj (s := ()) _ hxa (by omega) hl' rfl
      rw [hV]
      refine wpIn_mono (hbody _ pre F x a' V (by omega) hi2 (fun b hb => by have := hF b hb; have := hkfa.size; omega) hx2 hax2 hlen) ?_
      have fin : ∀ (jump : Option Code) (W3 : World), KeepsFrom w.heap.size V W3 → Kp F V W3 →
          ∃ W4, (Instr.endRound (w.heap.size + 1) jump).run P W3 = .ok (.bool jump.isNone) W4 ∧ W4.heap[w.heap.size + 1]? = some (.loop (rec (if jump.isNone then .ready else .done) jump)) ∧ W4.heap[w.heap.size]? = some (.deferred (some [])) ∧
            KeepsFrom W1.heap.size W W4 ∧ Kp F W W4 ∧ W3.heap.size = W4.heap.size ∧ (∀ J : World → Prop, OwnFrom w.heap.size (fun (_ : Unit) => J) → J W3 → J W4) := fun jump W3 hk3 hp3 => by
        have hl3 := hk3.same _ _ (by omega) hl2 rfl
        have hr := run_endRound (P := P) jump hl3
        rw [hrec] at hr ⊢
        refine ⟨_, hr, World.putObj_heap_same (Array.getElem?_eq_some_iff.1 hl3).1, (World.putObj_heap_other (by omega)).trans (hk3.same _ _ (Nat.le_refl _) hk2 rfl), hkf.trans ((kf_lower hk3 (by omega)).trans (kf_put _ (by omega))), hKt hkpa (hKt hw2 (hKt hp3 (hKb _ _ _ _ _ (by omega) hl3 rfl))), by simp, fun J hJ hj => hJ.putObj (s := ()) _ hj (by omega) hl3 rfl⟩
      have hfp : ∀ {F' : Nat → Prop} {W3 W4 : World}, Fp F F' V W3 → W3.heap.size = W4.heap.size → Fp F F' W W4 := fun {F' W3 W4} h he => ⟨fun b hb => (h.1 b hb).imp id fun k => by have := hkfa.size; omega, fun b hb => by have := h.2 b hb; omega⟩
      rintro e a3 W3 hp
      cases e with
      | normal =>
        obtain ⟨hk3, hp3, F', hF', hi3⟩ := hp
        obtain ⟨W4, hr, hl4, hk4, hf4, hq4, hsz, hJ⟩ := fin none W3 hk3 hp3
        exact ⟨_, _, hr, hf4, hq4, .inl ⟨rfl, F', hfp hF' hsz, ⟨hJ (I (pre ++ [x]) F') (fun _ A B row h => hI.from F' _ A B row h) hi3, hl4⟩, hk4⟩⟩
      | ret =>
        obtain ⟨hk3, hp3, F', hF', hi3⟩ := hp
        obtain ⟨W4, hr, hl4, hk4, hf4, hq4, hsz, hJ⟩ := fin (some .ret) W3 hk3 hp3
        exact ⟨_, _, hr, hf4, hq4, .inr ⟨rfl, F', hfp hF' hsz, .ret, ⟨hJ (Ix .ret (pre ++ [x]) F') (fun _ A B row h => (hIx _).from F' _ A B row h) hi3, hl4⟩, hk4⟩⟩
      | exit id =>
        obtain ⟨hk3, hp3, F', hF', hi3⟩ := hp
        obtain ⟨W4, hr, hl4, hk4, hf4, hq4, hsz, hJ⟩ := fin (some (.exit id)) W3 hk3 hp3
        exact ⟨_, _, hr, hf4, hq4, .inr ⟨rfl, F', hfp hF' hsz, .exit id, ⟨hJ (Ix (.exit id) (pre ++ [x]) F') (fun _ A B row h => (hIx _).from F' _ A B row h) hi3, hl4⟩, hk4⟩⟩
      | goto t =>
        obtain ⟨hk3, hp3, F', hF', hi3⟩ := hp
        obtain ⟨W4, hr, hl4, hk4, hf4, hq4, hsz, hJ⟩ := fin (some (.goto t)) W3 hk3 hp3
        exact ⟨_, _, hr, hf4, hq4, .inr ⟨rfl, F', hfp hF' hsz, .goto t, ⟨hJ (Ix (.goto t) (pre ++ [x]) F') (fun _ A B row h => (hIx _).from F' _ A B row h) hi3, hl4⟩, hk4⟩⟩
      | panic ch => exact hp.elim
      | outgrown => exact hp.elim
    · rintro e W2 ⟨⟨v, rfl⟩, (⟨xs, F, hS, ⟨hi, hl⟩, hk⟩ | ⟨pre, F, hSp, ⟨c, ⟨hi, hl⟩, hk⟩, hxl⟩)⟩
      · exact ⟨none, _, by have := run_endLoop (P := P) hl (by rw [hrec]; simp); rw [hrec] at this; exact this, hdone _ xs F _ (Nat.le_refl _) hS ((hI.from F).putObj _ hi (by omega) hl rfl) ((World.putObj_heap_other (by omega)).trans hk)⟩
      · exact ⟨some c, _, by have := run_endLoop (P := P) hl (by rw [hrec]; simp); rw [hrec] at this; exact this, hstop _ c pre F _ (Nat.le_refl _) hSp (((hIx c).from F).putObj _ hi (by omega) hl rfl) ((World.putObj_heap_other (by omega)).trans hk) fun x hx => (hX x).putObj (s := ()) _ (hxl x hx) (by omega) hl rfl⟩
section
variable {P : Program} {ops : Array Oper} {Q : Exit → Act → World → Prop}
theorem uponIn_of_upon {o : Oper} {a : Act} {next next' : Act → World → Prop} {r : Result Next} (l n : Nat) (hn : ∀ a w, next a w → next' a w) (h : o.upon P a next Q r) : o.uponIn (Fence.wide.inRound l) n P a next' Q r := by
  cases r with
  | ok x w' =>
    cases x with
    | value v => exact hn _ _ h
    | skip => exact hn _ _ h
    | defer d => exact hn _ _ h
    | enter f args =>
      refine ⟨(fun h => (by cases h)), CallsIn.inRound l ((callsIn_wide (n := n - 1)).2 (Calls.mono h ?_))⟩
      intro e w'' he
      cases e with
      | returned v => exact hn _ _ he
      | panicked c => exact he
      | outgrown => exact he
    | row row args =>
      refine ⟨(fun h => (by cases h)), fun c cs _ => ?_⟩
      obtain ⟨v, w'', hr, hs⟩ := h c cs
      exact ⟨v, w'', hn _ _ hr, stepsIn_wide.2 hs⟩
    | _ => exact h.elim
  | halt h' w' =>
    cases h' with
    | panic v => exact h
    | _ => exact h.elim
theorem wpOpsIn_of_wpOps (l n : Nat) (hno : ¬ LetsOut Q) (hd : ∀ (i : Nat) (o : Oper) c, ops[i]? = some o → o.op ≠ .defer c) : ∀ (is : List Nat) (a : Act) (w : World), wpOps P ops Q is a w → wpOpsIn (Fence.wide.inRound l) n P ops Q is a w
  | [], a, w, h => h
  | i :: is, a, w, h => by
    unfold wpOps at h
    unfold wpOpsIn
    cases ho : ops[i]? with
    | none => rw [ho] at h; exact wpOpsIn_of_wpOps l n hno hd is a w h
    | some o =>
      rw [ho] at h
      dsimp only at h ⊢
      by_cases hw : Region.wanted o (yielded ops a.tmps) = true
      · rw [if_pos hw] at h ⊢
        rcases h with h | h
        · refine ⟨fun _ _ => trivial, ?_⟩
          rw [Oper.semAt_eq _ _ _ fun c => hd i o c ho]
          exact uponIn_of_upon l n (wpOpsIn_of_wpOps l n hno hd is) h
        · exact absurd h.2 hno
      · rw [if_neg hw] at h ⊢
        exact ⟨fun _ _ => trivial, wpOpsIn_of_wpOps l n hno hd is _ _ h⟩
def noDefer (ops : Array Oper) : Bool := ops.all fun o => match o.op with | .defer _ => false | _ => true
theorem noDefer_spec (h : noDefer ops = true) : ∀ (i : Nat) (o : Oper) c, ops[i]? = some o → o.op ≠ .defer c := fun i o c ho e => by
  unfold noDefer at h
  have := Array.all_eq_true_iff_forall_mem.1 h o (Array.mem_of_getElem? ho)
  rw [e] at this
  cases this
/-- A region that draws its order, within a round. -/
theorem wpIn_region_held {S : World → Prop} {id : Nat} {a : Act} {w : World} (l n : Nat) (hm : P.follows .mixedOrders = true) (hd : noDefer ops = true) (hno : ¬ LetsOut Q) (hS : S w.drew)
    (h : S w.drew → wpAnyH P .any ops Q S ops.size (Array.replicate ops.size false) a w.drew) : (Code.region id ops true).wpIn (Fence.wide.inRound l) n P Q a w := by
  refine wpIn_region_draw fun t => ?_
  simp only [Region.schedule, hm, Bool.true_or, if_true]
  exact wpOpsIn_of_wpOps l n hno (noDefer_spec hd) _ _ _ (wpAny_sound ops.size t _ a _ (wpAny_of_held _ _ _ _ (h hS)))
theorem no_out_postC {α : Type} {B : Nat} {Kp : (Nat → Prop) → World → World → Prop} {I : List α → (Nat → Prop) → World → Prop} {Ix : Code → List α → (Nat → Prop) → World → Prop} {xs : List α} {F : Nat → Prop} {W : World} : ¬ LetsOut (postC B Kp I Ix xs F W) := fun ⟨_, _, h⟩ => h
theorem no_out_then {K : Act → World → Prop} (h : ¬ LetsOut Q) : ¬ LetsOut (Exit.then K Q) := fun ⟨a, w, k⟩ => h ⟨a, w, k⟩
end
section
variable {P : Program} {ops : Array Oper} {Q : Exit → Act → World → Prop} {md : Region.Mode} {S : World → Prop} {J : Nat → Bool}

/-- In whatever order what is left comes up: behind each operation of J, S holds. -/
def Left (P : Program) (md : Region.Mode) (ops : Array Oper) (Q : Exit → Act → World → Prop) (S : World → Prop) (J : Nat → Bool) : Nat → Array Bool → Act → World → Prop
  | 0, over, a, w => Region.ready md ops over = [] ∧ Q .normal a w
  | n + 1, over, a, w => (Region.ready md ops over = [] → Q .normal a w) ∧
      ∀ k ∈ Region.ready md ops over, wpOp P ops Q k (fun b v => (J k = true → S v) ∧ Left P md ops Q S J n (over.setIfInBounds k true) b v) a w
theorem Left.any : ∀ {n : Nat} {over : Array Bool} {a : Act} {w : World}, Left P md ops Q S J n over a w → wpAny P md ops Q n over a w
  | 0, _, _, _, h => h
  | _ + 1, _, _, _, h => ⟨h.1, fun k hk => wpOp_mono (fun _ _ g => Left.any g.2) (h.2 k hk)⟩
/-- k comes behind i, over at most n steps. -/
def behindB (md : Region.Mode) (ops : Array Oper) (i : Nat) : Nat → Nat → Bool
  | 0, _ => false
  | n + 1, k => match ops[k]? with
    | none => false
    | some o => (o.after.any fun e => Region.binds md e && e.on == i) || o.after.any fun e => Region.binds md e && behindB md ops i n e.on
/-- What is over, is over with all that it waited for. -/
def Closed (md : Region.Mode) (ops : Array Oper) (over : Array Bool) : Prop :=
  ∀ k o, ops[k]? = some o → over.getD k false = true → ∀ e ∈ o.after, Region.binds md e = true → over.getD e.on false = true
theorem behind_over {i : Nat} {over : Array Bool} (hc : Closed md ops over) : ∀ {n k : Nat} {o : Oper}, ops[k]? = some o → (∀ e ∈ o.after, Region.binds md e = true → over.getD e.on false = true) → behindB md ops i n k = true → over.getD i false = true
  | 0, _, _, _, _, h => by cases h
  | n + 1, k, o, ho, hd, h => by
    unfold behindB at h
    rw [ho] at h
    simp only [Bool.or_eq_true] at h
    rcases h with h | h
    · obtain ⟨e, he, hb⟩ := Array.any_eq_true'.1 h
      simp only [Bool.and_eq_true, beq_iff_eq] at hb
      rw [← hb.2]
      exact hd e he hb.1
    · obtain ⟨e, he, hb⟩ := Array.any_eq_true'.1 h
      simp only [Bool.and_eq_true] at hb
      have h1 := hd e he hb.1
      cases hq : ops[e.on]? with
      | none => have h2 := hb.2; cases n <;> simp [behindB, hq] at h2
      | some q => exact behind_over hc hq (fun d hd' hb' => hc _ _ hq h1 d hd' hb') hb.2
theorem Closed.start : Closed md ops (Array.replicate ops.size false) := fun k o _ h => by
  exfalso
  revert h
  simp [Array.getElem?_replicate]
  split <;> simp
theorem Closed.set {over : Array Bool} {k : Nat} (hc : Closed md ops over) (hk : k ∈ Region.ready md ops over) : Closed md ops (over.setIfInBounds k true) := fun j o ho h e he hb => by
  obtain ⟨_, q, hq, hall⟩ := mem_ready.1 hk
  by_cases hjk : k = j
  · subst hjk
    rw [ho] at hq
    cases hq
    exact getD_set_true (hall e he hb)
  · rw [getD_set_ne false hjk] at h
    exact getD_set_true (hc j o ho h e he hb)
def closedB (md : Region.Mode) (ops : Array Oper) (over : Array Bool) : Bool :=
  (List.range ops.size).all fun k => !over.getD k false || match ops[k]? with
    | none => true
    | some o => o.after.all fun e => !Region.binds md e || over.getD e.on false
theorem closedB_spec {over : Array Bool} (h : closedB md ops over = true) : Closed md ops over := fun k o ho hk e he hb => by
  have h1 := List.all_eq_true.1 h k (List.mem_range.2 (Array.getElem?_eq_some_iff.1 ho).1)
  simp only [ho, hk, Bool.not_true, Bool.false_or] at h1
  have h2 := Array.all_eq_true_iff_forall_mem.1 h1 e he
  simpa [hb] using h2
/-- A load may be taken first, if none of those behind which S is not kept can come before it. -/
theorem Left.first {i : Nat} {oi : Oper} {v : Value} (hi : ops[i]? = some oi) (hs : Region.noSelect ops = true) {f : Nat} (hJ : ∀ k, k < ops.size → J k = true ∨ behindB md ops i f k = true) (hQ : ∀ c a w, Q (.panic c) (a.put oi.dst v) w → Q (.panic c) a w) :
    ∀ (n : Nat) (over : Array Bool) (a : Act) (w : World), Closed md ops over →
      (∀ j oj, ops[j]? = some oj → j ≠ i → over.getD j true = false → (∀ e ∈ oj.after, Region.binds md e = true → e.on ≠ i) → oi.apart ops oj = true) →
      i ∈ Region.ready md ops over → YieldsIf P ops S oi v a → S w →
      Left P md ops Q S J n (over.setIfInBounds i true) (a.put oi.dst v) w → Left P md ops Q S J (n + 1) over a w := by
  have sel := Region.noSelect_spec hs
  intro n
  induction n with
  | zero =>
    intro over a w _ _ hr hy hS H
    refine ⟨fun h => (by rw [h] at hr; cases hr), fun j hj => ?_⟩
    by_cases hji : j = i
    · subst hji
      exact hy.wpOp hi hS ⟨fun _ => hS, H⟩
    · have := ready_mono hj hji
      rw [H.1] at this
      cases this
  | succ n ih =>
    intro over a w hc hfree hr hy hS H
    refine ⟨fun h => (by rw [h] at hr; cases hr), fun j hj => ?_⟩
    by_cases hji : j = i
    · subst hji
      exact hy.wpOp hi hS ⟨fun _ => hS, H⟩
    · obtain ⟨hun, oj, hoj, hall⟩ := mem_ready.1 hj
      have hi0 := (mem_ready.1 hr).1
      have unl : ∀ {k : Nat}, over.getD k false = true → k ≠ i := fun {k} hk e => by
        subst e
        rcases Nat.lt_or_ge k over.size with h' | h'
        · simp [h'] at hi0 hk; rw [hi0] at hk; cases hk
        · simp [Array.getElem?_eq_none h'] at hk
      have hnot : ∀ e ∈ oj.after, Region.binds md e = true → e.on ≠ i := fun e he hb => unl (hall e he hb)
      have hJj : J j = true := (hJ j (Array.getElem?_eq_some_iff.1 hoj).1).resolve_right fun hb => unl (behind_over hc hoj hall hb) rfl
      have step := wpOp_putIf hoj (hfree j oj hoj hji hun hnot) (fun cs b => sel i oi cs b hi) (fun cs b => sel j oj cs b hoj) hQ hy (H.2 j (ready_mono hj hji))
      have free' : ∀ k ok, ops[k]? = some ok → k ≠ i → (over.setIfInBounds j true).getD k true = false → (∀ e ∈ ok.after, Region.binds md e = true → e.on ≠ i) → oi.apart ops ok = true := fun k ok hk hki hu hno => by
        by_cases hjk : j = k
        · subst hjk; exact hfree j ok hk hki hun hno
        · rw [getD_set_ne true hjk] at hu; exact hfree k ok hk hki hu hno
      refine wpOp_mono (fun b v g => ⟨fun _ => g.2.1 hJj, ih _ b v (hc.set hj) free' (ready_mono hr (Ne.symm hji)) g.1 (g.2.1 hJj) ?_⟩) step
      rw [Array.setIfInBounds_comm _ _ hji]
      exact g.2.2
theorem Left.take (f : Nat) {i : Nat} {oi : Oper} {v : Value} {n : Nat} {over : Array Bool} {a : Act} {w : World} (hi : ops[i]? = some oi) (hs : Region.noSelect ops = true) (hJ : ((List.range ops.size).all fun k => J k || behindB md ops i f k) = true)
    (hf : Region.free md ops over i = true) (hr : (Region.ready md ops over).contains i = true) (hQ : ∀ c a w, Q (.panic c) (a.put oi.dst v) w → Q (.panic c) a w) (hy : YieldsIf P ops S oi v a) (hS : S w)
    (hc : closedB md ops over = true) (h : Left P md ops Q S J n (over.setIfInBounds i true) (a.put oi.dst v) w) : Left P md ops Q S J (n + 1) over a w := by
  have hr' : i ∈ Region.ready md ops over := by simpa using hr
  exact Left.first hi hs (fun k hk => by simpa [Bool.or_eq_true] using List.all_eq_true.1 hJ k (List.mem_range.2 hk)) hQ n over a w (closedB_spec hc) (Region.free_spec hi hf) hr' hy hS h
/-- Each of those that may come up. -/
def LeftAll (P : Program) (md : Region.Mode) (ops : Array Oper) (Q : Exit → Act → World → Prop) (S : World → Prop) (J : Nat → Bool) (n : Nat) (over : Array Bool) (a : Act) (w : World) (rs : List Nat) : Prop :=
  ∀ k ∈ rs, wpOp P ops Q k (fun b v => (J k = true → S v) ∧ Left P md ops Q S J n (over.setIfInBounds k true) b v) a w
theorem LeftAll.nil {n : Nat} {over : Array Bool} {a : Act} {w : World} : LeftAll P md ops Q S J n over a w [] := fun _ h => by cases h
def Closed2 (p : Prop) : Prop := p
theorem Closed2.out {p : Prop} (h : Closed2 p) : p := h
theorem LeftAll.cons {n : Nat} {over : Array Bool} {a : Act} {w : World} {k : Nat} {o : Oper} {rs : List Nat} (ho : ops[k]? = some o)
    (h : ∀ K : Act → World → Prop, Closed2 (∀ b v, (J k = true → S v) → Left P md ops Q S J n (over.setIfInBounds k true) b v → K b v) → if Region.wanted o (yielded ops a.tmps) = true then Oper.wp P o a w K Q else K (a.put o.dst undef) w)
    (hs : LeftAll P md ops Q S J n over a w rs) : LeftAll P md ops Q S J n over a w (k :: rs) := fun j hj => by
  rcases List.mem_cons.1 hj with rfl | hj
  · exact wpOp_step ho fun K hK => h K fun b v hS hW => hK b v ⟨hS, hW⟩
  · exact hs j hj
theorem Left.ready {rs : List Nat} {n : Nat} {over : Array Bool} {a : Act} {w : World} (hr : Region.ready md ops over = rs) (hne : rs ≠ []) (h : LeftAll P md ops Q S J n over a w rs) : Left P md ops Q S J (n + 1) over a w :=
  ⟨fun h0 => absurd (hr ▸ h0) hne, hr ▸ h⟩
theorem Left.done {over : Array Bool} {a : Act} {w : World} (hr : Region.ready md ops over = []) (h : Q .normal a w) : ∀ n, Left P md ops Q S J n over a w
  | 0 => ⟨hr, h⟩
  | _ + 1 => ⟨fun _ => h, by rw [hr]; simp⟩
theorem Left.start {id : Nat} {a : Act} {w : World} (S : World → Prop) (J : Nat → Bool) (hm : P.follows .mixedOrders = true)
    (h : Left P .any ops Q S J ops.size (Array.replicate ops.size false) a w.drew) : (Code.region id ops true).wp P Q a w :=
  wp_region_any hm h.any
/-- A world, by a name. -/
theorem named {K : Act → World → Prop} {a : Act} {w : World} (h : ∀ v, v = w → K a v) : K a w := h w rfl
end
section
variable {P : Program} {ops : Array Oper} {Q : Exit → Act → World → Prop}
/-- A region that draws its order, within a round, by what is left. -/
theorem wpIn_region_left {id : Nat} {a : Act} {w : World} (l n : Nat) (S : World → Prop) (J : Nat → Bool) (hm : P.follows .mixedOrders = true) (hd : noDefer ops = true) (hno : ¬ LetsOut Q)
    (h : Left P .any ops Q S J ops.size (Array.replicate ops.size false) a w.drew) : (Code.region id ops true).wpIn (Fence.wide.inRound l) n P Q a w := by
  refine wpIn_region_draw fun t => ?_
  simp only [Region.schedule, hm, Bool.true_or, if_true]
  exact wpOpsIn_of_wpOps l n hno (noDefer_spec hd) _ _ _ (wpAny_sound ops.size t _ a _ h.any)
/-- The post, where no panic is let. -/
def NoP (Q : Exit → Act → World → Prop) : Exit → Act → World → Prop
  | .panic _, _, _ => False
  | e, a, w => Q e a w
theorem wp_noP {c : Code} {a : Act} {w : World} (h : c.wp P (NoP Q) a w) : c.wp P Q a w := wp_mono h fun e a w h => by
  cases e with
  | panic c => exact h.elim
  | normal => exact h
  | ret => exact h
  | exit k => exact h
  | goto t => exact h
  | outgrown => exact h
/-- A plain region within a round, from the plain laws. -/
theorem wpIn_region_plain {id : Nat} {a : Act} {w : World} (l n : Nat) (hd : noDefer ops = true) (hno : ¬ LetsOut Q) (h : wpList P ops Q ops.toList a w) : (Code.region id ops false).wpIn (Fence.wide.inRound l) n P Q a w :=
  wpIn_region (wpOpsIn_of_wpOps l n hno (noDefer_spec hd) _ _ _ (by rw [List.range_eq_range', ← Array.length_toList, wpOps_eq_wpList ops.toList 0 (by simp)]; exact h))
theorem no_out_inBlock {id : Nat} (h : ¬ LetsOut Q) : ¬ LetsOut (Exit.inBlock id Q) := fun ⟨a, w, k⟩ => h ⟨a, w, k⟩
end
end Go.Proofs.Ytbeglemohfbdfaa
