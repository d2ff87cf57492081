/- A region that draws its order, whose operations read and whose callees keep what is held of the world: walked once, in the order of the text. Conditions: none. -/
import Derived.Test.YtbeglemohfbdfaaLibX
namespace Go.Proofs.Ytbeglemohfbdfaa
open Go.RowKit

/-- The order of the text is one that may come up, and each operation may be taken first: by lists (lexB reckons with arrays, which takes the kernel a minute at ninety operations). -/
def lexL (md : Region.Mode) (ops : Array Oper) : Nat → List Oper → Bool
  | _, [] => true
  | k, o :: rest => o.after.all (fun e => !Region.binds md e || decide (e.on < k)) && rest.all (fun oj => oj.after.any (fun e => Region.binds md e && e.on == k) || o.apart ops oj) && lexL md ops (k + 1) rest
theorem lexFrom_of {md : Region.Mode} {ops : Array Oper} : ∀ (l : List Oper) (k : Nat) (listed : Array Bool), (∀ j, l[j]? = ops[k + j]?) → listed.size = ops.size → (∀ j, j < ops.size → listed[j]? = some (decide (j < k))) → k + l.length = ops.size → lexL md ops k l = true →
    Region.lexFrom md ops l.length k listed = true
  | [], k, listed, _, hs, hL, hk, _ => by
    simp only [List.length_nil, Region.lexFrom, List.isEmpty_iff]
    unfold Region.ready
    rw [List.filter_eq_nil_iff]
    intro i hi
    have hi := List.mem_range.1 hi
    have := hL i hi
    simp at hk
    have e : listed.getD i true = true := by
      rw [Array.getD_eq_getD_getElem?, this, Option.getD_some, decide_eq_true_eq]
      omega
    simp [e]
  | o :: l, k, listed, hl, hs, hL, hk, h => by
    have h0 : ops[k]? = some o := by simpa using (hl 0).symm
    simp only [lexL, Bool.and_eq_true] at h
    obtain ⟨⟨h1, h2⟩, h3⟩ := h
    simp only [List.length_cons] at hk
    simp only [List.length_cons, Region.lexFrom, Bool.and_eq_true]
    have hget : ∀ j d, j < ops.size → listed.getD j d = decide (j < k) := fun j d hj => by rw [Array.getD_eq_getD_getElem?, hL j hj, Option.getD_some]
    refine ⟨⟨?_, ?_⟩, ?_⟩
    · rw [List.contains_iff_mem, mem_ready]
      refine ⟨by rw [hget k true (by omega)]; simp, o, h0, fun e he hb => ?_⟩
      have := Array.all_eq_true_iff_forall_mem.1 h1 e he
      simp only [hb, Bool.not_true, Bool.false_or, decide_eq_true_eq] at this
      rw [hget e.on false (by omega)]
      simpa using this
    · unfold Region.free
      simp only [h0, List.all_eq_true, List.mem_range]
      intro j hj
      rcases Nat.lt_trichotomy j k with c | c | c
      · rw [hget j true hj]
        simp [c]
      · simp [c]
      · obtain ⟨oj, hoj⟩ : ∃ oj, ops[j]? = some oj := ⟨ops[j], by simp [hj]⟩
        have hm : l[j - k - 1]? = some oj := by
          have := hl (j - k)
          rw [show k + (j - k) = j by omega, hoj, show j - k = (j - k - 1) + 1 by omega, List.getElem?_cons_succ] at this
          exact this
        have := List.all_eq_true.1 h2 oj (List.mem_of_getElem? hm)
        simp only [hoj]
        rw [this]
        simp
    · refine lexFrom_of l (k + 1) _ (fun j => ?_) (by simpa using hs) (fun j hj => ?_) (by omega) h3
      · have := hl (j + 1)
        rw [List.getElem?_cons_succ] at this
        rw [this]
        congr 1
        omega
      · by_cases e : k = j
        · subst e
          rw [Array.getElem?_setIfInBounds_self_of_lt (by omega)]
          simp
        · rw [Array.getElem?_setIfInBounds_ne e, hL j hj]
          congr 1
          rw [Bool.eq_iff_iff, decide_eq_true_eq, decide_eq_true_eq]
          omega
theorem lexB_of {md : Region.Mode} {l : List Oper} (h0 : Region.noSelect l.toArray = true) (h : lexL md l.toArray 0 l = true) : Region.lexB md l.toArray = true := by
  unfold Region.lexB
  rw [h0, Bool.true_and]
  have := lexFrom_of (md := md) (ops := l.toArray) l 0 (Array.replicate l.toArray.size false) (fun j => by simp) (by simp) (fun j hj => by simp at hj; simp [hj]) (by simp) h
  simpa using this
theorem wp_quiet_at {P : Program} {id : Nat} {Q : Exit → Act → World → Prop} {a : Act} {w : World} {l : List Oper} (C : World → Prop) (hm : P.follows .mixedOrders = true) (hs : Region.noSelect l.toArray = true) (hB : lexL .any l.toArray 0 l = true) (hC : C w.drew)
    (h : wpQuiet P l.toArray C (fun a' => ∀ w', C w' → Q .normal a' w') l a) : (Code.region id l.toArray true).wp P Q a w :=
  wp_region_quiet (C := C) hm (lexB_of hs hB) hC (by simpa using h)
section
variable {P : Program} {C : World → Prop} {a : Act} {o : Oper} {K : Act → Prop}
theorem upon_all {w : World} {v : Value} {r : Result Next} (he : ∀ f args w', r ≠ .ok (.enter f args) w') (h : Oper.quietUpon P (fun _ => True) w v r) : Oper.quietUpon P C w v r := by
  cases r with
  | ok n w' => cases n <;> first | exact h | exact absurd rfl (he _ _ _)
  | halt x w' => exact h
/-- An operation that is no call is run in whatever world. -/
theorem quiet_val (m : Sem Value) (he : execOp a.eval o = m >>= fun x => pure (Next.value x)) (h : o.quiet P a (fun _ => True) K) : o.quiet P a C K := by
  obtain ⟨v, h1, h2⟩ := h
  refine ⟨v, fun w _ => upon_all (fun f args w' e => ?_) (h1 w trivial), h2⟩
  rw [he, Sem.run_bind] at e
  cases hr : m.run P w with
  | ok x w1 => rw [hr] at e; simp only [Result.andThen, Sem.run_pure] at e; cases e
  | halt x w1 => rw [hr] at e; cases e
theorem quiet_pick (m : Sem Bool) (f : Bool → Value) (he : execOp a.eval o = m >>= fun x => pure (Next.value (f x))) (h : o.quiet P a (fun _ => True) K) : o.quiet P a C K := by
  obtain ⟨v, h1, h2⟩ := h
  refine ⟨v, fun w _ => upon_all (fun g args w' e => ?_) (h1 w trivial), h2⟩
  rw [he, Sem.run_bind] at e
  cases hr : m.run P w with
  | ok x w1 => rw [hr] at e; simp only [Result.andThen, Sem.run_pure] at e; cases e
  | halt x w1 => rw [hr] at e; cases e
end
end Go.Proofs.Ytbeglemohfbdfaa
