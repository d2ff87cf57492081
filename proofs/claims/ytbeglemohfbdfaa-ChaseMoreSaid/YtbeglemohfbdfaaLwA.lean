/- The laws of layer 7: span, sample, near, wide. Conditions: none. -/
import Derived.Test.YtbeglemohfbdfaaQpZ
namespace Go.Proofs.Ytbeglemohfbdfaa
open Go.RowKit

theorem lspan_any (lo hi : Int) (w : World) : Calls Try.prog 10 #[.int .i64 lo, .int .i64 hi] w fun e w' => e = .returned (.agg #[.int .i64 lo, .int .i64 hi]) ∧ Grow w w' := by
  go_enter Try.func10, Try.ntmps10
  go_wp2_with fail
  exact bodyPost_ret (v := .agg #[.int .i64 lo, .int .i64 hi]) (by simp [results, Try.results10, go_sem]) rfl ⟨rfl, (Grow.refl w).alloc _⟩
/-- A chase that a function makes. -/
def MadeX (w : World) (E F : Int) (ss : List (List Int)) (e : Ending) (w' : World) : Prop := ∃ sv, e = .returned (.agg #[.int .i64 E, .int .i64 F, sv]) ∧ IsSheets w' sv ss ∧ Grow w w'
theorem new_ints (w : World) (l : List Int) (e : TypeId) {g n : Nat} (hg : g = w.heap.size) (hn : n = l.length) (hl : l.length ≤ 1000) : IsInts (w.alloc (.cells ((l.map (Value.int .i64)).toArray) e)) (.slice (some ⟨g, 0, none⟩) n n) l := by
  subst hg hn
  refine ⟨_, _, rfl, Nat.le_refl _, by omega, fun i x hx => ⟨_, 0, rfl, ?_⟩⟩
  exact cell_new rfl (by simpa using hx)
theorem new_sheets {w : World} {vs : List Value} {ss : List (List Int)} {e : TypeId} {g n : Nat} (hg : g = w.heap.size) (hn : n = ss.length) (hl : vs.length = ss.length) (h : ∀ (i : Nat) (v : Value) (s : List Int), vs[i]? = some v → ss[i]? = some s → IsInts w v s) (hs : ss.length ≤ 1000) :
    IsSheets (w.alloc (.cells vs.toArray e)) (.slice (some ⟨g, 0, none⟩) n n) ss := by
  subst hg hn
  refine ⟨_, _, rfl, Nat.le_refl _, by omega, fun i s hi => ?_⟩
  have hlt : i < vs.length := by rw [hl]; exact (List.getElem?_eq_some_iff.1 hi).1
  refine ⟨_, 0, vs[i], rfl, cell_new rfl (by simp [hlt]), (h i _ s (by simp [hlt]) hi).grow ((Grow.refl w).alloc _)⟩
def sampleS : List (List Int) := [[50, 51], [52], [53, 54], [51]]
def nearS : List (List Int) := [[52], [53, 51]]
def wideS : List (List Int) := [[49, 53]]
theorem lsample_any (w : World) : Calls Try.prog 12 #[] w (MadeX w 1 2 sampleS) := by
  go_enter Try.func12, Try.ntmps12
  go_wp2_with fail
  refine bodyPost_ret (v := .agg #[.int .i64 1, .int .i64 2, .slice (some ⟨w.heap.size + 1 + 1 + 1 + 1 + 1, 0, none⟩) 4 4]) (by simp [results, Try.results12, go_sem]) rfl ⟨_, rfl, ?_, ?_⟩
  · refine new_sheets (vs := [.slice (some ⟨w.heap.size + 1, 0, none⟩) 2 2, .slice (some ⟨w.heap.size + 1 + 1, 0, none⟩) 1 1, .slice (some ⟨w.heap.size + 1 + 1 + 1, 0, none⟩) 2 2, .slice (some ⟨w.heap.size + 1 + 1 + 1 + 1, 0, none⟩) 1 1]) (by simp) rfl rfl (fun i v s hv hs => ?_) (by decide)
    rcases i with _ | _ | _ | _ | i
    · cases hv; cases hs
      exact (new_ints _ [50, 51] _ (by simp) rfl (by decide)).grow ((((Grow.refl _).alloc _).alloc _).alloc _)
    · cases hv; cases hs
      exact (new_ints _ [52] _ (by simp) rfl (by decide)).grow (((Grow.refl _).alloc _).alloc _)
    · cases hv; cases hs
      exact (new_ints _ [53, 54] _ (by simp) rfl (by decide)).grow ((Grow.refl _).alloc _)
    · cases hv; cases hs
      exact new_ints _ [51] _ (by simp) rfl (by decide)
    · simp at hv
  · exact ((((((Grow.refl w).alloc _).alloc _).alloc _).alloc _).alloc _).alloc _
theorem lnear_any (w : World) : Calls Try.prog 54 #[] w (MadeX w 1 1 nearS) := by
  go_enter Try.func54, Try.ntmps54
  go_wp2_with fail
  refine bodyPost_ret (v := .agg #[.int .i64 1, .int .i64 1, .slice (some ⟨w.heap.size + 1 + 1 + 1, 0, none⟩) 2 2]) (by simp [results, Try.results54, go_sem]) rfl ⟨_, rfl, ?_, ?_⟩
  · refine new_sheets (vs := [.slice (some ⟨w.heap.size + 1, 0, none⟩) 1 1, .slice (some ⟨w.heap.size + 1 + 1, 0, none⟩) 2 2]) (by simp) rfl rfl (fun i v s hv hs => ?_) (by decide)
    rcases i with _ | _ | i
    · cases hv; cases hs
      exact (new_ints _ [52] _ (by simp) rfl (by decide)).grow ((Grow.refl _).alloc _)
    · cases hv; cases hs
      exact new_ints _ [53, 51] _ (by simp) rfl (by decide)
    · simp at hv
  · exact ((((Grow.refl w).alloc _).alloc _).alloc _).alloc _
theorem lwide_any (w : World) : Calls Try.prog 15 #[] w (MadeX w 1 1 wideS) := by
  go_enter Try.func15, Try.ntmps15
  go_wp2_with fail
  refine bodyPost_ret (v := .agg #[.int .i64 1, .int .i64 1, .slice (some ⟨w.heap.size + 1 + 1, 0, none⟩) 1 1]) (by simp [results, Try.results15, go_sem]) rfl ⟨_, rfl, ?_, ?_⟩
  · refine new_sheets (vs := [.slice (some ⟨w.heap.size + 1, 0, none⟩) 2 2]) (by simp) rfl rfl (fun i v s hv hs => ?_) (by decide)
    rcases i with _ | i
    · cases hv; cases hs
      exact new_ints _ [49, 53] _ (by simp) rfl (by decide)
    · simp at hv
  · exact (((Grow.refl w).alloc _).alloc _).alloc _
set_option maxRecDepth 1000000
theorem err_sample {ok : Bool} (h : ok = true) : errOf 1 2 sampleS ok = 0 := by subst h; decide +kernel
theorem err_near {ok : Bool} (h : ok = true) : errOf 1 1 nearS ok = 0 := by subst h; decide +kernel
theorem ev1 : timeV 1 2 sampleS 1 = (51, 53) := by decide +kernel
theorem ev2 : wrongE 1 1 wideS 0 = 1 ∧ codeO 1 1 wideS (inB 0 0 (wideS.length - 1)) = 0 := by decide +kernel
theorem ev3 : placeV 1 2 sampleS 3 = (0, 2) := by decide +kernel
theorem ev4 : finalE 1 2 sampleS 1 = 1 := by decide +kernel
theorem ev5 : cutE 1 2 sampleS = (50, 52) := by decide +kernel
theorem ev6 : ordersV 1 2 sampleS = 3 := by decide +kernel
theorem ev7 : firstL 1 2 sampleS = [0, 1, 3, 2] := by decide +kernel
theorem ev8 : meetE 1 2 sampleS 0 2 = 1 := by decide +kernel
theorem ev9 : askE 1 1 nearS = (0, 0) := by decide +kernel
end Go.Proofs.Ytbeglemohfbdfaa
