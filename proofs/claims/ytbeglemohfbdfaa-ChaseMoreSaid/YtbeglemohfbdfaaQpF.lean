/- The program of layer 7: who can come before whom, places. Conditions: sizes. -/
import Derived.Test.YtbeglemohfbdfaaQpE
namespace Go.Proofs.Ytbeglemohfbdfaa
open Go.RowKit

def cmpI (a b : Int) : Int := if a < b then -1 else if b < a then 1 else 0
theorem pisNaN_any (a : Int) (w : World) : Calls Try.prog 106 #[.int .i64 a] w fun e w' => e = .returned (.bool false) ∧ w = w' := by
  go_enter Try.func106, Try.ntmps106
  go_wp2
  go_ret
  exact ⟨ret_bool (by simp), rfl⟩
set_option maxRecDepth 100000 in
theorem pCompare_any (a b : Int) (w : World) : Calls Try.prog 99 #[.int .i64 a, .int .i64 b] w fun e w' => e = .returned (.int .i64 (cmpI a b)) ∧ w = w' := by
  unfold cmpI
  by_cases h1 : a < b
  · rw [if_pos h1]
    go_enter Try.func99, Try.ntmps99
    go_wp2_with (go_at_call 106; refine (pisNaN_any _ _).mono ?_; rintro e w' ⟨rfl, rfl⟩)
    go_ret
    exact ⟨rfl, rfl⟩
  · by_cases h2 : b < a
    · rw [if_neg h1, if_pos h2]
      go_enter Try.func99, Try.ntmps99
      go_wp2_with (go_at_call 106; refine (pisNaN_any _ _).mono ?_; rintro e w' ⟨rfl, rfl⟩)
      go_ret
      exact ⟨rfl, rfl⟩
    · rw [if_neg h1, if_neg h2]
      go_enter Try.func99, Try.ntmps99
      go_wp2_with (go_at_call 106; refine (pisNaN_any _ _).mono ?_; rintro e w' ⟨rfl, rfl⟩)
      go_ret
      exact ⟨rfl, rfl⟩
def orI : List Int → Int
  | [] => 0
  | x :: l => if x = 0 then orI l else x
theorem orI_at : ∀ (l : List Int) (k : Nat) (x : Int), (∀ y ∈ l.take k, y = 0) → l[k]? = some x → x ≠ 0 → orI l = x
  | [], k, x, _, h, _ => by simp at h
  | y :: l, 0, x, _, h, hx => by simp at h; subst h; simp [orI, hx]
  | y :: l, k + 1, x, h0, h, hx => by
    have hy : y = 0 := h0 y (by simp)
    rw [orI, if_pos hy]
    exact orI_at l k x (fun z hz => h0 z (by simp [hz])) (by simpa using h) hx
theorem orI_none : ∀ (l : List Int), (∀ y ∈ l, y = 0) → orI l = 0
  | [], _ => rfl
  | y :: l, h => by rw [orI, if_pos (h y (by simp))]; exact orI_none l fun z hz => h z (by simp [hz])
set_option maxRecDepth 100000 in
theorem pOr_any (v : Value) (l : List Int) (w : World) (hv : IsInts w v l) : Calls Try.prog 98 #[v] w fun e w' => e = .returned (.int .i64 (orI l)) ∧ w = w' := by
  obtain ⟨a, cap, rfl, hcap, hlen, hrow⟩ := hv
  have Hrow := Lib.hid hrow
  clear hrow
  go_enter Try.func98, Try.ntmps98
  go_wp2_with fail
  go_loop [5, 8] (fun _ i => ∃ k : Nat, k ≤ l.length ∧ i = .int .i64 k ∧ ∀ y ∈ l.take k, y = 0) (fun _ i => l.length - (intOf i).toNat)
  case atStart => exact ⟨0, Nat.zero_le _, rfl, by simp⟩
  case round =>
    obtain ⟨k, hk, rfl, hall⟩ := hrel
    have Hall := Lib.hid hall
    clear hall
    by_cases hlt : k < l.length
    · obtain ⟨b, o, x, hx, rfl, hc⟩ := Hrow.out.int hlt
      have Hx := Lib.hid hx
      clear hx
      by_cases h0 : x = 0
      · subst h0
        go_wp2_with fail
        refine ⟨⟨k + 1, by omega, by go_num, fun y hy => ?_⟩, by simp [intOf]; omega⟩
        rw [take_get Hx.out, List.mem_append, List.mem_singleton] at hy
        rcases hy with hy | rfl
        · exact Hall.out y hy
        · rfl
      · have h1 : (x != 0) = true := by simp [h0]
        go_wp2_with fail
        go_ret
        exact ⟨ret_int (orI_at l k x Hall.out Hx.out h0).symm, rfl⟩
    · go_wp2_with fail
      go_ret
      exact ⟨ret_int (orI_none l fun y hy => Hall.out y (by rw [take_len hlt]; exact hy)).symm, rfl⟩
theorem row_newL {w : World} {cs : Array Value} {e : TypeId} {vs : List Value} {g : Nat} (hg : g = w.heap.size) (h : cs.toList = vs) : RowAt (w.alloc (.cells cs e)) (some ⟨g, 0, none⟩) vs := fun i x hx => by
  subst h
  exact ⟨g, 0, rfl, cell_new hg (by rw [Nat.zero_add, ← Array.getElem?_toList]; exact hx)⟩
theorem first_lt (t u : Int) (p q : Nat) : decide (orI [cmpI t u, cmpI p q] < 0) = befB t p u q := by
  rw [Bool.eq_iff_iff, decide_eq_true_eq, befB_iff]
  unfold orI orI orI cmpI
  split <;> (repeat' split) <;> omega
set_option maxRecDepth 100000 in
theorem pfirst_any (t p u q : Int) (w : World) : Calls Try.prog 80 #[.int .i64 t, .int .i64 p, .int .i64 u, .int .i64 q] w fun e w' => e = .returned (.int .i64 (orI [cmpI t u, cmpI p q])) ∧ Grow w w' := by
  go_enter Try.func80, Try.ntmps80
  go_wp2_with first | (go_at_call 99; refine (pCompare_any _ _ _).mono ?_; rintro e w' ⟨rfl, rfl⟩) | (go_at_call 98; refine (pOr_any _ [cmpI t u, cmpI p q] _ ⟨_, 2, rfl, by simp, by simp, row_newL rfl rfl⟩).mono ?_; rintro e w' ⟨rfl, rfl⟩)
  go_ret
  exact ⟨rfl, (Grow.refl _).alloc _⟩
set_option maxRecDepth 100000 in
theorem pcan_any (a b c d : Int) (p q : Nat) (w : World) : Calls Try.prog 65 #[clockV a b p, clockV c d q] w fun e w' => e = .returned (.bool (befB a p d q)) ∧ Grow w w' := by
  rw [← first_lt]
  unfold clockV
  go_enter Try.func65, Try.ntmps65
  go_wp2_with (go_at_call 80; refine (pfirst_any _ _ _ _ _).mono ?_; rintro e w' ⟨rfl, hg⟩)
  go_ret
  exact ⟨rfl, (((Grow.refl _).alloc _).alloc _).trans hg⟩
theorem pcan_agg (a b c d : Int) (p q : Nat) (w : World) : Calls Try.prog 65 #[.agg #[.int .i64 a, .int .i64 b, .int .i64 p], .agg #[.int .i64 c, .int .i64 d, .int .i64 q]] w fun e w' => e = .returned (.bool (befB a p d q)) ∧ Grow w w' := pcan_any a b c d p q w
end Go.Proofs.Ytbeglemohfbdfaa
