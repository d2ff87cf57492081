/- The program of layer 1: open: what is valid, the sheets of a count, its truths. Conditions: sizes. -/
import Derived.Test.YteijilbdllpbcaaPlE
import Derived.Test.YteijilbdllpbcaaPgE
import Derived.Test.YteijilbdllpbcaaPgA
import Derived.Deep.AppendLies
namespace Go.Proofs.Yteijilbdllpbcaa
open Go.RowKit

theorem step_app {P : Program} {w : World} {ops : Array Oper} {o : Oper} {ac : Act} {K : Act → World → Prop} {Q : Exit → Act → World → Prop} {E : Prop} (hgd : o.guard = none) (s x : Operand) (t : TypeId)
    (ho : o.op = .call { callee := .builtin .append, args := #[s, x], argTypes := #[t, t] })
    (base : Nat) (e : TypeId) (i : TypeInfo) (z : Value) (bytes : Nat) (ht : P.underlying t = some (.slice e)) (hi : P.info? e = some i) (hz : i.zero = some z)
    (hsize : i.size = 1) (hby : i.bytes = bytes) (hzs : z.cells.size = 1)
    (v : Value) (vs : List Value) (hs : ac.eval s = v) (hown : Own w base e v vs) (a : Option Addr) (c : Nat) (news : List Value) (n : Nat) (hx : ac.eval x = .slice a n c) (hn : news.length = n) (ha : a = none → c = 0) (hsrc : RowAt w a news) (h1 : ∀ u ∈ news, u.oneCell' = true)
    (hbytes : (vs.length + news.length) * bytes ≤ 140737488355328) (hb0 : 0 < bytes) (hbase : base ≤ w.heap.size)
    (h : ∀ v' w', Own w' base e v' (vs ++ news) → w.grownBy w' v.ownBlock → Moves w v v' → K (ac.put o.dst v') w') :
    if Region.wanted o (yielded ops ac.tmps) = true then Oper.wp P o ac w K Q else E := by
  have hw : Region.wanted o (yielded ops ac.tmps) = true := by simp [Region.wanted, hgd]
  rw [if_pos hw]
  exact wp_app s x t ho base e i z bytes ht hi hz hsize hby hzs v vs hs hown a c news n hx hn ha hsrc h1 hbytes hb0 hbase h

theorem popen1_any (r s : ByteArray) (pc : Nat) (w : World) (hc : w.cell? ⟨pc, 0, none⟩ = some (.string s)) (hr : r.size ≤ 1000000) (hs : s.size ≤ 1000) :
    Calls Try.prog 78 #[.string r, .pointer (some ⟨pc, 0, none⟩)] w fun e w' => e = .returned (.int .i64 (errorsB r.data.toList s.data.toList)) ∧ Grow w w' := by
  go_enter Try.func78, Try.ntmps78
  go_wp2_with (go_at_call 59; refine (perrors_any _ _ _ hr hs).mono ?_; rintro e w' ⟨rfl, hg⟩)
  go_ret
  exact ⟨rfl, hg⟩
/-- A count that is looked at. -/
def CountIs (w : World) (c : Nat) (sheets truths : List ByteArray) (n : Int) : Prop :=
  ∃ v1 v2, w.cell? ⟨c, 0, none⟩ = some v1 ∧ IsRaces w v1 sheets ∧ w.cell? ⟨c, 1, none⟩ = some v2 ∧ IsRaces w v2 truths ∧ w.cell? ⟨c, 2, none⟩ = some (.int .i64 n)
theorem CountIs.grow {w w' : World} {c : Nat} {sheets truths : List ByteArray} {n : Int} (h : CountIs w c sheets truths n) (hg : Grow w w') : CountIs w' c sheets truths n := by
  obtain ⟨v1, v2, h1, h2, h3, h4, h5⟩ := h
  exact ⟨v1, v2, hg.keeps h1, h2.grow hg, hg.keeps h3, h4.grow hg, hg.keeps h5⟩
theorem ptold_yes (c : Nat) (sheets truths : List ByteArray) (n : Int) (w : World) (h : CountIs w c sheets truths n) (ht : truths ≠ []) :
    Calls Try.prog 44 #[.pointer (some ⟨c, 0, none⟩)] w fun e w' => e = .returned (.pointer (some ⟨c, 0, none⟩)) ∧ w = w' := by
  obtain ⟨v1, v2, h1, h2, h3, ⟨a, cap, rfl, h5, h6, h7, h8⟩, h9⟩ := h
  have hl : decide ((0 : Int) < (truths.length : Int)) = true := by
    cases truths with
    | nil => exact absurd rfl ht
    | cons x l => simp
  have hl2 : decide (0 < truths.length) = true := by
    cases truths with
    | nil => exact absurd rfl ht
    | cons x l => simp
  go_enter Try.func44, Try.ntmps44
  go_wp2_with (go_at_call 72; refine (pwant_yes _ _).mono ?_; rintro e w' ⟨rfl, rfl⟩)
  go_ret
  exact ⟨rfl, rfl⟩
theorem ptold_no (c : Nat) (sheets : List ByteArray) (n : Int) (w : World) (h : CountIs w c sheets [] n) :
    Calls Try.prog 44 #[.pointer (some ⟨c, 0, none⟩)] w fun e w' => e = .panicked (refusal 10) ∧ w = w' := by
  obtain ⟨v1, v2, h1, h2, h3, ⟨a, cap, rfl, h5, h6, h7, h8⟩, h9⟩ := h
  go_enter Try.func44, Try.ntmps44
  go_wp2_with (go_at_call 72; refine (pwant_no _ _).mono ?_; rintro e w' ⟨rfl, rfl⟩)
  exact ⟨rfl, rfl, rfl⟩

/-- What a count comes to: a panic with an error, or the count, and its truths. -/
def codeO (P : Int) (ss : List (List Int)) (ok : Bool) : Int := if validB P ss = false then 1 else if ok = false then 2 else 0
def OpenPost (w : World) (P : Int) (ss : List (List Int)) (ok : Bool) (e : Ending) (w' : World) : Prop :=
  Grow w w' ∧ (codeO P ss ok ≠ 0 → e = .panicked (refusal (codeO P ss ok))) ∧
    (codeO P ss ok = 0 → ∃ (c : Nat) (sheets ts : List ByteArray) (n : Int), e = .returned (.pointer (some ⟨c, 0, none⟩)) ∧ CountIs w' c sheets ts n ∧ w.heap.size ≤ c ∧ sheets.map intsB = ss ∧ ts.map intsB = (truthsR P.toNat ss).1 ∧ n = (truthsR P.toNat ss).2 ∧ (∀ r ∈ ts, r.size ≤ 12))
theorem OpenPost.bad {w w' : World} {P : Int} {ss : List (List Int)} {ok : Bool} {e : Ending} {c : Int} (hc : codeO P ss ok = c) (h0 : c ≠ 0) (he : e = .panicked (refusal c)) (hg : Grow w w') : OpenPost w P ss ok e w' :=
  ⟨hg, fun _ => by rw [hc]; exact he, fun h => absurd (hc.symm.trans h) h0⟩
theorem codeO_bad {P : Int} {ss : List (List Int)} {ok : Bool} {k : Nat} {s : List Int} (hs : ss[k]? = some s) (h : sheetB P s = false) : codeO P ss ok = 1 := by
  unfold codeO
  rw [if_pos]
  rw [validB_eq, sheets_no hs h]
  simp
theorem popen_pairs (P : Int) (v : Value) (ss : List (List Int)) (ok : Bool) (w : World) (hv : IsSheets w v ss) (h : inB P 1 4 = false ∨ inB ss.length 1 4 = false) :
    Calls Try.prog 43 #[.agg #[.int .i64 P, v], .bool ok] w (OpenPost w P ss ok) := by
  obtain ⟨a, cap, rfl, hcap, hlen, hrow⟩ := hv
  cases h1 : inB P 1 4 with
  | false =>
    have H1 := Lib.hid h1
    clear h h1
    go_enter Try.func43, Try.ntmps43
    go_wp2_with first | (go_at_call 56; refine (pwithin_any _ _ _ _).mono ?_; rintro e w' ⟨rfl, rfl⟩; rw [H1.out]) | (go_at_call 72; refine (pwant_no _ _).mono ?_; rintro e w' ⟨rfl, rfl⟩)
    exact ⟨rfl, OpenPost.bad (by unfold codeO; rw [if_pos]; rw [validB_eq, H1.out]; simp) (by decide) rfl ((Grow.refl w).alloc _)⟩
  | true =>
    have h2 : inB ss.length 1 4 = false := h.resolve_left (by rw [h1]; simp)
    have H1 := Lib.hid h1
    have H2 := Lib.hid h2
    clear h h1 h2
    go_enter Try.func43, Try.ntmps43
    go_wp2_with first | (go_at_call 56; refine (pwithin_any _ _ _ _).mono ?_; rintro e w' ⟨rfl, rfl⟩; first | rw [H1.out] | rw [H2.out]) | (go_at_call 72; refine (pwant_no _ _).mono ?_; rintro e w' ⟨rfl, rfl⟩)
    exact ⟨rfl, OpenPost.bad (by unfold codeO; rw [if_pos]; rw [validB_eq, H2.out]; simp) (by decide) rfl ((Grow.refl w).alloc _)⟩
end Go.Proofs.Yteijilbdllpbcaa
