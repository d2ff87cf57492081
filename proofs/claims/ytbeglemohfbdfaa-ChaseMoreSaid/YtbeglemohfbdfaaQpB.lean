/- The program of layer 7: open, told. Conditions: sizes. -/
import Derived.Test.YtbeglemohfbdfaaQpA
import Derived.Maps.AppendAt
import Derived.Deep.AppendLies
namespace Go.Proofs.Ytbeglemohfbdfaa
open Go.RowKit

theorem byHot {w w' : World} {r : Option Nat} (hg : w.grownBy w' r) {b : Nat} (hb : b < w.heap.size) (hne : r ≠ some b) (o : Nat) : w'.frozen? ⟨b, o, none⟩ = w.frozen? ⟨b, o, none⟩ := by
  unfold World.frozen?
  rw [hg.block b hb (fun e => hne e.symm)]
theorem Own.some {w : World} {B E : Nat} {v : Value} {vs : List Value} (h : Own w B E v vs) {n : Nat} (hn : vs.length = n) (h0 : 0 < n) : ∃ g cap, v = .slice (some ⟨g, 0, none⟩) n cap ∧ n ≤ cap := by
  rcases h.parts with ⟨_, rfl⟩ | ⟨g, cap, rfl, _, _, h5, _⟩
  · simp at hn; omega
  · exact ⟨g, cap, by rw [hn], by omega⟩
/-- The cells of clocks, one after the other. -/
def ckCells : Nat → List (Int × Int) → List Value
  | _, [] => []
  | p, k :: r => .int .i64 k.1 :: .int .i64 k.2 :: .int .i64 p :: ckCells (p + 1) r
theorem ckCells_len : ∀ (p : Nat) (ks : List (Int × Int)), (ckCells p ks).length = ks.length * 3
  | _, [] => rfl
  | p, k :: r => by simp only [ckCells, List.length_cons, ckCells_len (p + 1) r]; omega
theorem ckCells_snoc : ∀ (p : Nat) (ks : List (Int × Int)) (k : Int × Int), ckCells p (ks ++ [k]) = ckCells p ks ++ [.int .i64 k.1, .int .i64 k.2, .int .i64 ((p + ks.length : Nat) : Int)]
  | p, [], k => by simp [ckCells]
  | p, x :: r, k => by
    simp only [List.cons_append, ckCells, ckCells_snoc (p + 1) r k, List.length_cons]
    rw [show p + 1 + r.length = p + (r.length + 1) by omega]
theorem ckCells_get : ∀ (p : Nat) (ks : List (Int × Int)) (i : Nat) (k : Int × Int), ks[i]? = some k →
    (ckCells p ks)[i * 3]? = some (.int .i64 k.1) ∧ (ckCells p ks)[i * 3 + 1]? = some (.int .i64 k.2) ∧ (ckCells p ks)[i * 3 + 2]? = some (.int .i64 ((p + i : Nat) : Int))
  | p, [], i, k, h => by simp at h
  | p, x :: r, 0, k, h => by
    simp at h; subst h
    exact ⟨rfl, rfl, rfl⟩
  | p, x :: r, i + 1, k, h => by
    have := ckCells_get (p + 1) r i k (by simpa using h)
    rw [show p + 1 + i = p + (i + 1) by omega] at this
    rw [show (i + 1) * 3 = i * 3 + 3 by omega]
    exact this
/-- Clocks from an address on. -/
def CksAt (w : World) (a : Option Addr) (ks : List (Int × Int)) : Prop :=
  ∀ p k, ks[p]? = some k → ∃ b o, a = some ⟨b, o, none⟩ ∧ w.cell? ⟨b, o + p * 3, none⟩ = some (.int .i64 k.1) ∧ w.cell? ⟨b, o + p * 3 + 1, none⟩ = some (.int .i64 k.2) ∧ w.cell? ⟨b, o + p * 3 + 2, none⟩ = some (.int .i64 p)
theorem CksAt.grow {w w' : World} {a : Option Addr} {ks : List (Int × Int)} (h : CksAt w a ks) (hg : Grow w w') : CksAt w' a ks := fun p k hk => by
  obtain ⟨b, o, h1, h2, h3, h4⟩ := h p k hk
  exact ⟨b, o, h1, hg.keeps h2, hg.keeps h3, hg.keeps h4⟩
theorem CksAt.of_row {w : World} {base : Nat} {e : TypeId} {g cap n : Nat} {ks : List (Int × Int)} (h : w.ownsRow base e 3 (.slice (some ⟨g, 0, none⟩) n cap) ks.length (ckCells 0 ks)) : CksAt w (some ⟨g, 0, none⟩) ks := fun p k hk => by
  obtain ⟨c1, c2, c3⟩ := ckCells_get 0 ks p k hk
  have key : ∀ j u, (ckCells 0 ks)[j]? = some u → w.cell? ⟨g, 0 + j, none⟩ = some u := fun j u hu => by
    have := h.cells (g := g) rfl j u hu
    have e : (⟨g, 0, none⟩ : Addr).add j = ⟨g, 0 + j, none⟩ := by unfold Addr.add; split <;> simp_all
    rwa [e] at this
  exact ⟨g, 0, rfl, key _ _ c1, by rw [Nat.add_assoc]; exact key _ _ c2, by rw [Nat.add_assoc]; simpa using key _ _ c3⟩
/-- A chase that is looked at. -/
def ChaseIs (w : World) (c : Nat) (F : Int) (ks : List (Int × Int)) : Prop :=
  ∃ (E : Int) (sa : Option Addr) (sn sc : Nat) (a : Option Addr) (cap : Nat), w.cell? ⟨c, 0, none⟩ = some (.int .i64 E) ∧ w.cell? ⟨c, 1, none⟩ = some (.int .i64 F) ∧ w.cell? ⟨c, 2, none⟩ = some (.slice sa sn sc) ∧
    w.cell? ⟨c, 3, none⟩ = some (.slice a ks.length cap) ∧ ks.length ≤ cap ∧ CksAt w a ks
theorem ChaseIs.grow {w w' : World} {c : Nat} {F : Int} {ks : List (Int × Int)} (h : ChaseIs w c F ks) (hg : Grow w w') : ChaseIs w' c F ks := by
  obtain ⟨E, sa, sn, sc, a, cap, h0, h1, h2, h3, h4, h5⟩ := h
  exact ⟨E, sa, sn, sc, a, cap, hg.keeps h0, hg.keeps h1, hg.keeps h2, hg.keeps h3, h4, h5.grow hg⟩

set_option maxRecDepth 100000 in
theorem ptold_yes (c : Nat) (F : Int) (ks : List (Int × Int)) (w : World) (h : ChaseIs w c F ks) (hf : Feas ks) (hl : ks.length ≤ 1000) :
    Calls Try.prog 40 #[.pointer (some ⟨c, 0, none⟩)] w fun e w' => e = .returned (.pointer (some ⟨c, 0, none⟩)) ∧ Grow w w' := by
  obtain ⟨E, sa, sn, sc, a, cap, h0, h1, h2, h3, h4, h5⟩ := h
  have Hf := Lib.hid hf
  have H5 := Lib.hid h5
  clear hf h5
  go_enter Try.func40, Try.ntmps40
  go_wp2_with fail
  go_loopw [4, 10] (fun _ i wr => ∃ k : Nat, k ≤ ks.length ∧ i = .int .i64 k ∧ Grow w wr) (fun _ i _ => ks.length - (intOf i).toNat)
  case atStart => exact ⟨0, Nat.zero_le _, rfl, Grow.refl _⟩
  case round =>
    obtain ⟨k, hk, rfl, hg⟩ := hrel
    by_cases hlt : k < ks.length
    · obtain ⟨b, o, rfl, c1, c2, c3⟩ := H5.out k ks[k] (by simp [hlt])
      have hle := Hf.out k hlt
      simp only [lo, hi, List.getElem?_eq_getElem hlt, Option.getD_some] at hle
      replace c1 := hg.keeps c1
      replace c2 := hg.keeps c2
      replace c3 := hg.keeps c3
      obtain ⟨x, hx⟩ : ∃ x, x = ks[k].1 := ⟨_, rfl⟩
      obtain ⟨y, hy⟩ : ∃ y, y = ks[k].2 := ⟨_, rfl⟩
      rw [← hx] at c1 hle
      rw [← hy] at c2 hle
      clear hx hy
      go_wp2_with (go_at_call 51; refine (pwant_yes _ _).mono ?_; rintro e w' ⟨rfl, rfl⟩)
      exact ⟨⟨k + 1, by omega, by go_num, hg.alloc _⟩, by simp [intOf]; omega⟩
    · go_wp2_with fail
      go_ret
      exact ⟨rfl, hg⟩
set_option maxRecDepth 100000 in
theorem ptold_no (c : Nat) (F : Int) (ks : List (Int × Int)) (w : World) (h : ChaseIs w c F ks) (hf : feasB ks = false) (hl : ks.length ≤ 1000) :
    Calls Try.prog 40 #[.pointer (some ⟨c, 0, none⟩)] w fun e w' => e = .panicked (refusal 10) ∧ Grow w w' := by
  obtain ⟨E, sa, sn, sc, a, cap, h0, h1, h2, h3, h4, h5⟩ := h
  have H5 := Lib.hid h5
  have Hf := Lib.hid hf
  clear hf h5
  go_enter Try.func40, Try.ntmps40
  go_wp2_with fail
  go_loopw [4, 10] (fun _ i wr => ∃ k : Nat, k ≤ ks.length ∧ i = .int .i64 k ∧ (∀ x ∈ ks.take k, x.1 ≤ x.2) ∧ Grow w wr) (fun _ i _ => ks.length - (intOf i).toNat)
  case atStart => exact ⟨0, Nat.zero_le _, rfl, by simp, Grow.refl _⟩
  case round =>
    obtain ⟨k, hk, rfl, hall, hg⟩ := hrel
    have Hall := Lib.hid hall
    clear hall
    by_cases hlt : k < ks.length
    · obtain ⟨b, o, rfl, c1, c2, c3⟩ := H5.out k ks[k] (by simp [hlt])
      replace c1 := hg.keeps c1
      replace c2 := hg.keeps c2
      replace c3 := hg.keeps c3
      obtain ⟨x, hx⟩ : ∃ x, x = ks[k].1 := ⟨_, rfl⟩
      obtain ⟨y, hy⟩ : ∃ y, y = ks[k].2 := ⟨_, rfl⟩
      rw [← hx] at c1
      rw [← hy] at c2
      have Hx := Lib.hid hx
      have Hy := Lib.hid hy
      clear hx hy
      by_cases hle : x ≤ y
      · go_wp2_with (go_at_call 51; refine (pwant_yes _ _).mono ?_; rintro e w' ⟨rfl, rfl⟩)
        refine ⟨⟨k + 1, by omega, by go_num, fun z hz => ?_, hg.alloc _⟩, by simp [intOf]; omega⟩
        rw [take_get (List.getElem?_eq_getElem hlt), List.mem_append, List.mem_singleton] at hz
        rcases hz with hz | rfl
        · exact Hall.out z hz
        · rw [← Hx.out, ← Hy.out]; exact hle
      · go_wp2_with (go_at_call 51; refine (pwant_no _ _).mono ?_; rintro e w' ⟨rfl, rfl⟩)
        exact ⟨rfl, rfl, hg.alloc _⟩
    · exfalso
      have h1 := Hf.out
      rw [Bool.eq_false_iff, ne_eq, feasB, List.all_eq_true] at h1
      exact h1 fun z hz => decide_eq_true (Hall.out z (by rw [take_len hlt]; exact hz))

/-- What a chase's words come to: a panic with an error, or the chase, and its clocks. -/
def listB (l : List Int) : Bool := inB l.length 1 3 && l.all fun n => inB n 0 200
def validB (E F : Int) (ss : List (List Int)) : Bool := (inB E 0 3 && inB ss.length 1 6 && inB F 1 ss.length) && ss.all listB
def codeO (E F : Int) (ss : List (List Int)) (ok : Bool) : Int := if validB E F ss = false then 1 else if ok = false then 2 else 0
def OpenPost (w : World) (E F : Int) (ss : List (List Int)) (ok : Bool) (e : Ending) (w' : World) : Prop :=
  Grow w w' ∧ (codeO E F ss ok ≠ 0 → e = .panicked (refusal (codeO E F ss ok))) ∧
    (codeO E F ss ok = 0 → ∃ c : Nat, e = .returned (.pointer (some ⟨c, 0, none⟩)) ∧ ChaseIs w' c F (clocksOf E ss) ∧ w.heap.size ≤ c ∧ ∀ b o n cap, w'.cell? ⟨c, 3, none⟩ = some (.slice (some ⟨b, o, none⟩) n cap) → w.heap.size ≤ b)
theorem OpenPost.bad {w w' : World} {E F : Int} {ss : List (List Int)} {ok : Bool} {e : Ending} {c : Int} (hc : codeO E F ss ok = c) (h0 : c ≠ 0) (he : e = .panicked (refusal c)) (hg : Grow w w') : OpenPost w E F ss ok e w' :=
  ⟨hg, fun _ => by rw [hc]; exact he, fun h => absurd (hc.symm.trans h) h0⟩
theorem codeO_bad {E F : Int} {ss : List (List Int)} {ok : Bool} {k : Nat} {s : List Int} (hx : ss[k]? = some s) (h : listB s = false) : codeO E F ss ok = 1 := by
  have hv : validB E F ss = false := by
    unfold validB
    rw [Bool.and_eq_false_iff]
    right
    rw [Bool.eq_false_iff, ne_eq, List.all_eq_true]
    intro ha
    have := ha s (List.mem_of_getElem? hx)
    rw [h] at this
    cases this
  unfold codeO
  rw [hv]
  rfl
set_option maxRecDepth 100000 in
theorem popen_head (E F : Int) (v : Value) (ss : List (List Int)) (ok : Bool) (w : World) (hv : IsSheets w v ss) (hh : (inB E 0 3 && inB ss.length 1 6 && inB F 1 ss.length) = false) :
    Calls Try.prog 38 #[.agg #[.int .i64 E, .int .i64 F, v], .bool ok] w (OpenPost w E F ss ok) := by
  obtain ⟨a, cap, rfl, hcap, hlen, hrow⟩ := hv
  have hc : codeO E F ss ok = 1 := by
    unfold codeO validB
    rw [hh]; rfl
  have Hc := Lib.hid hc
  clear hc hrow
  cases h1 : inB E 0 3 with
  | false =>
    have H1 := Lib.hid h1
    clear h1 hh
    go_enter Try.func38, Try.ntmps38
    go_wp2_with first | (go_at_call 64; refine (pwithin_any _ _ _ _).mono ?_; rintro e w' ⟨rfl, rfl⟩; rw [H1.out]) | (go_at_call 51; refine (pwant_no _ _).mono ?_; rintro e w' ⟨rfl, rfl⟩)
    exact ⟨rfl, OpenPost.bad Hc.out (by decide) rfl ((Grow.refl _).alloc _)⟩
  | true =>
    cases h2 : inB ss.length 1 6 with
    | false =>
      have H1 := Lib.hid h1
      have H2 := Lib.hid h2
      clear h1 h2 hh
      go_enter Try.func38, Try.ntmps38
      go_wp2_with first | (go_at_call 64; refine (pwithin_any _ _ _ _).mono ?_; rintro e w' ⟨rfl, rfl⟩; first | rw [H1.out] | rw [H2.out]) | (go_at_call 51; refine (pwant_no _ _).mono ?_; rintro e w' ⟨rfl, rfl⟩)
      exact ⟨rfl, OpenPost.bad Hc.out (by decide) rfl ((Grow.refl _).alloc _)⟩
    | true =>
      have h3 : inB F 1 ss.length = false := by rw [h1, h2] at hh; simpa using hh
      have H1 := Lib.hid h1
      have H2 := Lib.hid h2
      have H3 := Lib.hid h3
      clear h1 h2 h3 hh
      go_enter Try.func38, Try.ntmps38
      go_wp2_with first | (go_at_call 64; refine (pwithin_any _ _ _ _).mono ?_; rintro e w' ⟨rfl, rfl⟩; first | rw [H1.out] | rw [H2.out] | rw [H3.out]) | (go_at_call 51; refine (pwant_no _ _).mono ?_; rintro e w' ⟨rfl, rfl⟩)
      exact ⟨rfl, OpenPost.bad Hc.out (by decide) rfl ((Grow.refl _).alloc _)⟩
end Go.Proofs.Ytbeglemohfbdfaa
