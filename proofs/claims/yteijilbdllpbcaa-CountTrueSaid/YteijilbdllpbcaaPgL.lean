/- The program of layer 1: fewest, what is kept of a count, told. Conditions: sizes. -/
import Derived.Test.YteijilbdllpbcaaPgA
namespace Go.Proofs.Yteijilbdllpbcaa
open Go.RowKit

/-- Those of some races of which a number is least, and this number; 1000 is none. -/
def fewStep (f : ByteArray → Int) (acc : List ByteArray × Int) (r : ByteArray) : List ByteArray × Int :=
  let acc' := if f r < acc.2 then ([], f r) else acc
  if f r = acc'.2 ∧ acc'.2 < 1000 then (acc'.1 ++ [r], acc'.2) else acc'
def fewestB (f : ByteArray → Int) (l : List ByteArray) : List ByteArray × Int := l.foldl (fewStep f) ([], 1000)
def fewTo (f : ByteArray → Int) (l : List ByteArray) (k : Nat) : List ByteArray × Int := (l.take k).foldl (fewStep f) ([], 1000)
theorem fewTo_succ {f : ByteArray → Int} {l : List ByteArray} {k : Nat} {r : ByteArray} (h : l[k]? = some r) : fewTo f l (k + 1) = fewStep f (fewTo f l k) r := by
  unfold fewTo; rw [take_get h]; simp
theorem fewTo_all {f : ByteArray → Int} {l : List ByteArray} {k : Nat} (h : ¬ k < l.length) : fewTo f l k = fewestB f l := by
  unfold fewTo fewestB; rw [take_len h]
theorem fewStep_lt {f : ByteArray → Int} {acc : List ByteArray × Int} {r : ByteArray} (h : f r < acc.2) (h2 : f r < 1000) : fewStep f acc r = ([r], f r) := by
  unfold fewStep; simp [h, h2]
theorem fewStep_eq {f : ByteArray → Int} {acc : List ByteArray × Int} {r : ByteArray} (h : f r = acc.2) (h2 : f r < 1000) : fewStep f acc r = (acc.1 ++ [r], acc.2) := by
  have h1 : ¬ f r < acc.2 := by omega
  have h3 : f r = acc.2 ∧ acc.2 < 1000 := ⟨h, by omega⟩
  unfold fewStep
  simp only [h1, if_false]
  rw [if_pos h3]
theorem fewStep_gt {f : ByteArray → Int} {acc : List ByteArray × Int} {r : ByteArray} (h : acc.2 < f r ∨ (f r = acc.2 ∧ 1000 ≤ f r)) : fewStep f acc r = acc := by
  have h1 : ¬ f r < acc.2 := by omega
  have h3 : ¬ (f r = acc.2 ∧ acc.2 < 1000) := by omega
  unfold fewStep
  simp only [h1, if_false]
  rw [if_neg h3]
theorem fewTo_le (f : ByteArray → Int) (l : List ByteArray) : ∀ k, (fewTo f l k).2 ≤ 1000 ∧ (fewTo f l k).1.length ≤ k
  | 0 => by simp [fewTo]
  | k + 1 => by
    have ih := fewTo_le f l k
    by_cases h : k < l.length
    · have hx : l[k]? = some l[k] := by simp [h]
      rw [fewTo_succ hx]
      generalize fewTo f l k = acc at ih
      by_cases h1 : f l[k] < acc.2
      · rw [fewStep_lt h1 (by omega)]; simp; omega
      · by_cases h2 : f l[k] = acc.2 ∧ f l[k] < 1000
        · rw [fewStep_eq h2.1 h2.2]; simp; omega
        · rw [fewStep_gt (by omega)]; exact ⟨ih.1, by omega⟩
    · rw [fewTo_all (f := f) (l := l) (k := k + 1) (by omega), ← fewTo_all (f := f) (k := k) h]; exact ⟨ih.1, by omega⟩
/-- A slice of races that the call made, and a number. -/
def RacesPost (w : World) (r : List ByteArray × Int) (e : Ending) (w' : World) : Prop :=
  ∃ v, e = .returned (.tuple #[v, .int .i64 r.2]) ∧ Own w' w.heap.size 79 v (r.1.map Value.string) ∧ Grow w w'
theorem pinfo_race : (Try.prog.info? 79).map (fun i => (i.zero, i.size, i.bytes)) = some (some (.string ⟨#[]⟩), 1, 16) := by kernel_rfl

set_option maxRecDepth 100000 in
theorem pfewest_any (v : Value) (l : List ByteArray) (f : ByteArray → Int) (pc : Nat) (w : World) (hv : IsRaces w v l) (hl : l.length ≤ 8000000000000)
    (hf : ∀ (r : ByteArray) (w1 : World), r ∈ l → Grow w w1 → Calls Try.prog 78 #[.string r, .pointer (some ⟨pc, 0, none⟩)] w1 fun e w' => e = .returned (.int .i64 (f r)) ∧ Grow w1 w') :
    Calls Try.prog 77 #[v, .agg #[.func (.func 78) #[] #[.pointer (some ⟨pc, 0, none⟩)]]] w (RacesPost w (fewestB f l)) := by
  obtain ⟨i0, hi0, hi1, hi2, hi3⟩ := info_parts pinfo_race
  obtain ⟨a, cap, rfl, hcap, hlen, hnil, hrow⟩ := hv
  have HF := Lib.hid hf
  clear hf
  go_enter Try.func77, Try.ntmps77
  go_wp2_with fail
  go_loopw [4, 5, 11] (fun s4 s5 c wr => ∃ (k : Nat) (u : Value) (n : Int), u = s4 ∧ k ≤ l.length ∧ c = .int .i64 k ∧ s5 = .int .i64 n ∧ n = (fewTo f l k).2 ∧ Own wr (w.heap.size + 1) 79 u ((fewTo f l k).1.map Value.string) ∧ Grow w wr ∧ wr.cell? ⟨w.heap.size, 0, none⟩ = some (.func (.func 78) #[] #[.pointer (some ⟨pc, 0, none⟩)])) (fun _ _ c _ => l.length - (intOf c).toNat)
  case atStart => exact ⟨0, _, _, rfl, Nat.zero_le _, rfl, rfl, rfl, Own.nil _ _ _, (Grow.refl w).alloc _, by simp⟩
  case round =>
    obtain ⟨k, u, n, rfl, hk, rfl, rfl, hn, hown, hg, hc⟩ := hrel
    have hle := fewTo_le f l k
    by_cases hlt : k < l.length
    · obtain ⟨b, o, x, hx, rfl, hcx⟩ := hrow.str hlt
      have hcx' := hg.keeps hcx
      have hmem : x ∈ l := List.mem_of_getElem? hx
      have hcall := HF.out x wr hmem hg
      have Hs := Lib.hid (fewTo_succ (f := f) hx)
      obtain ⟨acc, hacc⟩ : ∃ acc, acc = fewTo f l k := ⟨_, rfl⟩
      rw [← hacc] at hown hle hn
      obtain ⟨fx, hfx⟩ : ∃ fx, fx = f x := ⟨_, rfl⟩
      rw [← hfx] at hcall
      have Hfx := Lib.hid hfx
      have Hacc := Lib.hid hacc
      have Hn := Lib.hid hn
      have Hcall := Lib.hid hcall
      have hn1 : n ≤ 1000 := by omega
      clear hx hfx hacc hcall hn
      have hu : Try.prog.underlying 69 = some (.slice 79) := by kernel_rfl
      have hc1 : ∀ w1 : World, Grow wr w1 → w1.cell? ⟨w.heap.size, 0, none⟩ = some (.func (.func 78) #[] #[.pointer (some ⟨pc, 0, none⟩)]) := fun w1 h => h.keeps hc
      have HC1 := Lib.hid hc1
      clear hc1
      have hb1 : (([] : List Value).length + [Value.string x].length) * 16 ≤ 140737488355328 := by simp
      have hb2 : ((acc.1.map Value.string).length + [Value.string x].length) * 16 ≤ 140737488355328 := by simp; omega
      by_cases h1 : fx < n
      · have hd1 : decide (fx < n) = true := by simpa using h1
        have hd2 : (fx == fx) = true := by simp
        have hd3 : decide (fx < 1000) = true := by simp; omega
        go_wp2_with first | (go_at_call 78; refine Hcall.out.mono ?_; rintro e w1 ⟨rfl, hg'⟩) | (at_builtin; refine wpl_app rfl _ _ 69 rfl (w.heap.size + 1) 79 i0 _ 16 hu hi0 hi1 hi2 hi3 rfl (.slice none 0 0) [] rfl (Own.nil _ _ _) _ _ [.string x] 1 rfl rfl (fun h => nomatch h) (row_new1 _ _ _ (by simp)) (by simp [Value.oneCell']) hb1 (by omega) (by have := lt_of_cell hc; have := hg'.size; simp; omega) ?_; intro v' w2 hown2 hgr2 hmv2)
        have hG2 : Grow wr w2 := (hg'.alloc _).trans (Grow.of hgr2)
        refine ⟨⟨k + 1, v', _, rfl, by omega, by go_num, rfl, ?_, ?_, hg.trans hG2, HC1.out _ hG2⟩, by simp [intOf]; omega⟩
        · rw [Hs.out, ← Hacc.out, fewStep_lt (by rw [← Hfx.out, ← Hn.out]; exact h1) (by rw [← Hfx.out]; omega)]; exact Hfx.out
        · rw [Hs.out, ← Hacc.out, fewStep_lt (by rw [← Hfx.out, ← Hn.out]; exact h1) (by rw [← Hfx.out]; omega)]; exact hown2
      · have hd1 : decide (fx < n) = false := by simpa using h1
        by_cases h2 : fx = n ∧ fx < 1000
        · have hd2 : (fx == n) = true := by simpa using h2.1
          have hd3 : decide (n < 1000) = true := by simp; omega
          go_wp2_with first | (go_at_call 78; refine Hcall.out.mono ?_; rintro e w1 ⟨rfl, hg'⟩) | (at_builtin; refine wpl_app rfl _ _ 69 rfl (w.heap.size + 1) 79 i0 _ 16 hu hi0 hi1 hi2 hi3 rfl u (acc.1.map Value.string) rfl ((hown.grow hg').alloc _) _ _ [.string x] 1 rfl rfl (fun h => nomatch h) (row_new1 _ _ _ (by simp)) (by simp [Value.oneCell']) hb2 (by omega) (by have := lt_of_cell hc; have := hg'.size; simp; omega) ?_; intro v' w2 hown2 hgr2 hmv2)
          have hub := hown.base
          have hG2 : Grow w w2 := Below.trans ((hg.trans hg').alloc _) (grownBy_below hgr2 (fun k hk => by have := hub k hk; omega) ((hg.trans hg').alloc _).size)
          refine ⟨⟨k + 1, v', _, rfl, by omega, by go_num, rfl, ?_, ?_, hG2, byCell1 hgr2 (((Grow.refl w1).alloc _).keeps (HC1.out _ hg')) (fun e => by have := hub _ e; omega)⟩, by simp [intOf]; omega⟩
          · rw [Hs.out, ← Hacc.out, fewStep_eq (by rw [← Hfx.out, ← Hn.out]; exact h2.1) (by rw [← Hfx.out]; exact h2.2)]; exact Hn.out
          · rw [Hs.out, ← Hacc.out, fewStep_eq (by rw [← Hfx.out, ← Hn.out]; exact h2.1) (by rw [← Hfx.out]; exact h2.2), List.map_append]; exact hown2
        · have hgt : n < fx ∨ (fx = n ∧ 1000 ≤ fx) := by omega
          by_cases h3 : fx = n
          · have hd2 : (fx == n) = true := by simpa using h3
            have hd3 : decide (n < 1000) = false := by simp; omega
            clear h2
            go_wp2_with (go_at_call 78; refine Hcall.out.mono ?_; rintro e w1 ⟨rfl, hg'⟩)
            refine ⟨⟨k + 1, _, _, rfl, by omega, by go_num, rfl, ?_, ?_, hg.trans hg', HC1.out _ hg'⟩, by simp [intOf]; omega⟩
            · rw [Hs.out, ← Hacc.out, fewStep_gt (by rw [← Hfx.out, ← Hn.out]; exact hgt)]; exact Hn.out
            · rw [Hs.out, ← Hacc.out, fewStep_gt (by rw [← Hfx.out, ← Hn.out]; exact hgt)]; exact hown.grow hg'
          · have hd2 : (fx == n) = false := by simpa using h3
            clear h2
            go_wp2_with (go_at_call 78; refine Hcall.out.mono ?_; rintro e w1 ⟨rfl, hg'⟩)
            refine ⟨⟨k + 1, _, _, rfl, by omega, by go_num, rfl, ?_, ?_, hg.trans hg', HC1.out _ hg'⟩, by simp [intOf]; omega⟩
            · rw [Hs.out, ← Hacc.out, fewStep_gt (by rw [← Hfx.out, ← Hn.out]; exact hgt)]; exact Hn.out
            · rw [Hs.out, ← Hacc.out, fewStep_gt (by rw [← Hfx.out, ← Hn.out]; exact hgt)]; exact hown.grow hg'
    · have h3 := Lib.hid (fewTo_all (f := f) hlt)
      have Hn := Lib.hid hn
      clear hn
      go_wp2_with fail
      go_ret2
      exact ⟨u, by rw [← h3.out, ← Hn.out]; rfl, by rw [← h3.out]; exact hown.lower (by omega), hg⟩
end Go.Proofs.Yteijilbdllpbcaa
