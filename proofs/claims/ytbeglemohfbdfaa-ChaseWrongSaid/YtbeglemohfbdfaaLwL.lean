/- The law ChaseWrong, its closure: can all watches of a pair, but those of a set, be right? Conditions: sizes. -/
import Derived.Test.YtbeglemohfbdfaaLibS
import Derived.Test.YtbeglemohfbdfaaCpF
namespace Go.Proofs.Ytbeglemohfbdfaa
open Go.RowKit Go.Instr

theorem bits_and1i (n k : Nat) (hn : n < 8) (hk : k < 3) : bits .and .i64 ((n : Int) / 2 ^ k) 1 = if n.testBit k = true then 1 else 0 := by
  have key : ∀ n : Fin 8, ∀ k : Fin 3, bits .and .i64 ((n.1 : Int) / 2 ^ k.1) 1 = if n.1.testBit k.1 = true then 1 else 0 := by decide +kernel
  exact key ⟨n, hn⟩ ⟨k, hk⟩
theorem bits_nand (n k : Nat) (hn : n < 8) (hk : k < 3) (hb : n.testBit k = true) : bits .andNot .i64 (n : Int) (2 ^ k) = ((n - 2 ^ k : Nat) : Int) := by
  have key : ∀ n : Fin 8, ∀ k : Fin 3, n.1.testBit k.1 = true → bits .andNot .i64 (n.1 : Int) (2 ^ k.1) = ((n.1 - 2 ^ k.1 : Nat) : Int) := by decide +kernel
  exact key ⟨n, hn⟩ ⟨k, hk⟩ hb
/-- A chase of one pair. -/
theorem one_err {E : Int} {k : List Int} (hE : 0 ≤ E ∧ E ≤ 3) (h1 : 1 ≤ k.length ∧ k.length ≤ 3) (hb : ∀ x ∈ k, 0 ≤ x ∧ x ≤ 200) : errOf E 1 [k] (inB 0 0 (([k] : List (List Int)).length - 1)) = if loOf E k ≤ hiOf E k then 0 else 10 := by
  have hv : validB E 1 [k] = true := by
    unfold validB
    have a1 : inB E 0 3 = true := inB_true.2 hE
    have a2 : listB k = true := by
      unfold listB
      rw [inB_true.2 (show (1 : Int) ≤ (k.length : Int) ∧ (k.length : Int) ≤ 3 by omega), Bool.true_and, List.all_eq_true]
      exact fun x hx => inB_true.2 (hb x hx)
    rw [a1]
    simp [a2]
    decide
  have ho : inB 0 0 ((([k] : List (List Int)).length : Int) - 1) = true := inB_true.2 (by simp)
  by_cases h : loOf E k ≤ hiOf E k
  · rw [if_pos h]
    exact errOf_ok hv (by simp [feasB, clocksOf, h]) ho
  · rw [if_neg h]
    exact errOf_no hv (by simp [feasB, clocksOf]; omega) ho
set_option maxRecDepth 100000 in
set_option maxHeartbeats 1000000 in
theorem lright_any (T3 T9 : Nat) (E : Int) (a : Option Addr) (cap : Nat) (ss : List (List Int)) (p : Nat) (l : List Int) (s : Nat) (w : World) (c0 : w.cell? ⟨T3, 0, none⟩ = some (.int .i64 E)) (c2 : w.cell? ⟨T3, 2, none⟩ = some (.slice a ss.length cap)) (c9 : w.cell? ⟨T9, 0, none⟩ = some (.int .i64 p))
    (hrow : SheetsAt w a ss) (hl : ss[p]? = some l) (hl1 : 1 ≤ l.length) (hl3 : l.length ≤ 3) (hb : ∀ x ∈ l, 0 ≤ x ∧ x ≤ 200) (hE : 0 ≤ E ∧ E ≤ 3) (hs : s < 8) :
    Calls Try.prog 31 #[.int .i64 s, .pointer (some ⟨T3, 0, none⟩), .pointer (some ⟨T9, 0, none⟩)] w fun e w' => e = .returned (.bool (rightB E l s)) ∧ Grow w w' := by
  have hp : p < ss.length := (List.getElem?_eq_some_iff.1 hl).1
  obtain ⟨b, o, l', ta, tc, hl', rfl, hc, hsc, hs8, hr⟩ := hrow.get hp
  rw [hl] at hl'
  injection hl' with hl'
  subst hl'
  have Hr := Lib.hid hr
  have Hb := Lib.hid hb
  have Hl := Lib.hid hl
  clear hrow hr hb hl
  have hlT := lt_of_cell c0
  have hl9 := lt_of_cell c9
  have hlb := lt_of_cell hc
  obtain ⟨i0, hi0, hi1, hi2, hi3⟩ := info_parts pinfo_int7
  have hui : Try.prog.underlying 40 = some (.slice 3) := by kernel_rfl
  go_enter Try.func31, Try.ntmps31
  go_wp2_with fail
  have e0 : (w.alloc (.cells #[.int .i64 E, .int .i64 1, .slice none 0 0] 32)).cell? ⟨w.heap.size, 0, none⟩ = some (.int .i64 E) := cell_new rfl rfl
  have e1 : (w.alloc (.cells #[.int .i64 E, .int .i64 1, .slice none 0 0] 32)).cell? ⟨w.heap.size, 1, none⟩ = some (.int .i64 1) := cell_new rfl rfl
  have e2 : (w.alloc (.cells #[.int .i64 E, .int .i64 1, .slice none 0 0] 32)).cell? ⟨w.heap.size, 2, none⟩ = some (.slice none 0 0) := cell_new rfl rfl
  have ef : ∀ q, (w.alloc (.cells #[.int .i64 E, .int .i64 1, .slice none 0 0] 32)).frozen? ⟨w.heap.size, q, none⟩ = false := fun q => hot_new rfl
  have gW : Grow w (w.alloc (.cells #[.int .i64 E, .int .i64 1, .slice none 0 0] 32)) := (Grow.refl w).alloc _
  have hlW := lt_of_cell e0
  obtain ⟨W, hW⟩ : ∃ z, w.alloc (.cells #[.int .i64 E, .int .i64 1, .slice none 0 0] 32) = z := ⟨_, rfl⟩
  obtain ⟨B, hB⟩ : ∃ z, w.heap.size = z := ⟨_, rfl⟩
  rw [hW] at e0 e1 e2 ef gW hlW
  rw [hB] at e0 e1 e2 ef hlW
  rw [hW, hB]
  have HB := Lib.hid hB
  clear hW hB
  go_loopw [6, 20] (fun lv i wr => ∃ k : Nat, k ≤ l.length ∧ i = .int .i64 k ∧ Own wr W.heap.size 3 lv ((keepW (l.take k) s).map (Value.int .i64)) ∧ Grow W wr) (fun _ i _ => l.length - (intOf i).toNat)
  case atStart => exact ⟨0, Nat.zero_le _, rfl, by simpa [keepW] using Own.nil W W.heap.size 3, Grow.refl _⟩
  case round =>
    obtain ⟨k, hk, rfl, hown, hg⟩ := hrel
    have HO := Lib.hid hown
    clear hown
    by_cases hlt : k < l.length
    · obtain ⟨b2, o2, x, hx, rfl, hcx⟩ := Hr.out.int hlt
      have hcx' := (gW.trans hg).keeps hcx
      have hlx := lt_of_cell hcx'
      have hba := bits_and1i s k hs (by omega)
      have hsn : keepW (l.take (k + 1)) s = keepW (l.take k) s ++ if s.testBit k = false then [x] else [] := by
        rw [take_get hx, keepW_snoc, List.length_take, Nat.min_eq_left (by omega)]
      have Hsn := Lib.hid hsn
      have hgs := hg.size
      clear hsn hx hcx
      by_cases hbit : s.testBit k = true
      · rw [if_pos hbit] at hba
        go_wp2_with fail
        exact ⟨⟨k + 1, by omega, by go_num, by rw [Hsn.out, hbit, if_neg (by decide), List.append_nil]; exact HO.out, hg⟩, by simp [intOf]; omega⟩
      · rw [if_neg hbit] at hba
        have hbf : s.testBit k = false := by simpa using hbit
        have hkl : (keepW (l.take k) s).length ≤ 3 := Nat.le_trans (keepW_len _ _) (by simp; omega)
        go_wp2_with (at_builtin; go_loud (refine wpl_app rfl (.tmp 30) (.tmp 32) 40 rfl W.heap.size 3 i0 _ 8 hui hi0 hi1 hi2 hi3 rfl u6 ((keepW (l.take k) s).map (Value.int .i64)) (by rfl) (HO.out.alloc _) (some ⟨wr.heap.size, 0, none⟩) 1 [.int .i64 x] 1 (by rfl) rfl (fun h => nomatch h) (row_new1 _ _ _ rfl) (by simp [Value.oneCell']) (by simp; omega) (by omega) (by simp; omega) ?_; intro lv w4 ho4 hg4 hm4; have hbs : ∀ r, u6.ownBlock = some r → W.heap.size ≤ r := (fun r hr => HO.out.base r hr); have HO4 := Lib.hid ho4; have hG4 : Grow W w4 := Below.trans (hg.alloc _) (grownBy_below hg4 hbs (by simp; omega)); clear ho4 hg4 hm4))
        exact ⟨⟨k + 1, by omega, by go_num, by rw [Hsn.out, hbf, if_pos rfl, List.map_append]; exact HO4.out, hG4⟩, by simp [intOf]; omega⟩
    · obtain rfl : k = l.length := by omega
      rw [List.take_length] at HO
      have hkl := keepW_len l s
      by_cases hem : keepW l s = []
      · have hre := right_empty (E := E) hem
        have hown := HO.out
        rw [hem] at hown
        rcases hown.parts with ⟨rfl, _⟩ | ⟨g, cp, rfl, _⟩
        · have Hre := Lib.hid hre
          clear hre hown hem
          go_wp2_with fail
          go_ret
          exact ⟨by rw [Hre.out]; rfl, gW.trans hg⟩
        · have Hre := Lib.hid hre
          clear hre hown hem
          go_wp2_with fail
          go_ret
          exact ⟨by rw [Hre.out]; rfl, gW.trans hg⟩
      · obtain ⟨kw, hkw⟩ : ∃ z, keepW l s = z := ⟨_, rfl⟩
        have hks : ∀ x ∈ kw, 0 ≤ x ∧ x ≤ 200 := by rw [← hkw]; exact fun x hx => Hb.out x (keepW_sub l s x hx)
        have hrb : rightB E l s = decide (loOf E kw ≤ hiOf E kw) := by unfold rightB; rw [hkw]
        rw [hkw] at HO hem hkl
        have hk1 : 1 ≤ kw.length := by
          cases kw with
          | nil => exact absurd rfl hem
          | cons _ _ => simp
        have her := one_err hE ⟨hk1, by omega⟩ hks
        obtain ⟨cd, hcd⟩ : ∃ z, errOf E 1 [kw] (inB 0 0 (([kw] : List (List Int)).length - 1)) = z := ⟨_, rfl⟩
        have hcr : (cd == 0) = rightB E l s := by
          rw [hrb, ← hcd, her]
          by_cases h : loOf E kw ≤ hiOf E kw
          · rw [if_pos h]; simp [h]
          · rw [if_neg h]; simp [h]
        obtain ⟨g, cp, rfl, hcp⟩ := HO.out.some (n := kw.length) (by simp) (by omega)
        have hW0 := hg.size
        have d0 := hg.keeps e0
        have d1 := hg.keeps e1
        have d2 := hg.keeps e2
        have df : ∀ q, wr.frozen? ⟨B, q, none⟩ = false := fun q => (hg.marks _ _ hlW).trans (ef q)
        have hlB := lt_of_cell d0
        have hIk : IsInts wr (.slice (some ⟨g, 0, none⟩) kw.length cp) kw := HO.out.ints (by omega)
        have hDg : W.heap.size ≤ g := HO.out.base g rfl
        have hIk0 : IsInts (wr.setCell ⟨B, 2, none⟩ (.slice (some ⟨wr.heap.size, 0, none⟩) 1 1)) (.slice (some ⟨g, 0, none⟩) kw.length cp) kw := hIk.kept (bySet _ _ _ _) (.inr (fun e => by
          have e' : some g = some B := e
          injection e' with e''
          omega))
        have hIs2 := new_sheets (w := wr.setCell ⟨B, 2, none⟩ (.slice (some ⟨wr.heap.size, 0, none⟩) 1 1)) (vs := [.slice (some ⟨g, 0, none⟩) kw.length cp]) (ss := [kw]) (e := 40) (g := wr.heap.size) (n := 1) (by simp) rfl rfl (fun i v s hv hs => by
          rcases i with _ | i
          · cases hv; cases hs; exact hIk0
          · simp at hv) (by simp)
        have hGX : Grow w ((wr.setCell ⟨B, 2, none⟩ (.slice (some ⟨wr.heap.size, 0, none⟩) 1 1)).alloc (.cells #[.slice (some ⟨g, 0, none⟩) kw.length cp] 40)) := Grow.alloc (show Grow w _ from Below.setCell (p := ⟨B, 2, none⟩) (show Grow w wr from gW.trans hg) (show w.heap.size ≤ B from Nat.le_of_eq HB.out) _) _
        have HIs2 := Lib.hid hIs2
        have Hcd := Lib.hid hcd
        have Hcr := Lib.hid hcr
        clear hIs2 hIk hIk0 hcd hcr her hrb hks hem HO hkw
        go_wp2_with (go_at_call 11; refine (pTime_any E 1 0 _ [kw] _ HIs2.out).mono ?_; rw [Hcd.out]; rintro e w5 ⟨rfl, g5⟩)
        go_ret
        exact ⟨by rw [← Hcr.out]; rfl, hGX.trans (g5.alloc _)⟩
end Go.Proofs.Ytbeglemohfbdfaa
