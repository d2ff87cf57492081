/- The program of layer 7: how many are in a set; the watches that must be wrong. Conditions: sizes. -/
import Derived.Test.YtbeglemohfbdfaaQpR
import Derived.Sort.AtCall
namespace Go.Proofs.Ytbeglemohfbdfaa
open Go.RowKit Go.Instr

theorem pones64_any (n : Nat) (h : n < 8) (w : World) : Calls Try.prog 83 #[.int .u64 n] w fun e w' => e = .returned (.int .i64 (sizeN n)) ∧ w' = w := by
  have h8 : n = 0 ∨ n = 1 ∨ n = 2 ∨ n = 3 ∨ n = 4 ∨ n = 5 ∨ n = 6 ∨ n = 7 := by omega
  rcases h8 with rfl | rfl | rfl | rfl | rfl | rfl | rfl | rfl
  all_goals
    go_enter Try.func83, Try.ntmps83
    go_wp2_with fail
    go_ret
    refine ⟨?_, rfl⟩
    first | rfl | kernel_rfl
theorem pones_any (n : Nat) (h : n < 8) (w : World) : Calls Try.prog 68 #[.int .u64 n] w fun e w' => e = .returned (.int .i64 (sizeN n)) ∧ w' = w := by
  go_enter Try.func68, Try.ntmps68
  go_wp2_with (go_at_call 83; refine (pones64_any n h _).mono ?_; rintro e w1 ⟨rfl, rfl⟩)
  go_ret
  exact ⟨rfl, rfl⟩
theorem keepW_snoc (n : Int) : ∀ (l : List Int) (s : Nat), keepW (l ++ [n]) s = keepW l s ++ if s.testBit l.length = false then [n] else []
  | [], s => by
    simp only [List.nil_append, List.length_nil, keepW, Nat.testBit_zero]
    by_cases h : s % 2 = 0
    · simp [h]
    · simp [h]
  | m :: l, s => by
    have ih := keepW_snoc n l (s / 2)
    simp only [List.cons_append, keepW, List.length_cons, Nat.testBit_succ]
    rw [ih]
    split <;> simp
/-- Narrowed by all but some. -/
theorem pwrong2_any (t0 W6 W2 : Nat) (a : Option Addr) (cap : Nat) (l : List Int) (E : Int) (w : World) (h : t0 < 8) (hl : l.length ≤ 3) (hb : ∀ x ∈ l, 0 ≤ x ∧ x ≤ 200) (hE : 0 ≤ E ∧ E ≤ 3)
    (h1 : w.cell? ⟨W6, 0, none⟩ = some (.slice a l.length cap)) (h2 : w.cell? ⟨W2, 0, none⟩ = some (.int .i64 E)) (h3 : RowAt w a (l.map (Value.int .i64))) :
    Calls Try.prog 47 #[.int .u64 t0, .pointer (some ⟨W6, 0, none⟩), .pointer (some ⟨W2, 0, none⟩)] w fun e w' => e = .returned (.bool (rightB E l t0)) ∧ Grow w w' := by
  have H3 := Lib.hid h3
  have Hb := Lib.hid hb
  clear h3 hb
  have hl1 := lt_of_cell h1
  have hl2 := lt_of_cell h2
  go_enter Try.func47, Try.ntmps47
  go_wp2_with fail
  go_loopw [12] (fun i wr => ∃ k : Nat, k ≤ l.length ∧ i = .int .i64 k ∧ Grow w wr ∧ wr.cell? ⟨w.heap.size, 0, none⟩ = some (.int .i64 (loOf E (keepW (l.take k) t0))) ∧ wr.cell? ⟨w.heap.size, 1, none⟩ = some (.int .i64 (hiOf E (keepW (l.take k) t0))) ∧ wr.cell? ⟨w.heap.size, 2, none⟩ = some (.int .i64 0) ∧ ∀ o, wr.frozen? ⟨w.heap.size, o, none⟩ = false) (fun i _ => l.length - (intOf i).toNat)
  case atStart => exact ⟨0, Nat.zero_le _, rfl, (Grow.refl _).alloc _, cell_new rfl rfl, cell_new rfl rfl, cell_new rfl rfl, fun o => by simp⟩
  case round =>
    obtain ⟨k, hk, rfl, hg, b0, b1, b2, bf⟩ := hrel
    obtain ⟨x, hx⟩ : ∃ x, loOf E (keepW (l.take k) t0) = x := ⟨_, rfl⟩
    obtain ⟨y, hy⟩ : ∃ y, hiOf E (keepW (l.take k) t0) = y := ⟨_, rfl⟩
    rw [hx] at b0
    rw [hy] at b1
    have Hx := Lib.hid hx
    have Hy := Lib.hid hy
    have hlB := lt_of_cell b0
    clear hx hy
    by_cases hlt : k < l.length
    · obtain ⟨b, o, rfl, hc⟩ := H3.out k (.int .i64 l[k]) (by simp [hlt])
      have hc' := hg.keeps hc
      have g2 := hg.keeps h2
      have hb1 := Hb.out _ (List.getElem_mem hlt)
      obtain ⟨n, hn⟩ : ∃ n, l[k] = n := ⟨_, rfl⟩
      rw [hn] at hc' hb1
      have Hn := Lib.hid hn
      have hba := bits_and1 t0 k (by omega)
      clear hn hc
      have hsn : keepW (l.take (k + 1)) t0 = keepW (l.take k) t0 ++ if t0.testBit k = false then [l[k]] else [] := by
        rw [take_get (List.getElem?_eq_getElem hlt), keepW_snoc, List.length_take, Nat.min_eq_left (by omega)]
      have Hsn := Lib.hid hsn
      clear hsn
      by_cases hbit : t0.testBit k = true
      · rw [if_pos hbit] at hba
        go_wp2_with fail
        refine ⟨⟨k + 1, by omega, by go_num, hg, ?_, ?_, b2, bf⟩, by simp [intOf]; omega⟩
        · rw [Hsn.out, hbit, if_neg (by decide), List.append_nil, Hx.out]; exact b0
        · rw [Hsn.out, hbit, if_neg (by decide), List.append_nil, Hy.out]; exact b1
      · rw [if_neg hbit] at hba
        have hbf : t0.testBit k = false := by simpa using hbit
        go_wp2_with (go_at_call 48; refine (pnarrowed_any x y 0 n E _ (by omega) (by omega)).mono ?_; rintro e w1 ⟨rfl, hg1⟩; have c0 := hg1.keeps b0; have c1 := hg1.keeps b1; have c2 := hg1.keeps b2; have cf : ∀ o, w1.frozen? ⟨w.heap.size, o, none⟩ = false := (fun o => (hg1.marks _ _ hlB).trans (bf o)); have hlB1 := lt_of_cell c0; simp only [clockV])
        have hgw : Grow w w1 := hg.trans hg1
        refine ⟨⟨k + 1, by omega, by go_num, ((Below.setCell (p := ⟨w.heap.size, 0, none⟩) hgw (Nat.le_refl _) _).setCell (p := ⟨w.heap.size, 1, none⟩) (Nat.le_refl _) _).setCell (p := ⟨w.heap.size, 2, none⟩) (Nat.le_refl _) _, ?_, ?_, ?_, fun o => by simpa using cf o⟩, by simp [intOf]; omega⟩
        · rw [Hsn.out, hbf, if_pos rfl, loOf_snoc, Hx.out, Hn.out]
          exact (cells3 c0 c1 c2).1
        · rw [Hsn.out, hbf, if_pos rfl, hiOf_snoc, Hy.out, Hn.out]
          exact (cells3 c0 c1 c2).2.1
        · exact (cells3 c0 c1 c2).2.2.1
    · obtain rfl : k = l.length := by omega
      rw [List.take_length] at Hx Hy
      go_wp2_with fail
      go_ret
      refine ⟨?_, hg⟩
      show Ending.returned (.bool (decide (x ≤ y))) = _
      rw [← Hx.out, ← Hy.out]
      rfl
set_option maxRecDepth 100000 in
theorem pfewest_any (W6 W2 : Nat) (a : Option Addr) (cap : Nat) (l : List Int) (E : Int) (w : World) (hl : l.length ≤ 3) (hb : ∀ x ∈ l, 0 ≤ x ∧ x ≤ 200) (hE : 0 ≤ E ∧ E ≤ 3)
    (h1 : w.cell? ⟨W6, 0, none⟩ = some (.slice a l.length cap)) (h2 : w.cell? ⟨W2, 0, none⟩ = some (.int .i64 E)) (h3 : RowAt w a (l.map (Value.int .i64))) :
    Calls Try.prog 46 #[.int .i64 l.length, .agg #[.func (.func 47) #[] #[.pointer (some ⟨W6, 0, none⟩), .pointer (some ⟨W2, 0, none⟩)]]] w fun e w' => e = .returned (.int .u64 (wrongV E l)) ∧ Grow w w' := by
  have H3 := Lib.hid h3
  have Hb := Lib.hid hb
  have hp : 1 ≤ 2 ^ l.length ∧ 2 ^ l.length ≤ 8 := ⟨Nat.one_le_two_pow, Nat.le_trans (Nat.pow_le_pow_right (by decide) hl) (by decide)⟩
  obtain ⟨M, hM⟩ : ∃ M, 2 ^ l.length = M := ⟨_, rfl⟩
  have hsh : IntKind.u64.wrap (2 ^ l.length) = (M : Int) := by rw [show (2 : Int) ^ l.length = ((2 ^ l.length : Nat) : Int) by simp, hM]; exact u64_nat (by omega)
  have hM2 : (2 : Int) ^ l.length = (M : Int) := by rw [← hM]; simp
  have hM1 : IntKind.u64.wrap ((M : Int) - 1) = ((M - 1 : Nat) : Int) := by rw [show (M : Int) - 1 = ((M - 1 : Nat) : Int) by omega]; exact u64_nat (by omega)
  have hl1 := lt_of_cell h1
  have hl2 := lt_of_cell h2
  have hMw : IntKind.u64.wrap (M : Int) = (M : Int) := u64_nat (by omega)
  have hM8 : 1 ≤ M ∧ M ≤ 8 := by omega
  have HM := Lib.hid hM
  clear h3 hb hM
  go_enter Try.func46, Try.ntmps46
  go_wp2_with fail
  go_loopw [5, 14] (fun b i wr => ∃ k : Nat, k ≤ M ∧ i = .int .u64 k ∧ b = .int .u64 (wrongTo E l k) ∧ wr.cell? ⟨w.heap.size, 0, none⟩ = some (.func (.func 47) #[] #[.pointer (some ⟨W6, 0, none⟩), .pointer (some ⟨W2, 0, none⟩)]) ∧ Grow w wr) (fun _ i _ => M - (intOf i).toNat)
  case atStart => exact ⟨0, Nat.zero_le _, rfl, by show Value.int .u64 ((M - 1 : Nat) : Int) = _; rw [show M - 1 = 2 ^ l.length - 1 by rw [HM.out]]; rfl, cell_new rfl rfl, (Grow.refl _).alloc _⟩
  case round =>
    obtain ⟨k, hk, rfl, rfl, bx, hg⟩ := hrel
    have hlB := lt_of_cell bx
    obtain ⟨_, hwl, _, _⟩ := wrong_to (E := E) hl k (by rw [HM.out]; exact hk)
    obtain ⟨q, hq⟩ : ∃ q, wrongTo E l k = q := ⟨_, rfl⟩
    have hst := wrongTo_succ E l k
    rw [hq] at hwl hst ⊢
    rw [HM.out] at hwl
    unfold wrongStep at hst
    have Hst := Lib.hid hst
    have Hq := Lib.hid hq
    clear hst hq
    by_cases hlt : k < M
    · by_cases hs : sizeN k < sizeN q
      · have hsd : decide ((sizeN k : Int) < (sizeN q : Int)) = true := by simpa using hs
        cases hr : rightB E l k
        · have Hr := Lib.hid hr
          clear hr
          go_wp2_with first | (go_at_call_has 68 (Value.int .u64 (k : Int)); refine (pones_any k (by omega) _).mono ?_; rintro e w1 ⟨rfl, rfl⟩) | (go_at_call 68; refine (pones_any q (by omega) _).mono ?_; rintro e w1 ⟨rfl, rfl⟩) | (refine (pwrong2_any k W6 W2 a cap l E _ (by omega) hl Hb.out hE (hg.keeps h1) (hg.keeps h2) (H3.out.grow hg)).mono ?_; rintro e w1 ⟨rfl, hg1⟩; rw [Hr.out])
          exact ⟨⟨k + 1, by omega, by go_num, by rw [Hst.out, if_neg (by rw [Hr.out]; simp)], hg1.keeps bx, hg.trans hg1⟩, by simp [intOf]; omega⟩
        · have Hr := Lib.hid hr
          clear hr
          go_wp2_with first | (go_at_call_has 68 (Value.int .u64 (k : Int)); refine (pones_any k (by omega) _).mono ?_; rintro e w1 ⟨rfl, rfl⟩) | (go_at_call 68; refine (pones_any q (by omega) _).mono ?_; rintro e w1 ⟨rfl, rfl⟩) | (refine (pwrong2_any k W6 W2 a cap l E _ (by omega) hl Hb.out hE (hg.keeps h1) (hg.keeps h2) (H3.out.grow hg)).mono ?_; rintro e w1 ⟨rfl, hg1⟩; rw [Hr.out])
          exact ⟨⟨k + 1, by omega, by go_num, by rw [Hst.out, if_pos ⟨hs, Hr.out⟩], hg1.keeps bx, hg.trans hg1⟩, by simp [intOf]; omega⟩
      · have hsd : decide ((sizeN k : Int) < (sizeN q : Int)) = false := by simpa using hs
        go_wp2_with first | (go_at_call_has 68 (Value.int .u64 (k : Int)); refine (pones_any k (by omega) _).mono ?_; rintro e w1 ⟨rfl, rfl⟩) | (go_at_call 68; refine (pones_any q (by omega) _).mono ?_; rintro e w1 ⟨rfl, rfl⟩)
        exact ⟨⟨k + 1, by omega, by go_num, by rw [Hst.out, if_neg fun h => hs h.1], bx, hg⟩, by simp [intOf]; omega⟩
    · obtain rfl : k = M := by omega
      go_wp2_with fail
      go_ret
      exact ⟨by unfold wrongV; rw [HM.out, Hq.out]; rfl, hg⟩
end Go.Proofs.Ytbeglemohfbdfaa
