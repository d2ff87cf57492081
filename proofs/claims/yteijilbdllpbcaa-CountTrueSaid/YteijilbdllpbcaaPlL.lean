/- Plain: sets of laps and spans of leads, over all truths. Conditions: none. -/
import Derived.Test.YteijilbdllpbcaaPlG
import Derived.Test.YteijilbdllpbcaaPlI
namespace Go.Proofs.Yteijilbdllpbcaa

theorem setOfN_fold : ∀ (l : List Nat) (a n : Nat), (l.foldl (fun acc n => acc ||| 2 ^ n) a).testBit n = (a.testBit n || l.contains n)
  | [], a, n => by simp
  | x :: l, a, n => by
    rw [List.foldl_cons, setOfN_fold l, Nat.testBit_or, Nat.testBit_two_pow, List.contains_cons, Bool.or_assoc]
    congr 2
    rw [Bool.eq_iff_iff, decide_eq_true_eq, beq_iff_eq]
    exact eq_comm
/-- All numbers of laps of a pair, as a set. -/
def lapN (T : List (List Int)) (p : Int) : Nat := setOfN (T.map fun t => t.count p)
theorem lapN_bit {T : List (List Int)} {p : Int} {n : Nat} : (lapN T p).testBit n = true ↔ ∃ t ∈ T, t.count p = n := by
  unfold lapN setOfN
  rw [setOfN_fold, Nat.zero_testBit, Bool.false_or, List.contains_iff_mem, List.mem_map]
theorem lapN_lt {T : List (List Int)} {p : Int} (h : ∀ t ∈ T, t.length ≤ 12) : lapN T p < 8192 :=
  setOfN_lt _ fun n hn => by
    obtain ⟨t, ht, rfl⟩ := List.mem_map.1 hn
    exact Nat.le_trans List.count_le_length (h t ht)
theorem lapN_pos {T : List (List Int)} {p : Int} (h : T ≠ []) : 0 < lapN T p := by
  cases T with
  | nil => exact absurd rfl h
  | cons t T =>
    have := (lapN_bit (T := t :: T) (p := p) (n := t.count p)).2 ⟨t, by simp, rfl⟩
    apply Nat.pos_of_ne_zero
    intro h0
    rw [h0, Nat.zero_testBit] at this
    cases this
theorem spanFold (f : List Int → Int) : ∀ (l : List (List Int)) (a : Int × Int), (l.foldl (spanStep f) a).1 ≤ a.1 ∧ a.2 ≤ (l.foldl (spanStep f) a).2 ∧ (∀ r ∈ l, (l.foldl (spanStep f) a).1 ≤ f r ∧ f r ≤ (l.foldl (spanStep f) a).2) ∧
    ((l.foldl (spanStep f) a).1 = a.1 ∨ ∃ r ∈ l, f r = (l.foldl (spanStep f) a).1) ∧ ((l.foldl (spanStep f) a).2 = a.2 ∨ ∃ r ∈ l, f r = (l.foldl (spanStep f) a).2)
  | [], a => ⟨by simp, by simp, by simp, .inl rfl, .inl rfl⟩
  | x :: l, a => by
    have h := spanFold f l (spanStep f a x)
    rw [List.foldl_cons]
    have e1 : (spanStep f a x).1 = min a.1 (f x) := rfl
    have e2 : (spanStep f a x).2 = max a.2 (f x) := rfl
    generalize l.foldl (spanStep f) (spanStep f a x) = z at h ⊢
    generalize spanStep f a x = y at h e1 e2
    obtain ⟨z1, z2⟩ := z
    obtain ⟨y1, y2⟩ := y
    obtain ⟨a1, a2⟩ := a
    obtain ⟨h1, h2, h3, h4, h5⟩ := h
    simp only at *
    generalize hfx : f x = fx at *
    refine ⟨by clear h4 h5 h3; omega, by clear h4 h5 h3; omega, fun r hr => ?_, ?_, ?_⟩
    · rcases List.mem_cons.1 hr with rfl | hr
      · rw [hfx]; clear h4 h5 h3; omega
      · exact h3 r hr
    · clear h3 h5
      rcases h4 with h4 | ⟨r, hr, h4⟩
      · by_cases hx : a1 ≤ fx
        · exact .inl (by omega)
        · exact .inr ⟨x, by simp, by omega⟩
      · exact .inr ⟨r, by simp [hr], h4⟩
    · clear h3 h4
      rcases h5 with h5 | ⟨r, hr, h5⟩
      · by_cases hx : fx ≤ a2
        · exact .inl (by omega)
        · exact .inr ⟨x, by simp, by omega⟩
      · exact .inr ⟨r, by simp [hr], h5⟩
/-- A span holds what all things have, and both of its ends are had. -/
theorem spanOf_spec (f : List Int → Int) {T : List (List Int)} (hT : T ≠ []) : (∀ r ∈ T, (spanOf f T).1 ≤ f r ∧ f r ≤ (spanOf f T).2) ∧ (∃ r ∈ T, f r = (spanOf f T).1) ∧ ∃ r ∈ T, f r = (spanOf f T).2 := by
  have hm : T.headD [] ∈ T := by
    cases T with
    | nil => exact absurd rfl hT
    | cons t T => simp
  obtain ⟨_, _, h3, h4, h5⟩ := spanFold f T (f (T.headD []), f (T.headD []))
  refine ⟨h3, ?_, ?_⟩
  · rcases h4 with h4 | h4
    · exact ⟨_, hm, h4.symm⟩
    · exact h4
  · rcases h5 with h5 | h5
    · exact ⟨_, hm, h5.symm⟩
    · exact h5
theorem leadOf_neg (p q : Int) (t : List Int) : leadOf q p t = -leadOf p q t := by unfold leadOf; omega
theorem lead_neg {T : List (List Int)} (hT : T ≠ []) (p q : Int) : spanOf (leadOf q p) T = (-(spanOf (leadOf p q) T).2, -(spanOf (leadOf p q) T).1) := by
  obtain ⟨h1, ⟨r, hr, h2⟩, s, hs, h3⟩ := spanOf_spec (leadOf p q) hT
  obtain ⟨k1, ⟨u, hu, k2⟩, x, hx, k3⟩ := spanOf_spec (leadOf q p) hT
  have a1 := h1 u hu
  have a2 := h1 x hx
  have b1 := k1 r hr
  have b2 := k1 s hs
  have n1 := leadOf_neg p q u
  have n2 := leadOf_neg p q x
  have n3 := leadOf_neg p q r
  have n4 := leadOf_neg p q s
  exact Prod.ext (by show _ = -(spanOf (leadOf p q) T).2; omega) (by show _ = -(spanOf (leadOf p q) T).1; omega)
/-- Both ends of a lead are reached with laps of both pairs. -/
theorem lead_laps {T : List (List Int)} (hT : T ≠ []) (hl : ∀ t ∈ T, t.length ≤ 12) (p q n : Int) (hn : n = (spanOf (leadOf p q) T).1 ∨ n = (spanOf (leadOf p q) T).2) :
    ∃ a b : Nat, a ≤ 12 ∧ b ≤ 12 ∧ (a : Int) - n = b ∧ (lapN T p).testBit a = true ∧ (lapN T q).testBit b = true := by
  obtain ⟨_, ⟨r, hr, h2⟩, s, hs, h3⟩ := spanOf_spec (leadOf p q) hT
  have key : ∀ t ∈ T, leadOf p q t = n → ∃ a b : Nat, a ≤ 12 ∧ b ≤ 12 ∧ (a : Int) - n = b ∧ (lapN T p).testBit a = true ∧ (lapN T q).testBit b = true := fun t ht he => by
    have h12 := hl t ht
    exact ⟨t.count p, t.count q, Nat.le_trans List.count_le_length h12, Nat.le_trans List.count_le_length h12, by unfold leadOf at he; omega, lapN_bit.2 ⟨t, ht, rfl⟩, lapN_bit.2 ⟨t, ht, rfl⟩⟩
  rcases hn with rfl | rfl
  · exact key r hr h2
  · exact key s hs h3
theorem lead_bounds {T : List (List Int)} (hT : T ≠ []) (hl : ∀ t ∈ T, t.length ≤ 12) (p q : Int) {l : List Int} (hm : l ∈ T) :
    (spanOf (leadOf p q) T).1 ≤ (spanOf (leadOf p q) T).2 ∧ -12 ≤ (spanOf (leadOf p q) T).1 ∧ (spanOf (leadOf p q) T).2 ≤ 12 ∧ (spanOf (leadOf p q) T).1 ≤ leadOf p q l ∧ leadOf p q l ≤ (spanOf (leadOf p q) T).2 := by
  obtain ⟨h1, ⟨r, hr, h2⟩, s, hs, h3⟩ := spanOf_spec (leadOf p q) hT
  have key : ∀ t ∈ T, -12 ≤ leadOf p q t ∧ leadOf p q t ≤ 12 := fun t ht => by
    have h12 := hl t ht
    have c1 : t.count p ≤ t.length := List.count_le_length
    have c2 : t.count q ≤ t.length := List.count_le_length
    unfold leadOf
    omega
  have a := key r hr
  have b := key s hs
  have c := h1 l hm
  rw [h2] at a
  rw [h3] at b
  clear h1 h2 h3
  refine ⟨?_, a.1, b.2, c.1, c.2⟩
  exact Int.le_trans c.1 c.2
theorem truths_12 {P : Int} {ss : List (List Int)} (h : validB P ss = true) : ∀ t ∈ (truthsR P.toNat ss).1, t.length ≤ 12 := by
  have := truths2_long h ss.length (Nat.le_refl _)
  rw [show truths2 P.toNat ss ss.length = truthsR P.toNat ss by unfold truths2; rw [List.take_length]] at this
  exact this
theorem errOf_ok {P : Int} {ss : List (List Int)} {b : Bool} (h : validB P ss = true) (hb : b = true) (hT : (truthsR P.toNat ss).1 ≠ []) : errOf P ss b = 0 := by
  unfold errOf
  rw [if_neg (by simp [h]), if_neg (by simp [hb]), if_neg hT]
theorem errOf_two {P : Int} {ss : List (List Int)} {b : Bool} (h : validB P ss = true) (hb : b = false) : errOf P ss b = 2 := by
  unfold errOf
  rw [if_neg (by simp [h]), if_pos hb]
theorem lapsR_N {P : Int} {ss : List (List Int)} {p : Int} (h : validB P ss = true) (hp : 0 ≤ p ∧ p < P) (hT : (truthsR P.toNat ss).1 ≠ []) : lapsR P ss p = (lapN (truthsR P.toNat ss).1 p : Nat) ∧ errOf P ss (inB p 0 (P - 1)) = 0 := by
  have he := errOf_ok (b := inB p 0 (P - 1)) h (inB_true.2 (by omega)) hT
  exact ⟨by unfold lapsR; rw [if_pos he]; rfl, he⟩
theorem pairsB_true {P p q : Int} (hp : 0 ≤ p ∧ p < P) (hq : 0 ≤ q ∧ q < P) (hne : p ≠ q) : pairsB P p q = true := by
  unfold pairsB
  rw [inB_true.2 (by omega), inB_true.2 (by omega)]
  simpa using hne
theorem leadR_N {P : Int} {ss : List (List Int)} {p q : Int} (h : validB P ss = true) (hp : 0 ≤ p ∧ p < P) (hq : 0 ≤ q ∧ q < P) (hne : p ≠ q) (hT : (truthsR P.toNat ss).1 ≠ []) : leadR P ss p q = spanOf (leadOf p q) (truthsR P.toNat ss).1 ∧ errOf P ss (pairsB P p q) = 0 := by
  have he := errOf_ok (b := pairsB P p q) h (pairsB_true hp hq hne) hT
  exact ⟨by unfold leadR; rw [if_pos he], he⟩
end Go.Proofs.Yteijilbdllpbcaa
namespace Go.Proofs.Yteijilbdllpbcaa

/-- One bit of a set, as the code reads it. -/
theorem bits_and (s n : Nat) (hs : s < 8192) : bits .and .i64 ((s : Int) / 2 ^ n) 1 = if s.testBit n then 1 else 0 := by
  have h0 : ((s : Int) / 2 ^ n) = ((s / 2 ^ n : Nat) : Int) := by rw [Int.natCast_ediv]; norm_cast
  have h1 : s / 2 ^ n < 8192 := Nat.lt_of_le_of_lt (Nat.div_le_self _ _) hs
  have e : ∀ k : Nat, k < 8192 → (BitVec.ofInt IntKind.i64.bits (k : Int)).toNat = k := fun k hk => by
    rw [BitVec.ofInt_natCast, BitVec.toNat_ofNat]
    exact Nat.mod_eq_of_lt (Nat.lt_of_lt_of_le hk (by decide))
  rw [h0, Nat.testBit_eq_decide_div_mod_eq]
  generalize s / 2 ^ n = d at h1 ⊢
  have h2 : d &&& 1 = d % 2 := Nat.and_one_is_mod d
  have h3 : bits .and .i64 (d : Int) ((1 : Nat) : Int) = ((d &&& 1 : Nat) : Int) := by
    show IntKind.i64.wrap (((BitVec.ofInt IntKind.i64.bits (d : Int)) &&& (BitVec.ofInt IntKind.i64.bits ((1 : Nat) : Int))).toNat : Int) = _
    rw [BitVec.toNat_and, e d h1, e 1 (by decide)]
    exact IntWalk.i64_in _ (by omega)
  refine h3.trans ?_
  rw [h2]
  by_cases h : d % 2 = 1
  · rw [h]; simp
  · rw [show d % 2 = 0 by omega]; simp
end Go.Proofs.Yteijilbdllpbcaa
