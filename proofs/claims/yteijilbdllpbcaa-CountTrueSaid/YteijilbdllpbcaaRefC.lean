/- The reference of layer 1: all. Conditions: sizes. -/
import Derived.Test.YteijilbdllpbcaaRefA
import Derived.Test.YteijilbdllpbcaaLibB
namespace Go.Proofs.Yteijilbdllpbcaa
open Go.RowKit

theorem info_int : (Try.prog.info? 3).map (fun i => (i.zero, i.size, i.bytes)) = some (some (.int .i64 0), 1, 8) := by kernel_rfl
theorem info_ints : (Try.prog.info? 25).map (fun i => (i.zero, i.size, i.bytes)) = some (some (.slice none 0 0), 1, 24) := by kernel_rfl

/-- All races that go on from some, of at most so many passings more. -/
def alls (P : Nat) : Nat → List Int → List (List Int)
  | 0, b => [b]
  | n + 1, b => b :: (List.range P).flatMap fun (p : Nat) => alls P n (b ++ [(p : Int)])
def allsTo (P n : Nat) (b : List Int) (k : Nat) : List (List Int) := b :: (List.range k).flatMap fun (p : Nat) => alls P n (b ++ [(p : Int)])
theorem allsTo_succ (P n : Nat) (b : List Int) (k : Nat) : allsTo P n b (k + 1) = allsTo P n b k ++ alls P n (b ++ [(k : Int)]) := by
  simp [allsTo, List.range_succ, List.flatMap_append]
theorem allsTo_le (P n : Nat) (b : List Int) {k m : Nat} (h : k ≤ m) : (allsTo P n b k).length ≤ (allsTo P n b m).length := by
  induction m with
  | zero => obtain rfl : k = 0 := by omega
            exact Nat.le_refl _
  | succ m ih =>
    rcases Nat.lt_or_ge m k with h' | h'
    · obtain rfl : k = m + 1 := by omega
      exact Nat.le_refl _
    · rw [allsTo_succ, List.length_append]; have := ih h'; omega

/-- A slice of slices has been appended to. -/
def Sheets2 (w : World) (B : Nat) (ov : Value) (ls : List (List Int)) (e : Ending) (w' : World) : Prop :=
  ∃ ov' vs', e = .returned ov' ∧ Own w' B 25 ov' vs' ∧ Rows2 w' ov' vs' ls ∧ w.grownBy w' ov.ownBlock ∧ Moves w ov ov'

set_option maxRecDepth 100000 in
theorem rall_any : ∀ (n : Nat) (P : Nat) (sa : Option Addr) (sn sc : Nat) (most : Int) (b : List Int) (bv ov : Value) (vs : List Value) (ls : List (List Int)) (B : Nat) (w : World),
    P ≤ 1000 → most = b.length + n → b.length + n ≤ 1000 → IsInts w bv b → (b = [] ∨ bv.ownBlock ≠ ov.ownBlock) → (bv.ownBlock = none → ∃ n, bv = .slice none n 0) → Own w B 25 ov vs → Rows2 w ov vs ls → B ≤ w.heap.size → (ls.length + (alls P n b).length) * 24 ≤ 140737488355328 →
    Calls Try.prog 80 #[.agg #[.int .i64 P, .slice sa sn sc], .int .i64 most, bv, ov] w (Sheets2 w B ov (ls ++ alls P n b)) := by
  obtain ⟨i0, hi0, hi1, hi2, hi3⟩ := info_parts info_ints
  obtain ⟨j0, hj0, hj1, hj2, hj3⟩ := info_parts info_int
  intro n
  induction n with
  | zero =>
    intro P sa sn sc most b bv ov vs ls B w hP hmost h1000 hb hap hnil hown hrows hB hsz
    have hl := hrows.1
    obtain ⟨a, cap, rfl, hcap, hlen, hrow⟩ := hb
    have ha : a = none → cap = 0 := fun h => by subst h; obtain ⟨n, e⟩ := hnil rfl; cases e; rfl
    simp only [alls, List.length_singleton] at hsz
    have hm : decide ((b.length : Int) < most) = false := by simp; omega
    have hbytes : (vs.length + [Value.slice a b.length cap].length) * 24 ≤ 140737488355328 := by simp; omega
    have hu : Try.prog.underlying 22 = some (.slice 25) := by kernel_rfl
    have Hl := Lib.hid hl
    clear hl hmost
    go_enter Try.func80, Try.ntmps80
    go_wp2_with (at_builtin; refine wpl_app rfl _ _ 22 rfl B 25 i0 _ 24 hu hi0 hi1 hi2 hi3 rfl ov vs rfl ((hown.alloc _).alloc _) _ _ [.slice a b.length cap] 1 rfl rfl (fun h => nomatch h) (row_new1 _ _ _ (by simp)) (by simp [Value.oneCell']) hbytes (by omega) (by simp; omega) ?_; intro v' w1 hown1 hgr1 hmv1)
    have hgr : w.grownBy w1 ov.ownBlock := (((Grow.refl w).alloc _).alloc _).andBy hgr1
    have hmv : Moves w ov v' := hmv1.lower (by simp; omega)
    have hc0 : w1.cell? ⟨w.heap.size, 0, none⟩ = some (.int .i64 P) := byCell hgr1 (by simp) (hown.ne (Nat.le_refl _))
    have hrows1 : Rows2 w1 v' (vs ++ [.slice a b.length cap]) (ls ++ [b]) := (hrows.kept hgr hmv).snoc (IsInts.kept ⟨a, cap, rfl, hcap, hlen, hrow⟩ hgr hap) (by
      rcases hap with h | h
      · exact .inl h
      · by_cases he : b = []
        · exact .inl he
        · obtain ⟨k, hk, hlt⟩ := IsInts.lt (w := w) ⟨a, cap, rfl, hcap, hlen, hrow⟩ he
          rcases hmv with hm | hm
          · rw [hm]; exact .inr h
          · exact .inr fun e => by have := hm k (by rw [← e]; exact hk); omega)
    refine wp_loop_rounds 1 ?_
    rw [rounds_succ]
    by_cases h0 : (0 : Int) < P
    all_goals
      go_wp2
      go_ret
      exact ⟨_, _, rfl, hown1, hrows1, hgr, hmv⟩
  | succ n ih =>
    intro P sa sn sc most b bv ov vs ls B w hP hmost h1000 hb hap hnil hown hrows hB hsz
    have Ih := Lib.hid ih
    clear ih
    have hl := hrows.1
    obtain ⟨a, cap, rfl, hcap, hlen, hrow⟩ := hb
    have ha : a = none → cap = 0 := fun h => by subst h; obtain ⟨n, e⟩ := hnil rfl; cases e; rfl
    have hall : Hid (alls P (n + 1) b = allsTo P n b P) := rfl
    rw [hall.out] at hsz
    have hm : decide ((b.length : Int) < most) = true := by simp; omega
    have h1s : 0 < (allsTo P n b P).length := by simp [allsTo]
    have hbytes : (vs.length + [Value.slice a b.length cap].length) * 24 ≤ 140737488355328 := by simp; omega
    have hu : Try.prog.underlying 22 = some (.slice 25) := by kernel_rfl
    have hu3 : Try.prog.underlying 25 = some (.slice 3) := by kernel_rfl
    have Hl := Lib.hid hl
    have Hmost := Lib.hid hmost
    clear hl hmost
    go_enter Try.func80, Try.ntmps80
    go_wp2_with (at_builtin; refine wpl_app rfl _ _ 22 rfl B 25 i0 _ 24 hu hi0 hi1 hi2 hi3 rfl ov vs rfl ((hown.alloc _).alloc _) _ _ [.slice a b.length cap] 1 rfl rfl (fun h => nomatch h) (row_new1 _ _ _ (by simp)) (by simp [Value.oneCell']) hbytes (by omega) (by simp; omega) ?_; intro v' w1 hown1 hgr1 hmv1)
    have hgr : w.grownBy w1 ov.ownBlock := (((Grow.refl w).alloc _).alloc _).andBy hgr1
    have hmv : Moves w ov v' := hmv1.lower (by simp; omega)
    have hc0 : w1.cell? ⟨w.heap.size, 0, none⟩ = some (.int .i64 P) := byCell hgr1 (by simp) (hown.ne (Nat.le_refl _))
    have hc1 : w1.cell? ⟨w.heap.size, 1, none⟩ = some (.slice sa sn sc) := byCell hgr1 (by simp) (hown.ne (Nat.le_refl _))
    have hrows1 : Rows2 w1 v' (vs ++ [.slice a b.length cap]) (ls ++ [b]) := (hrows.kept hgr hmv).snoc (IsInts.kept ⟨a, cap, rfl, hcap, hlen, hrow⟩ hgr hap) (by
      rcases hap with h | h
      · exact .inl h
      · by_cases he : b = []
        · exact .inl he
        · obtain ⟨k, hk, hlt⟩ := IsInts.lt (w := w) ⟨a, cap, rfl, hcap, hlen, hrow⟩ he
          rcases hmv with hm | hm
          · rw [hm]; exact .inr h
          · exact .inr fun e => by have := hm k (by rw [← e]; exact hk); omega)
    have hnm : v'.ownBlock ≠ some w.heap.size := fun e => by
      rcases hmv1 with h | h
      · exact hown.ne (Nat.le_refl _) (h.symm.trans e)
      · have := h _ e
        simp at this; omega
    go_loopw [3, 9] (fun u i wr => ∃ (k : Nat) (vsk : List Value) (o : Value), o = u ∧ k ≤ P ∧ i = .int .i64 k ∧ Own wr B 25 o vsk ∧ Rows2 wr o vsk (ls ++ allsTo P n b k) ∧ w.grownBy wr ov.ownBlock ∧ Moves w ov o ∧ o.ownBlock ≠ some w.heap.size ∧ wr.cell? ⟨w.heap.size, 0, none⟩ = some (.int .i64 P) ∧ wr.cell? ⟨w.heap.size, 1, none⟩ = some (.slice sa sn sc)) (fun _ i _ => P - (intOf i).toNat)
    case atStart => exact ⟨0, _, _, rfl, Nat.zero_le _, rfl, hown1, by simpa [allsTo] using hrows1, hgr, hmv, hnm, hc0, hc1⟩
    case round =>
      obtain ⟨k, vsk, ok, rfl, hk, rfl, hownk, hrowsk, hgrk, hmvk, hnmk, hck0, hck1⟩ := hrel
      by_cases hlt : k < P
      · have hnv : Hid (vsk.length = (ls ++ allsTo P n b k).length) := hrowsk.1
        have hbk : IsInts wr (.slice a b.length cap) b := IsInts.kept ⟨a, cap, rfl, hcap, hlen, hrow⟩ hgrk hap
        have hrb : RowAt wr a (b.map (Value.int .i64)) := by obtain ⟨_, _, e, _, _, r⟩ := hbk; cases e; exact r
        go_wp2
        have ha0 : a = none → cap = 0 := ha
        have hkb : (([] : List Value).length + (b.map (Value.int .i64)).length) * 8 ≤ 140737488355328 := by simp; omega
        have hkb2 : ((b.map (Value.int .i64)).length + [Value.int .i64 k].length) * 8 ≤ 140737488355328 := by simp; omega
        have hlen1 : Hid ((b ++ [(k : Int)]).length + n ≤ 1000) := by show _ ≤ _; simp; omega
        have hlen2 : (b ++ [(k : Int)]).length * 8 ≤ 140737488355328 := by simp; omega
        have hIm : Hid (most = ((b ++ [(k : Int)]).length : Int) + n) := by show _ = _; simp; have := Hmost.out; omega
        have hle := allsTo_le P n b (Nat.succ_le_of_lt hlt)
        rw [allsTo_succ, List.length_append] at hle
        have hIs : Hid (((ls ++ allsTo P n b k).length + (alls P n (b ++ [(k : Int)])).length) * 24 ≤ 140737488355328) := by show _ ≤ _; simp; omega
        have hmap : Hid (b.map (Value.int .i64) ++ [Value.int .i64 k] = (b ++ [(k : Int)]).map (Value.int .i64)) := by show _ = _; simp
        have hBk : Hid (B ≤ wr.heap.size) := Nat.le_trans hB hgrk.size
        go_region_held3 (fun Wx => wr.grownBy Wx ok.ownBlock ∧ Wx.cell? ⟨w.heap.size, 0, none⟩ = some (.int .i64 P) ∧ Wx.cell? ⟨w.heap.size, 1, none⟩ = some (.slice sa sn sc)) ((refine (fun (hG : wr.grownBy _ ok.ownBlock) => ⟨hG, byCell1 hG (by assumption) (by first | assumption | (intro e; injection e with e; omega)), byCell1 hG (by assumption) (by first | assumption | (intro e; injection e with e; omega))⟩) ?_; (try go_split_ands); first | exact byDrew _ _ | exact byAlloc (by assumption) _ | exact byBy (by assumption) (by assumption) | exact byThen (by assumption) (by assumption) | exact byBelow (by assumption) (by assumption) | ((repeat (first | assumption | refine byStore ?_ _ _ | refine byAlloc ?_ _)); done))) ((first | (rw [if_pos (by rfl)]; refine wp_app (.tmp 28) (.tmp 29) 25 rfl wr.heap.size 3 j0 _ 8 hu3 hj0 hj1 hj2 hj3 rfl (.slice (some ⟨_, 0, none⟩) 0 0) [] rfl (by first | exact (Own.new0 (by first | exact Nat.le_refl _ | (simp <;> omega)) (by simp)).drew | exact ((Own.new0 (by first | exact Nat.le_refl _ | (simp <;> omega)) (by simp)).alloc _).drew) a cap (b.map (Value.int .i64)) _ rfl (by simp) ha0 (by first | exact hrb.grow ((Grow.refl _).alloc _).drew | exact hrb.grow (((Grow.refl _).alloc _).alloc _).drew) (by simp [Value.oneCell']) hkb (by omega) (by simp <;> omega) ?_; intro v2 w2 hown2 hgr2 hmv2; have hbl2 := grownBy_below hgr2 (B := wr.heap.size) (by simp [Value.ownBlock]) (by simp <;> omega); have hG2 : Grow wr w2 := by first | exact Below.trans ((Grow.refl _).alloc _).drew hbl2 | exact Below.trans (((Grow.refl _).alloc _).alloc _).drew hbl2) | (rw [if_pos (by rfl)]; refine wp_app (.tmp 30) (.tmp 32) 25 rfl wr.heap.size 3 j0 _ 8 hu3 hj0 hj1 hj2 hj3 rfl v2 (b.map (Value.int .i64)) rfl (by first | exact hown2 | exact hown2.alloc _) _ 1 [.int .i64 k] _ rfl (by simp) (fun h => nomatch h) (by first | exact row_new1 _ _ _ (by simp) | exact ((row_new1 _ _ _ (by simp)).grow (Grow.refl _).drew).kept hgr2 (by simp [Value.ownBlock]) | exact ((row_new1 _ _ _ (by simp)).grow ((Grow.refl _).alloc _).drew).kept hgr2 (by simp [Value.ownBlock])) (by simp [Value.oneCell']) hkb2 (by omega) (by first | exact hG2.size | exact (hG2.alloc _).size) ?_; intro v3 w3 hown3 hgr3 hmv3; have hbl3 := grownBy_below hgr3 (B := wr.heap.size) (fun k h => hown2.base k h) (by first | exact hG2.size | exact (hG2.alloc _).size); have hG3 : Grow wr w3 := by first | exact Below.trans hG2 hbl3 | exact Below.trans (hG2.alloc _) hbl3) | (go_at_call 80; refine (Ih.out P sa sn sc most (b ++ [(k : Int)]) v3 ok vsk (ls ++ allsTo P n b k) B _ hP hIm.out hlen1.out ((hmap.out ▸ hown3).ints hlen2) (Or.inr (hownk.apart (Nat.le_refl _) hown3 (by simp))) (hown3.nilCap (by simp)) (hownk.grow hG3) (hrowsk.grow hG3) (Nat.le_trans hBk.out hG3.size) hIs.out).mono ?_; rintro e w4 ⟨ov4, vs4, rfl, hown4, hrows4, hgr4, hmv4⟩)))
        all_goals
          rename_i hH
          have hlt3 := lt_of_cell hck0
          have hs3 := hG3.size
          go_wp2
          refine ⟨⟨k + 1, vs4, ov4, rfl, by omega, by go_num, hown4, by rw [allsTo_succ, ← List.append_assoc]; exact hrows4, grownBy_trans hgrk hmvk hH.1, hmvk.trans hmv4 (by have := hgrk.size; omega), fun e => ?_, hH.2.1, hH.2.2⟩, by simp [intOf]; omega⟩
          rcases hmv4 with h | h
          · exact hnmk (h.symm.trans e)
          · have := h _ e
            omega
      · obtain rfl : k = P := by omega
        go_wp2
        go_ret
        exact ⟨_, _, rfl, hownk, by rw [hall.out]; exact hrowsk, hgrk, hmvk⟩
end Go.Proofs.Yteijilbdllpbcaa
namespace Go.Proofs.Yteijilbdllpbcaa
open Go.RowKit

def sumErrs (r : List Int) (l : List (List Int)) : Int := (l.map (errs r)).sum
theorem sumErrs_snoc (r : List Int) (l : List (List Int)) (s : List Int) : sumErrs r (l ++ [s]) = sumErrs r l + errs r s := by simp [sumErrs]
theorem sumErrs_range (r : List Int) : ∀ l : List (List Int), 0 ≤ sumErrs r l ∧ sumErrs r l ≤ l.length * (1000 + r.length)
  | [] => by simp [sumErrs]
  | s :: l => by
    have h1 := errs_range r s
    have h2 := sumErrs_range r l
    have e : sumErrs r (s :: l) = errs r s + sumErrs r l := by simp [sumErrs]
    rw [e, List.length_cons]
    have : ((l.length + 1 : Nat) : Int) * (1000 + r.length) = l.length * (1000 + r.length) + (1000 + r.length) := by
      rw [Int.natCast_add, Int.add_mul]; simp
    omega
/-- One race more is looked at. -/
def leastStep (l : List (List Int)) (acc : List (List Int) × Int) (r : List Int) : List (List Int) × Int :=
  let n := sumErrs r l
  let acc' := if n < acc.2 then ([], n) else acc
  if n = acc'.2 ∧ n < 1000 then (acc'.1 ++ [r], acc'.2) else acc'
def leastR (races l : List (List Int)) : List (List Int) × Int := races.foldl (leastStep l) ([], 1000)
theorem leastR_snoc (races l : List (List Int)) (r : List Int) : leastR (races ++ [r]) l = leastStep l (leastR races l) r := by simp [leastR]
theorem leastStep_lt {l : List (List Int)} {acc : List (List Int) × Int} {r : List Int} (h : sumErrs r l < acc.2) (hb : acc.2 ≤ 1000) : leastStep l acc r = ([r], sumErrs r l) := by
  unfold leastStep
  simp only [h, if_true]
  rw [if_pos ⟨trivial, by omega⟩]
  rfl
theorem leastStep_eq {l : List (List Int)} {acc : List (List Int) × Int} {r : List Int} (h : sumErrs r l = acc.2) (hb : acc.2 < 1000) : leastStep l acc r = (acc.1 ++ [r], acc.2) := by
  unfold leastStep
  simp only [h, Int.lt_irrefl, if_false]
  rw [if_pos ⟨trivial, hb⟩]
theorem leastStep_no {l : List (List Int)} {acc : List (List Int) × Int} {r : List Int} (h : ¬ sumErrs r l < acc.2) (hb : ¬ (sumErrs r l = acc.2 ∧ acc.2 < 1000)) : leastStep l acc r = acc := by
  unfold leastStep
  simp only [h, if_false]
  rw [if_neg (by rintro ⟨h1, h2⟩; exact hb ⟨h1, by omega⟩)]
theorem leastStep_len (l : List (List Int)) (acc : List (List Int) × Int) (r : List Int) (hb : acc.2 ≤ 1000) : (leastStep l acc r).1.length ≤ acc.1.length + 1 ∧ (leastStep l acc r).2 ≤ 1000 := by
  by_cases h : sumErrs r l < acc.2
  · rw [leastStep_lt h hb]; simp; omega
  · by_cases h2 : sumErrs r l = acc.2 ∧ acc.2 < 1000
    · rw [leastStep_eq h2.1 h2.2]; simp; omega
    · rw [leastStep_no h h2]; omega
theorem leastR_len (races l : List (List Int)) : (leastR races l).1.length ≤ races.length ∧ (leastR races l).2 ≤ 1000 := by
  have : ∀ (rs : List (List Int)) (acc : List (List Int) × Int), acc.2 ≤ 1000 → (rs.foldl (leastStep l) acc).1.length ≤ acc.1.length + rs.length ∧ (rs.foldl (leastStep l) acc).2 ≤ 1000 := by
    intro rs
    induction rs with
    | nil => intro acc h; simpa using h
    | cons r rs ih => intro acc h; have h2 := leastStep_len l acc r h; have h1 := ih (leastStep l acc r) h2.2; simp only [List.foldl_cons, List.length_cons]; omega
  simpa [leastR] using this races ([], 1000) (by simp)

/-- Slices of slices, and a number. -/
def Sheets3 (w : World) (r : List (List Int) × Int) (e : Ending) (w' : World) : Prop :=
  ∃ ov vs, e = .returned (.tuple #[ov, .int .i64 r.2]) ∧ Own w' w.heap.size 25 ov vs ∧ Rows2 w' ov vs r.1 ∧ Grow w w'

set_option maxRecDepth 100000 in
set_option maxHeartbeats 1000000 in
theorem rleast_any (rv lv : Value) (races l : List (List Int)) (w : World) (hr : IsSheets w rv races) (hl : IsSheets w lv l) (hl4 : l.length ≤ 4) (h1000 : ∀ r ∈ races, r.length ≤ 1000) :
    Calls Try.prog 79 #[rv, lv] w (Sheets3 w (leastR races l)) := by
  obtain ⟨i0, hi0, hi1, hi2, hi3⟩ := info_parts info_ints
  obtain ⟨a, cap, rfl, hcap, hlen, hrow⟩ := hr
  obtain ⟨a', cap', rfl, hcap', hlen', hrow'⟩ := hl
  have hu : Try.prog.underlying 22 = some (.slice 25) := by kernel_rfl
  have H1000 : Hid (∀ r ∈ races, r.length ≤ 1000) := h1000
  clear h1000
  go_enter Try.func79, Try.ntmps79
  go_wp2_with fail
  go_loopw [6, 7, 8] (fun u n i wr => ∃ (k : Nat) (vsk : List Value) (o : Value), o = u ∧ k ≤ races.length ∧ i = .int .i64 k ∧ n = .int .i64 (leastR (races.take k) l).2 ∧ Own wr w.heap.size 25 o vsk ∧ Rows2 wr o vsk (leastR (races.take k) l).1 ∧ Grow w wr) (fun _ _ i _ => races.length - (intOf i).toNat)
  case atStart => exact ⟨0, [], _, rfl, Nat.zero_le _, rfl, rfl, Own.nil _ _ _, Rows2.nil _ _, Grow.refl _⟩
  case round =>
    obtain ⟨k, vsk, ok, rfl, hk, rfl, rfl, hown, hrows, hg⟩ := hrel
    by_cases hlt : k < races.length
    · obtain ⟨b, o, r, ra, rc, hx, rfl, hc, hrc, hr8, hrr⟩ := hrow.get hlt
      have hckr := hg.keeps hc
      have hrI : IsInts wr (.slice ra r.length rc) r := ⟨ra, rc, rfl, hrc, hr8, hrr.grow hg⟩
      have hrl : r.length ≤ 1000 := H1000.out r (List.mem_of_getElem? hx)
      have Hx : Hid (races[k]? = some r) := hx
      have hb := (leastR_len (races.take k) l).2
      have hln := (leastR_len (races.take k) l).1
      have hln2 : (races.take k).length ≤ races.length := by simp; omega
      have HS : Hid (leastR (races.take (k + 1)) l = leastStep l (leastR (races.take k) l) r) := by
        show _ = _
        rw [take_get hx, leastR_snoc]
      clear hx
      obtain ⟨best, hbest⟩ : ∃ best, best = (leastR (races.take k) l).2 := ⟨_, rfl⟩
      obtain ⟨outk, houtk⟩ : ∃ outk, outk = (leastR (races.take k) l).1 := ⟨_, rfl⟩
      rw [← hbest] at hb ⊢
      rw [← houtk] at hln hrows
      have HB := Lib.hid hbest
      have HO := Lib.hid houtk
      clear hbest houtk
      go_wp2_with fail
      obtain ⟨wo, rfl⟩ : ∃ wo : World, wo = wr := ⟨_, rfl⟩
      go_loopw [9, 10] (fun n i wr => ∃ j : Nat, j ≤ l.length ∧ i = .int .i64 j ∧ n = .int .i64 (sumErrs r (l.take j)) ∧ Grow wo wr) (fun _ i _ => l.length - (intOf i).toNat)
      case atStart => exact ⟨0, Nat.zero_le _, rfl, rfl, Grow.refl _⟩
      case round =>
        obtain ⟨j, hj, rfl, rfl, hgj⟩ := hrel
        by_cases hltj : j < l.length
        · obtain ⟨b', o', s, ta, tc, hy, rfl, hc', htc, ht8, htr⟩ := hrow'.get hltj
          have hcj := hgj.keeps hckr
          have hcj' := (hg.trans hgj).keeps hc'
          have hsI : IsInts wr (.slice ta s.length tc) s := ⟨ta, tc, rfl, htc, ht8, htr.grow (hg.trans hgj)⟩
          have hrI' : IsInts wr (.slice ra r.length rc) r := hrI.grow hgj
          have he := errs_range r s
          have hsr := sumErrs_range r (l.take j)
          have hjl : ((l.take j).length : Int) * (1000 + r.length) ≤ 4 * 2000 := by
            have h1 : (l.take j).length ≤ 4 := by simp; omega
            exact Int.mul_le_mul (by omega) (by omega) (by omega) (by omega)
          have hs2 : sumErrs r (l.take j) ≤ 8000 := by omega
          have hs1 := hsr.1
          have HY : Hid (sumErrs r (l.take (j + 1)) = sumErrs r (l.take j) + errs r s) := by
            show _ = _
            rw [take_get hy, sumErrs_snoc]
          have hw : IntKind.i64.wrap (sumErrs r (l.take j) + errs r s) = sumErrs r (l.take j) + errs r s := IntWalk.i64_in _ (by omega)
          clear hy hsr hjl
          go_wp2_with fail
          go_region_held3 (fun Wx => Grow wr Wx ∧ Wx.cell? ⟨b, o + k, none⟩ = some (.slice ra r.length rc) ∧ Wx.cell? ⟨b', o' + j, none⟩ = some (.slice ta s.length tc)) ((refine (fun (hG : Grow wr _) => ⟨hG, Grow.keeps hG (by assumption), Grow.keeps hG (by assumption)⟩) ?_; (try go_split_ands); first | exact (Below.refl _ _).drew | exact ((Grow.refl _).alloc _).drew | exact Grow.alloc (by assumption) _ | exact Below.setCell (Below.setCell (by assumption) (by simp <;> omega) _) (by simp <;> omega) _ | exact Grow.trans (by assumption) (by assumption) | exact Below.trans (by assumption) (by assumption))) ((go_at_call 32; refine (rErrs_any _ _ _ _ _ (hrI'.grow (Grow.refl _).drew) (hsI.grow (Grow.refl _).drew)).mono ?_; rintro e w2 ⟨rfl, hg2⟩))
          rename_i hH
          go_wp2_with fail
          exact ⟨⟨j + 1, by omega, by go_num, by rw [HY.out], hgj.trans hH.1⟩, by simp [intOf]; omega⟩
        · have ht : Hid (l.take j = l) := take_len hltj
          rw [ht.out]
          have hsr := sumErrs_range r l
          have hckj := hgj.keeps hckr
          have HN : Hid (sumErrs r l = sumErrs r l) := rfl
          obtain ⟨n, hn⟩ : ∃ n, n = sumErrs r l := ⟨_, rfl⟩
          rw [← hn] at hsr ⊢
          have Hn := Lib.hid hn
          clear hn
          have hvl : vsk.length ≤ k := by have := hrows.1; have h3 : (races.take k).length ≤ k := List.length_take_le _ _; omega
          have hby : (vsk.length + [Value.slice ra r.length rc].length) * 24 ≤ 140737488355328 := by simp; omega
          have hby0 : (([] : List Value).length + [Value.slice ra r.length rc].length) * 24 ≤ 140737488355328 := by simp
          have hgw : Grow w wr := hg.trans hgj
          have hap : r = [] ∨ (Value.slice ra r.length rc).ownBlock ≠ ok.ownBlock := by
            by_cases he : r = []
            · exact .inl he
            · obtain ⟨q, hq, hqlt⟩ := IsInts.lt (w := w) ⟨ra, rc, rfl, hrc, hr8, hrr⟩ he
              exact .inr fun e => by have := hown.base q (by rw [← e]; exact hq); omega
          have hrI2 : IsInts wr (.slice ra r.length rc) r := hrI.grow hgj
          have hownw : Own wr w.heap.size 25 ok vsk := hown.grow hgj
          have hrowsw : Rows2 wr ok vsk outk := hrows.grow hgj
          by_cases hA : n < best
          · have hstep : Hid (leastR (races.take (k + 1)) l = ([r], n)) := by
              show _ = _
              rw [HS.out, leastStep_lt (by rw [← Hn.out, ← HB.out]; exact hA) (by rw [← HB.out]; exact hb), Hn.out]
            go_wp2_with (at_builtin; refine wpl_app rfl (.tmp 45) (.tmp 50) 22 rfl w.heap.size 25 i0 _ 24 hu hi0 hi1 hi2 hi3 rfl (.slice none 0 0) [] rfl (Own.nil _ _ _) _ _ [.slice ra r.length rc] 1 rfl rfl (fun h => nomatch h) (row_new1 _ _ _ (by simp)) (by simp [Value.oneCell']) hby0 (by omega) (by first | exact hgw.size | exact (hgw.alloc _).size) ?_; intro v' w1 hown1 hgr1 hmv1)
            have hG1 : Grow wr w1 := ((Grow.refl _).alloc _).trans (Grow.of hgr1)
            refine ⟨⟨k + 1, _, _, rfl, by omega, by go_num, by rw [hstep.out], hown1, ?_, hgw.trans hG1⟩, by simp [intOf]; omega⟩
            rw [hstep.out]
            refine (Rows2.nil _ _).snoc (hrI2.grow hG1) ?_
            by_cases he : r = []
            · exact .inl he
            · obtain ⟨q, hq, hqlt⟩ := IsInts.lt hrI2 he
              refine .inr fun e => ?_
              rcases hmv1 with h | h
              · rw [hq, h] at e; simp [Value.ownBlock] at e
              · have := h q (by rw [← e]; exact hq); simp at this; omega
          · by_cases hB : n = best ∧ best < 1000
            · obtain ⟨rfl, hB2⟩ := hB
              have hstep : Hid (leastR (races.take (k + 1)) l = (outk ++ [r], n)) := by
                show _ = _
                rw [HS.out, leastStep_eq (by rw [← Hn.out]; exact HB.out) (by rw [← HB.out]; exact hB2), ← HB.out, ← HO.out]
              go_wp2_with (at_builtin; refine wpl_app rfl (.tmp 45) (.tmp 50) 22 rfl w.heap.size 25 i0 _ 24 hu hi0 hi1 hi2 hi3 rfl ok vsk rfl (hownw.alloc _) _ _ [.slice ra r.length rc] 1 rfl rfl (fun h => nomatch h) (row_new1 _ _ _ (by simp)) (by simp [Value.oneCell']) hby (by omega) (by first | exact hgw.size | exact (hgw.alloc _).size) ?_; intro v' w1 hown1 hgr1 hmv1)
              have hB1 : Below w.heap.size wr w1 := Below.trans (((Grow.refl wr).alloc _).mono hgw.size) (grownBy_below hgr1 (fun k h => hownw.base k h) (by first | exact hgw.size | exact (hgw.alloc _).size))
              have hby1 : wr.grownBy w1 ok.ownBlock := ((Grow.refl wr).alloc _).andBy hgr1
              have hm1 : Moves wr ok v' := hmv1.lower (by simp)
              refine ⟨⟨k + 1, _, _, rfl, by omega, by go_num, by rw [hstep.out], hown1, ?_, Below.trans hgw hB1⟩, by simp [intOf]; omega⟩
              rw [hstep.out]
              refine (hrowsw.kept hby1 hm1).snoc (hrI2.kept hby1 hap) ?_
              by_cases he : r = []
              · exact .inl he
              · obtain ⟨q, hq, hqlt⟩ := IsInts.lt hrI2 he
                refine .inr fun e => ?_
                rcases hm1 with h | h
                · rcases hap with h2 | h2
                  · exact he h2
                  · exact h2 (e.trans h)
                · have := h q (by rw [← e]; exact hq); omega
            · have hstep : Hid (leastR (races.take (k + 1)) l = (outk, best)) := by
                show _ = _
                rw [HS.out, leastStep_no (by rw [← Hn.out, ← HB.out]; exact hA) (by rw [← Hn.out, ← HB.out]; exact hB), HB.out, HO.out]
              by_cases hB2 : n = best
              · have hB3 : ¬ best < 1000 := fun h => hB ⟨hB2, h⟩
                subst hB2
                go_wp2_with fail
                exact ⟨⟨k + 1, _, _, rfl, by omega, by go_num, by rw [hstep.out], hownw, by rw [hstep.out]; exact hrowsw, hgw⟩, by simp [intOf]; omega⟩
              · go_wp2_with fail
                exact ⟨⟨k + 1, _, _, rfl, by omega, by go_num, by rw [hstep.out], hownw, by rw [hstep.out]; exact hrowsw, hgw⟩, by simp [intOf]; omega⟩
    · have h3 : Hid (races.take k = races) := take_len hlt
      rw [h3.out] at hrows ⊢
      go_wp2_with fail
      go_ret2
      exact ⟨_, _, rfl, hown, hrows, hg⟩
end Go.Proofs.Yteijilbdllpbcaa
namespace Go.Proofs.Yteijilbdllpbcaa
open Go.RowKit

theorem alls_len (P : Nat) : ∀ (n : Nat) (b : List Int), (alls P n b).length ≤ (P + 1) ^ n
  | 0, b => by simp [alls]
  | n + 1, b => by
    have h : ∀ k, ((List.range k).flatMap fun (p : Nat) => alls P n (b ++ [(p : Int)])).length ≤ k * (P + 1) ^ n := by
      intro k
      induction k with
      | zero => simp
      | succ k ih =>
        rw [List.range_succ, List.flatMap_append, List.length_append, Nat.succ_mul]
        have := alls_len P n (b ++ [(k : Int)])
        simp only [List.flatMap_cons, List.flatMap_nil, List.append_nil]
        omega
    have h1 := h P
    have h2 : 1 ≤ (P + 1) ^ n := Nat.one_le_pow _ _ (by omega)
    rw [alls, List.length_cons, Nat.pow_succ, Nat.mul_succ, Nat.mul_comm]
    omega
theorem alls_long (P : Nat) : ∀ (n : Nat) (b r : List Int), r ∈ alls P n b → r.length ≤ b.length + n
  | 0, b, r, h => by simp [alls] at h; subst h; simp
  | n + 1, b, r, h => by
    simp only [alls, List.mem_cons, List.mem_flatMap] at h
    rcases h with rfl | ⟨p, _, h⟩
    · omega
    · have := alls_long P n _ r h
      simp at this
      omega
theorem leastR_sub (races l : List (List Int)) : ∀ r ∈ (leastR races l).1, r ∈ races := by
  have : ∀ (rs : List (List Int)) (acc : List (List Int) × Int), ∀ r ∈ (rs.foldl (leastStep l) acc).1, r ∈ acc.1 ∨ r ∈ rs := by
    intro rs
    induction rs with
    | nil => intro acc r h; exact .inl h
    | cons s rs ih =>
      intro acc r h
      rcases ih _ r h with h | h
      · have h3 : (leastStep l acc s).1 = [s] ∨ (leastStep l acc s).1 = acc.1 ++ [s] ∨ (leastStep l acc s).1 = acc.1 ∨ (leastStep l acc s).1 = [] := by
          unfold leastStep
          by_cases h1 : sumErrs s l < acc.2
          · simp only [h1, if_true]
            split <;> simp
          · simp only [h1, if_false]
            split <;> simp
        rcases h3 with h3 | h3 | h3 | h3 <;> rw [h3] at h
        · simp at h; exact .inr (by simp [h])
        · simp at h; rcases h with h | h
          · exact .inl h
          · exact .inr (by simp [h])
        · exact .inl h
        · cases h
      · exact .inr (by simp [h])
  intro r h
  simpa using this races ([], 1000) r h
/-- A sheet more leaves those of the truths by which its own errors are least. -/
def leave (acc : List (List Int) × Int) (s : List Int) : List (List Int) × Int := ((leastR acc.1 [s]).1, acc.2 + (leastR acc.1 [s]).2)
/-- All truths, and the errors of all sheets together. -/
def truthsR (P : Nat) : List (List Int) → List (List Int) × Int
  | [] => ([], 0)
  | [s] => ([s], 0)
  | s :: t :: rest => rest.foldl leave (leastR (alls P (s.length + t.length) []) [s, t])
def truths2 (P : Nat) (ss : List (List Int)) (i : Nat) : List (List Int) × Int := truthsR P (ss.take i)
theorem truths2_succ {P : Nat} {ss : List (List Int)} {i : Nat} {s : List Int} (h2 : 2 ≤ i) (hx : ss[i]? = some s) : truths2 P ss (i + 1) = leave (truths2 P ss i) s := by
  unfold truths2
  rw [take_get hx]
  obtain ⟨x, y, r, e⟩ : ∃ x y r, ss.take i = x :: y :: r := by
    have hl : 2 ≤ (ss.take i).length := by
      have := (List.getElem?_eq_some_iff.1 hx).1
      simp; omega
    match h : ss.take i with
    | [] => rw [h] at hl; simp at hl
    | [x] => rw [h] at hl; simp at hl
    | x :: y :: r => exact ⟨x, y, r, rfl⟩
  rw [e]
  simp [truthsR]
theorem leave_sub (acc : List (List Int) × Int) (s : List Int) : ∀ r ∈ (leave acc s).1, r ∈ acc.1 := leastR_sub _ _
theorem validB_parts {P : Int} {ss : List (List Int)} (h : validB P ss = true) : 1 ≤ P ∧ P ≤ 4 ∧ 1 ≤ ss.length ∧ ss.length ≤ 4 ∧ ∀ s ∈ ss, s.length ≤ 6 ∧ raceB P s = true := by
  rw [validB_eq, Bool.and_eq_true, Bool.and_eq_true, inB_true, inB_true, List.all_eq_true] at h
  refine ⟨h.1.1.1, h.1.1.2, by omega, by omega, fun s hs => ?_⟩
  have := h.2 s hs
  simpa [sheetB] using this

theorem truths2_long {P : Int} {ss : List (List Int)} (h : validB P ss = true) : ∀ i, i ≤ ss.length → ∀ r ∈ (truths2 P.toNat ss i).1, r.length ≤ 12 := by
  obtain ⟨_, _, _, _, h5⟩ := validB_parts h
  intro i
  induction i with
  | zero => intro _ r hr; simp [truths2, truthsR] at hr
  | succ i ih =>
    intro hi r hr
    by_cases h2 : 2 ≤ i
    · rw [truths2_succ h2 (by simp : ss[i]? = some ss[i])] at hr
      exact ih (by omega) r (leave_sub _ _ r hr)
    · have h6 : ∀ s ∈ ss.take (i + 1), s.length ≤ 6 := fun s hs => (h5 s (List.mem_of_mem_take hs)).1
      unfold truths2 at hr
      match hss : ss.take (i + 1) with
      | [] => rw [hss] at hr; simp [truthsR] at hr
      | [s] =>
        rw [hss] at hr h6
        simp [truthsR] at hr
        subst hr
        have := h6 r (by simp)
        omega
      | [s, t] =>
        rw [hss] at hr h6
        have hr' := leastR_sub _ _ r hr
        have := alls_long _ _ _ r hr'
        have h7 := h6 s (by simp)
        have h8 := h6 t (by simp)
        simp at this
        omega
      | s :: t :: u :: rest =>
        have := congrArg List.length hss
        simp at this
        omega
theorem Sheets3.sheets {w : World} {r : List (List Int) × Int} {ov : Value} {vs : List Value} {w' : World} (hown : Own w' w.heap.size 25 ov vs) (hrows : Rows2 w' ov vs r.1) (h : r.1.length * 24 ≤ 140737488355328) : IsSheets w' ov r.1 :=
  hrows.sheets hown h
/-- 's[lo:hi]' of a slice of slices. -/
theorem sub_sheets {a : Option Addr} {ss : List (List Int)} {cap lo hi : Nat} (h1 : lo ≤ hi) (h2 : hi ≤ ss.length) (h3 : ss.length ≤ cap) (hs : ss.length * 24 ≤ 140737488355328) :
    ∃ a2, (∀ w', (Instr.slice 22 (.slice a ss.length cap) (some (.int .i64 lo)) (some (.int .i64 hi)) none).run Try.prog w' = .ok (.slice a2 (hi - lo) (cap - lo)) w') ∧
      (lo = 0 → ∀ w', (Instr.slice 22 (.slice a ss.length cap) none (some (.int .i64 hi)) none).run Try.prog w' = .ok (.slice a2 hi cap) w') ∧
      (∀ w', SheetsAt w' a ss → IsSheets w' (.slice a2 (hi - lo) (cap - lo)) ((ss.take hi).drop lo)) := by
  obtain ⟨a2, h4, h4', h5⟩ := run_sub (P := Try.prog) (t := 22) (by kernel_rfl) (fun _ => by kernel_rfl) a ss.length cap lo hi h1 (by omega)
  refine ⟨a2, h4, h4', fun w' hw' => ⟨a2, cap - lo, by simp; omega, by simp; omega, by simp; omega, fun i s hi' => ?_⟩⟩
  rw [List.getElem?_drop, List.getElem?_take] at hi'
  split at hi'
  · rename_i hlt
    obtain ⟨b, o, ha, v, hc, hv⟩ := h5 (fun w' b o i => ∃ v, w'.cell? ⟨b, o, none⟩ = some v ∧ ∀ s, ss[i]? = some s → IsInts w' v s) w' (fun j hj => by
      have hj2 : j < ss.length := by omega
      obtain ⟨b, o, v, ha, hc, hv⟩ := hw' j ss[j] (by simp [hj2])
      exact ⟨b, o, ha, v, hc, fun s hs => by rw [List.getElem?_eq_getElem hj2] at hs; cases hs; exact hv⟩) i (by omega)
    exact ⟨b, o, v, ha, hc, hv s hi'⟩
  · cases hi'
end Go.Proofs.Yteijilbdllpbcaa
namespace Go.Proofs.Yteijilbdllpbcaa
open Go.RowKit

theorem truths2_len {P : Int} {ss : List (List Int)} (h : validB P ss = true) : ∀ i, i ≤ ss.length → (truths2 P.toNat ss i).1.length ≤ 244140625 := by
  obtain ⟨hp1, hp4, _, _, h5⟩ := validB_parts h
  intro i
  induction i with
  | zero => intro _; simp [truths2, truthsR]
  | succ i ih =>
    intro hi
    by_cases h2 : 2 ≤ i
    · rw [truths2_succ h2 (by simp : ss[i]? = some ss[i])]
      have := ih (by omega)
      have h3 := (leastR_len (truths2 P.toNat ss i).1 [ss[i]]).1
      simp only [leave]
      omega
    · have h6 : ∀ s ∈ ss.take (i + 1), s.length ≤ 6 := fun s hs => (h5 s (List.mem_of_mem_take hs)).1
      unfold truths2
      match hss : ss.take (i + 1) with
      | [] => simp [truthsR]
      | [s] => simp [truthsR]
      | [s, t] =>
        rw [hss] at h6
        have h7 := h6 s (by simp)
        have h8 := h6 t (by simp)
        have h9 := (leastR_len (alls P.toNat (s.length + t.length) []) [s, t]).1
        have h10 := alls_len P.toNat (s.length + t.length) []
        have h11 : (P.toNat + 1) ^ (s.length + t.length) ≤ 5 ^ 12 := by
          refine Nat.le_trans (Nat.pow_le_pow_left (by omega) _) (Nat.pow_le_pow_right (by omega) (by omega))
        simp only [truthsR, List.foldl_nil]
        omega
      | s :: t :: u :: rest =>
        have := congrArg List.length hss
        simp at this
        omega
theorem truths2_errs {P : Int} {ss : List (List Int)} : ∀ i, (truths2 P.toNat ss i).2 ≤ 1000 * i := by
  intro i
  induction i with
  | zero => simp [truths2, truthsR]
  | succ i ih =>
    by_cases hi : i < ss.length
    · by_cases h2 : 2 ≤ i
      · rw [truths2_succ h2 (by simp : ss[i]? = some ss[i])]
        have h3 := (leastR_len (truths2 P.toNat ss i).1 [ss[i]]).2
        simp only [leave]
        omega
      · unfold truths2
        match hss : ss.take (i + 1) with
        | [] => simp [truthsR]; omega
        | [s] => simp [truthsR]; omega
        | [s, t] =>
          have h9 := (leastR_len (alls P.toNat (s.length + t.length) []) [s, t]).2
          simp only [truthsR, List.foldl_nil]
          omega
        | s :: t :: u :: rest =>
          have := congrArg List.length hss
          simp at this
          omega
    · have e : truths2 P.toNat ss (i + 1) = truths2 P.toNat ss i := by
        unfold truths2
        rw [take_len (by omega), take_len hi]
      rw [e]; omega
theorem leastR_nonneg (races l : List (List Int)) : 0 ≤ (leastR races l).2 := by
  have : ∀ (rs : List (List Int)) (acc : List (List Int) × Int), 0 ≤ acc.2 → 0 ≤ (rs.foldl (leastStep l) acc).2 := by
    intro rs
    induction rs with
    | nil => intro acc h; exact h
    | cons r rs ih =>
      intro acc h
      refine ih _ ?_
      have h1 := (sumErrs_range r l).1
      unfold leastStep
      by_cases h2 : sumErrs r l < acc.2
      · simp only [h2, if_true]
        split <;> simp <;> omega
      · simp only [h2, if_false]
        split <;> simp <;> omega
  exact this races _ (by simp)
theorem truths2_nonneg {P : Nat} {ss : List (List Int)} : ∀ i, 0 ≤ (truths2 P ss i).2 := by
  have : ∀ (rest : List (List Int)) (acc : List (List Int) × Int), 0 ≤ acc.2 → 0 ≤ (rest.foldl leave acc).2 := by
    intro rest
    induction rest with
    | nil => intro acc h; exact h
    | cons s rest ih => intro acc h; exact ih _ (by have := leastR_nonneg acc.1 [s]; simp only [leave]; omega)
  intro i
  unfold truths2
  match ss.take i with
  | [] => simp [truthsR]
  | [s] => simp [truthsR]
  | s :: t :: rest => exact this rest _ (leastR_nonneg _ _)

set_option maxRecDepth 100000 in
set_option maxHeartbeats 1000000 in
theorem rTruths_any (P : Int) (v : Value) (ss : List (List Int)) (w : World) (hv : IsSheets w v ss) (hval : validB P ss = true) :
    Calls Try.prog 47 #[.agg #[.int .i64 P, v]] w (Sheets3 w (truthsR P.toNat ss)) := by
  obtain ⟨hp1, hp4, hl1, hl4, h5⟩ := validB_parts hval
  have hlong := truths2_long hval
  have hcount := truths2_len hval
  have Hval := Lib.hid hval
  have H5 : Hid (∀ s ∈ ss, s.length ≤ 6 ∧ raceB P s = true) := h5
  have HL : Hid (∀ i, i ≤ ss.length → ∀ r ∈ (truths2 P.toNat ss i).1, r.length ≤ 12) := hlong
  have HC : Hid (∀ i, i ≤ ss.length → (truths2 P.toNat ss i).1.length ≤ 244140625) := hcount
  clear hval h5 hlong hcount
  obtain ⟨a, cap, rfl, hcap, hlen, hrow⟩ := hv
  obtain ⟨b, o, s0, ra, rc, hx0, rfl, hc0, hrc, hr8, hrr⟩ := hrow.get (i := 0) (by omega)
  simp only [Nat.add_zero] at hc0
  have hI0 : IsInts w (.slice ra s0.length rc) s0 := ⟨ra, rc, rfl, hrc, hr8, hrr⟩
  by_cases h1 : ss.length = 1
  · obtain ⟨s, rfl⟩ : ∃ s, ss = [s] := List.length_eq_one_iff.1 h1
    simp at hx0
    subst hx0
    simp only [List.length_singleton] at *
    go_enter Try.func47, Try.ntmps47
    have hlt := lt_of_cell hc0
    go_wp2
    go_ret2
    have hG : Grow w ((w.alloc (.cells #[.int .i64 P, .slice (some ⟨b, o, none⟩) 1 cap] 24)).alloc (.cells #[.slice ra s.length rc] 25)) := ((Grow.refl w).alloc _).alloc _
    refine ⟨_, [.slice ra s.length rc], rfl, Own.new1 (by simp) (by simp), (Rows2.nil _ _).snoc (hI0.grow hG) ?_, hG⟩
    by_cases he : s = []
    · exact .inl he
    · obtain ⟨q, hq, hqlt⟩ := hI0.lt he
      refine .inr fun e => ?_
      rw [hq] at e
      simp [Value.ownBlock] at e
      omega
  · obtain ⟨b', o', s1, sa, sc, hx1, hbo, hc1, hsc, hs8, hsr⟩ := hrow.get (i := 1) (by omega)
    cases hbo
    have hI1 : IsInts w (.slice sa s1.length sc) s1 := ⟨sa, sc, rfl, hsc, hs8, hsr⟩
    have hs0 := (H5.out s0 (List.mem_of_getElem? hx0)).1
    have hs1 := (H5.out s1 (List.mem_of_getElem? hx1)).1
    have he1 : ((ss.length : Int) == 1) = false := by rw [beq_eq_false_iff_ne]; omega
    obtain ⟨a2, hsub0, hsub1, hsub2⟩ := sub_sheets (a := some ⟨b, o, none⟩) (ss := ss) (cap := cap) (lo := 0) (hi := 2) (by omega) (by omega) hcap hlen
    have hsub1 := hsub1 rfl
    simp only [Int.cast_ofNat_Int] at hsub1
    have hi0 : 0 < ss.length := by omega
    have hi1 : (1 : Int) < (ss.length : Int) := by omega
    clear hsub0
    have hT2 : Hid (truths2 P.toNat ss 2 = leastR (alls P.toNat (s0.length + s1.length) []) [s0, s1]) := by
      show _ = _
      unfold truths2
      rw [take_get hx1, take_get hx0]
      simp [truthsR]
    have hd2 : Hid ((ss.take 2).drop 0 = [s0, s1]) := by
      show _ = _
      rw [take_get hx1, take_get hx0]
      simp
    have ha12 := alls_len P.toNat (s0.length + s1.length) []
    have hpw : (P.toNat + 1) ^ (s0.length + s1.length) ≤ 244140625 :=
      Nat.le_trans (Nat.le_trans (Nat.pow_le_pow_left (by omega : P.toNat + 1 ≤ 5) _) (Nat.pow_le_pow_right (by omega) (by omega : s0.length + s1.length ≤ 12))) (by decide)
    obtain ⟨pw, hpw2⟩ : ∃ pw, pw = (P.toNat + 1) ^ (s0.length + s1.length) := ⟨_, rfl⟩
    rw [← hpw2] at hpw ha12
    clear hpw2
    have HA : Hid (([] : List (List Int)).length + (alls P.toNat (s0.length + s1.length) []).length ≤ 244140625) := by show _ ≤ _; simp; omega
    have HLa : Hid (∀ r ∈ alls P.toNat (s0.length + s1.length) [], r.length ≤ 1000) := fun r hr => by have := alls_long _ _ _ r hr; simp at this; omega
    have Hx0 := Lib.hid hx0
    have Hx1 := Lib.hid hx1
    clear hx0 hx1 ha12
    obtain ⟨p, rfl⟩ := Int.eq_ofNat_of_zero_le (show 0 ≤ P by omega)
    simp only [Int.toNat_natCast] at *
    go_enter Try.func47, Try.ntmps47
    go_wp2_with fail
    obtain ⟨W, hW⟩ : ∃ W, W = w.alloc (.cells #[.int .i64 p, .slice (some ⟨b, o, none⟩) ss.length cap] 24) := ⟨_, rfl⟩
    have hgW : Grow w W := by rw [hW]; exact (Grow.refl w).alloc _
    have hW0 : W.cell? ⟨w.heap.size, 0, none⟩ = some (.int .i64 p) := by rw [hW]; simp
    have hW1 : W.cell? ⟨w.heap.size, 1, none⟩ = some (.slice (some ⟨b, o, none⟩) ss.length cap) := by rw [hW]; simp
    rw [← hW]
    have hWc0 := hgW.keeps hc0
    have hWc1 := hgW.keeps hc1
    clear hW
    have hadd : IntKind.i64.wrap ((s0.length : Int) + s1.length) = s0.length + s1.length := IntWalk.i64_in _ (by omega)
    go_region_held3 (fun Wx => Grow W Wx ∧ Wx.cell? ⟨w.heap.size, 0, none⟩ = some (.int .i64 p) ∧ Wx.cell? ⟨w.heap.size, 1, none⟩ = some (.slice (some ⟨b, o, none⟩) ss.length cap) ∧ Wx.cell? ⟨b, o, none⟩ = some (.slice ra s0.length rc) ∧ Wx.cell? ⟨b, o + 1, none⟩ = some (.slice sa s1.length sc)) ((refine (fun (hG : Grow W _) => ⟨hG, Grow.keeps hG (by assumption), Grow.keeps hG (by assumption), Grow.keeps hG (by assumption), Grow.keeps hG (by assumption)⟩) ?_; (try go_split_ands); first | exact (Below.refl _ _).drew | exact ((Grow.refl _).alloc _).drew | exact Grow.alloc (by assumption) _ | exact Below.setCell (Below.setCell (by assumption) (by simp <;> omega) _) (by simp <;> omega) _ | exact Grow.trans (by assumption) (by assumption) | exact Below.trans (by assumption) (by assumption))) ((first | (go_at_call 80; refine (rall_any (s0.length + s1.length) p _ _ _ _ [] _ _ [] [] _ _ (by omega) (by simp) (by simp; omega) ⟨none, 0, rfl, by simp, by simp, fun i x h => by simp at h⟩ (.inl rfl) (fun _ => ⟨0, rfl⟩) (Own.nil _ _ _) (Rows2.nil _ _) (Nat.le_refl _) (by have := HA.out; omega)).mono ?_; rintro e w2 ⟨ov2, vs2, rfl, hown2, hrows2, hgr2, hmv2⟩; have hG2 := Grow.of hgr2) | (go_at_call 79; refine (rleast_any _ _ _ _ _ (hrows2.sheets hown2 (by have := HA.out; simp at this ⊢; omega)) (hsub2 w2 (hrow.grow (hgW.trans ((Grow.refl W).drew.trans hG2)))) (by simp; omega) (by simpa using HLa.out)).mono ?_; rintro e w3 ⟨ov3, vs3, rfl, hown3, hrows3, hG3⟩)))
    rename_i hH
    have hG : Grow w w3 := hgW.trans hH.1
    rw [hd2.out] at hrows3
    have hls : Hid (leastR ([] ++ alls p (s0.length + s1.length) []) [s0, s1] = truths2 p ss 2) := by
      show _ = _
      rw [hT2.out]; rfl
    have hls2 : leastR (alls p (s0.length + s1.length) []) (ss.take 2) = truths2 p ss 2 := by
      have h := hls.out
      rw [← hd2.out] at h
      simpa using h
    rw [hls2]
    rw [hls.out] at hrows3
    have hwp : Own w3 w.heap.size 25 ov3 vs3 := hown3.lower (by have h1 := hgW.size; have h2 := ((Grow.refl W).drew.trans hG2).size; omega)
    have hG3' := Lib.hid hG3
    clear hls2 hadd hgr2 hmv2 hown2 hrows2 hG2 hown3 hG3
    go_wp2_with fail
    go_loopw [4, 5, 6] (fun u n i wr => ∃ (k : Nat) (vsk : List Value) (ok : Value), ok = u ∧ 2 ≤ k ∧ k ≤ ss.length ∧ i = .int .i64 k ∧ n = .int .i64 (truths2 p ss k).2 ∧ Own wr w.heap.size 25 ok vsk ∧ Rows2 wr ok vsk (truths2 p ss k).1 ∧ Grow w wr ∧ wr.cell? ⟨w.heap.size, 0, none⟩ = some (.int .i64 p) ∧ wr.cell? ⟨w.heap.size, 1, none⟩ = some (.slice (some ⟨b, o, none⟩) ss.length cap)) (fun _ _ i _ => ss.length - (intOf i).toNat)
    case atStart => exact ⟨2, _, _, rfl, by omega, by omega, rfl, rfl, hwp, hrows3, hG, hH.2.1, hH.2.2.1⟩
    case round =>
      obtain ⟨k, vsk, ok, rfl, hk2, hk, rfl, rfl, hownk, hrowsk, hgk, hk0, hk1⟩ := hrel
      by_cases hlt : k < ss.length
      · have hlt' := hlt
        obtain ⟨s, hs⟩ : ∃ s, ss[k]? = some s := ⟨ss[k], by simp [hlt]⟩
        obtain ⟨a3, hr3, _, hr4⟩ := sub_sheets (a := some ⟨b, o, none⟩) (ss := ss) (cap := cap) (lo := k) (hi := k + 1) (by omega) (by omega) hcap hlen
        have hd : Hid ((ss.take (k + 1)).drop k = [s]) := by
          show _ = _
          rw [take_get hs, List.drop_append]
          simp [Nat.min_eq_left hk]
        have HT : Hid (truths2 p ss (k + 1) = leave (truths2 p ss k) s) := by
          show _ = _
          exact truths2_succ hk2 hs
        have he1 := truths2_errs (P := (p : Int)) (ss := ss) k
        have he2 := truths2_nonneg (P := p) (ss := ss) k
        simp only [Int.toNat_natCast] at he1
        have hc1 := HC.out k hk
        have hc2 := HL.out k hk
        have Hc2 : Hid (∀ r ∈ (truths2 p ss k).1, r.length ≤ 1000) := fun r hr => by have := hc2 r hr; omega
        have hl1 := leastR_nonneg (truths2 p ss k).1 [s]
        have hl2 := (leastR_len (truths2 p ss k).1 [s]).2
        clear hs hc2
        have hd1 : k + 1 - k = 1 := by omega
        rw [hd1] at hr3 hr4
        simp only [Int.natCast_add, Int.cast_ofNat_Int] at hr3
        go_wp2_with (go_at_call 79; refine (rleast_any _ _ (truths2 p ss k).1 [s] _ (hrowsk.sheets hownk (by omega)) (hd.out ▸ hr4 _ (hrow.grow hgk)) (by simp) Hc2.out).mono ?_; rintro e w4 ⟨ov4, vs4, rfl, hown4, hrows4, hG4⟩)
        exact ⟨⟨k + 1, vs4, ov4, rfl, by omega, by omega, by go_num, by rw [HT.out]; rfl, hown4.lower hgk.size, by rw [HT.out]; exact hrows4, hgk.trans hG4, hG4.keeps hk0, hG4.keeps hk1⟩, by simp [intOf]; omega⟩
      · have h3 : Hid (truths2 p ss k = truthsR p ss) := by
          show _ = _
          unfold truths2
          rw [take_len hlt]
        rw [h3.out] at hrowsk ⊢
        go_wp2_with fail
        go_ret2
        exact ⟨_, _, rfl, hownk, hrowsk, hgk⟩
end Go.Proofs.Yteijilbdllpbcaa
namespace Go.Proofs.Yteijilbdllpbcaa
open Go.RowKit

/-- Which error a count has, if all else is as 'ok' says. -/
def errOf (P : Int) (ss : List (List Int)) (ok : Bool) : Int :=
  if validB P ss = false then 1 else if ok = false then 2 else if (truthsR P.toNat ss).1 = [] then 10 else 0
def truthsE (P : Int) (ss : List (List Int)) (c : Int) : List (List Int) × Int := if c = 0 then truthsR P.toNat ss else ([], 0)
theorem errOf_zero {P : Int} {ss : List (List Int)} {ok : Bool} (h : errOf P ss ok = 0) : validB P ss = true ∧ ok = true ∧ (truthsR P.toNat ss).1 ≠ [] := by
  unfold errOf at h
  cases h1 : validB P ss <;> simp [h1] at h
  cases h2 : ok <;> simp [h2] at h
  exact ⟨rfl, rfl, h⟩
def TruthsPost (w : World) (P : Int) (ss : List (List Int)) (c : Int) (e : Ending) (w' : World) : Prop :=
  ∃ ov vs, e = .returned (.tuple #[ov, .int .i64 (truthsE P ss c).2, .int .i64 c]) ∧ Grow w w' ∧ Own w' w.heap.size 25 ov vs ∧ Rows2 w' ov vs (truthsE P ss c).1

set_option maxRecDepth 100000 in
theorem rtruths_any (P : Int) (v : Value) (ss : List (List Int)) (ok : Bool) (w : World) (hP1 : -9223372036854775808 ≤ P) (hP2 : P ≤ 9223372036854775807) (hv : IsSheets w v ss) :
    Calls Try.prog 45 #[.agg #[.int .i64 P, v], .bool ok] w (TruthsPost w P ss (errOf P ss ok)) := by
  have hv0 := hv
  obtain ⟨a, cap, rfl, hcap, hlen, hrow⟩ := hv
  cases hval : validB P ss
  · have hc : Hid (errOf P ss ok = 1) := by show _ = _; unfold errOf; rw [if_pos hval]
    rw [hc.out]
    go_enter Try.func45, Try.ntmps45
    go_wp2_with (go_at_call 36; refine (rValid_any P _ ss _ hP1 hP2 (hv0.grow ((Grow.refl _).alloc _))).mono ?_; rintro e w1 ⟨rfl, hg1⟩)
    go_ret3
    exact ⟨_, [], rfl, ((Grow.refl w).alloc _).trans hg1, Own.nil _ _ _, Rows2.nil _ _⟩
  cases ok
  · have hc : Hid (errOf P ss false = 2) := by show _ = _; unfold errOf; rw [hval]; rfl
    rw [hc.out]
    go_enter Try.func45, Try.ntmps45
    go_wp2_with (go_at_call 36; refine (rValid_any P _ ss _ hP1 hP2 (hv0.grow ((Grow.refl _).alloc _))).mono ?_; rintro e w1 ⟨rfl, hg1⟩)
    go_ret3
    exact ⟨_, [], rfl, ((Grow.refl w).alloc _).trans hg1, Own.nil _ _ _, Rows2.nil _ _⟩
  have Hval := Lib.hid hval
  clear hval
  have hc2 := truths2_len Hval.out ss.length (Nat.le_refl _)
  have he2 : Hid (truths2 P.toNat ss ss.length = truthsR P.toNat ss) := by show _ = _; unfold truths2; rw [List.take_length]
  rw [he2.out] at hc2
  by_cases hemp : (truthsR P.toNat ss).1 = []
  · have hc : Hid (errOf P ss true = 10) := by show _ = _; unfold errOf; rw [Hval.out]; simp [hemp]
    rw [hc.out]
    have Hemp := Lib.hid hemp
    clear hemp
    go_enter Try.func45, Try.ntmps45
    go_wp2_with first | (go_at_call 36; refine (rValid_any P _ ss _ hP1 hP2 (hv0.grow ((Grow.refl _).alloc _))).mono ?_; rintro e w1 ⟨rfl, hg1⟩; rw [Hval.out]; have hk1 := hg1.cells) | (go_at_call 47; refine (rTruths_any P _ ss _ (hv0.grow (((Grow.refl _).alloc _).trans hg1)) Hval.out).mono ?_; rintro e w2 ⟨ov, vs, rfl, hown, hrows, hg2⟩; rw [Hemp.out] at hrows; obtain rfl : vs = [] := List.eq_nil_of_length_eq_zero hrows.1; obtain ⟨oa, ocap, rfl, _, _, _⟩ := hown.row)
    go_ret3
    exact ⟨_, [], rfl, (((Grow.refl w).alloc _).trans hg1).trans hg2, Own.nil _ _ _, Rows2.nil _ _⟩
  · have hc : Hid (errOf P ss true = 0) := by show _ = _; unfold errOf; rw [Hval.out]; simp [hemp]
    rw [hc.out]
    have hpos : 0 < (truthsR P.toNat ss).1.length := List.length_pos_iff.2 hemp
    clear hemp
    go_enter Try.func45, Try.ntmps45
    go_wp2_with first | (go_at_call 36; refine (rValid_any P _ ss _ hP1 hP2 (hv0.grow ((Grow.refl _).alloc _))).mono ?_; rintro e w1 ⟨rfl, hg1⟩; rw [Hval.out]; have hk1 := hg1.cells) | (go_at_call 47; refine (rTruths_any P _ ss _ (hv0.grow (((Grow.refl _).alloc _).trans hg1)) Hval.out).mono ?_; rintro e w2 ⟨ov, vs, rfl, hown, hrows, hg2⟩; have hl := hrows.1; obtain ⟨oa, ocap, rfl, _, _, _⟩ := hown.row; have hne : ((vs.length : Int) == 0) = false := beq_eq_false_iff_ne.2 (by omega); clear hl)
    go_ret3
    exact ⟨_, vs, rfl, (((Grow.refl w).alloc _).trans hg1).trans hg2, hown.lower (by have := hg1.size; simp at this; omega), hrows⟩
end Go.Proofs.Yteijilbdllpbcaa
namespace Go.Proofs.Yteijilbdllpbcaa
open Go.RowKit

theorem rFewest_any (P : Int) (v : Value) (ss : List (List Int)) (w : World) (hP1 : -9223372036854775808 ≤ P) (hP2 : P ≤ 9223372036854775807) (hv : IsSheets w v ss) :
    Calls Try.prog 14 #[.agg #[.int .i64 P, v]] w fun e w' => e = .returned (.tuple #[.int .i64 (truthsE P ss (errOf P ss true)).2, .int .i64 (errOf P ss true)]) ∧ Grow w w' := by
  have hv0 := hv
  obtain ⟨a, cap, rfl, hcap, hlen, hrow⟩ := hv
  obtain ⟨c, hc⟩ : ∃ c, c = errOf P ss true := ⟨_, rfl⟩
  rw [← hc]
  have Hc := Lib.hid hc
  clear hc
  go_enter Try.func14, Try.ntmps14
  go_wp2_with (go_at_call 45; refine (rtruths_any P _ ss true _ hP1 hP2 (hv0.grow ((Grow.refl _).alloc _))).mono ?_; rintro e w1 ⟨ov, vs, rfl, hg1, hown, hrows⟩; rw [← Hc.out])
  go_ret2
  exact ⟨rfl, ((Grow.refl w).alloc _).trans hg1⟩

def countR (P : Int) (ss : List (List Int)) : Int := if validB P ss = true then (truthsR P.toNat ss).1.length else 0
def validE (P : Int) (ss : List (List Int)) : Int := if validB P ss = true then 0 else 1
theorem rCount_any (P : Int) (v : Value) (ss : List (List Int)) (w : World) (hP1 : -9223372036854775808 ≤ P) (hP2 : P ≤ 9223372036854775807) (hv : IsSheets w v ss) :
    Calls Try.prog 16 #[.agg #[.int .i64 P, v]] w fun e w' => e = .returned (.tuple #[.int .i64 (countR P ss), .int .i64 (validE P ss)]) ∧ Grow w w' := by
  have hv0 := hv
  obtain ⟨a, cap, rfl, hcap, hlen, hrow⟩ := hv
  cases hval : validB P ss
  · rw [show countR P ss = 0 by unfold countR; rw [hval]; rfl, show validE P ss = 1 by unfold validE; rw [hval]; rfl]
    go_enter Try.func16, Try.ntmps16
    go_wp2_with (go_at_call 36; refine (rValid_any P _ ss _ hP1 hP2 (hv0.grow ((Grow.refl _).alloc _))).mono ?_; rintro e w1 ⟨rfl, hg1⟩)
    go_ret2
    exact ⟨rfl, ((Grow.refl w).alloc _).trans hg1⟩
  · rw [show countR P ss = (truthsR P.toNat ss).1.length by unfold countR; rw [hval]; rfl, show validE P ss = 0 by unfold validE; rw [hval]; rfl]
    have Hval := Lib.hid hval
    clear hval
    obtain ⟨n, hn⟩ : ∃ n, n = (truthsR P.toNat ss).1.length := ⟨_, rfl⟩
    rw [← hn]
    have Hn := Lib.hid hn
    clear hn
    go_enter Try.func16, Try.ntmps16
    go_wp2_with first | (go_at_call 36; refine (rValid_any P _ ss _ hP1 hP2 (hv0.grow ((Grow.refl _).alloc _))).mono ?_; rintro e w1 ⟨rfl, hg1⟩; rw [Hval.out]; have hk1 := hg1.cells) | (go_at_call 47; refine (rTruths_any P _ ss _ (hv0.grow (((Grow.refl _).alloc _).trans hg1)) Hval.out).mono ?_; rintro e w2 ⟨ov, vs, rfl, hown, hrows, hg2⟩; obtain ⟨oa, ocap, rfl, _, _, _⟩ := hown.row; have hl := Lib.hid (hrows.1.trans Hn.out.symm); clear hrows)
    go_ret2
    exact ⟨by rw [hl.out]; rfl, (((Grow.refl w).alloc _).trans hg1).trans hg2⟩

def FirstPost (w : World) (c : Int) (l : List Int) (e : Ending) (w' : World) : Prop :=
  ∃ v, e = .returned (.tuple #[v, .int .i64 c]) ∧ Grow w w' ∧ IsInts w' v l
theorem rFirst_any (P : Int) (v : Value) (ss : List (List Int)) (w : World) (hP1 : -9223372036854775808 ≤ P) (hP2 : P ≤ 9223372036854775807) (hv : IsSheets w v ss) :
    Calls Try.prog 18 #[.agg #[.int .i64 P, v]] w (FirstPost w (errOf P ss true) ((truthsE P ss (errOf P ss true)).1.headD [])) := by
  have hv0 := hv
  obtain ⟨a, cap, rfl, hcap, hlen, hrow⟩ := hv
  obtain ⟨c, hc⟩ : ∃ c, c = errOf P ss true := ⟨_, rfl⟩
  rw [← hc]
  by_cases h0 : c = 0
  · have h1 := errOf_zero (by rw [← hc]; exact h0)
    have Hc := Lib.hid hc
    clear hc
    subst h0
    obtain ⟨_, _, h1⟩ := h1
    have hpos : 0 < (truthsE P ss 0).1.length := List.length_pos_iff.2 h1
    obtain ⟨l0, hl0⟩ : ∃ l0, l0 = (truthsE P ss 0).1.headD [] := ⟨_, rfl⟩
    rw [← hl0]
    have Hl0 := Lib.hid hl0
    clear hl0
    go_enter Try.func18, Try.ntmps18
    go_wp2_with fail
    refine (rtruths_any P _ ss true _ hP1 hP2 (hv0.grow ((Grow.refl _).alloc _))).mono ?_
    rw [← Hc.out]
    rintro e w1 ⟨ov, vs, rfl, hg1, hown, hrows⟩
    have hl := hrows.1
    have hz : 0 < vs.length := by omega
    rcases hown.parts with ⟨rfl, hn⟩ | ⟨g, oc, rfl, _, _, hoc, _, hcs, _⟩
    · subst hn; simp at hz
    · have hcell := hcs 0 vs[0] (by simp [hz])
      have hI : IsInts w1 vs[0] l0 := by
        rw [Hl0.out]
        have := (hrows.2 0 vs[0] (truthsE P ss 0).1[0] (by simp [hz]) (by simp [hpos])).1
        rw [List.headD_eq_head?_getD, List.head?_eq_getElem?]
        simpa [hpos] using this
      obtain ⟨x, hx⟩ : ∃ x, x = vs[0] := ⟨_, rfl⟩
      rw [← hx] at hcell hI
      have hz1 : (0 : Int) < (vs.length : Int) := by omega
      clear hx hcs hl hrows hown
      obtain ⟨xa, xc, rfl, _, _, _⟩ := id hI
      go_wp2_with fail
      go_ret2
      exact ⟨_, rfl, ((Grow.refl w).alloc _).trans hg1, hI⟩
  · have hne : (c != 0) = true := by simpa using h0
    have hne2 : (c == 0) = false := by simpa using h0
    have Hc := Lib.hid hc
    have hE : (truthsE P ss c).1.headD [] = [] := by unfold truthsE; rw [if_neg h0]; rfl
    rw [hE]
    clear hE
    clear hc
    go_enter Try.func18, Try.ntmps18
    go_wp2_with (go_at_call 45; refine (rtruths_any P _ ss true _ hP1 hP2 (hv0.grow ((Grow.refl _).alloc _))).mono ?_; rw [← Hc.out]; rintro e w1 ⟨ov, vs, rfl, hg1, hown, hrows⟩)
    go_ret2
    exact ⟨_, rfl, ((Grow.refl w).alloc _).trans hg1, ⟨none, 0, rfl, by simp, by simp, fun i x h => by simp at h⟩⟩
end Go.Proofs.Yteijilbdllpbcaa
namespace Go.Proofs.Yteijilbdllpbcaa
open Go.RowKit

def isE (P : Int) (ss : List (List Int)) (r : List Int) : Int := if validB P ss = false then 1 else if raceB P r = false then 2 else 0
def isR (P : Int) (ss : List (List Int)) (r : List Int) : Bool := if isE P ss r = 0 then (truthsR P.toNat ss).1.contains r else false

theorem rIs_any (P : Int) (v u : Value) (ss : List (List Int)) (r : List Int) (w : World) (hP1 : -9223372036854775808 ≤ P) (hP2 : P ≤ 9223372036854775807) (hv : IsSheets w v ss) (hr : IsInts w u r) :
    Calls Try.prog 20 #[.agg #[.int .i64 P, v], u] w fun e w' => e = .returned (.tuple #[.bool (isR P ss r), .int .i64 (isE P ss r)]) ∧ Grow w w' := by
  have hv0 := hv
  have hr0 := hr
  obtain ⟨a, cap, rfl, hcap, hlen, hrow⟩ := hv
  obtain ⟨ra, rc, rfl, hrc, hr8, hrr⟩ := hr
  cases hval : validB P ss
  · have hc : isE P ss r = 1 := by unfold isE; rw [hval]; rfl
    rw [show isR P ss r = false by unfold isR; rw [hc]; rfl, hc]
    clear hc
    go_enter Try.func20, Try.ntmps20
    go_wp2_with (go_at_call 36; refine (rValid_any P _ ss _ hP1 hP2 (hv0.grow ((Grow.refl _).alloc _))).mono ?_; rintro e w1 ⟨rfl, hg1⟩)
    go_ret2
    exact ⟨rfl, ((Grow.refl w).alloc _).trans hg1⟩
  have Hval := Lib.hid hval
  have hp := (validB_parts hval).1
  clear hval
  cases hrb : raceB P r
  · have hc : isE P ss r = 2 := by unfold isE; rw [Hval.out, hrb]; rfl
    rw [show isR P ss r = false by unfold isR; rw [hc]; rfl, hc]
    clear hc
    go_enter Try.func20, Try.ntmps20
    go_wp2_with first | (go_at_call 36; refine (rValid_any P _ ss _ hP1 hP2 (hv0.grow ((Grow.refl _).alloc _))).mono ?_; rintro e w1 ⟨rfl, hg1⟩; rw [Hval.out]; have hk1 := hg1.cells) | (go_at_call 54; refine (rRace_any P _ _ _ _ r _ hP1 hP2 (by omega) (hr0.grow (((Grow.refl _).alloc _).trans hg1))).mono ?_; rintro e w2 ⟨rfl, hg2⟩)
    go_ret2
    exact ⟨rfl, (((Grow.refl w).alloc _).trans hg1).trans hg2⟩
  have hc : isE P ss r = 0 := by unfold isE; rw [Hval.out, hrb]; rfl
  rw [show isR P ss r = (truthsR P.toNat ss).1.contains r by unfold isR; rw [hc]; rfl, hc]
  have Hrb := Lib.hid hrb
  obtain ⟨T, hT⟩ : ∃ T, T = truthsR P.toNat ss := ⟨_, rfl⟩
  rw [← hT]
  have HT := Lib.hid hT
  have hTl := truths2_len Hval.out ss.length (Nat.le_refl _)
  rw [show truths2 P.toNat ss ss.length = truthsR P.toNat ss by unfold truths2; rw [List.take_length], ← hT] at hTl
  clear hc hrb hT
  go_enter Try.func20, Try.ntmps20
  go_wp2_with fail
  refine (rValid_any P _ ss _ hP1 hP2 (hv0.grow ((Grow.refl _).alloc _))).mono ?_
  rintro e w1 ⟨rfl, hg1⟩
  rw [Hval.out]
  have hk1 := hg1.cells
  go_wp2_with fail
  refine (rRace_any P _ _ _ _ r _ hP1 hP2 (by omega) (hr0.grow (((Grow.refl _).alloc _).trans hg1))).mono ?_
  rintro e w2 ⟨rfl, hg2⟩
  rw [Hrb.out]
  have hk2 := hg2.cells
  have hz1 : w.heap.size < w1.heap.size := by have := hg1.size; simp at this; omega
  go_wp2_with fail
  refine (rTruths_any P _ ss _ (hv0.grow ((((Grow.refl _).alloc _).trans hg1).trans hg2)) Hval.out).mono ?_
  rw [← HT.out]
  rintro e w3 ⟨ov, vs, rfl, hown, hrows, hg3⟩
  have hsh := hrows.sheets hown (by omega)
  have hG : Grow w w3 := ((((Grow.refl _).alloc _).trans hg1).trans hg2).trans hg3
  obtain ⟨oa, oc, rfl, hoc, ho8, hat⟩ := hsh
  have hr3 := hr0.grow hG
  clear hk1 hk2 hown hrows
  go_wp2_with fail
  go_loopw [8] (fun i wr => ∃ k : Nat, k ≤ T.1.length ∧ i = .int .i64 k ∧ (T.1.take k).contains r = false ∧ Grow w3 wr) (fun i _ => T.1.length - (intOf i).toNat)
  case atStart => exact ⟨0, Nat.zero_le _, rfl, rfl, Grow.refl _⟩
  case round =>
    obtain ⟨k, hk, rfl, hno, hgk⟩ := hrel
    by_cases hlt : k < T.1.length
    · obtain ⟨b, o, s, ta, tc, hx, rfl, hc, hsc, hs8, hs⟩ := hat.get hlt
      have hc' := hgk.keeps hc
      have hsI : IsInts wr (.slice ta s.length tc) s := ⟨ta, tc, rfl, hsc, hs8, hs.grow hgk⟩
      have hsn : Hid ((T.1.take (k + 1)).contains r = (s == r)) := by
        show _ = _
        rw [take_get hx, List.contains_append, hno]
        simp only [List.contains_cons, List.contains_nil, Bool.or_false, Bool.false_or]
        exact BEq.comm
      have hyes : Hid (s == r → T.1.contains r = true) := by
        intro h
        have : s = r := by simpa using h
        subst this
        simpa using List.mem_of_getElem? hx
      clear hx hno
      cases hsr : s == r
      all_goals
        have Hsr := Lib.hid hsr
        clear hsr
        go_wp2_with (go_at_call 23; refine (rInts_any _ _ s r _ hsI (hr3.grow hgk)).mono ?_; rintro e w4 ⟨rfl, hg4⟩; rw [Hsr.out])
      · exact ⟨⟨k + 1, by omega, by go_num, by rw [hsn.out, Hsr.out], hgk.trans hg4⟩, by simp [intOf]; omega⟩
      · go_ret2
        exact ⟨by rw [hyes.out Hsr.out]; rfl, (hG.trans hgk).trans hg4⟩
    · have h3 : T.1.take k = T.1 := take_len hlt
      rw [h3] at hno
      have Hno := Lib.hid hno
      clear h3 hno
      go_wp2_with fail
      go_ret2
      exact ⟨by rw [Hno.out]; rfl, hG.trans hgk⟩
end Go.Proofs.Yteijilbdllpbcaa
namespace Go.Proofs.Yteijilbdllpbcaa
open Go.RowKit

/-- The least and the greatest of a number of some things, beginning with that of the first one. -/
def spanStep (f : List Int → Int) (acc : Int × Int) (r : List Int) : Int × Int := (min acc.1 (f r), max acc.2 (f r))
def spanOf (f : List Int → Int) (l : List (List Int)) : Int × Int := l.foldl (spanStep f) (f (l.headD []), f (l.headD []))
def spanTo (f : List Int → Int) (l : List (List Int)) (k : Nat) : Int × Int := (l.take k).foldl (spanStep f) (f (l.headD []), f (l.headD []))
theorem spanTo_succ {f : List Int → Int} {l : List (List Int)} {k : Nat} {r : List Int} (h : l[k]? = some r) : spanTo f l (k + 1) = spanStep f (spanTo f l k) r := by
  unfold spanTo; rw [take_get h]; simp
theorem spanTo_all {f : List Int → Int} {l : List (List Int)} {k : Nat} (h : ¬ k < l.length) : spanTo f l k = spanOf f l := by
  unfold spanTo spanOf; rw [take_len h]
def errorsR (P : Int) (ss : List (List Int)) (i : Int) : Int × Int :=
  if errOf P ss (inB i 0 (ss.length - 1)) = 0 then spanOf (fun r => errs r (ss[i.toNat]?.getD [])) (truthsR P.toNat ss).1 else (0, 0)

set_option maxRecDepth 100000 in
set_option maxHeartbeats 1000000 in
theorem rErrors_any (P : Int) (v : Value) (ss : List (List Int)) (i : Int) (w : World) (hP1 : -9223372036854775808 ≤ P) (hP2 : P ≤ 9223372036854775807) (hv : IsSheets w v ss) :
    Calls Try.prog 22 #[.agg #[.int .i64 P, v], .int .i64 i] w fun e w' => e = .returned (.tuple #[.agg #[.int .i64 (errorsR P ss i).1, .int .i64 (errorsR P ss i).2], .int .i64 (errOf P ss (inB i 0 (ss.length - 1)))]) ∧ Grow w w' := by
  have hv0 := hv
  obtain ⟨a, cap, rfl, hcap, hlen, hrow⟩ := hv
  obtain ⟨c, hc⟩ : ∃ c, c = errOf P ss (inB i 0 (ss.length - 1)) := ⟨_, rfl⟩
  unfold errorsR
  rw [← hc]
  by_cases h0 : c = 0
  · have hz := errOf_zero (by rw [← hc]; exact h0)
    subst h0
    obtain ⟨hval, hin, hne⟩ := hz
    rw [inB_true] at hin
    obtain ⟨i, rfl⟩ := Int.eq_ofNat_of_zero_le hin.1
    have hil : i < ss.length := by omega
    obtain ⟨b, o, s, sa, sc, hx, rfl, hcell, hsc, hs8, hsr⟩ := hrow.get hil
    obtain ⟨T, hT⟩ : ∃ T, T = (truthsR P.toNat ss).1 := ⟨_, rfl⟩
    rw [if_pos rfl, ← hT]
    have hTl := truths2_len hval ss.length (Nat.le_refl _)
    have hTg := truths2_long hval ss.length (Nat.le_refl _)
    rw [show truths2 P.toNat ss ss.length = truthsR P.toNat ss by unfold truths2; rw [List.take_length], ← hT] at hTl hTg
    have hpos : 0 < T.length := List.length_pos_iff.2 (by rw [hT]; exact hne)
    simp only [Int.toNat_natCast, hx, Option.getD_some]
    have HT := Lib.hid hT
    have Hc := Lib.hid hc
    have HTg : Hid (∀ r ∈ T, r.length ≤ 12) := hTg
    have Hx := Lib.hid hx
    obtain ⟨F, hF⟩ : ∃ F, F = fun r => errs r s := ⟨_, rfl⟩
    rw [← hF]
    have HF : Hid (∀ r, F r = errs r s) := by intro r; rw [hF]
    clear hT hc hTg hx hF
    have hin2 : (i : Int) < ss.length := by omega
    go_enter Try.func22, Try.ntmps22
    go_wp2_with fail
    obtain ⟨W, hW⟩ : ∃ W, W = (w.alloc (.cells #[.int .i64 P, .slice (some ⟨b, o, none⟩) ss.length cap] 24)).alloc (.cells #[.int .i64 0, .int .i64 0] 36) := ⟨_, rfl⟩
    have hgW : Grow w W := by rw [hW]; exact ((Grow.refl w).alloc _).alloc _
    have hW0 : W.cell? ⟨w.heap.size, 0, none⟩ = some (.int .i64 P) := by rw [hW]; simp
    have hW1 : W.cell? ⟨w.heap.size, 1, none⟩ = some (.slice (some ⟨b, o, none⟩) ss.length cap) := by rw [hW]; simp
    have hW2 : W.cell? ⟨w.heap.size + 1, 0, none⟩ = some (.int .i64 0) := by rw [hW]; simp
    have hW3 : W.cell? ⟨w.heap.size + 1, 1, none⟩ = some (.int .i64 0) := by rw [hW]; simp
    have hWf : ∀ j, W.frozen? ⟨w.heap.size + 1, j, none⟩ = false := by intro j; rw [hW]; simp
    have hWs : w.heap.size + 1 < W.heap.size := by rw [hW]; simp
    rw [← hW]
    have hWc := hgW.keeps hcell
    clear hW
    have hsub : IntKind.i64.wrap ((ss.length : Int) - 1) = ss.length - 1 := IntWalk.i64_in _ (by omega)
    go_region_held3 (fun Wx => Grow W Wx ∧ Wx.cell? ⟨w.heap.size, 0, none⟩ = some (.int .i64 P) ∧ Wx.cell? ⟨w.heap.size, 1, none⟩ = some (.slice (some ⟨b, o, none⟩) ss.length cap)) ((refine (fun (hG : Grow W _) => ⟨hG, Grow.keeps hG (by assumption), Grow.keeps hG (by assumption)⟩) ?_; (try go_split_ands); first | exact (Below.refl _ _).drew | exact ((Grow.refl _).alloc _).drew | exact Grow.alloc (by assumption) _ | exact Below.setCell (Below.setCell (by assumption) (by simp <;> omega) _) (by simp <;> omega) _ | exact Grow.trans (by assumption) (by assumption) | exact Below.trans (by assumption) (by assumption))) ((first | (go_at_call 60; refine (rin_any _ _ _ _).mono ?_; rintro e w' ⟨rfl, rfl⟩) | (go_at_call 45; refine (rtruths_any P _ ss _ _ hP1 hP2 (hv0.grow (hgW.trans (Grow.refl _).drew))).mono ?_; rw [← Hc.out]; rintro e w3 ⟨ov, vs, rfl, hg3, hown, hrows⟩)))
    rename_i hH
    clear hsub
    have hsh : IsSheets w3 ov T := by
      rw [show (truthsE P ss 0).1 = T from HT.out.symm] at hrows
      exact hrows.sheets hown (by omega)
    obtain ⟨oa, oc, rfl, hoc, ho8, hat⟩ := hsh
    have hG3 : Grow W w3 := hH.1
    clear hown hrows hg3
    obtain ⟨b', o', r0, ra, rc, hx0, rfl, hcr, hrc, hr8, hrr⟩ := hat.get hpos
    simp only [Nat.add_zero] at hcr
    have hsC := hG3.keeps hWc
    have hsI : IsInts w3 (.slice sa s.length sc) s := ⟨sa, sc, rfl, hsc, hs8, hsr.grow (hgW.trans hG3)⟩
    have hI0 : IsInts w3 (.slice ra r0.length rc) r0 := ⟨ra, rc, rfl, hrc, hr8, hrr⟩
    have hd : Hid (T.headD [] = r0) := by show _ = _; rw [List.headD_eq_head?_getD, List.head?_eq_getElem?, hx0]; rfl
    have hc30 := hH.2.1
    have hc31 := hH.2.2
    clear hx0
    go_wp2_with fail
    go_region_held3 (fun Wx => Grow w3 Wx ∧ Wx.cell? ⟨w.heap.size, 0, none⟩ = some (.int .i64 P) ∧ Wx.cell? ⟨w.heap.size, 1, none⟩ = some (.slice (some ⟨b, o, none⟩) ss.length cap) ∧ Wx.cell? ⟨b, o + i, none⟩ = some (.slice sa s.length sc) ∧ Wx.cell? ⟨b', o', none⟩ = some (.slice ra r0.length rc)) ((refine (fun (hG : Grow w3 _) => ⟨hG, Grow.keeps hG (by assumption), Grow.keeps hG (by assumption), Grow.keeps hG (by assumption), Grow.keeps hG (by assumption)⟩) ?_; (try go_split_ands); first | exact (Below.refl _ _).drew | exact ((Grow.refl _).alloc _).drew | exact Grow.alloc (by assumption) _ | exact Below.setCell (Below.setCell (by assumption) (by simp <;> omega) _) (by simp <;> omega) _ | exact Grow.trans (by assumption) (by assumption) | exact Below.trans (by assumption) (by assumption))) ((go_at_call 32; refine (rErrs_any _ _ _ _ _ (hI0.grow (Grow.refl _).drew) (hsI.grow (Grow.refl _).drew)).mono ?_; rintro e w4 ⟨rfl, hg4⟩))
    rename_i hH4
    rw [← HF.out r0]
    have hG4 : Grow w3 w4 := hH4.1
    go_wp2_with fail
    have hsz4 := hG4.size
    go_loopw [11] (fun i' wr => ∃ k : Nat, k ≤ T.length ∧ i' = .int .i64 k ∧ Grow w3 wr ∧ w4.heap.size < wr.heap.size ∧ wr.cell? ⟨w4.heap.size, 0, none⟩ = some (.int .i64 (spanTo F T k).1) ∧ wr.cell? ⟨w4.heap.size, 1, none⟩ = some (.int .i64 (spanTo F T k).2) ∧ (∀ j, wr.frozen? ⟨w4.heap.size, j, none⟩ = false)) (fun i' _ => T.length - (intOf i').toNat)
    case atStart =>
      refine ⟨0, Nat.zero_le _, rfl, hG4.alloc _, by simp, ?_, ?_, by intro j; simp⟩
      · have := hd.out; simp only [spanTo, this]; simp
      · have := hd.out; simp only [spanTo, this]; simp
    case round =>
      obtain ⟨k, hk, rfl, hgk, hgs, hlo, hhi, hfr⟩ := hrel
      by_cases hlt : k < T.length
      · obtain ⟨b2, o2, r, rra, rrc, hxk, hbo, hck, hrrc, hrr8, hrrr⟩ := hat.get hlt
        cases hbo
        have hckk := hgk.keeps hck
        have hrI : IsInts wr (.slice rra r.length rrc) r := ⟨rra, rrc, rfl, hrrc, hrr8, hrrr.grow hgk⟩
        have hsIk := hsI.grow hgk
        have hcs := hgk.keeps hsC
        have hcw0 := hgk.keeps hc30
        have hcw1 := hgk.keeps hc31
        have hsp : Hid (spanTo F T (k + 1) = spanStep F (spanTo F T k) r) := spanTo_succ hxk
        obtain ⟨lo, hlo'⟩ : ∃ lo, lo = (spanTo F T k).1 := ⟨_, rfl⟩
        obtain ⟨hi, hhi'⟩ : ∃ hi, hi = (spanTo F T k).2 := ⟨_, rfl⟩
        rw [← hlo'] at hlo
        rw [← hhi'] at hhi
        have Hlo := Lib.hid hlo'
        have Hhi := Lib.hid hhi'
        clear hxk hlo' hhi'
        go_wp2_with fail
        go_region_held3 (fun Wx => Grow wr Wx ∧ Wx.cell? ⟨w.heap.size, 0, none⟩ = some (.int .i64 P) ∧ Wx.cell? ⟨w.heap.size, 1, none⟩ = some (.slice (some ⟨b, o, none⟩) ss.length cap) ∧ Wx.cell? ⟨b, o + i, none⟩ = some (.slice sa s.length sc) ∧ Wx.cell? ⟨b', o' + k, none⟩ = some (.slice rra r.length rrc)) ((refine (fun (hG : Grow wr _) => ⟨hG, Grow.keeps hG (by assumption), Grow.keeps hG (by assumption), Grow.keeps hG (by assumption), Grow.keeps hG (by assumption)⟩) ?_; (try go_split_ands); first | exact (Below.refl _ _).drew | exact ((Grow.refl _).alloc _).drew | exact Grow.alloc (by assumption) _ | exact Below.setCell (Below.setCell (by assumption) (by simp <;> omega) _) (by simp <;> omega) _ | exact Grow.trans (by assumption) (by assumption) | exact Below.trans (by assumption) (by assumption))) ((go_at_call 32; refine (rErrs_any _ _ _ _ _ (hrI.grow (Grow.refl _).drew) (hsIk.grow (Grow.refl _).drew)).mono ?_; rintro e w5 ⟨rfl, hg5⟩))
        rename_i hH5
        rw [← HF.out r]
        have hG5 : Grow wr w5 := hH5.1
        have hlo5 := hG5.keeps hlo
        have hhi5 := hG5.keeps hhi
        have hfr5 : ∀ j, w5.frozen? ⟨w4.heap.size, j, none⟩ = false := fun j => (hG5.marks _ _ hgs).trans (hfr j)
        go_wp2_with fail
        obtain ⟨q0, q1, q2, q3⟩ := cells2 (x := .int .i64 (if F r < lo then F r else lo)) (y := .int .i64 (if hi < F r then F r else hi)) hlo5 hhi5
        refine ⟨⟨k + 1, by omega, by go_num, ?_, by rw [q3]; have := hG5.size; omega, ?_, ?_, fun j => (q2 _).trans (hfr5 j)⟩, by simp [intOf]; omega⟩
        · exact ((hgk.trans hG5).setCell hsz4 _).setCell hsz4 _
        · rw [q0, hsp.out]; simp only [spanStep, ← Hlo.out, Int.min_def]; congr 2; split <;> split <;> omega
        · rw [q1, hsp.out]; simp only [spanStep, ← Hhi.out, Int.max_def]; congr 2; split <;> split <;> omega
      · rw [spanTo_all hlt] at hlo hhi
        have h2 := hgk.keeps (hG3.keeps hW2)
        have h3 := hgk.keeps (hG3.keeps hW3)
        have h4 : ∀ j, wr.frozen? ⟨w.heap.size + 1, j, none⟩ = false := fun j => (hgk.marks _ _ (Nat.lt_of_lt_of_le hWs hG3.size)).trans ((hG3.marks _ _ hWs).trans (hWf j))
        go_wp2_with fail
        refine bodyPost_ret (v := .tuple #[.agg #[.int .i64 (spanOf F T).1, .int .i64 (spanOf F T).2], .int .i64 0]) (by simp [results, Try.results22, go_sem, h2, h3]) rfl ⟨rfl, ?_⟩
        have := (hgW.trans hG3).trans hgk
        exact (this.setCell (by simp) _).setCell (by simp) _
  · rw [if_neg h0]
    have hne : (c != 0) = true := by simpa using h0
    have hne2 : (c == 0) = false := by simpa using h0
    have Hc := Lib.hid hc
    clear hc
    go_enter Try.func22, Try.ntmps22
    go_wp2_with fail
    obtain ⟨W, hW⟩ : ∃ W, W = (w.alloc (.cells #[.int .i64 P, .slice a ss.length cap] 24)).alloc (.cells #[.int .i64 0, .int .i64 0] 36) := ⟨_, rfl⟩
    have hgW : Grow w W := by rw [hW]; exact ((Grow.refl w).alloc _).alloc _
    have hW0 : W.cell? ⟨w.heap.size, 0, none⟩ = some (.int .i64 P) := by rw [hW]; simp
    have hW1 : W.cell? ⟨w.heap.size, 1, none⟩ = some (.slice a ss.length cap) := by rw [hW]; simp
    have hW2 : W.cell? ⟨w.heap.size + 1, 0, none⟩ = some (.int .i64 0) := by rw [hW]; simp
    have hW3 : W.cell? ⟨w.heap.size + 1, 1, none⟩ = some (.int .i64 0) := by rw [hW]; simp
    have hWf : ∀ j, W.frozen? ⟨w.heap.size + 1, j, none⟩ = false := by intro j; rw [hW]; simp
    have hWs : w.heap.size + 1 < W.heap.size := by rw [hW]; simp
    rw [← hW]
    clear hW
    have hsub : IntKind.i64.wrap ((ss.length : Int) - 1) = ss.length - 1 := IntWalk.i64_in _ (by omega)
    go_region_held3 (fun Wx => Grow W Wx ∧ Wx.cell? ⟨w.heap.size, 0, none⟩ = some (.int .i64 P) ∧ Wx.cell? ⟨w.heap.size, 1, none⟩ = some (.slice a ss.length cap)) ((refine (fun (hG : Grow W _) => ⟨hG, Grow.keeps hG (by assumption), Grow.keeps hG (by assumption)⟩) ?_; (try go_split_ands); first | exact (Below.refl _ _).drew | exact ((Grow.refl _).alloc _).drew | exact Grow.alloc (by assumption) _ | exact Below.setCell (Below.setCell (by assumption) (by simp <;> omega) _) (by simp <;> omega) _ | exact Grow.trans (by assumption) (by assumption) | exact Below.trans (by assumption) (by assumption))) ((first | (go_at_call 60; refine (rin_any _ _ _ _).mono ?_; rintro e w' ⟨rfl, rfl⟩) | (go_at_call 45; refine (rtruths_any P _ ss _ _ hP1 hP2 (hv0.grow (hgW.trans (Grow.refl _).drew))).mono ?_; rw [← Hc.out]; rintro e w3 ⟨ov, vs, rfl, hg3, hown, hrows⟩)))
    rename_i hH
    clear hsub
    have hG3 : Grow W w3 := hH.1
    have h2 := hG3.keeps hW2
    have h3 := hG3.keeps hW3
    have h4 : ∀ j, w3.frozen? ⟨w.heap.size + 1, j, none⟩ = false := fun j => (hG3.marks _ _ hWs).trans (hWf j)
    go_wp2_with fail
    refine bodyPost_ret (v := .tuple #[.agg #[.int .i64 0, .int .i64 0], .int .i64 c]) (by simp [results, Try.results22, go_sem, h2, h3]) rfl ⟨rfl, ?_⟩
    exact ((hgW.trans hG3).setCell (by simp) _).setCell (by simp) _
end Go.Proofs.Yteijilbdllpbcaa
