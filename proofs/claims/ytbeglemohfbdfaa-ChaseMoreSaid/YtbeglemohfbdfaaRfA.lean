/- The reference of layer 7, its small functions: in, Pair, Chase, Ints, Size; the law's long. Conditions: the sizes that a slice's reading gives. -/
import Derived.Test.YtbeglemohfbdfaaQpZ
namespace Go.Proofs.Ytbeglemohfbdfaa
open Go.RowKit

theorem rin_any (n lo hi : Int) (w : World) :
    Calls Try.prog 63 #[.int .i64 n, .int .i64 lo, .int .i64 hi] w fun e w' => e = .returned (.bool (inB n lo hi)) ∧ w = w' := by
  by_cases h1 : lo ≤ n
  · by_cases h2 : n ≤ hi
    · rw [show inB n lo hi = true from inB_true.2 ⟨h1, h2⟩]
      go_enter Try.func63, Try.ntmps63
      go_wp2
      go_ret
      exact ⟨rfl, rfl⟩
    · rw [show inB n lo hi = false from inB_false.2 (by omega)]
      go_enter Try.func63, Try.ntmps63
      go_wp2
      go_ret
      exact ⟨rfl, rfl⟩
  · rw [show inB n lo hi = false from inB_false.2 (by omega)]
    go_enter Try.func63, Try.ntmps63
    go_wp2
    go_ret
    exact ⟨rfl, rfl⟩

theorem lists_snoc (ss : List (List Int)) (s : List Int) : (ss ++ [s]).all listB = (ss.all listB && listB s) := by simp
theorem lists_no {ss : List (List Int)} {k : Nat} {s : List Int} (hx : ss[k]? = some s) (h : listB s = false) : ss.all listB = false := by
  rw [List.all_eq_false]
  exact ⟨s, List.mem_of_getElem? hx, by simp [h]⟩
set_option maxRecDepth 100000 in
set_option maxHeartbeats 1000000 in
theorem rChase_any (E F : Int) (v : Value) (ss : List (List Int)) (w : World) (hv : IsSheets w v ss) :
    Calls Try.prog 29 #[.agg #[.int .i64 E, .int .i64 F, v]] w fun e w' => e = .returned (.bool (validB E F ss)) ∧ Grow w w' := by
  obtain ⟨a, cap, rfl, hcap, hlen, hrow⟩ := hv
  unfold validB
  cases hP : inB E 0 3
  · go_enter Try.func29, Try.ntmps29
    go_wp2_with (go_at_call 63; refine (rin_any _ _ _ _).mono ?_; rintro e w' ⟨rfl, rfl⟩)
    go_ret
    exact ⟨rfl, (Grow.refl _).alloc _⟩
  cases hL : inB ss.length 1 6
  · go_enter Try.func29, Try.ntmps29
    go_wp2_with (go_at_call 63; refine (rin_any _ _ _ _).mono ?_; rintro e w' ⟨rfl, rfl⟩)
    go_ret
    exact ⟨rfl, (Grow.refl _).alloc _⟩
  cases hF : inB F 1 ss.length
  · go_enter Try.func29, Try.ntmps29
    go_wp2_with (go_at_call 63; refine (rin_any _ _ _ _).mono ?_; rintro e w' ⟨rfl, rfl⟩)
    go_ret
    exact ⟨rfl, (Grow.refl _).alloc _⟩
  have Hrow := Lib.hid hrow
  clear hrow
  go_enter Try.func29, Try.ntmps29
  go_wp2_with (go_at_call 63; refine (rin_any _ _ _ _).mono ?_; rintro e w' ⟨rfl, rfl⟩)
  have hc2 : (w.alloc (.cells #[.int .i64 E, .int .i64 F, .slice a ss.length cap] 32)).cell? ⟨w.heap.size, 2, none⟩ = some (.slice a ss.length cap) := cell_new rfl rfl
  have hgw : Grow w (w.alloc (.cells #[.int .i64 E, .int .i64 F, .slice a ss.length cap] 32)) := (Grow.refl w).alloc _
  obtain ⟨W, hW⟩ : ∃ z, w.alloc (.cells #[.int .i64 E, .int .i64 F, .slice a ss.length cap] 32) = z := ⟨_, rfl⟩
  rw [hW] at hc2 hgw
  rw [hW]
  clear hW
  go_loop [3] (fun i => ∃ k : Nat, k ≤ ss.length ∧ i = .int .i64 k ∧ ((ss.take k).all listB = true)) (fun i => ss.length - (intOf i).toNat)
  case atStart => exact ⟨0, Nat.zero_le _, rfl, rfl⟩
  case round =>
    obtain ⟨k, hk, rfl, hr⟩ := hrel
    have Hr : Hid ((ss.take k).all listB = true) := hr
    clear hr
    by_cases hlt : k < ss.length
    · obtain ⟨b, o, s, ta, tc, hx, rfl, hc, hsc, hs8, hs⟩ := Hrow.out.get hlt
      have hc' := hgw.keeps hc
      have Hx : Hid (ss[k]? = some s) := hx
      have Hs := Lib.hid (hs.grow hgw)
      clear hx hs hc
      cases h6 : inB s.length 1 3
      · have ht' : listB s = false := by unfold listB; rw [h6]; rfl
        have H6 := Lib.hid h6
        have Ht := Lib.hid ht'
        clear h6 ht'
        go_wp2_with (go_at_call 63; refine (rin_any _ _ _ _).mono ?_; rintro e w' ⟨rfl, rfl⟩; rw [H6.out])
        go_ret
        exact ⟨by rw [lists_no Hx.out Ht.out]; rfl, hgw⟩
      · have H6 := Lib.hid h6
        have hs3 := inB_true.1 h6
        clear h6
        have hsl : s.length ≤ 3 := by omega
        go_wp2_with (go_at_call 63; refine (rin_any _ _ _ _).mono ?_; rintro e w' ⟨rfl, rfl⟩; rw [H6.out])
        go_loop [4] (fun i => ∃ m : Nat, m ≤ s.length ∧ i = .int .i64 m ∧ ((s.take m).all fun n => inB n 0 200) = true) (fun i => s.length - (intOf i).toNat)
        case atStart => exact ⟨0, Nat.zero_le _, rfl, rfl⟩
        case round =>
          obtain ⟨m, hm, rfl, hq⟩ := hrel
          have Hq := Lib.hid hq
          clear hq
          by_cases hlm : m < s.length
          · obtain ⟨b2, o2, x, hx, rfl, hcx⟩ := Hs.out.int hlm
            have HX := Lib.hid hx
            clear hx
            cases h7 : inB x 0 200
            · have H7 := Lib.hid h7
              have ht' : listB s = false := by
                unfold listB
                rw [H6.out, Bool.true_and, List.all_eq_false]
                exact ⟨x, List.mem_of_getElem? HX.out, by rw [h7]; decide⟩
              have Ht := Lib.hid ht'
              clear h7 ht'
              go_wp2_with (go_at_call 63; refine (rin_any _ _ _ _).mono ?_; rintro e w' ⟨rfl, rfl⟩; rw [H7.out])
              go_ret
              exact ⟨by rw [lists_no Hx.out Ht.out]; rfl, hgw⟩
            · have H7 := Lib.hid h7
              clear h7
              go_wp2_with (go_at_call 63; refine (rin_any _ _ _ _).mono ?_; rintro e w' ⟨rfl, rfl⟩; rw [H7.out])
              exact ⟨⟨m + 1, by omega, by go_num, by rw [take_get HX.out, List.all_append, Hq.out]; simp [H7.out]⟩, by simp [intOf]; omega⟩
          · have h3 : Hid (s.take m = s) := take_len hlm
            have hq := Hq.out
            rw [h3.out] at hq
            have ht' : listB s = true := by unfold listB; rw [H6.out, hq]; rfl
            have Ht := Lib.hid ht'
            clear hq ht'
            go_wp2_with fail
            exact ⟨⟨k + 1, by omega, by go_num, by rw [take_get Hx.out, lists_snoc, Hr.out, Ht.out]; rfl⟩, by simp [intOf]; omega⟩
    · have h3 : Hid (ss.take k = ss) := take_len hlt
      have hr := Hr.out
      rw [h3.out] at hr
      have Hr2 := Lib.hid hr
      clear hr
      go_wp2_with fail
      go_ret
      exact ⟨by rw [Hr2.out]; rfl, hgw⟩
theorem rInts_any (v u : Value) (l m : List Int) (w : World) (hv : IsInts w v l) (hu : IsInts w u m) :
    Calls Try.prog 35 #[v, u] w fun e w' => e = .returned (.bool (l == m)) ∧ Grow w w' := by
  obtain ⟨a, cap, rfl, hcap, hlen, hrow⟩ := hv
  obtain ⟨a', cap', rfl, hcap', hlen', hrow'⟩ := hu
  by_cases hll : l.length = m.length
  · go_enter Try.func35, Try.ntmps35
    have hn : ((l.length : Int) != (m.length : Int)) = false := by simp [hll]
    have HL : Hid (l.length = m.length) := hll
    clear hll
    go_wp2
    go_loopw [5] (fun i wr => ∃ k : Nat, k ≤ l.length ∧ i = .int .i64 k ∧ (l.take k = m.take k) ∧ Grow w wr) (fun i _ => l.length - (intOf i).toNat)
    case atStart => exact ⟨0, Nat.zero_le _, rfl, rfl, Grow.refl _⟩
    case round =>
      obtain ⟨k, hk, rfl, hr, hg⟩ := hrel
      have Hr : Hid (l.take k = m.take k) := hr
      clear hr
      by_cases hlt : k < l.length
      · have hlt' : k < m.length := by rw [← HL.out]; exact hlt
        obtain ⟨b, o, x, hx, rfl, hc⟩ := hrow.int hlt
        obtain ⟨b', o', x', hx', rfl, hc'⟩ := hrow'.int hlt'
        have hc := hg.keeps hc
        have hc' := hg.keeps hc'
        have Hx : Hid (l[k]? = some x) := hx
        have Hx' : Hid (m[k]? = some x') := hx'
        clear hx hx'
        go_wp2
        go_region_held3 (fun Wx => Grow wr Wx ∧ Wx.cell? ⟨b, o + k, none⟩ = some (.int .i64 x) ∧ Wx.cell? ⟨b', o' + k, none⟩ = some (.int .i64 x')) ((refine (fun (hG : Grow wr _) => ⟨hG, Grow.keeps hG (by assumption), Grow.keeps hG (by assumption)⟩) ?_; (try go_split_ands); first | exact (Below.refl _ _).drew | exact ((Grow.refl _).alloc _).drew | exact Grow.alloc (by assumption) _ | exact Below.setCell (Below.setCell (by assumption) (by simp <;> omega) _) (by simp <;> omega) _ | exact Grow.trans (by assumption) (by assumption) | exact Below.trans (by assumption) (by assumption))) (fail)
        go_wp2
        · rename_i hH ht
          have hne : (l == m) = false := by
            rw [beq_eq_false_iff_ne]; rintro rfl
            have := Hx.out.symm.trans Hx'.out
            simp at this; subst this; simp at ht
          go_ret
          exact ⟨by rw [hne]; rfl, hg.trans hH.1⟩
        · rename_i hH ht
          have hxx : x = x' := by simpa using ht
          exact ⟨⟨k + 1, by omega, by go_num, by rw [take_get Hx.out, take_get Hx'.out, Hr.out, hxx], hg.trans hH.1⟩, by simp [intOf]; omega⟩
      · have h3 : Hid (l = m) := by
          have e1 := take_len hlt
          have e2 : m.take k = m := take_len (by rw [← HL.out]; exact hlt)
          exact (e1.symm.trans Hr.out).trans e2
        go_wp2
        go_ret
        exact ⟨by rw [h3.out]; simp, hg⟩
  · have hn : ((l.length : Int) != (m.length : Int)) = true := by simp; omega
    have hne : Hid ((l == m) = false) := beq_eq_false_iff_ne.2 (fun h => hll (by rw [h]))
    clear hll
    go_enter Try.func35, Try.ntmps35
    go_wp2
    go_ret
    exact ⟨by rw [hne.out]; rfl, Grow.refl _⟩
theorem rSize_any (n : Nat) (hn : n < 8) (w : World) :
    Calls Try.prog 32 #[.int .i64 n] w fun e w' => e = .returned (.int .i64 (sizeN n)) ∧ Grow w w' := by
  go_enter Try.func32, Try.ntmps32
  go_wp2_with fail
  go_loop [0, 3] (fun m c => ∃ a b : Nat, m = .int .i64 a ∧ c = .int .i64 b ∧ a < 8 ∧ b + sizeN a = sizeN n) (fun m _ => (intOf m).toNat)
  case atStart => exact ⟨n, 0, rfl, rfl, hn, by omega⟩
  case round =>
    obtain ⟨a, b, rfl, rfl, ha, he⟩ := hrel
    unfold sizeN at he
    by_cases h0 : 0 < a
    · obtain ⟨x, hx⟩ : ∃ x : Nat, a % 2 = x := ⟨_, rfl⟩
      obtain ⟨y, hy⟩ : ∃ y : Nat, a / 2 = y := ⟨_, rfl⟩
      have hx2 : (a : Int).tmod 2 = (x : Int) := by rw [← hx]; exact (Int.ofNat_tmod a 2).symm
      have hy2 : (a : Int).tdiv 2 = (y : Int) := by rw [← hy]; exact (Int.ofNat_tdiv a 2).symm
      go_wp2_with fail
      refine ⟨⟨y, b + x, ?_, ?_, by omega, ?_⟩, ?_⟩
      · first | rfl | go_num
      · first | rfl | go_num
      · unfold sizeN; omega
      · simp [intOf]; omega
    · obtain rfl : a = 0 := by omega
      have hb : (b : Int) = (sizeN n : Int) := by unfold sizeN; omega
      go_wp2_with fail
      go_ret
      exact ⟨rfl, Grow.refl _⟩
end Go.Proofs.Ytbeglemohfbdfaa
