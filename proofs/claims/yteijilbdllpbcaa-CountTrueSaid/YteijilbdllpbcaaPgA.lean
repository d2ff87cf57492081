/- The program of layer 1, its small functions: within, want, isPair, isRace. Conditions: the sizes that a slice's reading gives. -/
import Derived.Test.YteijilbdllpbcaaRefA
import Derived.Test.YteijilbdllpbcaaLibB
import Derived.Test.YteijilbdllpbcaaLibX
import Derived.Deep.RegionWith
import Derived.Laws.CopyOwn
namespace Go.Proofs.Yteijilbdllpbcaa
open Go.RowKit

theorem pwithin_any (n lo hi : Int) (w : World) :
    Calls Try.prog 56 #[.int .i64 n, .int .i64 lo, .int .i64 hi] w fun e w' => e = .returned (.bool (inB n lo hi)) ∧ w = w' := by
  by_cases h1 : lo ≤ n
  · by_cases h2 : n ≤ hi
    · rw [show inB n lo hi = true from inB_true.2 ⟨h1, h2⟩]
      go_enter Try.func56, Try.ntmps56
      go_wp2
      go_ret
      exact ⟨rfl, rfl⟩
    · rw [show inB n lo hi = false from inB_false.2 (by omega)]
      go_enter Try.func56, Try.ntmps56
      go_wp2
      go_ret
      exact ⟨rfl, rfl⟩
  · rw [show inB n lo hi = false from inB_false.2 (by omega)]
    go_enter Try.func56, Try.ntmps56
    go_wp2
    go_ret
    exact ⟨rfl, rfl⟩
/-- The panic of what is not valid. -/
def refusal (c : Int) : List PanicEntry := [{ v := .iface 101 (.agg #[.int .i64 c]), recovered := false }]
theorem pwant_yes (c : Int) (w : World) :
    Calls Try.prog 72 #[.bool true, .int .i64 c] w fun e w' => e = .returned (.tuple #[]) ∧ w = w' := by
  go_enter Try.func72, Try.ntmps72
  go_wp2
  go_end0
  exact ⟨rfl, rfl⟩
theorem pwant_no (c : Int) (w : World) :
    Calls Try.prog 72 #[.bool false, .int .i64 c] w fun e w' => e = .panicked (refusal c) ∧ w = w' := by
  have hp : ∀ (v : Value) (w : World), (Instr.panic (.iface 101 v)).run Try.prog w = .halt (.panic (.iface 101 v)) w := fun _ _ => rfl
  go_enter Try.func72, Try.ntmps72
  go_wp2
  exact ⟨rfl, rfl, rfl⟩

theorem pisPair_any (P : Int) (sa : Option Addr) (sn sc : Nat) (n : Int) (w : World) (h1 : -9223372036854775808 ≤ P) (h2 : P ≤ 9223372036854775807) (h3 : -9223372036854775808 < P) :
    Calls Try.prog 62 #[.agg #[.int .i64 P, .slice sa sn sc], .int .i64 n] w fun e w' => e = .returned (.bool (inB n 0 (P - 1))) ∧ Grow w w' := by
  go_enter Try.func62, Try.ntmps62
  go_wp2_with (go_at_call 56; refine (pwithin_any _ _ _ _).mono ?_; rintro e w' ⟨rfl, rfl⟩)
  go_ret
  exact ⟨rfl, (Grow.refl _).alloc _⟩

theorem pisRace1_any (P : Int) (sa : Option Addr) (sn sc : Nat) (n : Int) (c : Nat) (w : World) (h1 : -9223372036854775808 ≤ P) (h2 : P ≤ 9223372036854775807) (h3 : -9223372036854775808 < P)
    (hc0 : w.cell? ⟨c, 0, none⟩ = some (.int .i64 P)) (hc1 : w.cell? ⟨c, 1, none⟩ = some (.slice sa sn sc)) :
    Calls Try.prog 83 #[.int .i64 n, .pointer (some ⟨c, 0, none⟩)] w fun e w' => e = .returned (.bool (!inB n 0 (P - 1))) ∧ Grow w w' := by
  go_enter Try.func83, Try.ntmps83
  go_wp2_with (go_at_call 62; refine (pisPair_any _ _ _ _ _ _ h1 h2 h3).mono ?_; rintro e w' ⟨rfl, hg⟩)
  go_ret
  exact ⟨rfl, hg⟩

def firstBad (P : Int) (l : List Int) : Int := if raceB P l then -1 else (l.findIdx fun n => !inB n 0 (P - 1))
theorem pIndexFunc_any (P : Int) (sa : Option Addr) (sn sc : Nat) (v : Value) (l : List Int) (c : Nat) (w : World) (h1 : -9223372036854775808 ≤ P) (h2 : P ≤ 9223372036854775807) (h3 : -9223372036854775808 < P)
    (hv : IsInts w v l) (hc0 : w.cell? ⟨c, 0, none⟩ = some (.int .i64 P)) (hc1 : w.cell? ⟨c, 1, none⟩ = some (.slice sa sn sc)) :
    Calls Try.prog 93 #[v, .func (.func 83) #[] #[.pointer (some ⟨c, 0, none⟩)]] w fun e w' => (∃ k : Int, e = .returned (.int .i64 k) ∧ decide (k ≥ 0) = !raceB P l) ∧ Grow w w' := by
  obtain ⟨a, cap, rfl, hcap, hlen, hrow⟩ := hv
  go_enter Try.func93, Try.ntmps93
  go_wp2_with fail
  go_loopw [8] (fun i wr => ∃ k : Nat, k ≤ l.length ∧ i = .int .i64 k ∧ raceB P (l.take k) = true ∧ Grow w wr) (fun i _ => l.length - (intOf i).toNat)
  case atStart => exact ⟨0, Nat.zero_le _, rfl, rfl, Grow.refl _⟩
  case round =>
    obtain ⟨k, hk, rfl, hr, hg⟩ := hrel
    have Hr := Lib.hid hr
    clear hr
    by_cases hlt : k < l.length
    · obtain ⟨b, o, x, hx, rfl, hc⟩ := hrow.int hlt
      have hc' := hg.keeps hc
      have hd0 := hg.keeps hc0
      have hd1 := hg.keeps hc1
      have Hx := Lib.hid hx
      clear hx
      cases hin : inB x 0 (P - 1)
      all_goals
        go_wp2_with (go_at_call 83; refine (pisRace1_any P _ _ _ _ _ _ h1 h2 h3 hd0 hd1).mono ?_; rintro e w' ⟨rfl, hg'⟩; rw [hin])
      · go_ret
        exact ⟨⟨_, rfl, by rw [raceB_no Hx.out hin]; simp⟩, hg.trans hg'⟩
      · exact ⟨⟨k + 1, by omega, by go_num, by rw [take_get Hx.out, raceB_snoc, Hr.out, hin]; rfl, hg.trans hg'⟩, by simp [intOf]; omega⟩
    · have hrr : Hid (raceB P l = true) := by
        have := Hr.out
        rw [take_len hlt] at this
        exact this
      go_wp2_with fail
      go_ret
      exact ⟨⟨_, rfl, by rw [hrr.out]; rfl⟩, hg⟩
theorem pContainsFunc_any (P : Int) (sa : Option Addr) (sn sc : Nat) (v : Value) (l : List Int) (c : Nat) (w : World) (h1 : -9223372036854775808 ≤ P) (h2 : P ≤ 9223372036854775807) (h3 : -9223372036854775808 < P)
    (hv : IsInts w v l) (hc0 : w.cell? ⟨c, 0, none⟩ = some (.int .i64 P)) (hc1 : w.cell? ⟨c, 1, none⟩ = some (.slice sa sn sc)) :
    Calls Try.prog 82 #[v, .func (.func 83) #[] #[.pointer (some ⟨c, 0, none⟩)]] w fun e w' => e = .returned (.bool (!raceB P l)) ∧ Grow w w' := by
  go_enter Try.func82, Try.ntmps82
  go_wp2_with (go_at_call 93; refine (pIndexFunc_any P _ _ _ v l _ _ h1 h2 h3 hv hc0 hc1).mono ?_; rintro e w' ⟨⟨k, rfl, hk⟩, hg⟩; have Hk := Lib.hid hk; clear hk)
  go_ret
  exact ⟨by rw [← Hk.out]; rfl, hg⟩
theorem pisRace_any (P : Int) (sa : Option Addr) (sn sc : Nat) (v : Value) (l : List Int) (w : World) (h1 : -9223372036854775808 ≤ P) (h2 : P ≤ 9223372036854775807) (h3 : -9223372036854775808 < P) (hv : IsInts w v l) :
    Calls Try.prog 52 #[.agg #[.int .i64 P, .slice sa sn sc], v] w fun e w' => e = .returned (.bool (raceB P l)) ∧ Grow w w' := by
  have hmf : ∀ (fn : Fn) (first cap : Array Value) (w : World), (Instr.makeFunc fn first cap).run Try.prog w = .ok (.func fn first cap) w := fun _ _ _ _ => rfl
  go_enter Try.func52, Try.ntmps52
  go_wp2_with (go_at_call 82; refine (pContainsFunc_any P sa sn sc v l _ _ h1 h2 h3 (hv.grow ((Grow.refl _).alloc _)) (by simp) (by simp)).mono ?_; rintro e w' ⟨rfl, hg⟩)
  go_ret
  exact ⟨by simp, ((Grow.refl _).alloc _).trans hg⟩
end Go.Proofs.Yteijilbdllpbcaa
namespace Go.Proofs.Yteijilbdllpbcaa
open Go.RowKit

theorem info_byte : (Try.prog.info? 5).map (fun i => (i.zero, i.size, i.bytes)) = some (some (.int .u8 0), 1, 1) := by kernel_rfl
theorem pinfo_int : (Try.prog.info? 3).map (fun i => (i.zero, i.size, i.bytes)) = some (some (.int .i64 0), 1, 8) := by kernel_rfl

/-- A race as bytes, as far as it has been written. -/
def halfBytes (l : List Int) (k : Nat) : List Value := (l.take k).map (Value.int .u8) ++ List.replicate (l.length - k) (.int .u8 0)
theorem halfBytes_len (l : List Int) (k : Nat) (hk : k ≤ l.length) : (halfBytes l k).length = l.length := by simp [halfBytes]; omega
theorem halfBytes_succ (l : List Int) (k : Nat) (x : Int) (hx : l[k]? = some x) : (halfBytes l k).set k (.int .u8 x) = halfBytes l (k + 1) := by
  have hlt := (List.getElem?_eq_some_iff.1 hx).1
  unfold halfBytes
  rw [take_get hx, List.set_append_right _ _ (by simp; omega)]
  obtain ⟨m, hm⟩ : ∃ m, l.length - k = m + 1 := ⟨l.length - k - 1, by omega⟩
  rw [hm, List.replicate_succ]
  simp [Nat.min_eq_left (Nat.le_of_lt hlt)]
  omega
theorem praceOf_any (v : Value) (l : List Int) (w : World) (hv : IsInts w v l) (hb : ∀ x ∈ l, 0 ≤ x ∧ x ≤ 255) :
    Calls Try.prog 53 #[v] w fun e w' => e = .returned (.string (strOfNums l)) ∧ Grow w w' := by
  obtain ⟨i0, hi0, hi1, hi2, hi3⟩ := info_parts info_byte
  obtain ⟨a, cap, rfl, hcap, hlen, hrow⟩ := hv
  have HB := Lib.hid hb
  clear hb
  go_enter Try.func53, Try.ntmps53
  go_wp2_with (at_make; refine wpl_make _ rfl _ _ 56 rfl w.heap.size 5 i0 _ (by kernel_rfl) hi0 hi1 hi2 rfl _ _ l.length rfl rfl rfl rfl (by rw [hi3]; omega) (by simp only [maxLen]; omega) (Nat.le_refl _) ?_; intro w1 hown1 hg1)
  go_loopw [11] (fun i wr => ∃ k : Nat, k ≤ l.length ∧ i = .int .i64 k ∧ Own wr w.heap.size 5 (.slice (some ⟨w.heap.size, 0, none⟩) l.length l.length) (halfBytes l k) ∧ Grow w wr) (fun i _ => l.length - (intOf i).toNat)
  case atStart => exact ⟨0, Nat.zero_le _, rfl, by simpa [halfBytes] using hown1, hg1⟩
  case round =>
    obtain ⟨k, hk, rfl, hown, hg⟩ := hrel
    have hl := halfBytes_len l k hk
    by_cases hlt : k < l.length
    · obtain ⟨b, o, x, hx, rfl, hc⟩ := hrow.int hlt
      have hc' := hg.keeps hc
      have hxb := HB.out x (List.mem_of_getElem? hx)
      have hw : IntKind.u8.wrap x = x := IntWalk.u8_in x (by omega)
      have hcell := hown.at hl.symm (i := k) (x := (halfBytes l k)[k]'(by omega)) (by simp [hl, hlt])
      have hfr := hown.hot k
      have Hs := Lib.hid (halfBytes_succ l k x hx)
      obtain ⟨old, hold⟩ : ∃ old, old = (halfBytes l k)[k]'(by omega) := ⟨_, rfl⟩
      rw [← hold] at hcell
      have Hl := Lib.hid hl
      clear hx hold hl
      go_wp2_with fail
      exact ⟨⟨k + 1, by omega, by go_num, by rw [← Hs.out]; exact (hown.set Hl.out.symm k _).1, hg.setCell (Nat.le_refl _) _⟩, by simp [intOf]; omega⟩
    · obtain rfl : k = l.length := by omega
      have hcs : ∀ i, i < l.length → wr.cell? ⟨w.heap.size, 0 + i, none⟩ = some (.int .u8 (l.getD i 0)) := fun i hi => by
        rw [Nat.zero_add]
        exact hown.at hl.symm (by simp [halfBytes, hi])
      have hconv := run_convert_bytes_arg (P := Try.prog) wr 56 5 (by kernel_rfl) (by kernel_rfl) w.heap.size 0 l.length l.length l rfl hcs 79 (by kernel_rfl)
      clear hcs hl
      go_wp2_with fail
      go_ret
      exact ⟨rfl, hg⟩

/-- How often a pair passes. -/
def lapsB (s : ByteArray) (p : Int) : Int := s.data.toList.countP fun c => (c.toNat : Int) == p
def lapsTo (s : ByteArray) (p : Int) (k : Nat) : Int := (s.data.toList.take k).countP fun c => (c.toNat : Int) == p
theorem size_list (s : ByteArray) : s.data.toList.length = s.size := by rw [Array.length_toList]; rfl
theorem lapsTo_succ (s : ByteArray) (p : Int) (k : Nat) (h : k < s.size) : lapsTo s p (k + 1) = lapsTo s p k + if (s[k].toNat : Int) == p then 1 else 0 := by
  have hk : s.data.toList[k]? = some s[k] := by
    have : k < s.data.toList.length := by simpa using h
    rw [List.getElem?_eq_getElem this]
    rfl
  unfold lapsTo
  rw [take_get hk, List.countP_append, List.countP_singleton]
  split <;> simp_all
theorem lapsTo_le (s : ByteArray) (p : Int) (k : Nat) : 0 ≤ lapsTo s p k ∧ lapsTo s p k ≤ k := by
  unfold lapsTo
  have h1 := List.countP_le_length (p := fun c : UInt8 => (c.toNat : Int) == p) (l := s.data.toList.take k)
  have h2 : (s.data.toList.take k).length ≤ k := List.length_take_le _ _
  omega
theorem lapsTo_all (s : ByteArray) (p : Int) {k : Nat} (h : ¬ k < s.size) : lapsTo s p k = lapsB s p := by
  unfold lapsTo lapsB
  rw [List.take_of_length_le (by rw [size_list]; omega)]
theorem plaps_any (s : ByteArray) (p : Int) (w : World) (hs : s.size ≤ 140737488355328) :
    Calls Try.prog 63 #[.string s, .int .i64 p] w fun e w' => e = .returned (.int .i64 (lapsB s p)) ∧ w = w' := by
  go_enter Try.func63, Try.ntmps63
  go_wp2_with fail
  go_loop [4, 8] (fun n i => ∃ k : Nat, k ≤ s.size ∧ i = .int .i64 k ∧ n = .int .i64 (lapsTo s p k)) (fun _ i => s.size - (intOf i).toNat)
  case atStart => exact ⟨0, Nat.zero_le _, rfl, rfl⟩
  case round =>
    obtain ⟨k, hk, rfl, rfl⟩ := hrel
    have hle := lapsTo_le s p k
    by_cases hlt : k < s.size
    · have Hs := Lib.hid (lapsTo_succ s p k hlt)
      have hwb : wrap64 (s[k].toNat : Int) = s[k].toNat := IntWalk.wrap64_in _ ⟨by omega, by have := s[k].toNat_lt; omega⟩
      go_wp2_with fail
      all_goals
        go_round
        case rel => exact ⟨k + 1, by omega, by go_num, by rw [Hs.out]; simp [*]⟩
        case measure => simp [intOf]; omega
    · have h3 := Lib.hid (lapsTo_all s p hlt)
      go_wp2_with fail
      go_ret
      exact ⟨by rw [← h3.out]; rfl, rfl⟩
/-- A race as a list. -/
def intsB (s : ByteArray) : List Int := s.data.toList.map fun c => (c.toNat : Int)
theorem intsB_len (s : ByteArray) : (intsB s).length = s.size := by rw [intsB, List.length_map, size_list]
theorem intsB_get (s : ByteArray) (k : Nat) (h : k < s.size) : (intsB s)[k]? = some (s[k].toNat : Int) := by
  have : k < s.data.toList.length := by simpa using h
  simp only [intsB, List.getElem?_map, List.getElem?_eq_getElem this, Option.map_some]
  rfl
def OwnPost (w : World) (l : List Int) (e : Ending) (w' : World) : Prop := ∃ v, e = .returned v ∧ Own w' w.heap.size 3 v (l.map (Value.int .i64)) ∧ Grow w w'
theorem pints_any (s : ByteArray) (w : World) (hs : s.size * 8 ≤ 140737488355328) :
    Calls Try.prog 49 #[.string s] w (OwnPost w (intsB s)) := by
  obtain ⟨i0, hi0, hi1, hi2, hi3⟩ := info_parts pinfo_int
  go_enter Try.func49, Try.ntmps49
  go_wp2_with fail
  go_loopw [2, 6] (fun v i wr => ∃ (k : Nat) (u : Value), u = v ∧ k ≤ s.size ∧ i = .int .i64 k ∧ Own wr w.heap.size 3 u (((intsB s).take k).map (Value.int .i64)) ∧ Grow w wr) (fun _ i _ => s.size - (intOf i).toNat)
  case atStart => exact ⟨0, _, rfl, Nat.zero_le _, rfl, Own.nil _ _ _, Grow.refl _⟩
  case round =>
    obtain ⟨k, u, rfl, hk, rfl, hown, hg⟩ := hrel
    by_cases hlt : k < s.size
    · have Hx := Lib.hid (intsB_get s k hlt)
      have hwb : wrap64 (s[k].toNat : Int) = s[k].toNat := IntWalk.wrap64_in _ ⟨by omega, by have := s[k].toNat_lt; omega⟩
      have hb : (((intsB s).take k).map (Value.int .i64)).length = k := by simp [intsB_len]; omega
      have hbytes : ((((intsB s).take k).map (Value.int .i64)).length + [Value.int .i64 (s[k].toNat : Int)].length) * 8 ≤ 140737488355328 := by rw [hb]; simp; omega
      have hu : Try.prog.underlying 25 = some (.slice 3) := by kernel_rfl
      clear hb
      go_wp2_with (at_builtin; refine wpl_app rfl _ _ 25 rfl w.heap.size 3 i0 _ 8 hu hi0 hi1 hi2 hi3 rfl u (((intsB s).take k).map (Value.int .i64)) rfl (hown.alloc _) _ _ [.int .i64 (s[k].toNat : Int)] 1 rfl rfl (fun h => nomatch h) (row_new1 _ _ _ (by simp)) (by simp [Value.oneCell']) hbytes (by omega) (by first | exact hg.size | exact (hg.alloc _).size) ?_; intro v' w1 hown1 hgr1 hmv1)
      refine ⟨⟨k + 1, v', rfl, by omega, by go_num, by rw [take_get Hx.out, List.map_append]; exact hown1, ?_⟩, by simp [intOf]; omega⟩
      exact Below.trans hg (Below.trans (((Grow.refl wr).alloc _).mono hg.size) (grownBy_below hgr1 (fun k h => hown.base k h) (by first | exact hg.size | exact (hg.alloc _).size)))
    · have h3 : Hid ((intsB s).take k = intsB s) := List.take_of_length_le (by rw [intsB_len]; omega)
      go_wp2_with fail
      go_ret
      exact ⟨_, rfl, by rw [← h3.out]; exact hown, hg⟩
end Go.Proofs.Yteijilbdllpbcaa
namespace Go.Proofs.Yteijilbdllpbcaa
open Go.RowKit

theorem Own.newL {w : World} {base g n : Nat} {e : TypeId} (xs : List Value) (hb : base ≤ w.heap.size) (h : g = w.heap.size) (hn : n = xs.length) (hm : n ≤ maxLen) : Own (w.alloc (.cells xs.toArray e)) base e (.slice (some ⟨g, 0, none⟩) n n) xs := by
  subst h
  subst hn
  exact ⟨by simp, .inr ⟨w.heap.size, xs.length, xs.toArray, rfl, hb, heap_alloc_new w _, Nat.le_refl _, hm, by simp, by simp⟩⟩
def minL (l : List Int) : Int := l.foldl min (l.headD 0)
def maxL (l : List Int) : Int := l.foldl max (l.headD 0)
def minTo (l : List Int) (k : Nat) : Int := (l.take k).foldl min (l.headD 0)
def maxTo (l : List Int) (k : Nat) : Int := (l.take k).foldl max (l.headD 0)
theorem minTo_succ {l : List Int} {k : Nat} {x : Int} (h : l[k]? = some x) : minTo l (k + 1) = min (minTo l k) x := by unfold minTo; rw [take_get h]; simp
theorem maxTo_succ {l : List Int} {k : Nat} {x : Int} (h : l[k]? = some x) : maxTo l (k + 1) = max (maxTo l k) x := by unfold maxTo; rw [take_get h]; simp
theorem minTo_all {l : List Int} {k : Nat} (h : ¬ k < l.length) : minTo l k = minL l := by unfold minTo minL; rw [take_len h]
theorem maxTo_all {l : List Int} {k : Nat} (h : ¬ k < l.length) : maxTo l k = maxL l := by unfold maxTo maxL; rw [take_len h]

theorem pMin_any (v : Value) (l : List Int) (w : World) (hv : IsInts w v l) (hne : 0 < l.length) :
    Calls Try.prog 86 #[v] w fun e w' => e = .returned (.int .i64 (minL l)) ∧ w = w' := by
  obtain ⟨a, cap, rfl, hcap, hlen, hrow⟩ := hv
  obtain ⟨b, o, x0, hx0, rfl, hc0⟩ := hrow.int hne
  have hd : Hid (minTo l 1 = x0) := by
    show _ = _
    rw [minTo_succ hx0]
    simp [minTo, List.head?_eq_getElem?, hx0]
  simp only [Nat.add_zero] at hc0
  clear hx0
  have hne1 : decide ((l.length : Int) < 1) = false := by simp; omega
  go_enter Try.func86, Try.ntmps86
  go_wp2_with fail
  go_loop [3, 4] (fun n i => ∃ k : Nat, 1 ≤ k ∧ k ≤ l.length ∧ i = .int .i64 k ∧ n = .int .i64 (minTo l k)) (fun _ i => l.length - (intOf i).toNat)
  case atStart => exact ⟨1, by omega, by omega, rfl, by rw [hd.out]⟩
  case round =>
    obtain ⟨k, hk1, hk, rfl, rfl⟩ := hrel
    by_cases hlt : k < l.length
    · obtain ⟨b', o', x, hx, hbo, hc⟩ := hrow.int hlt
      cases hbo
      have Hs := Lib.hid (minTo_succ hx)
      obtain ⟨m, hm⟩ : ∃ m, m = minTo l k := ⟨_, rfl⟩
      rw [← hm]
      have Hm := Lib.hid hm
      clear hx hm
      go_wp2_with fail
      go_round
      case rel => exact ⟨k + 1, by omega, by omega, by go_num, by rw [Hs.out, ← Hm.out]; congr 1; simp only [Int.min_def]; split <;> split <;> omega⟩
      case measure => simp [intOf]; omega
    · have h3 := Lib.hid (minTo_all hlt)
      go_wp2_with fail
      go_ret
      exact ⟨by rw [← h3.out]; rfl, rfl⟩
theorem pMax_any (v : Value) (l : List Int) (w : World) (hv : IsInts w v l) (hne : 0 < l.length) :
    Calls Try.prog 87 #[v] w fun e w' => e = .returned (.int .i64 (maxL l)) ∧ w = w' := by
  obtain ⟨a, cap, rfl, hcap, hlen, hrow⟩ := hv
  obtain ⟨b, o, x0, hx0, rfl, hc0⟩ := hrow.int hne
  have hd : Hid (maxTo l 1 = x0) := by
    show _ = _
    rw [maxTo_succ hx0]
    simp [maxTo, List.head?_eq_getElem?, hx0]
  simp only [Nat.add_zero] at hc0
  clear hx0
  have hne1 : decide ((l.length : Int) < 1) = false := by simp; omega
  go_enter Try.func87, Try.ntmps87
  go_wp2_with fail
  go_loop [3, 4] (fun n i => ∃ k : Nat, 1 ≤ k ∧ k ≤ l.length ∧ i = .int .i64 k ∧ n = .int .i64 (maxTo l k)) (fun _ i => l.length - (intOf i).toNat)
  case atStart => exact ⟨1, by omega, by omega, rfl, by rw [hd.out]⟩
  case round =>
    obtain ⟨k, hk1, hk, rfl, rfl⟩ := hrel
    by_cases hlt : k < l.length
    · obtain ⟨b', o', x, hx, hbo, hc⟩ := hrow.int hlt
      cases hbo
      have Hs := Lib.hid (maxTo_succ hx)
      obtain ⟨m, hm⟩ : ∃ m, m = maxTo l k := ⟨_, rfl⟩
      rw [← hm]
      have Hm := Lib.hid hm
      clear hx hm
      go_wp2_with fail
      go_round
      case rel => exact ⟨k + 1, by omega, by omega, by go_num, by rw [Hs.out, ← Hm.out]; congr 1; simp only [Int.max_def]; split <;> split <;> omega⟩
      case measure => simp [intOf]; omega
    · have h3 := Lib.hid (maxTo_all hlt)
      go_wp2_with fail
      go_ret
      exact ⟨by rw [← h3.out]; rfl, rfl⟩

/-- least: the least of some numbers, and of 1000. -/
theorem pleast_any (v : Value) (l : List Int) (B : Nat) (w : World) (hown : Own w B 3 v (l.map (Value.int .i64))) (hB : B ≤ w.heap.size) (hl : l.length ≤ 1000) :
    Calls Try.prog 88 #[v] w fun e w' => e = .returned (.int .i64 (minL (l ++ [1000]))) ∧ w.grownBy w' v.ownBlock := by
  obtain ⟨i0, hi0, hi1, hi2, hi3⟩ := info_parts pinfo_int
  have hu : Try.prog.underlying 25 = some (.slice 3) := by kernel_rfl
  have hbytes : ((l.map (Value.int .i64)).length + [Value.int .i64 1000].length) * 8 ≤ 140737488355328 := by simp; omega
  have hm : Hid (l.map (Value.int .i64) ++ [Value.int .i64 1000] = (l ++ [1000]).map (Value.int .i64)) := by show _ = _; simp
  have h8 : (l ++ [1000]).length * 8 ≤ 140737488355328 := by simp; omega
  go_enter Try.func88, Try.ntmps88
  go_wp2_with first | (at_builtin; refine wpl_app rfl _ _ 25 rfl B 3 i0 _ 8 hu hi0 hi1 hi2 hi3 rfl v (l.map (Value.int .i64)) rfl (hown.alloc _) _ _ [.int .i64 1000] 1 rfl rfl (fun h => nomatch h) (row_new1 _ _ _ (by simp)) (by simp [Value.oneCell']) hbytes (by omega) (by simp; omega) ?_; intro v' w1 hown1 hgr1 hmv1; rw [hm.out] at hown1) | (go_at_call 86; refine (pMin_any _ _ _ (hown1.ints h8) (by simp)).mono ?_; rintro e w' ⟨rfl, rfl⟩)
  go_ret
  exact ⟨rfl, ((Grow.refl w).alloc _).andBy hgr1⟩
end Go.Proofs.Yteijilbdllpbcaa
namespace Go.Proofs.Yteijilbdllpbcaa
open Go.RowKit

/-- The next row's number at a place behind the first one. -/
def cellOf (up left : Int) (same : Bool) : Int := minL ([up + 1, if same then left else left + 1] ++ [1000])
theorem cellOf_range (up left : Int) (same : Bool) (h1 : 0 ≤ up) (h2 : 0 ≤ left) : 0 ≤ cellOf up left same ∧ cellOf up left same ≤ 1000 := by
  unfold cellOf minL
  simp
  split <;> omega
/-- A row's numbers, the first k of the next row, the others as the old ones. -/
def rowTo (sheet : List UInt8) (c : UInt8) (row : List Int) : Nat → List Int
  | 0 => row
  | k + 1 => (rowTo sheet c row k).set k (match k with
    | 0 => row[0]?.getD 0 + 1
    | j + 1 => cellOf (row[j + 1]?.getD 0) (row[j]?.getD 0) (c == sheet[j]?.getD 0))
theorem rowTo_len (sheet : List UInt8) (c : UInt8) (row : List Int) : ∀ k, (rowTo sheet c row k).length = row.length
  | 0 => rfl
  | k + 1 => by simp [rowTo, rowTo_len sheet c row k]
theorem rowTo_old (sheet : List UInt8) (c : UInt8) (row : List Int) : ∀ k i, k ≤ i → (rowTo sheet c row k)[i]? = row[i]?
  | 0, i, _ => rfl
  | k + 1, i, h => by
    simp only [rowTo]
    rw [List.getElem?_set_ne (by omega), rowTo_old sheet c row k i (by omega)]
def nextRow (sheet : List UInt8) (c : UInt8) (row : List Int) : List Int := rowTo sheet c row row.length
def row0 (n : Nat) : List Int := 0 :: List.replicate n 1000
def rowAt (r sheet : List UInt8) (i : Nat) : List Int := (r.take i).foldl (fun row c => nextRow sheet c row) (row0 sheet.length)
theorem rowAt_succ {r sheet : List UInt8} {i : Nat} {c : UInt8} (h : r[i]? = some c) : rowAt r sheet (i + 1) = nextRow sheet c (rowAt r sheet i) := by
  unfold rowAt; rw [take_get h]; simp
theorem nextRow_len (sheet : List UInt8) (c : UInt8) (row : List Int) : (nextRow sheet c row).length = row.length := rowTo_len _ _ _ _
theorem rowAt_len (r sheet : List UInt8) (i : Nat) : (rowAt r sheet i).length = sheet.length + 1 := by
  have : ∀ (l : List UInt8) (row : List Int), (l.foldl (fun row c => nextRow sheet c row) row).length = row.length := by
    intro l
    induction l with
    | nil => intro row; rfl
    | cons c l ih => intro row; rw [List.foldl_cons, ih, nextRow_len]
  unfold rowAt
  rw [this]
  simp [row0]
/-- All numbers of a row are from 0 to some bound. -/
def rowOk (m : Int) (row : List Int) : Prop := ∀ x ∈ row, 0 ≤ x ∧ x ≤ m
theorem rowOk_get {m : Int} {row : List Int} (h : rowOk m row) (hm : 0 ≤ m) (i : Nat) : 0 ≤ row[i]?.getD 0 ∧ row[i]?.getD 0 ≤ m := by
  cases hx : row[i]? with
  | none => simpa using hm
  | some x => simpa using h x (List.mem_of_getElem? hx)
theorem rowTo_ok {sheet : List UInt8} {c : UInt8} {row : List Int} {m : Int} (h : rowOk m row) (hm : 1000 ≤ m) : ∀ k, rowOk (m + 1) (rowTo sheet c row k)
  | 0 => fun x hx => by have := h x hx; omega
  | k + 1 => fun x hx => by
    simp only [rowTo] at hx
    rcases List.mem_or_eq_of_mem_set hx with hx | hx
    · exact rowTo_ok h hm k x hx
    · subst hx
      cases k with
      | zero => have := rowOk_get h (by omega) 0; simp only; omega
      | succ j =>
        have h1 := rowOk_get h (by omega) (j + 1)
        have h2 := rowOk_get h (by omega) j
        have := cellOf_range (row[j + 1]?.getD 0) (row[j]?.getD 0) (c == sheet[j]?.getD 0) h1.1 h2.1
        simp only; omega
theorem rowAt_ok (r sheet : List UInt8) : ∀ i : Nat, rowOk (1000 + (i : Int)) (rowAt r sheet i) := by
  intro i
  induction i with
  | zero => intro x hx; simp [rowAt, row0] at hx; omega
  | succ i ih =>
    by_cases h : i < r.length
    · rw [rowAt_succ (List.getElem?_eq_getElem h)]
      have := rowTo_ok (sheet := sheet) (c := r[i]) ih (by omega) (rowAt r sheet i).length
      intro x hx
      have := this x hx
      omega
    · have e : rowAt r sheet (i + 1) = rowAt r sheet i := by
        unfold rowAt
        rw [take_len (by omega), take_len h]
      rw [e]
      intro x hx
      have := ih x hx
      omega
/-- The errors of a sheet by a race. -/
def errorsB (r sheet : List UInt8) : Int := minL ([(rowAt r sheet r.length)[sheet.length]?.getD 0] ++ [1000])
end Go.Proofs.Yteijilbdllpbcaa
