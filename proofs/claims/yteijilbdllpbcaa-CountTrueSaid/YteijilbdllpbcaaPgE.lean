/- The program of layer 1: the errors of a sheet by a race: the walk. Conditions: sizes. -/
import Derived.Test.YteijilbdllpbcaaPgA
namespace Go.Proofs.Yteijilbdllpbcaa
open Go.RowKit

def rowHalf (n k : Nat) : List Int := 0 :: (List.replicate k 1000 ++ List.replicate (n - k) 0)
theorem rowHalf_len (n k : Nat) (h : k ≤ n) : (rowHalf n k).length = n + 1 := by simp [rowHalf]; omega
theorem rowHalf_succ (n k : Nat) (h : k < n) : (rowHalf n k).set (k + 1) 1000 = rowHalf n (k + 1) := by
  unfold rowHalf
  rw [List.set_cons_succ, List.set_append_right _ _ (by simp)]
  obtain ⟨m, hm⟩ : ∃ m, n - k = m + 1 := ⟨n - k - 1, by omega⟩
  rw [hm, List.replicate_succ, show n - (k + 1) = m by omega]
  simp [List.replicate_succ', List.append_assoc]

set_option maxRecDepth 100000 in
set_option maxHeartbeats 2000000 in
theorem perrors_any (r s : ByteArray) (w : World) (hr : r.size ≤ 1000000) (hs : s.size ≤ 1000) :
    Calls Try.prog 59 #[.string r, .string s] w fun e w' => e = .returned (.int .i64 (errorsB r.data.toList s.data.toList)) ∧ Grow w w' := by
  obtain ⟨i0, hi0, hi1, hi2, hi3⟩ := info_parts pinfo_int
  have hu : Try.prog.underlying 25 = some (.slice 3) := by kernel_rfl
  obtain ⟨n, hn⟩ : ∃ n, s.size = n := ⟨_, rfl⟩
  obtain ⟨m, hm⟩ : ∃ m, r.size = m := ⟨_, rfl⟩
  obtain ⟨S, hS⟩ : ∃ S, s.data.toList = S := ⟨_, rfl⟩
  obtain ⟨R, hR⟩ : ∃ R, r.data.toList = R := ⟨_, rfl⟩
  have hSl : Hid (S.length = n) := by show _ = _; rw [← hS, size_list, hn]
  have hRl : Hid (R.length = m) := by show _ = _; rw [← hR, size_list, hm]
  obtain ⟨a2, hs1, hs2⟩ := run_from (P := Try.prog) (t := 25) (by kernel_rfl) (fun _ => by kernel_rfl) (some ⟨w.heap.size, 0, none⟩) (n + 1) (n + 1) 1 n 1 rfl rfl
  rw [hn] at hs
  rw [hm] at hr
  rw [hS, hR]
  have HS := Lib.hid hS
  have HR := Lib.hid hR
  clear hs2 hS hR
  have hn1 : (s.size : Int) = n := by rw [hn]
  go_enter Try.func59, Try.ntmps59
  go_wp2_with (at_make; refine wpl_make _ rfl _ _ 25 rfl w.heap.size 3 i0 _ hu hi0 hi1 hi2 rfl _ _ (n + 1) rfl rfl (by simp) (by simp) (by rw [hi3]; omega) (by simp only [maxLen]; omega) (Nat.le_refl _) ?_; intro w1 hown1 hg1)
  go_loopw [17] (fun i wr => ∃ k : Nat, k ≤ n ∧ i = .int .i64 k ∧ Own wr w.heap.size 3 (.slice (some ⟨w.heap.size, 0, none⟩) (n + 1) (n + 1)) ((rowHalf n k).map (Value.int .i64)) ∧ Grow w wr) (fun i _ => n - (intOf i).toNat)
  case atStart => exact ⟨0, Nat.zero_le _, rfl, by simpa [rowHalf, List.replicate_succ] using hown1, hg1⟩
  case round =>
    obtain ⟨k, hk, rfl, hown, hg⟩ := hrel
    have hl : ((rowHalf n k).map (Value.int .i64)).length = n + 1 := by rw [List.length_map, rowHalf_len n k hk]
    have Hl := Lib.hid hl
    by_cases hlt : k < n
    · have hcell := hown.at hl.symm (i := k + 1) (x := ((rowHalf n k).map (Value.int .i64))[k + 1]'(by omega)) (by simp [rowHalf_len n k hk, hlt])
      obtain ⟨old, hold⟩ : ∃ old, old = ((rowHalf n k).map (Value.int .i64))[k + 1]'(by omega) := ⟨_, rfl⟩
      rw [← hold] at hcell
      have hfr := hown.hot (k + 1)
      clear hold hl
      go_wp2_with fail
      refine ⟨⟨k + 1, by omega, by go_num, ?_, hg.setCell (Nat.le_refl _) _⟩, by simp [intOf]; omega⟩
      have := (hown.set Hl.out.symm (k + 1) (.int .i64 1000)).1
      rw [← List.map_set, rowHalf_succ n k hlt] at this
      exact this
    · obtain rfl : n = k := by omega
      clear hl Hl
      have hown0 : Own wr w.heap.size 3 (.slice (some ⟨w.heap.size, 0, none⟩) (n + 1) (n + 1)) ((rowAt R S 0).map (Value.int .i64)) := by
        have e : rowHalf n n = rowAt R S 0 := by simp [rowHalf, rowAt, row0, hSl.out]
        rw [← e]; exact hown
      have hg0 := hg
      obtain ⟨wa, rfl⟩ : ∃ wa : World, wa = wr := ⟨_, rfl⟩
      clear hown hg hg1 hown1
      go_wp2_with fail
      go_loopw [5, 27] (fun v i wr => ∃ (k : Nat) (g : Nat), k ≤ m ∧ i = .int .i64 k ∧ v = .slice (some ⟨g, 0, none⟩) (n + 1) (n + 1) ∧ Own wr w.heap.size 3 (.slice (some ⟨g, 0, none⟩) (n + 1) (n + 1)) ((rowAt R S k).map (Value.int .i64)) ∧ Grow w wr) (fun _ i _ => m - (intOf i).toNat)
      case atStart => exact ⟨0, _, Nat.zero_le _, rfl, rfl, hown0, hg0⟩
      case round =>
        obtain ⟨k, g, hk, rfl, rfl, hown, hg⟩ := hrel
        have hrl := rowAt_len R S k
        rw [hSl.out] at hrl
        have hrok := rowAt_ok R S k
        have hgl := hown.lt g rfl
        by_cases hlt : k < m
        · have hkr : k < r.size := by omega
          have hRk : Hid (R[k]? = some r[k]) := by
            show _ = _
            rw [← HR.out, List.getElem?_eq_getElem (by rw [size_list]; exact hkr)]
            rfl
          obtain ⟨row, hrow⟩ : ∃ row, row = rowAt R S k := ⟨_, rfl⟩
          have Hnext : Hid (rowAt R S (k + 1) = nextRow S r[k] row) := by show _ = _; rw [rowAt_succ hRk.out, hrow]
          rw [← hrow] at hown hrl hrok
          have Hrl := Lib.hid hrl
          have Hrok := Lib.hid hrok
          clear hrow hrl hrok
          have hus : ∀ j v, (row.map (Value.int .i64))[j]? = some v → (⟨g, j, none⟩ : Addr).block < wr.heap.size ∧ wr.cell? ⟨g, j, none⟩ = some v := fun j v hj => ⟨hgl.2, hown.at (by rw [List.length_map, Hrl.out]) hj⟩
          go_wp2_with first | (at_make; refine wpl_make _ rfl _ _ 25 rfl wr.heap.size 3 i0 _ hu hi0 hi1 hi2 rfl _ _ (n + 1) rfl rfl (by simp) (by simp) (by rw [hi3]; omega) (by simp only [maxLen]; omega) (Nat.le_refl _) ?_; intro w2 hown2 hg2) | (with_reducible refine wpl_copy rfl (.tmp 33) (.tmp 34) 25 25 rfl 3 hu (by rw [hi0]; simp [hi2]) wr.heap.size 3 wr.heap.size (n + 1) (n + 1) g (List.replicate (n + 1) (.int .i64 0)) (row.map (Value.int .i64)) (by simp) (by rw [List.length_map, Hrl.out]) rfl rfl hown2 (fun j v hj => hg2.keeps (hus j v hj).2) (by simp [Value.oneCell']) ?_; intro w3 hown3 hgr3)
          have hB3 : Below wr.heap.size wr w3 := Below.trans hg2 (grownBy_below hgr3 (fun k h => by cases h; exact Nat.le_refl _) hg2.size)
          have hs3 : wr.heap.size < w3.heap.size := (hown3.lt _ rfl).2
          clear hown2 hg2 hgr3 hus
          obtain ⟨wo, rfl⟩ : ∃ wo : World, wo = wr := ⟨_, rfl⟩
          go_loopw [38] (fun i wq => ∃ q : Nat, q ≤ n + 1 ∧ i = .int .i64 q ∧ Own wq wo.heap.size 3 (.slice (some ⟨wo.heap.size, 0, none⟩) (n + 1) (n + 1)) ((rowTo S r[k] row q).map (Value.int .i64)) ∧ Below wo.heap.size wo wq) (fun i _ => n + 1 - (intOf i).toNat)
          case atStart => exact ⟨0, Nat.zero_le _, rfl, by simpa [rowTo] using hown3, hB3⟩
          case round =>
            obtain ⟨q, hq, rfl, hownq, hBq⟩ := hrel
            have hql : Hid (((rowTo S r[k] row q).map (Value.int .i64)).length = n + 1) := by show _ = _; rw [List.length_map, rowTo_len, Hrl.out]
            have hsq : wo.heap.size < wr.heap.size := (hownq.lt _ rfl).2
            by_cases hqlt : q < n + 1
            · have hrq : row[q]? = some (row[q]?.getD 0) := by
                have : q < row.length := by rw [Hrl.out]; exact hqlt
                simp [this]
              have hokq := rowOk_get Hrok.out (by omega) q
              obtain ⟨up, hup⟩ : ∃ up, up = row[q]?.getD 0 := ⟨_, rfl⟩
              rw [← hup] at hrq hokq
              have hcq := hownq.at hql.out.symm (i := q) (x := .int .i64 up) (by rw [List.getElem?_map, rowTo_old _ _ _ _ _ (Nat.le_refl _), hrq]; rfl)
              have hfq := hownq.hot q
              have Hrq := Lib.hid hrq
              have Hup := Lib.hid hup
              clear hrq hup
              rcases q with _ | j
              · have Hset : Hid ((rowTo S r[k] row 0).set 0 (up + 1) = rowTo S r[k] row (0 + 1)) := by show _ = _; rw [Hup.out]; rfl
                go_wp2_with fail
                go_quiet (fail)
                go_wp2_with fail
                have hset := hownq.set hql.out.symm 0 (.int .i64 (up + 1))
                rw [← List.map_set, Hset.out] at hset
                exact ⟨⟨0 + 1, by omega, by go_num, hset.1.grow ((Grow.refl _).drewN _), (Below.setCell hBq (Nat.le_refl _) _).trans ((Below.refl _ _).drewN' _)⟩, by simp [intOf]⟩
              · have hjlt : j < S.length := by rw [hSl.out]; omega
                have hjs : j < s.size := by rw [hn]; omega
                have hSj : Hid (S[j]? = some s[j]) := by
                  show _ = _
                  rw [← HS.out, List.getElem?_eq_getElem (by rw [size_list]; exact hjs)]
                  rfl
                have hrj : row[j]? = some (row[j]?.getD 0) := by
                  have : j < row.length := by rw [Hrl.out]; omega
                  simp [this]
                have hokj := rowOk_get Hrok.out (by omega) j
                obtain ⟨left, hleft⟩ : ∃ left, left = row[j]?.getD 0 := ⟨_, rfl⟩
                rw [← hleft] at hrj hokj
                have hcl := (hown.below hBq (fun k h => by cases h; exact hgl.2)).at (by rw [List.length_map, Hrl.out]) (i := j) (x := .int .i64 left) (by rw [List.getElem?_map, hrj]; rfl)
                have Hset : Hid ((rowTo S r[k] row (j + 1)).set (j + 1) (cellOf up left (r[k] == s[j])) = rowTo S r[k] row (j + 1 + 1)) := by
                  show _ = _
                  rw [Hup.out, hleft]
                  conv => rhs; unfold rowTo
                  simp only [hSj.out, Option.getD_some]
                have Hrj := Lib.hid hrj
                clear hrj hleft
                have hne : g ≠ wo.heap.size := by have := hgl.2; omega
                by_cases hsame : r[k] = s[j]
                · have hb : ((r[k].toNat : Int) == (s[j].toNat : Int)) = true := by rw [hsame]; simp
                  have Hsame : Hid ((r[k] == s[j]) = true) := by show _ = _; rw [hsame]; simp
                  clear hsame
                  go_wp2_with fail
                  go_quiet (fail)
                  go_wp2_with fail
                  obtain ⟨W, hW⟩ : ∃ W, W = (wr.setCell ⟨wo.heap.size, j + 1, none⟩ (.int .i64 (up + 1))).drewN nq := ⟨_, rfl⟩
                  have hset := hownq.set hql.out.symm (j + 1) (.int .i64 (up + 1))
                  have hWo : Own W wo.heap.size 3 (.slice (some ⟨wo.heap.size, 0, none⟩) (n + 1) (n + 1)) (((rowTo S r[k] row (j + 1)).map (Value.int .i64)).set (j + 1) (.int .i64 (up + 1))) := by rw [hW]; exact hset.1.grow ((Grow.refl _).drewN _)
                  have hWB : Below wo.heap.size wo W := by rw [hW]; exact (Below.setCell hBq (by simp) _).trans ((Below.refl _ _).drewN' _)
                  have hWs : wo.heap.size < W.heap.size := (hWo.lt _ rfl).2
                  have hWl : Hid (((((rowTo S r[k] row (j + 1)).map (Value.int .i64)).set (j + 1) (.int .i64 (up + 1)))).length = n + 1) := by show _ = _; rw [List.length_set]; exact hql.out
                  have hW0 : W.cell? ⟨wo.heap.size, j + 1, none⟩ = some (.int .i64 (up + 1)) := hWo.at hWl.out.symm (by rw [List.getElem?_set_self (by rw [hql.out]; exact hqlt)])
                  have hW1 : W.cell? ⟨g, j, none⟩ = some (.int .i64 left) := (hown.below hWB (fun k h => by cases h; exact hgl.2)).at (by rw [List.length_map, Hrl.out]) (i := j) (x := .int .i64 left) (by rw [List.getElem?_map, Hrj.out]; rfl)
                  have hWf := hWo.hot (j + 1)
                  rw [← hW]
                  clear hW hset
                  have hj0 : (0 : Int) ≤ (j : Int) := by omega
                  have hj3 : (0 : Int) ≤ (j : Int) + 1 := by omega
                  have hj4 : (j : Int) < (n : Int) := by omega
                  have hj5 : (j : Int) ≤ (n : Int) := by omega
                  have hw1 : IntKind.i64.wrap (j : Int) = j := IntWalk.i64_in _ (by omega)
                  go_region_with (go_at_call 88; refine (pleast_any _ [up + 1, left] W.heap.size _ ((Own.newL [.int .i64 (up + 1), .int .i64 left] (Nat.le_refl _) (by simp) rfl (by simp [maxLen])).drew) (by simp) (by simp)).mono ?_; rintro e w' ⟨rfl, hgr⟩; have hbl := grownBy_below hgr (B := W.heap.size) (by simp [Value.ownBlock]) (by simp); have hc2 : w'.cell? ⟨wo.heap.size, j + 1, none⟩ = some (.int .i64 (up + 1)) := (hbl.cell (p := ⟨wo.heap.size, j + 1, none⟩) hWs).trans (((Grow.refl W).alloc _).drew.keeps hW0); have hf2 : w'.frozen? ⟨wo.heap.size, j + 1, none⟩ = false := (hbl.frozen (p := ⟨wo.heap.size, j + 1, none⟩) hWs).trans ((((Grow.refl W).alloc _).drew.marks _ _ hWs).trans hWf))
                  clear hw1 hj0 hj3 hj4 hj5
                  all_goals
                    go_wp2_with fail
                    have hG' : Below wo.heap.size wo w' := hWB.trans ((Below.trans ((Grow.refl W).alloc _).drew hbl).mono (Nat.le_of_lt hWs))
                    have hOw := (hWo.below (Below.trans ((Grow.refl W).alloc _).drew hbl) (fun k h => by cases h; exact hWs)).set hWl.out.symm (j + 1) (.int .i64 (minL [up + 1, left, 1000]))
                    have he : cellOf up left (r[k] == s[j]) = minL [up + 1, left, 1000] := by rw [Hsame.out]; rfl
                    have hse := Hset.out
                    rw [he] at hse
                    rw [List.set_set, ← List.map_set, hse] at hOw
                    exact ⟨⟨j + 1 + 1, by omega, by go_num, hOw.1, Below.setCell hG' (Nat.le_refl _) _⟩, by simp [intOf]; omega⟩
                · have hb : ((r[k].toNat : Int) == (s[j].toNat : Int)) = false := by
                    rw [beq_eq_false_iff_ne]
                    intro h
                    exact hsame (UInt8.toNat_inj.1 (by omega))
                  have Hsame : Hid ((r[k] == s[j]) = false) := by show _ = _; simpa using hsame
                  clear hsame
                  go_wp2_with fail
                  go_quiet (fail)
                  go_wp2_with fail
                  obtain ⟨W, hW⟩ : ∃ W, W = (wr.setCell ⟨wo.heap.size, j + 1, none⟩ (.int .i64 (up + 1))).drewN nq := ⟨_, rfl⟩
                  have hset := hownq.set hql.out.symm (j + 1) (.int .i64 (up + 1))
                  have hWo : Own W wo.heap.size 3 (.slice (some ⟨wo.heap.size, 0, none⟩) (n + 1) (n + 1)) (((rowTo S r[k] row (j + 1)).map (Value.int .i64)).set (j + 1) (.int .i64 (up + 1))) := by rw [hW]; exact hset.1.grow ((Grow.refl _).drewN _)
                  have hWB : Below wo.heap.size wo W := by rw [hW]; exact (Below.setCell hBq (by simp) _).trans ((Below.refl _ _).drewN' _)
                  have hWs : wo.heap.size < W.heap.size := (hWo.lt _ rfl).2
                  have hWl : Hid (((((rowTo S r[k] row (j + 1)).map (Value.int .i64)).set (j + 1) (.int .i64 (up + 1)))).length = n + 1) := by show _ = _; rw [List.length_set]; exact hql.out
                  have hW0 : W.cell? ⟨wo.heap.size, j + 1, none⟩ = some (.int .i64 (up + 1)) := hWo.at hWl.out.symm (by rw [List.getElem?_set_self (by rw [hql.out]; exact hqlt)])
                  have hW1 : W.cell? ⟨g, j, none⟩ = some (.int .i64 left) := (hown.below hWB (fun k h => by cases h; exact hgl.2)).at (by rw [List.length_map, Hrl.out]) (i := j) (x := .int .i64 left) (by rw [List.getElem?_map, Hrj.out]; rfl)
                  have hWf := hWo.hot (j + 1)
                  rw [← hW]
                  clear hW hset
                  have hj0 : (0 : Int) ≤ (j : Int) := by omega
                  have hj3 : (0 : Int) ≤ (j : Int) + 1 := by omega
                  have hj4 : (j : Int) < (n : Int) := by omega
                  have hj5 : (j : Int) ≤ (n : Int) := by omega
                  have hw1 : IntKind.i64.wrap (j : Int) = j := IntWalk.i64_in _ (by omega)
                  have hw2 : IntKind.i64.wrap (left + 1) = left + 1 := IntWalk.i64_in _ (by have := hokj.1; have := hokj.2; omega)
                  go_region_with (go_at_call 88; refine (pleast_any _ [up + 1, left + 1] W.heap.size _ ((Own.newL [.int .i64 (up + 1), .int .i64 (left + 1)] (Nat.le_refl _) (by simp) rfl (by simp [maxLen])).drew) (by simp) (by simp)).mono ?_; rintro e w' ⟨rfl, hgr⟩; have hbl := grownBy_below hgr (B := W.heap.size) (by simp [Value.ownBlock]) (by simp); have hc2 : w'.cell? ⟨wo.heap.size, j + 1, none⟩ = some (.int .i64 (up + 1)) := (hbl.cell (p := ⟨wo.heap.size, j + 1, none⟩) hWs).trans (((Grow.refl W).alloc _).drew.keeps hW0); have hf2 : w'.frozen? ⟨wo.heap.size, j + 1, none⟩ = false := (hbl.frozen (p := ⟨wo.heap.size, j + 1, none⟩) hWs).trans ((((Grow.refl W).alloc _).drew.marks _ _ hWs).trans hWf))
                  clear hw1 hw2 hj0 hj3 hj4 hj5
                  all_goals
                    go_wp2_with fail
                    have hG' : Below wo.heap.size wo w' := hWB.trans ((Below.trans ((Grow.refl W).alloc _).drew hbl).mono (Nat.le_of_lt hWs))
                    have hOw := (hWo.below (Below.trans ((Grow.refl W).alloc _).drew hbl) (fun k h => by cases h; exact hWs)).set hWl.out.symm (j + 1) (.int .i64 (minL [up + 1, left + 1, 1000]))
                    have he : cellOf up left (r[k] == s[j]) = minL [up + 1, left + 1, 1000] := by rw [Hsame.out]; rfl
                    have hse := Hset.out
                    rw [he] at hse
                    rw [List.set_set, ← List.map_set, hse] at hOw
                    exact ⟨⟨j + 1 + 1, by omega, by go_num, hOw.1, Below.setCell hG' (Nat.le_refl _) _⟩, by simp [intOf]; omega⟩
            · obtain rfl : q = n + 1 := by omega
              have hnx : Hid (rowTo S r[k] row (n + 1) = rowAt R S (k + 1)) := by show _ = _; rw [Hnext.out]; unfold nextRow; rw [Hrl.out]
              rw [hnx.out] at hownq
              have hgk : Grow w wr := Below.trans hg (hBq.mono hg.size)
              go_wp2_with fail
              exact ⟨⟨k + 1, _, by omega, by go_num, rfl, hownq.lower hg.size, hgk⟩, by simp [intOf]; omega⟩
        · obtain rfl : m = k := by omega
          have hfin : Hid ((rowAt R S R.length)[S.length]? = some ((rowAt R S R.length)[S.length]?.getD 0)) := by
            show _ = _
            have : S.length < (rowAt R S R.length).length := by rw [rowAt_len]; omega
            simp [this]
          obtain ⟨x, hx⟩ : ∃ x, x = (rowAt R S R.length)[S.length]?.getD 0 := ⟨_, rfl⟩
          have hres : Hid (errorsB R S = minL ([x] ++ [1000])) := by show _ = _; rw [hx]; rfl
          rw [← hx, hRl.out, hSl.out] at hfin
          have hcx := hown.at (by rw [List.length_map, hrl]) (i := n) (x := .int .i64 x) (by rw [List.getElem?_map, hfin.out]; rfl)
          clear hrl hx hrok
          go_wp2_with (go_at_call 88; refine (pleast_any _ [x] wr.heap.size _ (Own.newL [.int .i64 x] (Nat.le_refl _) (by simp) rfl (by simp [maxLen])) (by simp) (by simp)).mono ?_; rintro e w' ⟨rfl, hgr⟩; have hbl := grownBy_below hgr (B := wr.heap.size) (by simp [Value.ownBlock]) (by simp))
          go_ret
          exact ⟨by rw [hres.out]; rfl, Below.trans hg ((Below.trans ((Grow.refl wr).alloc _) hbl).mono hg.size)⟩
end Go.Proofs.Yteijilbdllpbcaa
