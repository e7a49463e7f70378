/- PortTurns: if all are free, all are told, one behind the other, before one is told again; whatever is free, what is told is. Conditions: none. -/
import Derived.Test.YtdlhleegfmnjjaaPortUp
import Derived.Laws.MakeOwn
namespace Go.Proofs.Ytdlhleegfmnjjaa.Port
open Go.RowKit Argin Save
set_option linter.unusedVariables false
set_option linter.unusedSimpArgs false

theorem turns_all (low many : Int) (k : Nat) (nx : Int) (hk : 0 < k) : turns (fun _ => true) low many k nx = (some (low + nx), (nx + 1) % many) := by
  cases k with
  | zero => omega
  | succ k => rfl

theorem turns_one (low many o : Int) (ho : 0 ≤ o ∧ o < many) : ∀ (k : Nat) (nx : Int), 0 ≤ nx → nx ≤ o → o - nx < k → (turns (fun x => x == low + o) low many k nx).1 = some (low + o)
  | 0, nx, h0, h1, h2 => by omega
  | k + 1, nx, h0, h1, h2 => by
    unfold turns
    by_cases c : nx = o
    · subst c; rw [if_pos (by simp)]
    · rw [if_neg (by simp; omega), Int.emod_eq_of_lt (by omega) (by omega)]
      exact turns_one low many o ho k (nx + 1) (by omega) (by omega) (by omega)

theorem turns_no (w : World) (l m o : Int) (W : World) (hl : -9223372036854775808 ≤ l ∧ l < 9223372036854775808) (hm : -9223372036854775808 ≤ m ∧ m < 9223372036854775808) (h : Bad l m) :
    Calls Try.prog 8 #[.int .i64 l, .int .i64 m, .int .i64 o] W fun e w' => e = .returned (.bool true) ∧ Below W.heap.size W w' := by
  go_enter Try.func8, Try.ntmps8
  go_wp2_with fail
  refine (up_any _).mono ?_
  rintro e w1 ⟨rfl, hb⟩
  have kl := cell_get (block_stays hb (get_alloc W (.cells #[.int .i64 l] 3))) 0
  have HB := Lib.hid hb
  clear hb
  go_wp2_with fail
  refine (new_no _ _ _ hl hm h).mono ?_
  rintro e w2 ⟨rfl, rfl⟩
  go_wp2_with fail
  go_ret
  exact ⟨rfl, ((Below.refl _ _).alloc (Nat.le_refl _) _).trans (HB.out.mono (by simp))⟩

theorem infoI : (Try.prog.info? 3).map (fun i => (i.zero, i.size, i.bytes)) = some (some (.int .i64 0), 1, 8) := by kernel_rfl
theorem make_ints (M : Nat) (hM : M ≤ 64) : ∃ A : Array Value, (∀ j, j < M → A[j]? = some (.int .i64 0)) ∧ ∀ w : World, (Instr.makeSlice 37 (.int .i64 (M : Int)) (.int .i64 (M : Int))).run Try.prog w = .ok (.slice (some ⟨w.heap.size, 0, none⟩) M M) (w.alloc (.cells A 3)) := by
  obtain ⟨i0, hi, hz0, hz1, hz2⟩ := info_parts infoI
  refine ⟨madeCells (Value.cells (.int .i64 0)) (M * i0.size), fun j hj => ?_, fun w => ?_⟩
  · rw [hz1]; simp [madeCells, Value.cells, hj]; rw [Nat.mod_one]; rfl
  · have := run_makeSlice (P := Try.prog) w 37 3 i0 (.int .i64 0) Try.underlying37 hi hz0 .i64 .i64 M M (by omega) (by omega) (by rw [hz1]; omega) (by rw [hz2]; omega) (by omega)
    simpa using this

set_option maxRecDepth 100000 in
set_option maxHeartbeats 4000000 in
theorem turns_yes (l m o : Int) (W : World) (h : ¬ Bad l m) (ho : -9223372036854775808 ≤ o ∧ o < 9223372036854775808) :
    Calls Try.prog 8 #[.int .i64 l, .int .i64 m, .int .i64 o] W fun e w' => e = .returned (.bool true) ∧ Below W.heap.size W w' := by
  have h' := h
  unfold Bad at h'
  have hl : 1 ≤ l ∧ 1 ≤ m ∧ m ≤ 64 ∧ l + m ≤ 65536 := by omega
  obtain ⟨M, rfl⟩ : ∃ M : Nat, m = M := ⟨m.toNat, by omega⟩
  clear h'
  have HBad := Lib.hid h
  obtain ⟨A, hA, hmk⟩ := make_ints M (by omega)
  have HA := Lib.hid hA
  clear hA
  clear h
  go_enter Try.func8, Try.ntmps8
  go_wp2_with fail
  refine (up_any _).mono ?_
  rintro e w1 ⟨rfl, hb⟩
  have KL := Lib.hid (block_stays hb (get_alloc W (.cells #[.int .i64 l] 3)))
  have HB := Lib.hid (((Below.refl _ _).alloc (Nat.le_refl _) _).trans (hb.mono (by simp)))
  have HZ := Lib.hid hb.size
  clear hb
  have kl := cell_get KL.out 0
  go_wp2_with fail
  refine (new_ok _ _ _ HBad.out).mono ?_
  rintro e w2 ⟨rfl, hh, hb⟩
  have KL2 := Lib.hid (block_stays hb KL.out)
  have HH := Lib.hid hh
  have HB2 := Lib.hid (HB.out.trans (hb.mono HB.out.size))
  have HN := Lib.hid (show W.heap.size < w1.heap.size from lt_of_get KL.out)
  have hz2 := lt_of_get hh
  clear hh hb KL HB kl
  generalize w1.heap.size = b at HH HN hz2 ⊢
  go_wp2_with fail
  have HB3 := Lib.hid (HB2.out.alloc (by have := HN.out; omega) (.cells A 3))
  have HK3 := Lib.hid (get_alloc_old (.cells A 3) KL2.out)
  have HH3 := Lib.hid (get_alloc_old (.cells A 3) HH.out)
  have HG3 := Lib.hid (get_alloc w2 (.cells A 3))
  clear HB2 KL2 HH
  generalize w2.heap.size = g at HG3 hz2 ⊢
  have hbW := HN.out
  generalize hcW : W.heap.size = c at HK3 hbW HB3 ⊢
  have HCW := Lib.hid hcW
  clear hcW
  go_loopw [11] (fun sn wx => ∃ (n : Nat) (A : Array Value), n ≤ M ∧ sn = .int .i64 n ∧ wx.heap[b]? = some (Pt l M ((n : Int) % M)) ∧ wx.heap[c]? = some (.cells #[.int .i64 l] 3) ∧ wx.heap[g]? = some (.cells A 3) ∧ (∀ j, j < M → A[j]? = some (.int .i64 (if j < n then 1 else 0))) ∧ Below c W wx) (fun sn _ => M - (intOf sn).toNat)
  case atStart => exact ⟨0, A, by omega, rfl, by simpa using HH3.out, HK3.out, HG3.out, fun j hj => by simpa using HA.out j hj, HB3.out⟩
  case round =>
    clear HB3 HK3 HH3 HG3 HA
    obtain ⟨n, A, hn, rfl, hh, hk, hg, ha, hb⟩ := hrel
    have HK := Lib.hid hk
    have HB := Lib.hid hb
    have HG := Lib.hid hg
    have HA := Lib.hid ha
    clear hk hb hg ha
    by_cases hlt : n < M
    · rw [Int.emod_eq_of_lt (by omega) (by omega)] at hh
      have HH := Lib.hid hh
      clear hh
      go_wp2_with fail
      refine (next_any _ _ _ _ _ _ (fun _ => true) _ HH.out hl (by omega) hcf3 (fun x w1 _ _ _ => by rw [Array.append_empty]; exact say3 x w1)).mono ?_
      rintro e w3 ⟨rfl, hh, hs⟩
      rw [turns_all _ _ _ _ (by omega)] at hh ⊢
      have HH2 := Lib.hid hh
      have HK2 := Lib.hid (hs.stays HK.out (by omega))
      have HG2 := Lib.hid (hs.stays HG.out (by omega))
      have HB2 := Lib.hid (HB.out.trans (hs.below (B := c) (fun k _ e => by omega) (Nat.le_of_lt (lt_of_get HK.out))))
      clear hh hs HH HK HG HB
      simp only [told]
      have kl := cell_get HK2.out 0
      have kg : w3.cell? ⟨g, n, none⟩ = some (.int .i64 0) := by rw [cell_get HG2.out, HA.out n hlt, if_neg (by omega)]
      have fg := free_get HG2.out n
      have hat : l + (n : Int) - l = n := by omega
      go_wp2_with fail
      go_roundw
      case rel =>
        refine ⟨n + 1, A.setIfInBounds n (.int .i64 1), by omega, by go_num, ?_, ?_, ?_, ?_, ?_⟩
        · exact get_set_other _ HH2.out (by show b ≠ g; omega)
        · exact get_set_other _ HK2.out (by show c ≠ g; omega)
        · exact get_set _ HG2.out
        · intro j hj
          rw [Array.getElem?_setIfInBounds]
          by_cases e : n = j
          · subst e
            have := HA.out n hj
            have hsz := (Array.getElem?_eq_some_iff.1 this).1
            rw [if_pos rfl, if_pos hsz, if_pos (by omega)]
          · rw [if_neg e, HA.out j hj]
            by_cases e2 : j < n
            · rw [if_pos e2, if_pos (by omega)]
            · rw [if_neg e2, if_neg (by omega)]
        · exact HB2.out.setCell (by show c ≤ g; omega) _
      case measure => simp [intOf]; omega
    · obtain rfl : n = M := by omega
      rw [Int.emod_self] at hh
      have HH := Lib.hid hh
      clear hh
      have kl := cell_get HK.out 0
      have hgz := lt_of_get HG.out
      by_cases c0 : o < 0
      rotate_left
      by_cases c1 : (n : Int) ≤ o
      rotate_left
      · have HO := Lib.hid (show 0 ≤ o ∧ o < n from ⟨by omega, by omega⟩)
        go_wp2_with fail
        refine (next_any _ _ _ _ _ _ (fun x => x == l + o) _ (get_alloc_old (.cells #[.int .i64 o] 3) HH.out) hl (by omega) hcf4 (fun x w1 h0 h1 hs => by
          rw [show ((#[Value.int .u16 x] : Array Value) ++ #[.pointer (some ⟨c, 0, none⟩), .pointer (some ⟨wr.heap.size, 0, none⟩)]) = #[.int .u16 x, .pointer (some ⟨c, 0, none⟩), .pointer (some ⟨wr.heap.size, 0, none⟩)] from rfl]
          exact say4 x l o _ _ w1 (cell_get (hs.stays (get_alloc_old (.cells #[.int .i64 o] 3) HK.out) (by omega)) 0) (cell_get (hs.stays (get_alloc wr (.cells #[.int .i64 o] 3)) (by omega)) 0) ⟨h0, h1⟩ (by omega) (by omega))).mono ?_
        rintro e w3 ⟨rfl, hh, hs⟩
        rw [turns_one l n o (by omega) (n : Int).toNat 0 (by omega) (by omega) (by omega)]
        have kl := cell_get (hs.stays (get_alloc_old (.cells #[.int .i64 o] 3) HK.out) (by omega)) 0
        have kw := cell_get (hs.stays (get_alloc wr (.cells #[.int .i64 o] 3)) (by omega)) 0
        have HB2 := Lib.hid ((HB.out.alloc (Nat.le_of_lt (lt_of_get HK.out)) _).trans (hs.below (B := c) (fun k _ e => by omega) (by have := lt_of_get HK.out; simp; omega)))
        clear hh hs HH HK HG HB
        simp only [told]
        go_wp2_with fail
        go_ret
        exact ⟨rfl, by rw [HCW.out]; exact HB2.out⟩
      all_goals
        go_wp2_with fail
        refine (next_any _ _ _ _ _ _ (fun x => x == l + 0) _ (get_alloc_old (.cells #[.int .i64 0] 3) HH.out) hl (by omega) hcf4 (fun x w1 h0 h1 hs => by
          rw [show ((#[Value.int .u16 x] : Array Value) ++ #[.pointer (some ⟨c, 0, none⟩), .pointer (some ⟨wr.heap.size, 0, none⟩)]) = #[.int .u16 x, .pointer (some ⟨c, 0, none⟩), .pointer (some ⟨wr.heap.size, 0, none⟩)] from rfl]
          exact say4 x l 0 _ _ w1 (cell_get (hs.stays (get_alloc_old (.cells #[.int .i64 0] 3) HK.out) (by omega)) 0) (cell_get (hs.stays (get_alloc wr (.cells #[.int .i64 0] 3)) (by omega)) 0) ⟨h0, h1⟩ (by omega) (by omega))).mono ?_
        rintro e w3 ⟨rfl, hh, hs⟩
        rw [turns_one l n 0 (by omega) (n : Int).toNat 0 (by omega) (by omega) (by omega)]
        have kl := cell_get (hs.stays (get_alloc_old (.cells #[.int .i64 0] 3) HK.out) (by omega)) 0
        have kw := cell_get (hs.stays (get_alloc wr (.cells #[.int .i64 0] 3)) (by omega)) 0
        have HB2 := Lib.hid ((HB.out.alloc (Nat.le_of_lt (lt_of_get HK.out)) _).trans (hs.below (B := c) (fun k _ e => by omega) (by have := lt_of_get HK.out; simp; omega)))
        clear hh hs HH HK HG HB
        simp only [told]
        go_wp2_with fail
        go_ret
        exact ⟨rfl, by rw [HCW.out]; exact HB2.out⟩

theorem turns_law (W : World) (v0 v1 v2 : Value) (o0 : Came Try.prog W 3 v0) (o1 : Came Try.prog W 3 v1) (o2 : Came Try.prog W 3 v2) :
    Calls Try.prog 8 #[v0, v1, v2] W fun e W' => e = .returned (.bool true) ∧ Below W.heap.size W W' := by
  obtain ⟨l, rfl, hl⟩ := o0.int Try.underlying3
  obtain ⟨m, rfl, hm⟩ := o1.int Try.underlying3
  obtain ⟨o, rfl, ho⟩ := o2.int Try.underlying3
  by_cases h : Bad l m
  · exact turns_no W l m o W (Argin.wf_i64 hl) (Argin.wf_i64 hm) h
  · exact turns_yes l m o W h (Argin.wf_i64 ho)

end Go.Proofs.Ytdlhleegfmnjjaa.Port
