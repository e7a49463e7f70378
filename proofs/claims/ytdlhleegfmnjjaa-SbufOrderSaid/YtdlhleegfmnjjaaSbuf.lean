/- The functions of layer 8 (bytes that wait) as they are called. Conditions: no more than 128 wait. -/
import Derived.Test.YtdlhleegfmnjjaaProg
import Derived.Test.YtdlhleegfmnjjaaBytes
import Derived.Lib.MinMax
import Derived.WalkSpells
import Derived.Deep.QuietTactic
import Derived.BigQuiet
import Derived.StillTailTactics
import Derived.Deep.DeepCutAuto
import Derived.Deep.CutBlock
namespace Go.Proofs.Ytdlhleegfmnjjaa.Sbuf
open Go.RowKit Argin Save Win Bytes
set_option linter.unusedVariables false
set_option linter.unusedSimpArgs false

theorem infoB : (Try.prog.info? 5).map (fun i => (i.zero, i.size, i.bytes)) = some (some (.int .u8 0), 1, 1) := by kernel_rfl

/-- Bytes that wait, in memory: the blocks F are theirs. -/
def Sb (w : World) (b : Nat) (F : Nat → Prop) (l : List UInt8) : Prop :=
  F b ∧ (∀ k, F k → k < w.heap.size) ∧ ∃ oa cap, w.heap[b]? = some (.cells #[.slice oa l.length cap] 88) ∧ Win w 0 5 1 (.slice oa l.length cap) l.length (bv l) ∧ ∀ k, blk (.slice oa l.length cap) = some k → F k ∧ k ≠ b

theorem Sb.save {w w' : World} {b : Nat} {F S : Nat → Prop} {l : List UInt8} (h : Sb w b F l) (hs : Save S w w') (hS : ∀ k, F k → ¬ S k) : Sb w' b F l := by
  obtain ⟨hb, hlt, oa, cap, hh, hw, hk⟩ := h
  exact ⟨hb, fun k e => Nat.lt_of_lt_of_le (hlt k e) hs.size, oa, cap, hs.stays hh (hS b hb), hw.save hs (fun k e => hS k (hk k e).1), hk⟩
theorem Sb.below {w w' : World} {b : Nat} {F : Nat → Prop} {l : List UInt8} (h : Sb w b F l) (hs : Below w.heap.size w w') : Sb w' b F l := h.save (Save.of_below (S := fun _ => False) hs) (fun _ _ => id)
theorem Sb.lt {w : World} {b : Nat} {F : Nat → Prop} {l : List UInt8} (h : Sb w b F l) : ∀ k, F k → k < w.heap.size := h.2.1

theorem new_any (w : World) : Calls Try.prog 34 #[] w fun e w' => e = .returned (.pointer (some ⟨w.heap.size, 0, none⟩)) ∧ Sb w' w.heap.size (· = w.heap.size) [] ∧ Below w.heap.size w w' := by
  go_enter Try.func34, Try.ntmps34
  go_wp2
  go_ret
  exact ⟨rfl, ⟨rfl, fun k e => by subst e; simp, none, 0, get_alloc _ _, Win.nil _ _ _ _, fun k e => by simp [blk] at e⟩, (Below.refl _ _).alloc (Nat.le_refl _) _⟩

theorem len_any (b : Nat) (F : Nat → Prop) (l : List UInt8) (w : World) (h : Sb w b F l) :
    Calls Try.prog 39 #[.pointer (some ⟨b, 0, none⟩)] w fun e w' => e = .returned (.int .i64 l.length) ∧ w = w' := by
  obtain ⟨hb, hFl, oa, cap, hh, hw, hk⟩ := h
  have k0 := cell_get hh 0
  clear hh
  go_enter Try.func39, Try.ntmps39
  go_wp2
  go_ret
  exact ⟨rfl, rfl⟩

theorem drop_any (b : Nat) (F : Nat → Prop) (l : List UInt8) (x : Int) (w : World) (h : Sb w b F l) (hx : -9223372036854775808 ≤ x ∧ x < 9223372036854775808) (hl : l.length ≤ 128) :
    Calls Try.prog 37 #[.pointer (some ⟨b, 0, none⟩), .int .i64 x] w fun e w' => e = .returned (.int .i64 (min x.toNat l.length : Nat)) ∧ Sb w' b F (l.drop x.toNat) ∧ Save F w w' := by
  obtain ⟨hb, hFl, oa, cap, hh, hw, hk⟩ := h
  have k0 := cell_get hh 0
  have f0 := free_get hh 0
  have HH := Lib.hid hh
  have HW := Lib.hid hw
  have HK := Lib.hid hk
  obtain ⟨i0, hi, hz0, hz1, hz2⟩ := info_parts infoB
  obtain ⟨N, hN⟩ : ∃ N : Nat, N = min x.toNat l.length := ⟨_, rfl⟩
  have hNl : N ≤ l.length := by omega
  have hmm : max 0 (min x (l.length : Int)) = (N : Int) := by omega
  have hcap : l.length ≤ cap := by obtain ⟨_, _, _, hv, h1, _⟩ := hw; cases hv; exact h1
  have hcut := fun w : World => run_cut_lo (P := Try.prog) w (oa := oa) (n := l.length) (cap := cap) Try.underlying40 hi (show (0 : Int) ≤ N by omega) (show (N : Int) ≤ l.length by omega)
  rw [hz1] at hcut
  obtain ⟨A, hA⟩ : ∃ A, cutA 1 oa cap (N : Int).toNat = A := ⟨_, rfl⟩
  rw [hA] at hcut
  simp only [Int.toNat_natCast] at hcut hA
  have HNE := Lib.hid hN
  have HA := Lib.hid hA
  clear hh hw hk hi hz0 hz1 hz2 hN hA
  go_enter Try.func37, Try.ntmps37
  go_wp2
  go_ret
  refine ⟨ret_int (by rw [HNE.out]), ⟨hb, fun k e => by have := hFl k e; simpa [World.setCell] using this, A, cap - N, ?_, ?_, fun k e => HK.out k ?_⟩, (Save.refl _ _).set b 0 hb _⟩
  · rw [List.length_drop, show l.length - x.toNat = l.length - N from by have := HNE.out; omega]
    exact get_set _ HH.out
  · have := (win_cut HW.out (Nat.le_refl _) hNl).save ((Save.refl (· = b) w).set b 0 rfl (.slice A (l.length - N) (cap - N))) (fun k e => (HK.out k (blk_cut e)).2)
    rw [HA.out, List.take_length] at this
    rw [show l.drop x.toNat = l.drop N from by
      have := HNE.out
      by_cases c : x.toNat ≤ l.length
      · congr 1; omega
      · rw [List.drop_eq_nil_of_le (by omega), List.drop_eq_nil_of_le (by omega)]]
    exact this
  · rw [← HA.out] at e; exact blk_cut e

theorem min_int (a b : Nat) : min (a : Int) (b : Int) = (min a b : Nat) := by omega

theorem put_any (b : Nat) (F : Nat → Prop) (l x : List UInt8) (B : Nat) (xa : Option Addr) (xcap : Nat) (w : World) (h : Sb w b F l) (hx : Rd w B xa xcap x) (hl : l.length ≤ 128) :
    Calls Try.prog 36 #[.pointer (some ⟨b, 0, none⟩), .slice xa x.length xcap] w fun e w' => e = .returned (.int .i64 (min x.length (128 - l.length) : Nat)) ∧ (∃ F', Sb w' b F' (l ++ x.take (128 - l.length)) ∧ ∀ k, F' k → F k ∨ w.heap.size ≤ k) ∧ Save F w w' := by
  obtain ⟨hb, hFl, oa, cap, hh, hw, hk⟩ := h
  have k0 := cell_get hh 0
  have f0 := free_get hh 0
  have HH := Lib.hid hh
  have HW := Lib.hid hw
  have HK := Lib.hid hk
  have HX := Lib.hid hx
  obtain ⟨i0, hi, hz0, hz1, hz2⟩ := info_parts infoB
  obtain ⟨N, hN⟩ : ∃ N : Nat, N = min x.length (128 - l.length) := ⟨_, rfl⟩
  have hNl : N ≤ x.length := by omega
  have hmm : min (x.length : Int) (128 - (l.length : Int)) = (N : Int) := by omega
  have hxc := hx.1
  have hxm := hx.2.1
  have hcut := fun w : World => run_cut_hi (P := Try.prog) w (oa := xa) (n := x.length) (cap := xcap) Try.underlying40 hi (show (0 : Int) ≤ N by omega) (show (N : Int) ≤ xcap by omega)
  rw [hz1, cutA_zero] at hcut
  simp only [Int.toNat_natCast] at hcut
  have HNE := Lib.hid hN
  clear hh hw hk hN hx hi hz0 hz1 hz2
  unfold maxLen at hxm
  go_enter Try.func36, Try.ntmps36
  go_wp2
  obtain ⟨i0, hi, hz0, hz1, hz2⟩ := info_parts infoB
  have HX2 : Rd w B xa xcap (x.take N) := by
    have := HX.out.cut hNl (Nat.zero_le _)
    rwa [cutA_zero, List.drop_zero, Nat.sub_zero] at this
  have hsrc := HX2.drew.src (P := Try.prog) (tx := 40) Try.underlying40
  rw [show (x.take N).length = N from by rw [List.length_take]; omega] at hsrc
  have HSrc := Lib.hid hsrc
  have H1 := Lib.hid (show l.length + N ≤ maxLen by unfold maxLen; omega)
  have H2 := Lib.hid (show (l.length + N) * 1 ≤ 140737488355328 by omega)
  clear hsrc HX2
  go_region_law ((refine step_win rfl (.tmp 19) (.tmp 22) 40 40 rfl 5 i0 (.int .u8 0) 1 1 Try.underlying40 hi hz0 hz1 hz2 rfl _ _ _ (by simp [Act.eval, Act.put]) HW.out.drew _ (by simp [Act.eval, Act.put]) N (bv (x.take N)) HSrc.out H1.out H2.out (Nat.zero_le _) ?_
                  intro v' w1 hw1 hs1 hb1
                  obtain ⟨oa1, cap1, rfl, hc1, hm1, hr1⟩ := hw1.is
                  have hh1 : w1.heap[b]? = some (.cells #[.slice oa l.length cap] 88) := hs1.stays HH.out (fun e => (HK.out b e).2 rfl)
                  have f1 := free_get hh1 0
                  have k1 := cell_get hh1 0
                  have HH1 := Lib.hid hh1
                  have HW1 := Lib.hid hw1
                  have HS1 := Lib.hid hs1
                  have HB1 := Lib.hid hb1
                  clear hh1 hw1 hs1 hb1 hr1))
  go_wp2_with fail
  go_ret
  have hlen : (l ++ x.take (128 - l.length)).length = l.length + N := by rw [List.length_append, List.length_take]; have := HNE.out; omega
  have htk : x.take (128 - l.length) = x.take N := by
    have := HNE.out
    by_cases c : x.length ≤ 128 - l.length
    · rw [List.take_of_length_le c, List.take_of_length_le (by omega)]
    · congr 1; omega
  have hS : Save F w w1 := (((Save.refl F w).drew).trans (HS1.out.mono (fun k _ e => (HK.out k e).1)))
  refine ⟨ret_int (by rw [HNE.out]), ⟨fun k => F k ∨ blk (.slice oa1 (l.length + N) cap1) = some k, ⟨.inl hb, fun k e => ?_, oa1, cap1, ?_, ?_, fun k e => ?_⟩, fun k e => ?_⟩, hS.set b 0 hb _⟩
  · have h1 := hS.size
    have : k < w1.heap.size := by
      rcases e with e | e
      · exact Nat.lt_of_lt_of_le (hFl k e) h1
      · exact (HW1.out.blk_ge e).2
    simpa [World.setCell] using this
  · rw [hlen]; exact get_set _ HH1.out
  · rw [hlen, htk, bv_app]
    refine HW1.out.save ((Save.refl (· = b) w1).set b 0 rfl _) (fun k e => ?_)
    rintro rfl
    rcases HB1.out with h | ⟨g, h, hg⟩
    · exact (HK.out _ (h ▸ e)).2 rfl
    · rw [e] at h; have := lt_of_get HH.out; cases h; exact absurd this (Nat.not_lt.2 hg)
  · rw [hlen] at e
    rcases HB1.out with h | ⟨g, h, hg⟩
    · exact ⟨.inr e, (HK.out k (h ▸ e)).2⟩
    · refine ⟨.inr e, ?_⟩
      rw [e] at h; have := lt_of_get HH.out; cases h; rintro rfl; exact absurd this (Nat.not_lt.2 hg)
  · rcases e with e | e
    · exact .inl e
    · rcases HB1.out with h | ⟨g, h, hg⟩
      · exact .inl (HK.out k (h ▸ e)).1
      · rw [e] at h; cases h; exact .inr hg

theorem clone_nil (cap : Nat) (w : World) : Calls Try.prog 56 #[.slice none 0 cap] w fun e w' => e = .returned (.slice none 0 0) ∧ w = w' := by
  have hr := fun w : World => run_eql_slice_none (P := Try.prog) w none 0 cap Try.underlying40
  go_enter Try.func56, Try.ntmps56
  go_wp2
  go_ret
  exact ⟨rfl, rfl⟩

theorem clone_some (a : Addr) (cap : Nat) (l : List UInt8) (B : Nat) (w : World) (h : Rd w B (some a) cap l) (hB : B ≤ w.heap.size) (hl : l.length ≤ 70368744177664) :
    Calls Try.prog 56 #[.slice (some a) l.length cap] w fun e w' => ∃ oa' cap', e = .returned (.slice oa' l.length cap') ∧ Win w' w.heap.size 5 1 (.slice oa' l.length cap') l.length (bv l) ∧ Below w.heap.size w w' := by
  have hr := fun w : World => run_eql_slice_none (P := Try.prog) w (some a) l.length cap Try.underlying40
  obtain ⟨i0, hi, hz0, hz1, hz2⟩ := info_parts infoB
  have HX := Lib.hid h
  clear h
  go_enter Try.func56, Try.ntmps56
  have HSrc := Lib.hid ((HX.out.below ((Below.refl w.heap.size w).alloc (Nat.le_refl _) (.cells #[] 5) |>.mono hB)).src (P := Try.prog) (tx := 40) Try.underlying40)
  go_wp2_with (at_builtin; refine wpList_win rfl (.tmp 5) (.tmp 6) 40 40 rfl 5 i0 (.int .u8 0) 1 1 Try.underlying40 hi hz0 hz1 hz2 rfl (base := w.heap.size) rfl (Win.empty _ _ _ _ _) l.length (bv l) HSrc.out ?c1 ?c2 (by simp) ?_)
  case c1 => unfold maxLen; omega
  case c2 => omega
  intro v' w1 hw1 hs1 hb1
  obtain ⟨oa1, cap1, rfl, hc1, hm1, hr1⟩ := hw1.is
  have HW1 := Lib.hid hw1
  have HS1 := Lib.hid (((Below.refl w.heap.size w).alloc (Nat.le_refl _) (.cells #[] 5)).trans (hs1.below (B := w.heap.size) (fun k _ e => by simp [blk] at e) (by simp)))
  clear hw1 hs1 hb1 hr1
  go_wp2_with fail
  go_ret
  exact ⟨oa1, cap1, rfl, HW1.out, HS1.out⟩

/-- What is looked at. -/
def seen (l : List UInt8) (f n : Int) : List UInt8 := if f < 0 ∨ l.length ≤ f ∨ n < 1 then [] else (l.drop f.toNat).take n.toNat

theorem peek_no (b : Nat) (F : Nat → Prop) (l : List UInt8) (f n : Int) (w : World) (h : Sb w b F l) (hl : l.length ≤ 128) (hn : f < 0 ∨ (l.length : Int) ≤ f ∨ n < 1) :
    Calls Try.prog 38 #[.pointer (some ⟨b, 0, none⟩), .int .i64 f, .int .i64 n] w fun e w' => e = .returned (.slice none 0 0) ∧ w = w' := by
  obtain ⟨hb, hFl, oa, cap, hh, hw, hk⟩ := h
  have k0 := cell_get hh 0
  clear hh hw hk
  by_cases c0 : f < 0
  rotate_left
  by_cases c1 : (l.length : Int) ≤ f
  rotate_left
  have c2 : n < 1 := by omega
  all_goals
    clear hn
    go_enter Try.func38, Try.ntmps38
    go_wp2
    go_ret
    exact ⟨rfl, rfl⟩

theorem peek_yes (b : Nat) (F : Nat → Prop) (l : List UInt8) (f : Nat) (n : Int) (w : World) (h : Sb w b F l) (hl : l.length ≤ 128) (hf : f < l.length) (hn : 1 ≤ n ∧ n < 9223372036854775808) :
    Calls Try.prog 38 #[.pointer (some ⟨b, 0, none⟩), .int .i64 (f : Int), .int .i64 n] w fun e w' => ∃ oa' cap', e = .returned (.slice oa' ((l.drop f).take n.toNat).length cap') ∧ Win w' w.heap.size 5 1 (.slice oa' ((l.drop f).take n.toNat).length cap') ((l.drop f).take n.toNat).length (bv ((l.drop f).take n.toNat)) ∧ Below w.heap.size w w' := by
  obtain ⟨hb, hFl, oa, cap, hh, hw, hk⟩ := h
  have k0 := cell_get hh 0
  obtain ⟨i0, hi, hz0, hz1, hz2⟩ := info_parts infoB
  obtain ⟨K, hK⟩ : ∃ K : Nat, K = min n.toNat (l.length - f) := ⟨_, rfl⟩
  have hK1 : K ≤ l.length - f := by omega
  have hmm : min n ((l.length : Int) - f) = (K : Int) := by omega
  have hcap : l.length ≤ cap := by obtain ⟨_, _, _, hv, h1, _⟩ := hw; cases hv; exact h1
  obtain ⟨A, hA⟩ : ∃ A, cutA 1 oa cap f = A := ⟨_, rfl⟩
  have hcut := fun w : World => run_cut_lo (P := Try.prog) w (oa := oa) (n := l.length) (cap := cap) Try.underlying40 hi (show (0 : Int) ≤ f by omega) (show (f : Int) ≤ l.length by omega)
  have hcut2 := fun w : World => run_cut_hi (P := Try.prog) w (oa := A) (n := l.length - f) (cap := cap - f) Try.underlying40 hi (show (0 : Int) ≤ K by omega) (show (K : Int) ≤ ((cap - f : Nat) : Int) by omega)
  rw [hz1, Int.toNat_natCast, hA] at hcut
  rw [hz1, Int.toNat_natCast, cutA_zero] at hcut2
  have heq : (l.drop f).take n.toNat = (l.take (f + K)).drop f := by
    rw [List.drop_take, show f + K - f = K from by omega]
    by_cases c : n.toNat ≤ l.length - f
    · congr 1; omega
    · rw [List.take_of_length_le (by rw [List.length_drop]; omega), List.take_of_length_le (by rw [List.length_drop]; omega)]
  rw [heq]
  have hlen : ((l.take (f + K)).drop f).length = K := by rw [List.length_drop, List.length_take]; omega
  obtain ⟨a, ha⟩ : ∃ a, A = some a := by
    rcases (Rd.of_win hw).2.2 with h | ⟨b2, o2, rfl, _⟩
    · subst h; simp at hf
    · rw [← hA]; unfold cutA; split <;> exact ⟨_, rfl⟩
  have hrd := (Rd.of_win hw).cut (k := f) (n := f + K) (by omega) (by omega)
  rw [hA, ha] at hrd
  rw [ha] at hcut hcut2
  have HRd := Lib.hid hrd
  have hclone := clone_some a (cap - f) _ _ w.drew hrd.drew (Nat.le_refl _) (by rw [hlen]; omega)
  generalize ((l.take (f + K)).drop f) = r at hclone hlen ⊢
  have HC := Lib.hid hclone
  rw [hlen] at hclone
  have HC := Lib.hid hclone
  rw [hlen]
  clear hh hw hk hi hz0 hz1 hz2 hK hrd hclone heq hA ha
  go_enter Try.func38, Try.ntmps38
  have hwr : IntKind.i64.wrap ((l.length : Int) - f) = l.length - f := Argin.i64_in _ (by omega)
  go_wp2_with fail
  go_still_tail 16, (by kernel_rfl)
  change wpList _ _ _ _ _ w.drew
  clear hwr
  go_wp2_with fail
  refine (HC.out).mono ?_
  rintro e w1 ⟨oa', cap', rfl, hw1, hb1⟩
  have HW1 := Lib.hid hw1
  have HB1 := Lib.hid hb1
  clear hw1 hb1
  go_wp2_with fail
  go_ret
  exact ⟨oa', cap', rfl, HW1.out, (below_drewN (Below.refl w.heap.size w) 1).trans HB1.out⟩

end Go.Proofs.Ytdlhleegfmnjjaa.Sbuf
