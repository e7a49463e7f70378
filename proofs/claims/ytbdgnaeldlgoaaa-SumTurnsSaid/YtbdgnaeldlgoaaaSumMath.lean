/- Plain numbers behind SumTurns: what Put tells is right; with a bit turned it isn't. -/
import Derived.Test.YtbdgnaeldlgoaaaSumUp
namespace Go.Proofs.Ytbdgnaeldlgoaaa.Sum
open Go.RowKit Argin Save
set_option linter.unusedVariables false
set_option linter.unusedSimpArgs false

theorem tot_succ (f : Nat → Int) (k : Nat) : tot f (k + 1) = tot f k + (if k % 2 = 0 then 256 * f k else f k) := rfl

theorem tot_congr (f g : Nat → Int) (n : Nat) (h : ∀ i, i < n → f i = g i) : tot f n = tot g n := by
  induction n with
  | zero => rfl
  | succ n ih => unfold tot; rw [ih (fun i hi => h i (by omega)), h n (by omega)]

theorem fd_mod (n : Int) (h : 0 ≤ n) : (n - fd n) % 65535 = 0 ∧ fd n ≤ n := by unfold fd; split <;> omega

theorem zero_iff (f : Nat → Int) (n : Nat) (h : 0 ≤ tot f n) : sumOf f n = 0 ↔ tot f n % 65535 = 0 ∧ 0 < tot f n := by
  unfold sumOf fd; split <;> omega

theorem put_right (f : Nat → Int) (len : Nat) (hf : ∀ i, i < len → 0 ≤ f i ∧ f i < 256) : right (putf f len) (padn len + 2) = true := by
  have hp : padn len % 2 = 0 := by unfold padn; omega
  have hle : len ≤ padn len := by unfold padn; omega
  have hr := sum_range (padf f len) (padn len)
  have e1 : tot (putf f len) (padn len) = tot (padf f len) (padn len) := by
    refine tot_congr _ _ _ fun i hi => ?_
    unfold putf padf
    by_cases h : i < len
    · rw [if_pos h, if_pos h]
    · rw [if_neg h, if_neg h, if_pos hi]
  have e2 : putf f len (padn len) = sumOf (padf f len) (padn len) / 256 := by unfold putf; rw [if_neg (by omega), if_neg (by omega), if_pos rfl]
  have e3 : putf f len (padn len + 1) = sumOf (padf f len) (padn len) % 256 := by unfold putf; rw [if_neg (by omega), if_neg (by omega), if_neg (by omega)]
  have e4 : tot (putf f len) (padn len + 2) = tot (padf f len) (padn len) + sumOf (padf f len) (padn len) := by
    show tot (putf f len) (padn len + 1 + 1) = _
    rw [tot_succ, tot_succ, e1, e2, e3, if_pos hp, if_neg (by omega)]; omega
  have hb := tot_bound (padf f len) (padn len) (fun i _ => padf_range hf i)
  have hm := fd_mod (tot (padf f len) (padn len)) hb.1
  have hfr := fd_range (tot (padf f len) (padn len))
  have hz : sumOf (putf f len) (padn len + 2) = 0 := by
    rw [zero_iff _ _ (by rw [e4]; omega), e4]
    unfold sumOf fd at *
    split at hm <;> simp_all <;> omega
  unfold right
  rw [decide_eq_true_eq]
  exact ⟨by omega, by omega, hz⟩

/-- One number turned by a power of two below 2^8. -/
theorem tot_turn (f g : Nat → Int) (i : Nat) (d : Int) (hg : g i = f i + d) (ho : ∀ j, j ≠ i → g j = f j) : ∀ n, i < n → tot g n = tot f n + (if i % 2 = 0 then 256 * d else d) := by
  intro n
  induction n with
  | zero => intro h; omega
  | succ n ih =>
    intro h
    by_cases e : i = n
    · subst e
      unfold tot
      rw [tot_congr g f i (fun j hj => ho j (by omega)), hg]
      split <;> omega
    · rw [tot_succ, tot_succ, ih (by omega), ho n (fun h => e h.symm)]
      omega

theorem pow_small (j : Nat) (h : j < 8) : (1 : Int) ≤ 2 ^ j ∧ (2 : Int) ^ j ≤ 128 := by
  match j, h with
  | 0, _ | 1, _ | 2, _ | 3, _ | 4, _ | 5, _ | 6, _ | 7, _ => decide

theorem turned_wrong (f g : Nat → Int) (n i : Nat) (d : Int) (hi : i < n) (hg : g i = f i + d) (ho : ∀ j, j ≠ i → g j = f j) (hd : 1 ≤ d ∧ d ≤ 128 ∨ -128 ≤ d ∧ d ≤ -1) (hf : ∀ i, i < n → 0 ≤ f i ∧ f i < 256) (hgr : ∀ i, i < n → 0 ≤ g i ∧ g i < 256) (hr : right f n = true) : right g n = false := by
  unfold right at *
  rw [decide_eq_true_eq] at hr
  rw [decide_eq_false_iff_not]
  intro hc
  have b1 := tot_bound f n hf
  have b2 := tot_bound g n hgr
  have z1 := (zero_iff f n b1.1).1 hr.2.2
  have z2 := (zero_iff g n b2.1).1 hc.2.2
  have t := tot_turn f g i d hg ho n hi
  split at t <;> omega

end Go.Proofs.Ytbdgnaeldlgoaaa.Sum
