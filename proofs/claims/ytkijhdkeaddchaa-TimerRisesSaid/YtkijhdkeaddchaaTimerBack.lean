/- How long a wait is, doubled (layer 7), and the document's example. Conditions: the numbers' kinds. -/
import Derived.Test.YtkijhdkeaddchaaTimerPop
import Derived.Deep.DeepCutAuto
import Derived.Deep.CutBlock
namespace Go.Proofs.Ytkijhdkeaddchaa.Timer
open Go.RowKit Go.Maps Argin Save
set_option linter.unusedVariables false
set_option linter.unusedSimpArgs false

def bkf (top : Int) : Nat → Int → Int
  | 0, n => n
  | k + 1, n => if n < top then bkf top k (min (2 * n) top) else n
theorem bkf_big (top : Int) (k : Nat) (n : Int) (h : top ≤ n) : bkf top k n = n := by
  cases k with
  | zero => rfl
  | succ k => exact if_neg (by omega)
theorem bkf_step (top : Int) (k : Nat) (n : Int) (h : n < top) : bkf top (k + 1) n = bkf top k (min (2 * n) top) := if_pos h
theorem bkf_pos (top : Int) (ht : 1 ≤ top) : ∀ (k : Nat) (n : Int), 1 ≤ n → 1 ≤ bkf top k n
  | 0, n, h => h
  | k + 1, n, h => by
    unfold bkf; split
    · exact bkf_pos top ht k _ (by omega)
    · exact h
theorem bkf_mono (top : Int) (ht : 1 ≤ top) : ∀ (k : Nat) (n : Int), 1 ≤ n → min (bkf top k n) top ≤ min (bkf top (k + 1) n) top
  | 0, n, h => by unfold bkf; simp only [bkf]; split <;> omega
  | k + 1, n, h => by
    by_cases c : n < top
    · rw [bkf_step _ _ _ c, bkf_step _ _ _ c]; exact bkf_mono top ht k _ (by omega)
    · rw [bkf_big _ _ _ (by omega), bkf_big _ _ _ (by omega)]; exact Int.le_refl _
def back (rto tries most : Int) : Int := min (bkf (max most 1) tries.toNat (max rto 1)) (max most 1)

set_option maxHeartbeats 1000000 in
theorem back_any (rto tries most : Int) (w : World) (h0 : KIn rto) (h1 : KIn tries) (h2 : KIn most) :
    Calls Try.prog 31 #[.int .i64 rto, .int .i64 tries, .int .i64 most] w fun e w' => e = .returned (.int .i64 (back rto tries most)) ∧ w = w' := by
  unfold KIn at h0 h1 h2
  obtain ⟨top, ht⟩ : ∃ top, top = max most 1 := ⟨_, rfl⟩
  obtain ⟨n0, hn⟩ : ∃ n0, n0 = max rto 1 := ⟨_, rfl⟩
  have HE := Lib.hid (show back rto tries most = min (bkf top tries.toNat n0) top from by rw [ht, hn]; rfl)
  have hm1 : max most 1 = top := ht.symm
  have hm2 : max rto 1 = n0 := hn.symm
  have hr1 : 1 ≤ top ∧ top < 9223372036854775808 := by omega
  have hr2 : 1 ≤ n0 ∧ n0 < 9223372036854775808 := by omega
  clear ht hn
  go_enter Try.func31, Try.ntmps31
  go_wp2_with fail
  clear hm1 hm2
  go_loop [7, 9] (fun sn si => ∃ (i : Nat) (n : Int), sn = .int .i64 n ∧ si = .int .i64 i ∧ (i : Int) ≤ max tries 0 ∧ 1 ≤ n ∧ (n ≤ top ∨ n = n0) ∧ bkf top tries.toNat n0 = bkf top (tries.toNat - i) n) (fun sn _ => (top - intOf sn).toNat)
  case atStart => exact ⟨0, n0, rfl, rfl, by omega, by omega, .inr rfl, rfl⟩
  case round =>
    obtain ⟨i, n, rfl, rfl, hi, hn1, hn2, hb⟩ := hrel
    have HB := Lib.hid hb
    clear hb
    by_cases hlt : (i : Int) < tries
    · by_cases hc : n < top
      · have hmm : min n (top - n) = min (2 * n) top - n := by omega
        have hb := HB.out
        rw [show tries.toNat - i = tries.toNat - (i + 1) + 1 from by omega, bkf_step _ _ _ hc] at hb
        have HB2 := Lib.hid hb
        have hw1 : IntKind.i64.wrap (top - n) = top - n := Argin.i64_in _ (by omega)
        have hsum : n + (min (2 * n) top - n) = min (2 * n) top := by omega
        clear hb
        go_wp2_with fail
        go_round
        case rel => exact ⟨i + 1, min (2 * n) top, by first | rfl | (rw [show n + min n (top - n) = min (2 * n) top from by omega]), by go_num, by omega, by omega, .inl (by omega), HB2.out⟩
        case measure => first | (simp [intOf]; omega) | (simp only [intOf]; omega)
      · have hb := HB.out
        rw [bkf_big _ _ n (by omega)] at hb
        have HB2 := Lib.hid hb
        clear hb
        go_wp2_with fail
        go_ret
        exact ⟨ret_int (by rw [HE.out, HB2.out]), rfl⟩
    · have hb := HB.out
      rw [show tries.toNat - i = 0 from by omega] at hb
      have HB2 := Lib.hid (show bkf top tries.toNat n0 = n from hb)
      clear hb
      go_wp2_with fail
      go_ret
      exact ⟨ret_int (by rw [HE.out, HB2.out]), rfl⟩
end Go.Proofs.Ytkijhdkeaddchaa.Timer
