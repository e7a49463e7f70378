/- One of n, as the laws pick it. Conditions: n is no less than 1. -/
import Derived.Test.YtdlhleegfmnjjaaProg
import Derived.Test.YtdlhleegfmnjjaaSave
import Derived.WalkSpells
namespace Go.Proofs.Ytdlhleegfmnjjaa.Pick
open Go.RowKit Argin Save
set_option linter.unusedVariables false
set_option linter.unusedSimpArgs false

def pick (c n : Int) : Int := (if c < 0 then -(c + 1) else c) % n
theorem pick_in (c n : Int) (h : 1 ≤ n) : 0 ≤ pick c n ∧ pick c n < n := ⟨Int.emod_nonneg _ (by omega), Int.emod_lt_of_pos _ (by omega)⟩
theorem pick_any (c n : Int) (w : World) (hc : -9223372036854775808 ≤ c ∧ c < 9223372036854775808) (hn : 1 ≤ n ∧ n ≤ 1000) :
    Calls Try.prog 35 #[.int .i64 c, .int .i64 n] w fun e w' => e = .returned (.int .i64 (pick c n)) ∧ w = w' := by
  have n0 : ¬ n = 0 := by omega
  by_cases h : c < 0
  · have E := Lib.hid (show pick c n = (-(c + 1)) % n from by unfold pick; rw [if_pos h])
    go_enter Try.func35, Try.ntmps35
    go_wp2
    go_ret
    exact ⟨ret_int (by rw [E.out, ← Int.neg_tmod, Int.tmod_eq_emod_of_nonneg (by omega)]), rfl⟩
  · have E := Lib.hid (show pick c n = c % n from by unfold pick; rw [if_neg h])
    go_enter Try.func35, Try.ntmps35
    go_wp2
    go_ret
    exact ⟨ret_int (by rw [E.out]), rfl⟩
end Go.Proofs.Ytdlhleegfmnjjaa.Pick
