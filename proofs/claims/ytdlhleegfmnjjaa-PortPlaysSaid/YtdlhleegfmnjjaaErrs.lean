/- The number of an error, as the laws ask for it. Conditions: the number is one of api's. -/
import Derived.Test.YtdlhleegfmnjjaaProg
import Derived.Test.YtdlhleegfmnjjaaSave
import Derived.WideLaws
import Derived.WalkSpells
namespace Go.Proofs.Ytdlhleegfmnjjaa.Errs
open Go.RowKit Argin Save
set_option linter.unusedVariables false
set_option linter.unusedSimpArgs false

/-- No error, or one of api's. -/
def err (k : Int) : Value := if k = 0 then .nilIface else .iface 38 (.int .i64 k)
theorem err_zero : err 0 = .nilIface := rfl
theorem err_code (k : Int) (h : k ≠ 0) : err k = .iface 38 (.int .i64 k) := if_neg h
theorem code_info : ∃ i, Try.prog.info? 38 = some i ∧ i.comparable = true := ⟨_, rfl, by kernel_rfl⟩
theorem code_eql (w : World) (a b : Int) : (binOp .eql 31 (.iface 38 (.int .i64 a)) (.iface 38 (.int .i64 b))).run Try.prog w = .ok (.bool (a == b)) w := by
  obtain ⟨i, hi, hc⟩ := code_info
  exact run_eql_code (P := Try.prog) w a b Try.underlying31 Try.underlying38 hi hc
theorem code_neq (w : World) (a b : Int) : (binOp .neq 31 (.iface 38 (.int .i64 a)) (.iface 38 (.int .i64 b))).run Try.prog w = .ok (.bool (a != b)) w := by
  obtain ⟨i, hi, hc⟩ := code_info
  exact run_neq_code (P := Try.prog) w a b Try.underlying31 Try.underlying38 hi hc

/-- The number of an error that is one of api's. -/
theorem code_any (k : Int) (w : World) (hk : 0 ≤ k ∧ k ≤ 14) : Calls Try.prog 21 #[err k] w fun e w' => e = .returned (.int .i64 k) ∧ w = w' := by
  by_cases h0 : k = 0
  · subst h0
    have he : err 0 = .nilIface := rfl
    rw [he]
    go_enter Try.func21, Try.ntmps21
    go_wp2
    go_ret
    exact ⟨rfl, rfl⟩
  · have he : err k = .iface 38 (.int .i64 k) := by unfold err; rw [if_neg h0]
    rw [he]
    have hr := code_eql
    clear he
    go_enter Try.func21, Try.ntmps21
    go_wp2
    go_loop [3] (fun n => ∃ m : Int, 1 ≤ m ∧ m ≤ k ∧ n = .int .i64 m) (fun n => (14 - intOf n).toNat)
    case atStart => exact ⟨1, by omega, by omega, rfl⟩
    case round =>
      obtain ⟨m, hm1, hm2, rfl⟩ := hrel
      by_cases hm : m = k
      · have hb : (k == m) = true := beq_iff_eq.2 hm.symm
        go_wp2
        go_ret
        exact ⟨rfl, rfl⟩
      · have hb : (k == m) = false := beq_eq_false_iff_ne.2 (fun e => hm e.symm)
        go_wp2
        go_round
        case rel => exact ⟨m + 1, by omega, by omega, rfl⟩
        case measure => simp [intOf]; omega

end Go.Proofs.Ytdlhleegfmnjjaa.Errs
