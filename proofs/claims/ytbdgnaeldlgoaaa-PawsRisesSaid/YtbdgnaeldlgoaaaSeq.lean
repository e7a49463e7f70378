/- The three functions of layer 1 as they are called, each with its answer in plain numbers. Conditions: none but the numbers' kinds. -/
import Derived.Test.YtbdgnaeldlgoaaaProg
import Derived.WalkKit
import Derived.Below
import Derived.Lib.Hide
namespace Go.Proofs.Ytbdgnaeldlgoaaa.Seq
open Go.RowKit

theorem wf_u32 {a : Int} (h : (Lit.int .u32 a).wf = true) : 0 ≤ a ∧ a < 4294967296 := by
  have h' : (decide (0 ≤ a) && decide (a ≤ 4294967295)) = true := h
  simp only [Bool.and_eq_true, decide_eq_true_eq] at h'
  omega

theorem wf_i64 {a : Int} (h : (Lit.int .i64 a).wf = true) : -9223372036854775808 ≤ a ∧ a < 9223372036854775808 := by
  have h' : (decide (-9223372036854775808 ≤ a) && decide (a ≤ 9223372036854775807)) = true := h
  simp only [Bool.and_eq_true, decide_eq_true_eq] at h'
  omega

theorem u64_wrap (a : Int) : IntKind.u64.wrap a = a % 18446744073709551616 := by
  have h : IntKind.u64.wrap a = (if (false && decide (a % (2 ^ 64 : Int) ≥ (2 ^ 63 : Int))) = true then a % (2 ^ 64 : Int) - (2 ^ 64 : Int) else a % (2 ^ 64 : Int)) := rfl
  rw [h]; simp

/-- b less a, modulo 2^32. -/
def dist (a b : Int) : Int := (b - a) % 4294967296
def bef (a b : Int) : Bool := decide (0 < dist a b ∧ dist a b < 2147483648)
def gap (a b : Int) : Int := if dist a b < 2147483648 then dist a b else dist a b - 4294967296
def ins (x f n : Int) : Bool := decide (0 < n ∧ dist f x < n)

theorem ret_bool {a b : Bool} (h : a = b) : Ending.returned (.bool a) = Ending.returned (.bool b) := by rw [h]
theorem ret_int {k : IntKind} {a b : Int} (h : a = b) : Ending.returned (.int k a) = Ending.returned (.int k b) := by rw [h]

theorem before_any (a b : Int) (w : World) : Calls Try.prog 15 #[.int .u32 a, .int .u32 b] w fun e w' => e = .returned (.bool (bef a b)) ∧ w = w' := by
  go_enter Try.func15, Try.ntmps15
  go_wp2
  go_ret
  exact ⟨ret_bool (by unfold bef dist; rw [decide_eq_decide]; unfold wrap32; omega), rfl⟩

theorem gap_any (a b : Int) (w : World) : Calls Try.prog 17 #[.int .u32 a, .int .u32 b] w fun e w' => e = .returned (.int .i64 (gap a b)) ∧ w = w' := by
  go_enter Try.func17, Try.ntmps17
  go_wp2
  go_ret
  exact ⟨ret_int (by unfold gap dist wrap64 wrap32; split <;> omega), rfl⟩

theorem in_any (x f n : Int) (w : World) (hn : -9223372036854775808 ≤ n ∧ n < 9223372036854775808) : Calls Try.prog 19 #[.int .u32 x, .int .u32 f, .int .i64 n] w fun e w' => e = .returned (.bool (ins x f n)) ∧ w = w' := by
  by_cases h : 0 < n
  · go_enter Try.func19, Try.ntmps19
    go_wp2
    go_ret
    exact ⟨ret_bool (by unfold ins dist; rw [decide_eq_decide]; omega), rfl⟩
  · go_enter Try.func19, Try.ntmps19
    go_wp2
    go_ret
    exact ⟨ret_bool (by unfold ins dist; symm; rw [decide_eq_false_iff_not]; omega), rfl⟩

end Go.Proofs.Ytbdgnaeldlgoaaa.Seq
