/- The functions of layer 13 (which state follows which) and the document's, as they are called. Conditions: none but the numbers' kinds. -/
import Derived.Test.YtbdgnaeldlgoaaaProg
import Derived.Test.YtbdgnaeldlgoaaaSave
import Derived.Laws.StructEq
import Derived.WalkSpells
namespace Go.Proofs.Ytbdgnaeldlgoaaa.State
open Go.RowKit Argin Save
set_option linter.unusedVariables false

theorem turn_eq (w : World) (a b c d : Int) : (binOp .eql 71 (.agg #[.int .i64 a, .int .i64 b]) (.agg #[.int .i64 c, .int .i64 d])).run Try.prog w = .ok (.bool (decide (a = c ∧ b = d))) w := by
  have e : ∃ f g : Field, Try.prog.fieldsOf 71 = #[f, g] ∧ f.type = 3 ∧ g.type = 3 ∧ f.offset = 0 ∧ g.offset = 1 := ⟨_, _, rfl, rfl, rfl, rfl, rfl⟩
  simp [run_eql_struct, run_equalIn_agg, go_sem]
  by_cases h1 : a = c <;> by_cases h2 : b = d <;> simp [h1, h2]

/-- The next state; -1: none is told. -/
def nx (s e : Int) : Int :=
  if s = 1 ∧ e = 2 ∨ s = 2 ∧ e = 1 then 3 else if s = 1 ∧ e = 3 then 2 else if s = 1 ∧ e = 4 then 0 else if s = 3 ∧ e = 4 then 4 else if s = 3 ∧ e = 5 then 7 else if s = 4 ∧ e = 6 then 5 else if s = 4 ∧ e = 5 then 6
  else if s = 7 ∧ e = 4 then 8 else if s = 5 ∧ e = 5 ∨ s = 6 ∧ e = 6 ∨ s = 8 ∧ e = 6 then 9 else -1

set_option maxHeartbeats 2000000 in
theorem next_any (s e : Int) (w : World) : Calls Try.prog 61 #[.agg #[.int .i64 s, .int .i64 e]] w fun x w' => x = .returned (.int .i64 (nx s e)) ∧ Below w.heap.size w w' := by
  have hb : Below w.heap.size w (w.alloc (.cells #[.int .i64 s, .int .i64 e] 71)) := (Below.refl _ _).alloc (Nat.le_refl _) _
  have ht := turn_eq
  go_enter Try.func61, Try.ntmps61
  go_wp2
  all_goals
    go_ret
    refine ⟨ret_int ?_, hb⟩
    unfold nx
    (repeat' split) <;> omega

end Go.Proofs.Ytbdgnaeldlgoaaa.State
