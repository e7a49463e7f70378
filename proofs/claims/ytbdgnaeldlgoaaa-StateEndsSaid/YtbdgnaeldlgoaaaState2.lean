/- The functions of layer 13 and the document's, as they are called, but the inner table. Conditions: none but the numbers' kinds. -/
import Derived.Test.YtbdgnaeldlgoaaaState
namespace Go.Proofs.Ytbdgnaeldlgoaaa.State
open Go.RowKit Argin Save
set_option linter.unusedVariables false
set_option linter.unusedSimpArgs false

/-- What Next tells: the next state, and whether there is one. -/
def nst (s e : Int) : Int := if e = 7 ∧ 1 ≤ s ∧ s ≤ 8 then 0 else if nx s e < 0 then s else nx s e
def hasn (s e : Int) : Bool := decide (e = 7 ∧ 1 ≤ s ∧ s ≤ 8) || decide (0 ≤ nx s e)

theorem to_dead {s e : Int} (h : e = 7 ∧ 1 ≤ s ∧ s ≤ 8) : nst s e = 0 ∧ hasn s e = true := ⟨by unfold nst; rw [if_pos h], by unfold hasn; rw [decide_eq_true h]; rfl⟩
theorem to_none {s e : Int} (h : ¬ (e = 7 ∧ 1 ≤ s ∧ s ≤ 8)) (hn : nx s e < 0) : nst s e = s ∧ hasn s e = false := ⟨by unfold nst; rw [if_neg h, if_pos hn], by unfold hasn; rw [decide_eq_false h, decide_eq_false (by omega)]; rfl⟩
theorem to_some {s e : Int} (h : ¬ (e = 7 ∧ 1 ≤ s ∧ s ≤ 8)) (hn : ¬ nx s e < 0) : nst s e = nx s e ∧ hasn s e = true := ⟨by unfold nst; rw [if_neg h, if_neg hn], by unfold hasn; rw [decide_eq_false h, decide_eq_true (by omega)]; rfl⟩

theorem Next_dead (s e : Int) (w : World) (h0 : (e == 7) = true) (h1 : 1 ≤ s) (h2 : s ≤ 8) (E : Hid (nst s e = 0 ∧ hasn s e = true)) : Calls Try.prog 44 #[.int .i64 s, .int .i64 e] w fun x w' => x = .returned (.tuple #[.int .i64 (nst s e), .bool (hasn s e)]) ∧ Below w.heap.size w w' := by
  go_enter Try.func44, Try.ntmps44
  go_wp2_with (go_at_call 61; ((with_reducible refine (next_any _ _ _).mono ?_); rintro x w1 ⟨rfl, hb⟩))
  go_ret2
  exact ⟨by simp [E.out.1, E.out.2], Below.refl _ _⟩

theorem Next_else_none (s e : Int) (w : World) (h0 : (e == 7) = false) (hn : nx s e < 0) (E : Hid (nst s e = s ∧ hasn s e = false)) : Calls Try.prog 44 #[.int .i64 s, .int .i64 e] w fun x w' => x = .returned (.tuple #[.int .i64 (nst s e), .bool (hasn s e)]) ∧ Below w.heap.size w w' := by
  go_enter Try.func44, Try.ntmps44
  go_wp2_with (go_at_call 61; ((with_reducible refine (next_any _ _ _).mono ?_); rintro x w1 ⟨rfl, hb⟩))
  go_ret2
  exact ⟨by simp [E.out.1, E.out.2], hb⟩

theorem Next_else_some (s e : Int) (w : World) (h0 : (e == 7) = false) (hn : 0 ≤ nx s e) (E : Hid (nst s e = nx s e ∧ hasn s e = true)) : Calls Try.prog 44 #[.int .i64 s, .int .i64 e] w fun x w' => x = .returned (.tuple #[.int .i64 (nst s e), .bool (hasn s e)]) ∧ Below w.heap.size w w' := by
  go_enter Try.func44, Try.ntmps44
  go_wp2_with (go_at_call 61; ((with_reducible refine (next_any _ _ _).mono ?_); rintro x w1 ⟨rfl, hb⟩))
  go_ret2
  exact ⟨by simp [E.out.1, E.out.2], hb⟩

theorem Next_low_none (s e : Int) (w : World) (h0 : (e == 7) = true) (h1 : s < 1) (hn : nx s e < 0) (E : Hid (nst s e = s ∧ hasn s e = false)) : Calls Try.prog 44 #[.int .i64 s, .int .i64 e] w fun x w' => x = .returned (.tuple #[.int .i64 (nst s e), .bool (hasn s e)]) ∧ Below w.heap.size w w' := by
  go_enter Try.func44, Try.ntmps44
  go_wp2_with (go_at_call 61; ((with_reducible refine (next_any _ _ _).mono ?_); rintro x w1 ⟨rfl, hb⟩))
  go_ret2
  exact ⟨by simp [E.out.1, E.out.2], hb⟩

theorem Next_low_some (s e : Int) (w : World) (h0 : (e == 7) = true) (h1 : s < 1) (hn : 0 ≤ nx s e) (E : Hid (nst s e = nx s e ∧ hasn s e = true)) : Calls Try.prog 44 #[.int .i64 s, .int .i64 e] w fun x w' => x = .returned (.tuple #[.int .i64 (nst s e), .bool (hasn s e)]) ∧ Below w.heap.size w w' := by
  go_enter Try.func44, Try.ntmps44
  go_wp2_with (go_at_call 61; ((with_reducible refine (next_any _ _ _).mono ?_); rintro x w1 ⟨rfl, hb⟩))
  go_ret2
  exact ⟨by simp [E.out.1, E.out.2], hb⟩

theorem Next_high_none (s e : Int) (w : World) (h0 : (e == 7) = true) (h1 : 8 < s) (hn : nx s e < 0) (E : Hid (nst s e = s ∧ hasn s e = false)) : Calls Try.prog 44 #[.int .i64 s, .int .i64 e] w fun x w' => x = .returned (.tuple #[.int .i64 (nst s e), .bool (hasn s e)]) ∧ Below w.heap.size w w' := by
  go_enter Try.func44, Try.ntmps44
  go_wp2_with (go_at_call 61; ((with_reducible refine (next_any _ _ _).mono ?_); rintro x w1 ⟨rfl, hb⟩))
  go_ret2
  exact ⟨by simp [E.out.1, E.out.2], hb⟩

theorem Next_high_some (s e : Int) (w : World) (h0 : (e == 7) = true) (h1 : 8 < s) (hn : 0 ≤ nx s e) (E : Hid (nst s e = nx s e ∧ hasn s e = true)) : Calls Try.prog 44 #[.int .i64 s, .int .i64 e] w fun x w' => x = .returned (.tuple #[.int .i64 (nst s e), .bool (hasn s e)]) ∧ Below w.heap.size w w' := by
  go_enter Try.func44, Try.ntmps44
  go_wp2_with (go_at_call 61; ((with_reducible refine (next_any _ _ _).mono ?_); rintro x w1 ⟨rfl, hb⟩))
  go_ret2
  exact ⟨by simp [E.out.1, E.out.2], hb⟩

theorem Next_any (s e : Int) (w : World) : Calls Try.prog 44 #[.int .i64 s, .int .i64 e] w fun x w' => x = .returned (.tuple #[.int .i64 (nst s e), .bool (hasn s e)]) ∧ Below w.heap.size w w' := by
  by_cases h : e = 7 ∧ 1 ≤ s ∧ s ≤ 8
  · exact Next_dead s e w (beq_iff_eq.2 h.1) h.2.1 h.2.2 (to_dead h)
  · by_cases hn : nx s e < 0
    · by_cases h0 : e = 7
      · by_cases h1 : s < 1
        · exact Next_low_none s e w (beq_iff_eq.2 h0) h1 hn (to_none h hn)
        · exact Next_high_none s e w (beq_iff_eq.2 h0) (by omega) hn (to_none h hn)
      · exact Next_else_none s e w (beq_eq_false_iff_ne.2 h0) hn (to_none h hn)
    · by_cases h0 : e = 7
      · by_cases h1 : s < 1
        · exact Next_low_some s e w (beq_iff_eq.2 h0) h1 (by omega) (to_some h hn)
        · exact Next_high_some s e w (beq_iff_eq.2 h0) (by omega) (by omega) (to_some h hn)
      · exact Next_else_some s e w (beq_eq_false_iff_ne.2 h0) (by omega) (to_some h hn)

def sends (s : Int) : Bool := decide (s = 3 ∨ s = 4 ∨ s = 6 ∨ s = 7 ∨ s = 8)
def hears (s : Int) : Bool := decide (3 ≤ s ∧ s ≤ 5)
def over (s : Int) : Bool := decide (s = 0 ∨ s = 9)

theorem sends_any (s : Int) (w : World) : Calls Try.prog 46 #[.int .i64 s] w fun x w' => x = .returned (.bool (sends s)) ∧ w = w' := by
  go_enter Try.func46, Try.ntmps46
  go_wp2
  all_goals
    try simp only [beq_iff_eq, beq_eq_false_iff_ne] at *
    go_ret
    exact ⟨ret_bool (by unfold sends; first | (symm; rw [decide_eq_true_eq]; omega) | (symm; rw [decide_eq_false_iff_not]; omega)), rfl⟩
theorem rsends_any (s : Int) (w : World) : Calls Try.prog 47 #[.int .i64 s] w fun x w' => x = .returned (.bool (sends s)) ∧ w = w' := by
  go_enter Try.func47, Try.ntmps47
  go_wp2
  all_goals
    try simp only [beq_iff_eq, beq_eq_false_iff_ne] at *
    go_ret
    exact ⟨ret_bool (by unfold sends; first | (symm; rw [decide_eq_true_eq]; omega) | (symm; rw [decide_eq_false_iff_not]; omega) | (rw [Bool.eq_iff_iff]; simp only [Bool.or_eq_true, Bool.and_eq_true, beq_iff_eq, decide_eq_true_eq]; try omega)), rfl⟩
theorem hears_any (s : Int) (w : World) : Calls Try.prog 48 #[.int .i64 s] w fun x w' => x = .returned (.bool (hears s)) ∧ w = w' := by
  go_enter Try.func48, Try.ntmps48
  go_wp2
  all_goals
    go_ret
    exact ⟨ret_bool (by unfold hears; first | (symm; rw [decide_eq_true_eq]; omega) | (symm; rw [decide_eq_false_iff_not]; omega) | (rw [decide_eq_decide]; omega)), rfl⟩
theorem rhears_any (s : Int) (w : World) : Calls Try.prog 49 #[.int .i64 s] w fun x w' => x = .returned (.bool (hears s)) ∧ w = w' := by
  go_enter Try.func49, Try.ntmps49
  go_wp2
  all_goals
    try simp only [beq_iff_eq, beq_eq_false_iff_ne] at *
    go_ret
    exact ⟨ret_bool (by unfold hears; first | (symm; rw [decide_eq_true_eq]; omega) | (symm; rw [decide_eq_false_iff_not]; omega) | (rw [Bool.eq_iff_iff]; simp only [Bool.or_eq_true, Bool.and_eq_true, beq_iff_eq, decide_eq_true_eq]; try omega)), rfl⟩
theorem over_any (s : Int) (w : World) : Calls Try.prog 43 #[.int .i64 s] w fun x w' => x = .returned (.bool (over s)) ∧ w = w' := by
  go_enter Try.func43, Try.ntmps43
  go_wp2
  all_goals
    try simp only [beq_iff_eq, beq_eq_false_iff_ne] at *
    go_ret
    exact ⟨ret_bool (by unfold over; first | (symm; rw [decide_eq_true_eq]; omega) | (symm; rw [decide_eq_false_iff_not]; omega) | (rw [Bool.eq_iff_iff]; simp only [Bool.or_eq_true, Bool.and_eq_true, beq_iff_eq, decide_eq_true_eq]; try omega)), rfl⟩
theorem rover_any (s : Int) (w : World) : Calls Try.prog 50 #[.int .i64 s] w fun x w' => x = .returned (.bool (over s)) ∧ w = w' := by
  go_enter Try.func50, Try.ntmps50
  go_wp2
  all_goals
    try simp only [beq_iff_eq, beq_eq_false_iff_ne] at *
    go_ret
    exact ⟨ret_bool (by unfold over; first | (symm; rw [decide_eq_true_eq]; omega) | (symm; rw [decide_eq_false_iff_not]; omega) | (rw [Bool.eq_iff_iff]; simp only [Bool.or_eq_true, Bool.and_eq_true, beq_iff_eq, decide_eq_true_eq]; try omega)), rfl⟩

end Go.Proofs.Ytbdgnaeldlgoaaa.State
