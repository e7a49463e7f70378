/- SeqMoves: of two unlike numbers one is before the other one, unless they are 2^31 apart; moved by the same all is as it was; what is within some is within more. Conditions: none. -/
import Derived.Test.YtbdgnaeldlgoaaaSeq
import Derived.Test.YtbdgnaeldlgoaaaArgin
namespace Go.Proofs.Ytbdgnaeldlgoaaa.Seq
open Go.RowKit Argin

theorem up_any (w : World) : Calls Try.prog 14 #[] w fun e w' => e = .returned (.bool true) ∧ w = w' := by
  have h1 : bef 4294967295 0 = true := by decide
  have h2 : gap 5 3 = -2 := by decide
  have h3 : ins 3 3 1 = true := by decide
  go_enter Try.func14, Try.ntmps14
  go_wp2_with (first
    | (go_at_call 15; ((with_reducible refine (before_any _ _ _).mono ?_); rintro e w' ⟨rfl, rfl⟩))
    | (go_at_call 17; ((with_reducible refine (gap_any _ _ _).mono ?_); rintro e w' ⟨rfl, rfl⟩))
    | (go_at_call 19; ((with_reducible refine (in_any _ _ _ _ (by omega)).mono ?_); rintro e w' ⟨rfl, rfl⟩)))
  go_ret
  exact ⟨rfl, rfl⟩

theorem dist_shift (a b c : Int) : dist ((a + c) % 4294967296) ((b + c) % 4294967296) = dist a b := by unfold dist; omega
theorem bef_shift (a b c : Int) : bef ((a + c) % 4294967296) ((b + c) % 4294967296) = bef a b := by unfold bef; rw [dist_shift]
theorem gap_shift (a b c : Int) : gap ((a + c) % 4294967296) ((b + c) % 4294967296) = gap a b := by unfold gap; rw [dist_shift]
theorem ins_shift (a b c n : Int) : ins ((a + c) % 4294967296) ((b + c) % 4294967296) n = ins a b n := by unfold ins; rw [dist_shift]

theorem moves_eq (a b c n : Int) (w : World) (_ : 0 ≤ a ∧ a < 4294967296) (hb : 0 ≤ b ∧ b < 4294967296) (hn : -9223372036854775808 ≤ n ∧ n < 9223372036854775808) (h : (a == b) = true) (h' : (a != b) = false) (g : ((a - b) % 4294967296 == 2147483648) = false) (g1 : bef a b = false) (g2 : bef b a = false) :
    Calls Try.prog 4 #[.int .u32 a, .int .u32 b, .int .u32 c, .int .i64 n] w fun e w' => e = .returned (.bool true) ∧ w = w' := by

  have k1 := bef_shift a b c
  have k2 := gap_shift a b c
  have k3 := ins_shift a b c n
  have k4 : ((a + (gap a b) % 4294967296) % 4294967296 != b) = false := by rw [bne_eq_false_iff_eq]; unfold gap dist; split <;> omega
  have k5 : ins a b n = true → ins a b (n + 1) = true := by unfold ins; simp only [decide_eq_true_eq]; omega
  go_enter Try.func4, Try.ntmps4
  go_wp2_with (first
    | (go_at_call 14; ((with_reducible refine (up_any _).mono ?_); rintro e w' ⟨rfl, rfl⟩))
    | (go_at_call 15; ((with_reducible refine (before_any _ _ _).mono ?_); rintro e w' ⟨rfl, rfl⟩))
    | (go_at_call 17; ((with_reducible refine (gap_any _ _ _).mono ?_); rintro e w' ⟨rfl, rfl⟩))
    | (go_at_call 19; ((with_reducible refine (in_any _ _ _ _ (by omega)).mono ?_); rintro e w' ⟨rfl, rfl⟩)))
  all_goals
    go_ret
    exact ⟨rfl, rfl⟩

theorem moves_far (a b c n : Int) (w : World) (_ : 0 ≤ a ∧ a < 4294967296) (hb : 0 ≤ b ∧ b < 4294967296) (hn : -9223372036854775808 ≤ n ∧ n < 9223372036854775808) (h : (a == b) = false) (h' : (a != b) = true) (g : ((a - b) % 4294967296 == 2147483648) = true) (g1 : bef a b = false) (g2 : bef b a = false) :
    Calls Try.prog 4 #[.int .u32 a, .int .u32 b, .int .u32 c, .int .i64 n] w fun e w' => e = .returned (.bool true) ∧ w = w' := by

  have k1 := bef_shift a b c
  have k2 := gap_shift a b c
  have k3 := ins_shift a b c n
  have k4 : ((a + (gap a b) % 4294967296) % 4294967296 != b) = false := by rw [bne_eq_false_iff_eq]; unfold gap dist; split <;> omega
  have k5 : ins a b n = true → ins a b (n + 1) = true := by unfold ins; simp only [decide_eq_true_eq]; omega
  go_enter Try.func4, Try.ntmps4
  go_wp2_with (first
    | (go_at_call 14; ((with_reducible refine (up_any _).mono ?_); rintro e w' ⟨rfl, rfl⟩))
    | (go_at_call 15; ((with_reducible refine (before_any _ _ _).mono ?_); rintro e w' ⟨rfl, rfl⟩))
    | (go_at_call 17; ((with_reducible refine (gap_any _ _ _).mono ?_); rintro e w' ⟨rfl, rfl⟩))
    | (go_at_call 19; ((with_reducible refine (in_any _ _ _ _ (by omega)).mono ?_); rintro e w' ⟨rfl, rfl⟩)))
  all_goals
    go_ret
    exact ⟨rfl, rfl⟩

theorem moves_else (a b c n : Int) (w : World) (_ : 0 ≤ a ∧ a < 4294967296) (hb : 0 ≤ b ∧ b < 4294967296) (hn : -9223372036854775808 ≤ n ∧ n < 9223372036854775808) (h : (a == b) = false) (h' : (a != b) = true) (g : ((a - b) % 4294967296 == 2147483648) = false) (g1 : (bef a b == bef b a) = false) :
    Calls Try.prog 4 #[.int .u32 a, .int .u32 b, .int .u32 c, .int .i64 n] w fun e w' => e = .returned (.bool true) ∧ w = w' := by

  have k1 := bef_shift a b c
  have k2 := gap_shift a b c
  have k3 := ins_shift a b c n
  have k4 : ((a + (gap a b) % 4294967296) % 4294967296 != b) = false := by rw [bne_eq_false_iff_eq]; unfold gap dist; split <;> omega
  have k5 : ins a b n = true → ins a b (n + 1) = true := by unfold ins; simp only [decide_eq_true_eq]; omega
  go_enter Try.func4, Try.ntmps4
  go_wp2_with (first
    | (go_at_call 14; ((with_reducible refine (up_any _).mono ?_); rintro e w' ⟨rfl, rfl⟩))
    | (go_at_call 15; ((with_reducible refine (before_any _ _ _).mono ?_); rintro e w' ⟨rfl, rfl⟩))
    | (go_at_call 17; ((with_reducible refine (gap_any _ _ _).mono ?_); rintro e w' ⟨rfl, rfl⟩))
    | (go_at_call 19; ((with_reducible refine (in_any _ _ _ _ (by omega)).mono ?_); rintro e w' ⟨rfl, rfl⟩)))
  all_goals
    go_ret
    exact ⟨rfl, rfl⟩

theorem moves_any (a b c n : Int) (w : World) (ha : 0 ≤ a ∧ a < 4294967296) (hb : 0 ≤ b ∧ b < 4294967296) (hn : -9223372036854775808 ≤ n ∧ n < 9223372036854775808) :
    Calls Try.prog 4 #[.int .u32 a, .int .u32 b, .int .u32 c, .int .i64 n] w fun e w' => e = .returned (.bool true) ∧ w = w' := by
  by_cases h : a = b
  · refine moves_eq a b c n w ha hb hn (beq_iff_eq.2 h) (bne_eq_false_iff_eq.2 h) (beq_eq_false_iff_ne.2 (by omega)) ?_ ?_ <;>
      (unfold bef dist; rw [decide_eq_false_iff_not]; omega)
  · by_cases g : (a - b) % 4294967296 = 2147483648
    · refine moves_far a b c n w ha hb hn (beq_eq_false_iff_ne.2 h) (bne_iff_ne.2 h) (beq_iff_eq.2 g) ?_ ?_ <;>
        (unfold bef dist; rw [decide_eq_false_iff_not]; omega)
    · refine moves_else a b c n w ha hb hn (beq_eq_false_iff_ne.2 h) (bne_iff_ne.2 h) (beq_eq_false_iff_ne.2 g) ?_
      by_cases e : bef a b = true
      · have e2 : bef b a = false := by unfold bef dist at *; rw [decide_eq_true_eq] at e; rw [decide_eq_false_iff_not]; omega
        rw [e, e2]; rfl
      · have e2 : bef b a = true := by unfold bef dist at *; rw [decide_eq_true_eq] at e; rw [decide_eq_true_eq]; omega
        rw [e2, Bool.eq_false_iff.mpr e]; rfl

theorem moves_law (W : World) (v0 v1 v2 v3 : Value) (o0 : Came Try.prog W 22 v0) (o1 : Came Try.prog W 22 v1) (o2 : Came Try.prog W 22 v2) (o3 : Came Try.prog W 3 v3) :
    Calls Try.prog 4 #[v0, v1, v2, v3] W fun e W' => e = .returned (.bool true) ∧ Below W.heap.size W W' := by
  obtain ⟨a, rfl, ha⟩ := o0.int Try.underlying22
  obtain ⟨b, rfl, hb⟩ := o1.int Try.underlying22
  obtain ⟨c, rfl, _⟩ := o2.int Try.underlying22
  obtain ⟨n, rfl, hn⟩ := o3.int Try.underlying3
  refine (moves_any a b c n W (Argin.wf_u32 ha) (Argin.wf_u32 hb) (Argin.wf_i64 hn)).mono ?_
  rintro e w' ⟨rfl, rfl⟩
  exact ⟨rfl, Below.refl _ _⟩

end Go.Proofs.Ytbdgnaeldlgoaaa.Seq
