/- StateTells, StateEnds. -/
import Derived.Test.YtbdgnaeldlgoaaaState3
namespace Go.Proofs.Ytbdgnaeldlgoaaa.State
open Go.RowKit Argin Save
set_option linter.unusedVariables false
set_option linter.unusedSimpArgs false

theorem up_any (w : World) : Calls Try.prog 42 #[] w fun x w' => x = .returned (.bool true) ∧ Below w.heap.size w w' := by
  have f1 : nst 3 5 = 7 := by decide
  have f2 : hasn 3 5 = true := by decide
  have f3 : hasn 0 7 = false := by decide
  have f4 : over 9 = true := by decide
  go_enter Try.func42, Try.ntmps42
  go_wp2_with fail
  refine (Next_any _ _ _).mono ?_
  rintro x w1 ⟨rfl, hb⟩
  have HB := Lib.hid hb
  clear hb
  go_wp2_with fail
  refine (Next_any _ _ _).mono ?_
  rintro x w2 ⟨rfl, hb⟩
  have HB2 := Lib.hid (HB.out.trans (hb.mono HB.out.size))
  clear hb
  go_wp2_with (go_at_call 43; ((with_reducible refine (over_any _ _).mono ?_); rintro x w' ⟨rfl, rfl⟩))
  go_ret
  exact ⟨rfl, HB2.out⟩

theorem tells_any (s e : Int) (w : World) : Calls Try.prog 13 #[.int .i64 s, .int .i64 e] w fun x w' => x = .returned (.bool true) ∧ Below w.heap.size w w' := by
  go_enter Try.func13, Try.ntmps13
  go_wp2_with (first
    | (go_at_call 42; ((with_reducible refine (up_any _).mono ?_); rintro x w1 ⟨rfl, hb⟩; have H1 := Lib.hid hb; clear hb))
    | (go_at_call 44; ((with_reducible refine (Next_any _ _ _).mono ?_); rintro x w2 ⟨rfl, hb⟩; have H2 := Lib.hid (H1.out.trans (hb.mono H1.out.size)); clear hb))
    | (go_at_call 45; ((with_reducible refine (rNext_any _ _ _).mono ?_); rintro x w3 ⟨rfl, hb⟩; have H3 := Lib.hid (H2.out.trans (hb.mono H2.out.size)); clear hb))
    | (go_at_call 46; ((with_reducible refine (sends_any _ _).mono ?_); rintro x w' ⟨rfl, rfl⟩))
    | (go_at_call 47; ((with_reducible refine (rsends_any _ _).mono ?_); rintro x w' ⟨rfl, rfl⟩))
    | (go_at_call 48; ((with_reducible refine (hears_any _ _).mono ?_); rintro x w' ⟨rfl, rfl⟩))
    | (go_at_call 49; ((with_reducible refine (rhears_any _ _).mono ?_); rintro x w' ⟨rfl, rfl⟩))
    | (go_at_call 43; ((with_reducible refine (over_any _ _).mono ?_); rintro x w' ⟨rfl, rfl⟩))
    | (go_at_call 50; ((with_reducible refine (rover_any _ _).mono ?_); rintro x w' ⟨rfl, rfl⟩)))
  go_ret
  exact ⟨rfl, H3.out⟩

theorem tells_law (W : World) (v0 v1 : Value) (o0 : Came Try.prog W 3 v0) (o1 : Came Try.prog W 3 v1) : Calls Try.prog 13 #[v0, v1] W fun e W' => e = .returned (.bool true) ∧ Below W.heap.size W W' := by
  obtain ⟨s, rfl, _⟩ := o0.int Try.underlying3
  obtain ⟨e, rfl, _⟩ := o1.int Try.underlying3
  exact tells_any s e W

end Go.Proofs.Ytbdgnaeldlgoaaa.State
