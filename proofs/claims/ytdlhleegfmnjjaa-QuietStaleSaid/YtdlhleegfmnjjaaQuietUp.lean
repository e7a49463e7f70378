/- The document's example of layer 18, and the document's turns of a host's lives. Conditions: none. -/
import Derived.Test.YtdlhleegfmnjjaaQuiet
namespace Go.Proofs.Ytdlhleegfmnjjaa.Quiet
open Go.RowKit Argin Save
set_option linter.unusedVariables false

theorem up_any (w : World) : Calls Try.prog 15 #[] w fun e w' => e = .returned (.bool true) ∧ Below w.heap.size w w' := by
  obtain ⟨i, hi, hc⟩ := code_info
  have hr := fun (w : World) (a b : Int) => run_eql_code (P := Try.prog) w a b Try.underlying31 Try.underlying38 hi hc
  have f1 : handle 0 7 = 7 := by decide
  have f2 : isQuiet 0 0 0 = false := by decide
  have f3 : isQuiet 1 13 12 = true := by decide
  have f4 : isQuiet 1 13 13 = false := by decide
  have f5 : err (bad 1 7) = .iface 38 (.int .i64 11) := rfl
  go_enter Try.func15, Try.ntmps15
  go_wp2_with (first
    | (go_at_call 16; ((with_reducible refine (new_any _ _ (by omega)).mono ?_); rintro e w1 ⟨rfl, hl, hb⟩; have hl : w1.heap[w.heap.size]? = some (L 0 5 0) := hl; have HL := Lib.hid hl; have HB := Lib.hid hb; clear hl hb))
    | (go_at_call 19; ((with_reducible refine (handle_any _ _ _ _ _ _ HL.out (by omega)).mono ?_); rintro e w' ⟨rfl, rfl⟩))
    | (go_at_call 18; ((with_reducible refine (quiet_any _ _ _ _ _ _ HL.out).mono ?_); rintro e w' ⟨rfl, rfl⟩))
    | (go_at_call 17; ((with_reducible refine (number_any _ _ _ _ _ HL.out).mono ?_); rintro e w' ⟨rfl, rfl⟩))
    | (go_at_call 20; ((with_reducible refine (id_any _ _ _ _ _ _ HL.out (by omega)).mono ?_); rintro e w' ⟨rfl, rfl⟩))
    | (go_at_call 22; ((with_reducible refine (restart_any _ _ _ _ _ _ HL.out (by omega) (by omega) (by omega)).mono ?_); rintro e w2 ⟨rfl, hl, hs⟩; have hl : w2.heap[w.heap.size]? = some (L 1 5 13) := hl; replace HB := Lib.hid (HB.out.trans (hs.below (fun k _ e => by omega) HB.out.size)); clear HL; have HL := Lib.hid hl; clear hl hs)))
  go_ret
  exact ⟨rfl, HB.out⟩

end Go.Proofs.Ytdlhleegfmnjjaa.Quiet
