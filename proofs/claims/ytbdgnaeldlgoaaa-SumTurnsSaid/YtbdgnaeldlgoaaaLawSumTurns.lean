/- SumTurns: what Put tells is right; with one bit of it turned it isn't; what was handed in stands ahead. Conditions: none. -/
import Derived.Test.YtbdgnaeldlgoaaaRows
import Derived.Test.YtbdgnaeldlgoaaaSumTurns
import Derived.Test.YtbdgnaeldlgoaaaArgin
import Derived.WalkKit
import Derived.ProofKit
import Derived.OpenShut
import Derived.ChangeOld
import Derived.Below
import Derived.SizedLaws
namespace Go.Proofs.Ytbdgnaeldlgoaaa.rowSumTurns
open Go.ChangeShapes Go.WideShapes Go.ChangeAt Go.RowKit Argin
theorem own : ownKnob Try.prog.godebug = none := by kernel_rfl
theorem laid : laidOutB Try.prog = true := by kernel_rfl
set_option maxRecDepth 100000 in
theorem lifted (os : Os) (started : os.Started) (H : Type) (enc : TypeId × Value → H) :
    ReturnsInHanded {} Try.checked os 8 .any (Rows.sumTurnsSpec.pre6 enc Try.prog Try.f8 Rows.sumTurnsRow.domain false) (Rows.sumTurnsSpec.post enc Try.prog Try.f8 false true false false) := by
  refine returnsInHanded_of_change_sized (C := Try.checked) own started (by kernel_rfl) Try.func8
    (ChangeSpec.witness6 (enc := enc) (C := Try.checked) false ⟨#[], #[.slice none 0 0, .int .i64 0], []⟩ 8 (by kernel_rfl) (by kernel_rfl) (by kernel_rfl) (by kernel_rfl)) ?_
  intro W base args ds gs before hval0 hW _ _ _
  have hval : ∀ (j : Nat) t v, Try.f8.params[j]? = some t → args[j]? = some v → Value.okWide Try.prog W .any base t v := hval0
  have hW' := hW
  obtain ⟨p, q, hA0, hV, rfl, _, _⟩ := hW
  have hA : DataW.TrodAll enc Try.prog W 0 (fun _ => true) true Try.f8.params.toList args.toList ds p := hA0
  rw [Try.params8] at hA hval
  obtain ⟨v0, vs0, d0, ds0, p0, q0, hargs, rfl, rfl, h0, r0⟩ := trodAll_cons hA
  obtain ⟨v1, vs1, d1, ds1, p1, q1, rfl, rfl, rfl, h1, r1⟩ := trodAll_cons r0
  obtain ⟨rfl, rfl, rfl⟩ := trodAll_nil r1
  obtain rfl : args = #[v0, v1] := by cases args; simp_all
  obtain ⟨rfl, rfl⟩ := trodVars_none hV
  have o0 : Came Try.prog W 31 v0 := ⟨H, enc, _, _, base, h0, hval 0 31 v0 rfl rfl⟩
  have o1 : Came Try.prog W 3 v1 := ⟨H, enc, _, _, base, h1, hval 1 3 v1 rfl rfl⟩
  clear hA0 hval0 hval
  refine (Sum.turns_law W v0 v1 o0 o1).mono fun e W' ⟨he, bel⟩ => ?_
  subst he
  exact ⟨_, rfl, _, _, _, [], _, [], hW', trodAll_mk1 (shut_bool Try.underlying4 _), (trodAll_cons_mk (stay laid (by kernel_rfl) (by decide) h0 bel) (trodAll_cons_mk (stay laid (by kernel_rfl) (by decide) h1 bel) trodAll_mk0)), rfl, bel.frame _, fun h => by cases h⟩
theorem over : Rows.sumTurnsRow.holds Try.pinned (OpenSpec.ofChange Rows.sumTurnsSpec) :=
  OpenClaim.holds_of_wide 8 Try.f8 rfl rfl rfl rfl rfl rfl rfl ⟨rfl, rfl, rfl, rfl, rfl⟩ rfl rfl rfl rfl rfl (by kernel_rfl) Try.func8 (by kernel_rfl)
    (of_decide_eq_true (by kernel_rfl)) (by unfold Func.isWrapper; first | (rw [if_pos (by decide +kernel)]; kernel_rfl) | (rw [if_neg (by decide +kernel)]; exact ⟨rfl, rfl⟩))
    (fun os started H enc _ => lifted os started H enc)
end Go.Proofs.Ytbdgnaeldlgoaaa.rowSumTurns
namespace Go.Proofs.Ytbdgnaeldlgoaaa
theorem sumTurns_holds : Rows.SumTurnsSaid := rowSumTurns.over
#print axioms sumTurns_holds
end Go.Proofs.Ytbdgnaeldlgoaaa
