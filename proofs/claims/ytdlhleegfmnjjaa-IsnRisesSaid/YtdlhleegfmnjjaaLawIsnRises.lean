/- IsnRises: a tick later it is 64 more, whatever the key is; tuples that are unlike have unlike bytes. Conditions: none. -/
import Derived.Test.YtdlhleegfmnjjaaRows
import Derived.Test.YtdlhleegfmnjjaaIsnRises
import Derived.Test.YtdlhleegfmnjjaaArgin
import Derived.WalkKit
import Derived.ProofKit
import Derived.OpenShut
import Derived.ChangeOld
import Derived.Below
import Derived.SizedLaws
namespace Go.Proofs.Ytdlhleegfmnjjaa.rowIsnRises
open Go.ChangeShapes Go.WideShapes Go.ChangeAt Go.RowKit Argin
theorem own : ownKnob Try.prog.godebug = none := by kernel_rfl
theorem laid : laidOutB Try.prog = true := by kernel_rfl
set_option maxRecDepth 100000 in
theorem lifted (os : Os) (started : os.Started) (H : Type) (enc : TypeId × Value → H) :
    ReturnsInHanded {} Try.checked os 14 .any (Rows.isnRisesSpec.pre6 enc Try.prog Try.f14 Rows.isnRisesRow.domain false) (Rows.isnRisesSpec.post enc Try.prog Try.f14 false true false false) := by
  refine returnsInHanded_of_change_sized (C := Try.checked) own started (by kernel_rfl) Try.func14
    (ChangeSpec.witness6 (enc := enc) (C := Try.checked) false ⟨#[], #[.int .u64 0, .int .u64 0, .agg #[.int .u8 0, .int .u16 0, .int .u8 0, .int .u16 0], .agg #[.int .u8 0, .int .u16 0, .int .u8 0, .int .u16 0], .int .u64 0], []⟩ 8 (by kernel_rfl) (by kernel_rfl) (by kernel_rfl) (by kernel_rfl)) ?_
  intro W base args ds gs before hval0 hW _ _ _
  have hval : ∀ (j : Nat) t v, Try.f14.params[j]? = some t → args[j]? = some v → Value.okWide Try.prog W .any base t v := hval0
  have hW' := hW
  obtain ⟨p, q, hA0, hV, rfl, _, _⟩ := hW
  have hA : DataW.TrodAll enc Try.prog W 0 (fun _ => true) true Try.f14.params.toList args.toList ds p := hA0
  rw [Try.params14] at hA hval
  obtain ⟨v0, vs0, d0, ds0, p0, q0, hargs, rfl, rfl, h0, r0⟩ := trodAll_cons hA
  obtain ⟨v1, vs1, d1, ds1, p1, q1, rfl, rfl, rfl, h1, r1⟩ := trodAll_cons r0
  obtain ⟨v2, vs2, d2, ds2, p2, q2, rfl, rfl, rfl, h2, r2⟩ := trodAll_cons r1
  obtain ⟨v3, vs3, d3, ds3, p3, q3, rfl, rfl, rfl, h3, r3⟩ := trodAll_cons r2
  obtain ⟨v4, vs4, d4, ds4, p4, q4, rfl, rfl, rfl, h4, r4⟩ := trodAll_cons r3
  obtain ⟨rfl, rfl, rfl⟩ := trodAll_nil r4
  obtain rfl : args = #[v0, v1, v2, v3, v4] := by cases args; simp_all
  obtain ⟨rfl, rfl⟩ := trodVars_none hV
  have o0 : Came Try.prog W 23 v0 := ⟨H, enc, _, _, base, h0, hval 0 23 v0 rfl rfl⟩
  have o1 : Came Try.prog W 23 v1 := ⟨H, enc, _, _, base, h1, hval 1 23 v1 rfl rfl⟩
  have o2 : Came Try.prog W 74 v2 := ⟨H, enc, _, _, base, h2, hval 2 74 v2 rfl rfl⟩
  have o3 : Came Try.prog W 74 v3 := ⟨H, enc, _, _, base, h3, hval 3 74 v3 rfl rfl⟩
  have o4 : Came Try.prog W 23 v4 := ⟨H, enc, _, _, base, h4, hval 4 23 v4 rfl rfl⟩
  clear hA0 hval0 hval
  refine (Isn.rises_law W v0 v1 v2 v3 v4 o0 o1 o2 o3 o4).mono fun e W' ⟨he, bel⟩ => ?_
  subst he
  exact ⟨_, rfl, _, _, _, [], _, [], hW', trodAll_mk1 (shut_bool Try.underlying4 _), (trodAll_cons_mk (stay laid (by kernel_rfl) (by decide) h0 bel) (trodAll_cons_mk (stay laid (by kernel_rfl) (by decide) h1 bel) (trodAll_cons_mk (stay laid (by kernel_rfl) (by decide) h2 bel) (trodAll_cons_mk (stay laid (by kernel_rfl) (by decide) h3 bel) (trodAll_cons_mk (stay laid (by kernel_rfl) (by decide) h4 bel) trodAll_mk0))))), rfl, bel.frame _, fun h => by cases h⟩
theorem over : Rows.isnRisesRow.holds Try.pinned (OpenSpec.ofChange Rows.isnRisesSpec) :=
  OpenClaim.holds_of_wide 14 Try.f14 rfl rfl rfl rfl rfl rfl rfl ⟨rfl, rfl, rfl, rfl, rfl⟩ rfl rfl rfl rfl rfl (by kernel_rfl) Try.func14 (by kernel_rfl)
    (of_decide_eq_true (by kernel_rfl)) (by unfold Func.isWrapper; first | (rw [if_pos (by decide +kernel)]; kernel_rfl) | (rw [if_neg (by decide +kernel)]; exact ⟨rfl, rfl⟩))
    (fun os started H enc _ => lifted os started H enc)
end Go.Proofs.Ytdlhleegfmnjjaa.rowIsnRises
namespace Go.Proofs.Ytdlhleegfmnjjaa
theorem isnRises_holds : Rows.IsnRisesSaid := rowIsnRises.over
#print axioms isnRises_holds
end Go.Proofs.Ytdlhleegfmnjjaa
