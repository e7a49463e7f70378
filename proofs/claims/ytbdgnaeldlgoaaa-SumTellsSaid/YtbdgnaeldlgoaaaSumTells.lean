/- SumTells: the sum of any bytes, these with it, and whether any are right. Conditions: none. -/
import Derived.Test.YtbdgnaeldlgoaaaSumUp
import Derived.Deep.RegionHeld3
import Derived.Deep.RegionWith
namespace Go.Proofs.Ytbdgnaeldlgoaaa.Sum
open Go.RowKit Argin Save
set_option linter.unusedVariables false
set_option linter.unusedSimpArgs false

set_option maxHeartbeats 2000000 in
theorem tells_some (a : Addr) (len cap : Nat) (f : Nat → Int) (W : World) (hl : len ≤ 100000) (hf : ∀ i, i < len → 0 ≤ f i ∧ f i < 256) (hB : Bytes W (some a) len f) :
    Calls Try.prog 7 #[.slice (some a) len cap] W fun e w' => e = .returned (.bool true) ∧ Below W.heap.size W w' := by
  have HB := Lib.hid hB
  have HF := Lib.hid hf
  clear hB hf
  go_enter Try.func7, Try.ntmps7
  go_upto_region 4 with (first
    | (go_at_call 25; ((with_reducible refine (up_any _).mono ?_); rintro e w1 ⟨rfl, hb⟩; have H1 := Lib.hid hb; clear hb)))
  go_cut [4] (fun s4 wx => s4 = .bool (right f len) ∧ w1 = wx)
  case first =>
    by_cases h1 : 2 ≤ len
    · by_cases h2 : len % 2 = 0
      · have h2' : ((len : Int) % 2 == 0) = true := beq_iff_eq.2 (by omega)
        have E : Hid ((sumOf f len == 0) = right f len) := by
          unfold right; rw [Bool.eq_iff_iff]; simp only [beq_iff_eq, decide_eq_true_eq]; exact ⟨fun h => ⟨h1, h2, h⟩, fun h => h.2.2⟩
        clear h2
        go_wp2_with (go_at_call 26; ((with_reducible refine (ref_any _ _ _ _ _ (by omega) (HB.out.below H1.out)).mono ?_); rintro e w' ⟨rfl, rfl⟩))
        go_meet
        exact ⟨by rw [E.out], rfl⟩
      · have h2' : ((len : Int) % 2 == 0) = false := beq_eq_false_iff_ne.2 (by omega)
        have E := Lib.hid (show right f len = false from by unfold right; rw [decide_eq_false_iff_not]; omega)
        clear h2
        go_wp2_with fail
        go_meet
        exact ⟨by rw [E.out], rfl⟩
    · have E := Lib.hid (show right f len = false from by unfold right; rw [decide_eq_false_iff_not]; omega)
      go_wp2_with fail
      go_meet
      exact ⟨by rw [E.out], rfl⟩
  case rest =>
  obtain ⟨rfl, rfl⟩ := hcut
  go_wp2_with fail
  have HB1 := Lib.hid (HB.out.below H1.out)
  have hp : 0 < padn len + 2 := by omega
  have hS1 := H1.out.drew
  go_region_with
    (first
      | (go_at_call 27; ((with_reducible refine (of_any _ _ _ _ _ (by omega) (HB.out.below (by assumption))).mono ?_); rintro e w' ⟨rfl, rfl⟩))
      | (go_at_call 26; ((with_reducible refine (ref_any _ _ _ _ _ (by omega) (HB.out.below (by assumption))).mono ?_); rintro e w' ⟨rfl, rfl⟩))
      | (go_at_call 30; ((with_reducible refine (right_any _ _ _ _ _ (by omega) (HB.out.below (by assumption))).mono ?_); rintro e w' ⟨rfl, rfl⟩))
      | (go_at_call 28; ((with_reducible refine (put_any _ _ _ _ _ (by omega) HF.out (HB.out.below (by assumption))).mono ?_); rintro e w2 ⟨v, rfl, ho, hb⟩; obtain ⟨g2, c2, rfl, hg2, hB2⟩ := own_some ho hp (fun i _ => putf_range f len HF.out i); have q2 := conv_any _ _ _ c2 _ hB2; have HB2 := Lib.hid hB2; have hS2 : Below W.heap.size W w2 := (Below.trans (by assumption) (hb.mono (Below.size (by assumption)))); clear ho hb hB2))
      | (go_at_call 29; ((with_reducible refine (rput_any _ _ _ _ _ (by omega) HF.out (HB.out.below (by assumption))).mono ?_); rintro e w3 ⟨v, rfl, ho, hb⟩; obtain ⟨g3, c3, rfl, hg3, hB3⟩ := own_some ho hp (fun i _ => putf_range f len HF.out i); have q3 := conv_any _ _ _ c3 _ hB3; have q4 := conv_any _ _ _ c2 _ (HB2.out.below hb); have hS3 : Below W.heap.size W w3 := (Below.trans (by assumption) (hb.mono (Below.size (by assumption)))); clear ho hb hB3)))
  all_goals
    go_wp2
    go_ret
    exact ⟨rfl, by assumption⟩

end Go.Proofs.Ytbdgnaeldlgoaaa.Sum
