/- SumTells of no bytes at all (nil), and the whole law. Conditions: none. -/
import Derived.Test.YtbdgnaeldlgoaaaSumTells
import Derived.Deep.RegionWith
namespace Go.Proofs.Ytbdgnaeldlgoaaa.Sum
open Go.RowKit Argin Save
set_option linter.unusedVariables false
set_option linter.unusedSimpArgs false

set_option maxHeartbeats 1000000 in
theorem rput_none (f : Nat → Int) (w : World) :
    Calls Try.prog 29 #[.slice none 0 0] w fun e w' => ∃ v, e = .returned v ∧ w'.ownsRow w.heap.size 5 1 v (padn 0 + 2) (bts (putf f 0) (padn 0 + 2)) ∧ Below w.heap.size w w' := by
  obtain ⟨i0, hi, hz0, hz1, hz2⟩ := info_parts info5
  have hS : sumOf (fun _ => 0) 0 = 65535 := by decide
  have hE : bts (putf f 0) (padn 0 + 2) = [.int .u8 255, .int .u8 255] := by simp [bts, putf, padn, sumOf, tot, fd, List.range_succ]
  have HE := Lib.hid hE
  clear hE
  go_enter Try.func29, Try.ntmps29
  go_upto_region 4 with (first
    | (at_builtin; refine wpList_append_own_none _ rfl _ _ 31 rfl w.heap.size 5 i0 1 Try.underlying31 hi _ _ _ rfl (World.ownsRow_made w #[] 0 (Nat.le_refl _) (by decide) rfl) rfl ?_))
  go_wp2_with fail
  refine (ref_any _ 0 0 (fun _ => 0) _ (by omega) (fun i hi => by omega)).mono ?_
  rintro e w' ⟨rfl, rfl⟩
  have ho : (w.alloc (.cells #[] 5)).ownsRow w.heap.size 5 1 (.slice (some ⟨w.heap.size, 0, none⟩) 0 0) 0 [] := World.ownsRow_made w #[] 0 (Nat.le_refl _) (by decide) rfl
  have hb := (Below.refl w.heap.size w).alloc (Nat.le_refl _) (.cells #[] 5)
  have HO1 := Lib.hid ho
  have H1 := Lib.hid hb
  clear ho hb
  go_wp2_with (at_builtin; refine wpList_append_own _ rfl _ _ 31 rfl w.heap.size 5 i0 (.int .u8 0) 1 1 Try.underlying31 hi hz0 hz1 hz2 rfl (by decide) _ _ _ rfl (HO1.out.alloc _) ⟨w.heap.size + 1, 0, none⟩ 2 2 [.int .u8 255, .int .u8 255] rfl rfl ?c1 ?c2 ?c3 ?c4 ?c5 ?_)
  case c1 => have h := news_two (w.alloc (.cells #[] 5)) (.int .u8 255) (.int .u8 255) 5; rwa [show (w.alloc (.cells #[] 5)).heap.size = w.heap.size + 1 from by simp] at h
  case c2 => intro u hu; simp only [List.mem_cons, List.mem_nil_iff, or_false] at hu; rcases hu with rfl | rfl <;> rfl
  case c3 => decide
  case c4 => decide
  case c5 => simp; omega
  intro v' w3 ho hg _
  have HO3 := Lib.hid ho
  have H3 := Lib.hid ((H1.out.alloc (by simp) (.cells #[.int .u8 255, .int .u8 255] 5)).grown hg (by simp; omega) (fun k e => (HO1.out.lt k e).1))
  clear ho hg
  go_wp2_with fail
  go_ret
  exact ⟨v', rfl, by rw [HE.out]; exact HO3.out, H3.out⟩

set_option maxHeartbeats 2000000 in
theorem tells_none (f : Nat → Int) (W : World) :
    Calls Try.prog 7 #[.slice none 0 0] W fun e w' => e = .returned (.bool true) ∧ Below W.heap.size W w' := by
  have HB : Hid (Bytes W none 0 f) := fun i hi => absurd hi (Nat.not_lt_zero _)
  have HF : Hid (∀ i, i < 0 → 0 ≤ f i ∧ f i < 256) := fun i hi => absurd hi (Nat.not_lt_zero _)
  go_enter Try.func7, Try.ntmps7
  go_upto_region 4 with (first
    | (go_at_call 25; ((with_reducible refine (up_any _).mono ?_); rintro e w1 ⟨rfl, hb⟩; have H1 := Lib.hid hb; clear hb)))
  go_cut [4] (fun s4 wx => s4 = .bool (right f 0) ∧ w1 = wx)
  case first =>
    have E := Lib.hid (show right f 0 = false from by unfold right; rw [decide_eq_false_iff_not]; omega)
    go_wp2_with fail
    go_meet
    exact ⟨by rw [E.out], rfl⟩
  case rest =>
  obtain ⟨rfl, rfl⟩ := hcut
  go_wp2_with fail
  have hp : 0 < padn 0 + 2 := by omega
  have hS1 := H1.out.drew
  go_region_with
    (first
      | (go_at_call 27; ((with_reducible refine (of_any _ _ _ _ _ (by omega) (HB.out.below (by assumption))).mono ?_); rintro e w' ⟨rfl, rfl⟩))
      | (go_at_call 26; ((with_reducible refine (ref_any _ _ _ _ _ (by omega) (HB.out.below (by assumption))).mono ?_); rintro e w' ⟨rfl, rfl⟩))
      | (go_at_call 30; ((with_reducible refine (right_any _ _ _ _ _ (by omega) (HB.out.below (by assumption))).mono ?_); rintro e w' ⟨rfl, rfl⟩))
      | (go_at_call 28; ((with_reducible refine (put_any _ _ _ _ _ (by omega) HF.out (HB.out.below (by assumption))).mono ?_); rintro e w2 ⟨v, rfl, ho, hb⟩; obtain ⟨g2, c2, rfl, hg2, hB2⟩ := own_some ho hp (fun i _ => putf_range f 0 HF.out i); have q2 := conv_any _ _ _ c2 _ hB2; have HB2 := Lib.hid hB2; have hS2 : Below W.heap.size W w2 := (Below.trans (by assumption) (hb.mono (Below.size (by assumption)))); clear ho hb hB2))
      | (go_at_call 29; ((with_reducible refine (rput_none f _).mono ?_); rintro e w3 ⟨v, rfl, ho, hb⟩; obtain ⟨g3, c3, rfl, hg3, hB3⟩ := own_some ho hp (fun i _ => putf_range f 0 HF.out i); have q3 := conv_any _ _ _ c3 _ hB3; have q4 := conv_any _ _ _ c2 _ (HB2.out.below hb); have hS3 : Below W.heap.size W w3 := (Below.trans (by assumption) (hb.mono (Below.size (by assumption)))); clear ho hb hB3)))
  all_goals
    go_wp2
    go_ret
    exact ⟨rfl, by assumption⟩


theorem tells_big (oa : Option Addr) (len cap : Nat) (W : World) (hl : len ≤ 9223372036854775807) (hbig : 100000 < len) :
    Calls Try.prog 7 #[.slice oa len cap] W fun e w' => e = .returned (.bool true) ∧ Below W.heap.size W w' := by
  go_enter Try.func7, Try.ntmps7
  go_wp2_with (first
    | (go_at_call 25; ((with_reducible refine (up_any _).mono ?_); rintro e w1 ⟨rfl, hb⟩; have H1 := Lib.hid hb; clear hb)))
  go_ret
  exact ⟨rfl, H1.out⟩

/-- What came in as bytes. -/
theorem bytes_in {w : World} {v : Value} (h : (Sh.slice 1 (.int .u8)).Ok w [v]) : v = .slice none 0 0 ∨ ∃ a len cap f, v = .slice (some a) len cap ∧ len ≤ cap ∧ cap ≤ maxLen ∧ (∀ i, i < len → 0 ≤ f i ∧ f i < 256) ∧ Bytes w (some a) len f := by
  obtain ⟨oa, len, cap, f, rfl, hl, hm, hi⟩ := slice_ints h
  cases oa with
  | none =>
    left
    unfold Sh.Ok at h
    rcases h with h | ⟨a, l, c, h, _⟩
    · simpa using h
    · simp at h
  | some a => exact .inr ⟨a, len, cap, f, rfl, hl, hm, fun i h => wf_u8 (hi i h).1, fun i h => ⟨wf_u8 (hi i h).1, (hi i h).2⟩⟩

theorem tells_law (W : World) (v0 : Value) (o0 : Came Try.prog W 31 v0) : Calls Try.prog 7 #[v0] W fun e W' => e = .returned (.bool true) ∧ Below W.heap.size W W' := by
  rcases bytes_in (o0.slice (.slice 1 (.int .u8)) (by kernel_rfl) Try.underlying31) with rfl | ⟨a, len, cap, f, rfl, hl, hm, hf, hB⟩
  · exact tells_none (fun _ => 0) W
  · unfold maxLen at hm
    by_cases hbig : 100000 < len
    · exact tells_big _ len cap W (by omega) hbig
    · exact tells_some a len cap f W (by omega) hf hB

end Go.Proofs.Ytbdgnaeldlgoaaa.Sum
