/- StateEnds: from each state that isn't over Dead ends; whatever events come, none comes back from what is over, and each but the last turns at most seven times. Conditions: none. -/
import Derived.Test.YtbdgnaeldlgoaaaState4
namespace Go.Proofs.Ytbdgnaeldlgoaaa.State
open Go.RowKit Argin Save
set_option linter.unusedVariables false
set_option linter.unusedSimpArgs false

/-- How many turns there may still be. -/
def rk (s : Int) : Int := if s = 1 then 5 else if s = 2 then 4 else if s = 3 then 3 else if s = 4 ∨ s = 7 then 2 else if 5 ≤ s ∧ s ≤ 8 then 1 else 0

theorem rk_nonneg (s : Int) : 0 ≤ rk s := by unfold rk; (repeat' split) <;> omega

theorem low12 : ∀ k, k < 12 → nx (rw_ (k * 3)) (rw_ (k * 3 + 1)) ≤ 9 ∧ 1 ≤ rw_ (k * 3) ∧ rw_ (k * 3) ≤ 8 ∧ rk (nx (rw_ (k * 3)) (rw_ (k * 3 + 1))) + 1 ≤ rk (rw_ (k * 3)) := by decide

theorem nx_lower (s e : Int) (h : 0 ≤ nx s e) : nx s e ≤ 9 ∧ 1 ≤ s ∧ s ≤ 8 ∧ rk (nx s e) + 1 ≤ rk s := by
  by_cases hk : ∃ k, k < 12 ∧ rw_ (k * 3) = s ∧ rw_ (k * 3 + 1) = e
  · obtain ⟨k, hk, rfl, rfl⟩ := hk
    exact low12 k hk
  · rw [hits s e (fun k hlt hx => hk ⟨k, hlt, hx⟩)] at h
    omega

theorem step (s e : Int) (hs : 0 ≤ s ∧ s ≤ 9) : (0 ≤ nst s e ∧ nst s e ≤ 9) ∧ (hasn s e = true ∧ over s = false ∧ rk (nst s e) + 1 ≤ rk s ∨ hasn s e = false ∧ nst s e = s) := by
  by_cases h : e = 7 ∧ 1 ≤ s ∧ s ≤ 8
  · obtain ⟨a, b⟩ := to_dead h
    rw [a, b]
    refine ⟨by omega, .inl ⟨rfl, ?_, ?_⟩⟩
    · unfold over; rw [decide_eq_false_iff_not]; omega
    · unfold rk; (repeat' split) <;> omega
  · by_cases hn : nx s e < 0
    · obtain ⟨a, b⟩ := to_none h hn
      rw [a, b]
      exact ⟨hs, .inr ⟨rfl, rfl⟩⟩
    · obtain ⟨a, b⟩ := to_some h hn
      rw [a, b]
      obtain ⟨c1, c2, c3, c4⟩ := nx_lower s e (by omega)
      refine ⟨by omega, .inl ⟨rfl, ?_, c4⟩⟩
      unfold over; rw [decide_eq_false_iff_not]; omega

theorem dead (s : Int) (hs : 0 ≤ s ∧ s ≤ 9) : over s = false ∧ hasn s 7 = true ∧ nst s 7 = 0 ∨ over s = true ∧ hasn s 7 = false := by
  by_cases h : 1 ≤ s ∧ s ≤ 8
  · obtain ⟨a, b⟩ := to_dead (s := s) (e := 7) ⟨rfl, h⟩
    exact .inl ⟨by unfold over; rw [decide_eq_false_iff_not]; omega, b, a⟩
  · have o : over s = true := by unfold over; rw [decide_eq_true_eq]; omega
    refine .inr ⟨o, ?_⟩
    rcases (step s 7 hs).2 with ⟨a, b, c⟩ | ⟨a, b⟩
    · rw [o] at b; cases b
    · exact a

set_option maxRecDepth 100000 in
set_option maxHeartbeats 4000000 in
theorem ends_main (f : Int) (oa : Option Addr) (len cap : Nat) (rs : Nat → Int) (W : World) (hf : 0 ≤ f ∧ f ≤ 9) (hlen : len ≤ 200)
    (hcell : ∀ i, i < len → ∃ b o, oa = some ⟨b, o, none⟩ ∧ b < W.heap.size ∧ W.cell? ⟨b, o + i, none⟩ = some (.int .i64 (rs i))) :
    Calls Try.prog 12 #[.int .i64 f, .slice oa len cap] W fun e w' => e = .returned (.bool true) ∧ Below W.heap.size W w' := by
  have HC := Lib.hid hcell
  clear hcell
  go_enter Try.func12, Try.ntmps12
  go_wp2_with (go_at_call 42; ((with_reducible refine (up_any _).mono ?_); rintro x w1 ⟨rfl, hb⟩; have H1 := Lib.hid hb; clear hb))
  go_loopw [6, 7, 8] (fun s t i wr => ∃ (k : Nat) (S T : Int), k ≤ len ∧ i = .int .i64 k ∧ s = .int .i64 S ∧ t = .int .i64 T ∧ (0 ≤ S ∧ S ≤ 9) ∧ (0 ≤ T ∧ T + rk S ≤ 5) ∧ Below W.heap.size W wr) (fun _ _ i _ => len - (intOf i).toNat)
  case atStart => exact ⟨0, f, 0, by omega, rfl, rfl, rfl, hf, ⟨by omega, by unfold rk; (repeat' split) <;> omega⟩, H1.out⟩
  case round =>
    obtain ⟨k, S, T, hk, rfl, rfl, rfl, hS, hT, hb⟩ := hrel
    have HB := Lib.hid hb
    clear hb
    have hr := rk_nonneg S
    by_cases hlt : k < len
    · obtain ⟨b, o, rfl, hbW, hc⟩ := HC.out k hlt
      have hc' : wr.cell? ⟨b, o + k, none⟩ = some (.int .i64 (rs k)) := by rw [HB.out.cell hbW]; exact hc
      clear hc
      generalize rs k = E at hc'
      obtain ⟨hN, hcase⟩ := step S E hS
      have hr2 := rk_nonneg (nst S E)
      rcases hcase with ⟨c1, c2, c3⟩ | ⟨c1, c2⟩
      · go_wp2_with (first
          | (go_at_call 43; ((with_reducible refine (over_any _ _).mono ?_); rintro x w' ⟨rfl, rfl⟩))
          | (go_at_call 44; ((with_reducible refine (Next_any _ _ _).mono ?_); rintro x w2 ⟨rfl, hb⟩; have H2 := Lib.hid (HB.out.trans (hb.mono HB.out.size)); clear hb)))
        go_roundw
        case rel => exact ⟨k + 1, nst S E, T + 1, by omega, by go_num, rfl, rfl, hN, by omega, H2.out⟩
        case measure => simp [intOf]; omega
      · have c3 : (nst S E != S) = false := bne_eq_false_iff_eq.2 c2
        have C2 := Lib.hid c2
        clear c2
        go_wp2_with (first
          | (go_at_call 43; ((with_reducible refine (over_any _ _).mono ?_); rintro x w' ⟨rfl, rfl⟩))
          | (go_at_call 44; ((with_reducible refine (Next_any _ _ _).mono ?_); rintro x w2 ⟨rfl, hb⟩; have H2 := Lib.hid (HB.out.trans (hb.mono HB.out.size)); clear hb)))
        all_goals
          go_roundw
          case rel => exact ⟨k + 1, S, T, by omega, by go_num, by rw [C2.out], rfl, hS, by omega, H2.out⟩
          case measure => simp [intOf]; omega
    · rcases dead S hS with ⟨c1, c2, c3⟩ | ⟨c1, c2⟩
      · go_wp2_with (first
          | (go_at_call 43; ((with_reducible refine (over_any _ _).mono ?_); rintro x w' ⟨rfl, rfl⟩))
          | (go_at_call 44; ((with_reducible refine (Next_any _ _ _).mono ?_); rintro x w2 ⟨rfl, hb⟩; have H2 := Lib.hid (HB.out.trans (hb.mono HB.out.size)); clear hb)))
        go_ret
        exact ⟨ret_bool (by first | rfl | (rw [decide_eq_true_eq]; omega)), H2.out⟩
      · go_wp2_with (first
          | (go_at_call 43; ((with_reducible refine (over_any _ _).mono ?_); rintro x w' ⟨rfl, rfl⟩))
          | (go_at_call 44; ((with_reducible refine (Next_any _ _ _).mono ?_); rintro x w2 ⟨rfl, hb⟩; have H2 := Lib.hid (HB.out.trans (hb.mono HB.out.size)); clear hb)))
        go_ret
        exact ⟨ret_bool (by first | rfl | (rw [decide_eq_true_eq]; omega)), H2.out⟩

set_option maxRecDepth 100000 in
theorem ends_big (f : Int) (oa : Option Addr) (len cap : Nat) (W : World) (hl : len ≤ 9223372036854775807) (hbig : f < 0 ∨ 9 < f ∨ 200 < len) :
    Calls Try.prog 12 #[.int .i64 f, .slice oa len cap] W fun e w' => e = .returned (.bool true) ∧ Below W.heap.size W w' := by
  by_cases c1 : f < 0
  · clear hbig
    go_enter Try.func12, Try.ntmps12
    go_wp2_with (go_at_call 42; ((with_reducible refine (up_any _).mono ?_); rintro x w1 ⟨rfl, hb⟩; have H1 := Lib.hid hb; clear hb))
    go_ret
    exact ⟨rfl, H1.out⟩
  · by_cases c2 : 9 < f
    · clear hbig
      go_enter Try.func12, Try.ntmps12
      go_wp2_with (go_at_call 42; ((with_reducible refine (up_any _).mono ?_); rintro x w1 ⟨rfl, hb⟩; have H1 := Lib.hid hb; clear hb))
      go_ret
      exact ⟨rfl, H1.out⟩
    · have c3 : 200 < len := by omega
      clear hbig
      go_enter Try.func12, Try.ntmps12
      go_wp2_with (go_at_call 42; ((with_reducible refine (up_any _).mono ?_); rintro x w1 ⟨rfl, hb⟩; have H1 := Lib.hid hb; clear hb))
      go_ret
      exact ⟨rfl, H1.out⟩

theorem ends_law (W : World) (v0 v1 : Value) (o0 : Came Try.prog W 3 v0) (o1 : Came Try.prog W 55 v1) : Calls Try.prog 12 #[v0, v1] W fun e W' => e = .returned (.bool true) ∧ Below W.heap.size W W' := by
  obtain ⟨f, rfl, _⟩ := o0.int Try.underlying3
  obtain ⟨oa, len, cap, rs, rfl, hl, hc, hi⟩ := slice_ints (o1.slice (.slice 1 (.int .i64)) (by kernel_rfl) Try.underlying55)
  unfold maxLen at hc
  by_cases hbig : f < 0 ∨ 9 < f ∨ 200 < len
  · exact ends_big f oa len cap W (by omega) hbig
  · exact ends_main f oa len cap rs W (by omega) (by omega) (fun i h => (hi i h).2)

end Go.Proofs.Ytbdgnaeldlgoaaa.State
