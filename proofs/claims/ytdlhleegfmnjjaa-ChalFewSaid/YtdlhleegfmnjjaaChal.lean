/- The functions of layer 11 (how many challenges) as they are called. Conditions: the numbers' kinds. -/
import Derived.Test.YtdlhleegfmnjjaaProg
import Derived.Test.YtdlhleegfmnjjaaSave
import Derived.Lib.MinMax
import Derived.WalkSpells
import Derived.Deep.QuietTactic
import Derived.BigQuiet
namespace Go.Proofs.Ytdlhleegfmnjjaa.Chal
open Go.RowKit Argin Save
set_option linter.unusedVariables false
set_option linter.unusedSimpArgs false

/-- A limit in memory. -/
abbrev Lm (l iv fr : Int) (bg : Bool) (lt : Int) : Obj := .cells #[.int .i64 l, .int .u64 iv, .int .u64 fr, .bool bg, .int .i64 lt] 84

theorem lm_cells {w : World} {b : Nat} {l iv fr lt : Int} {bg : Bool} (h : w.heap[b]? = some (Lm l iv fr bg lt)) :
    (w.cell? ⟨b, 0, none⟩ = some (.int .i64 l) ∧ w.cell? ⟨b, 1, none⟩ = some (.int .u64 iv) ∧ w.cell? ⟨b, 2, none⟩ = some (.int .u64 fr) ∧ w.cell? ⟨b, 3, none⟩ = some (.bool bg) ∧ w.cell? ⟨b, 4, none⟩ = some (.int .i64 lt)) ∧
    w.frozen? ⟨b, 2, none⟩ = false ∧ w.frozen? ⟨b, 3, none⟩ = false ∧ w.frozen? ⟨b, 4, none⟩ = false :=
  ⟨⟨cell_get h 0, cell_get h 1, cell_get h 2, cell_get h 3, cell_get h 4⟩, free_get h 2, free_get h 3, free_get h 4⟩

theorem new_any (l iv : Int) (w : World) (hl : -9223372036854775808 ≤ l ∧ l < 9223372036854775808) (hv : -9223372036854775808 ≤ iv ∧ iv < 9223372036854775808) :
    Calls Try.prog 24 #[.int .i64 l, .int .i64 iv] w fun e w' => e = .returned (.pointer (some ⟨w.heap.size, 0, none⟩)) ∧ w'.heap[w.heap.size]? = some (Lm (max l 0) (max iv 1) 0 false 0) ∧ Below w.heap.size w w' := by
  go_enter Try.func24, Try.ntmps24
  go_wp2
  go_ret
  exact ⟨rfl, get_alloc _ _, (Below.refl _ _).alloc (Nat.le_refl _) _⟩

/-- Whether no interval is under way. -/
def ov (iv fr : Int) (bg : Bool) (now : Int) : Bool := !bg || decide (iv ≤ (now - fr) % 18446744073709551616)

theorem over_any (b : Nat) (l iv fr lt now : Int) (bg : Bool) (w : World) (h : w.heap[b]? = some (Lm l iv fr bg lt)) :
    Calls Try.prog 52 #[.pointer (some ⟨b, 0, none⟩), .int .u64 now] w fun e w' => e = .returned (.bool (ov iv fr bg now)) ∧ Drew w w' := by
  obtain ⟨⟨k0, k1, k2, k3, k4⟩, f2, f3, f4⟩ := lm_cells h
  clear h
  cases bg with
  | false =>
    go_enter Try.func52, Try.ntmps52
    go_wp2
    go_quiet (fail)
    go_wp2
    go_ret
    exact ⟨rfl, _, rfl⟩
  | true =>
    go_enter Try.func52, Try.ntmps52
    go_wp2
    go_quiet (fail)
    go_wp2
    go_ret
    exact ⟨ret_bool (by unfold ov; rw [u64_wrap]; rfl), _, rfl⟩

def left (l iv fr : Int) (bg : Bool) (lt now : Int) : Int := if ov iv fr bg now = true then l else l - lt
theorem left_any (b : Nat) (l iv fr lt now : Int) (bg : Bool) (w : World) (h : w.heap[b]? = some (Lm l iv fr bg lt)) (hl : 0 ≤ l ∧ l < 9223372036854775808) (ht : 0 ≤ lt ∧ lt ≤ l) :
    Calls Try.prog 26 #[.pointer (some ⟨b, 0, none⟩), .int .u64 now] w fun e w' => e = .returned (.int .i64 (left l iv fr bg lt now)) ∧ Drew w w' := by
  obtain ⟨⟨k0, k1, k2, k3, k4⟩, f2, f3, f4⟩ := lm_cells h
  have H := Lib.hid h
  clear h
  by_cases c : ov iv fr bg now = true
  · have E := Lib.hid (show left l iv fr bg lt now = l from by unfold left; rw [if_pos c])
    go_enter Try.func26, Try.ntmps26
    go_wp2_with (go_at_call 52; ((with_reducible refine (over_any _ _ _ _ _ _ _ _ H.out).mono ?_); rintro x w' ⟨rfl, n, rfl⟩))
    go_ret
    exact ⟨ret_int E.out.symm, _, rfl⟩
  · have E := Lib.hid (show left l iv fr bg lt now = l - lt from by unfold left; rw [if_neg c])
    have c := Bool.eq_false_iff.mpr c
    have hs := i64_in (l - lt) (by omega)
    go_enter Try.func26, Try.ntmps26
    go_wp2_with (go_at_call 52; ((with_reducible refine (over_any _ _ _ _ _ _ _ _ H.out).mono ?_); rintro x w' ⟨rfl, n, rfl⟩))
    go_quiet (fail)
    go_wp2
    go_ret
    exact ⟨ret_int E.out.symm, Drew.two _ _ _⟩

/-- One more is asked for in an interval in which lt were let. -/
theorem may_any (b : Nat) (l iv fr lt now : Int) (bg : Bool) (w : World) (h : w.heap[b]? = some (Lm l iv fr bg lt)) (hl : 0 ≤ l ∧ l < 9223372036854775808) (ht : 0 ≤ lt ∧ lt ≤ l) :
    Calls Try.prog 25 #[.pointer (some ⟨b, 0, none⟩), .int .u64 now] w fun e w' => ∃ (fr' lt' : Int) (bg' : Bool), ((ov iv fr bg now = true ∧ fr' = now ∧ bg' = true ∧ lt' = 0) ∨ (ov iv fr bg now = false ∧ fr' = fr ∧ bg' = bg ∧ lt' = lt)) ∧
      e = .returned (.bool (decide (lt' < l))) ∧ w'.heap[b]? = some (Lm l iv fr' bg' (if lt' < l then lt' + 1 else lt')) ∧ Save (· = b) w w' := by
  obtain ⟨⟨k0, k1, k2, k3, k4⟩, f2, f3, f4⟩ := lm_cells h
  have H := Lib.hid h
  clear h
  by_cases c : ov iv fr bg now = true
  · by_cases c2 : 0 < l
    · have E := Lib.hid c2
      go_enter Try.func25, Try.ntmps25
      go_wp2_with (go_at_call 52; ((with_reducible refine (over_any _ _ _ _ _ _ _ _ H.out).mono ?_); rintro x w' ⟨rfl, n, rfl⟩))
      go_quiet (fail)
      go_wp2
      go_ret
      refine ⟨now, 0, true, .inl ⟨c, rfl, rfl, rfl⟩, ret_bool (decide_eq_true E.out).symm, ?_, ?_⟩
      · rw [if_pos E.out]; simp [World.setCell, World.drewN, Array.getElem?_modify, H.out]
      · repeat (first | exact Save.refl _ _ | refine Save.drewN ?_ _ | refine Save.set ?_ _ _ (by exact rfl) _)
    · have E := Lib.hid c2
      go_enter Try.func25, Try.ntmps25
      go_wp2_with (go_at_call 52; ((with_reducible refine (over_any _ _ _ _ _ _ _ _ H.out).mono ?_); rintro x w' ⟨rfl, n, rfl⟩))
      go_quiet (fail)
      go_wp2
      go_ret
      refine ⟨now, 0, true, .inl ⟨c, rfl, rfl, rfl⟩, ret_bool (decide_eq_false (by have := E.out; omega)).symm, ?_, ?_⟩
      · rw [if_neg (by have := E.out; omega)]; simp [World.setCell, World.drewN, Array.getElem?_modify, H.out]
      · repeat (first | exact Save.refl _ _ | refine Save.drewN ?_ _ | refine Save.set ?_ _ _ (by exact rfl) _)
  · have c := Bool.eq_false_iff.mpr c
    by_cases c2 : lt < l
    · have E := Lib.hid c2
      go_enter Try.func25, Try.ntmps25
      go_wp2_with (go_at_call 52; ((with_reducible refine (over_any _ _ _ _ _ _ _ _ H.out).mono ?_); rintro x w' ⟨rfl, n, rfl⟩))
      go_quiet (fail)
      go_wp2
      go_ret
      refine ⟨fr, lt, bg, .inr ⟨c, rfl, rfl, rfl⟩, ret_bool (decide_eq_true E.out).symm, ?_, ?_⟩
      · rw [if_pos E.out]; simp [World.setCell, World.drewN, Array.getElem?_modify, H.out]
      · repeat (first | exact Save.refl _ _ | refine Save.drewN ?_ _ | refine Save.set ?_ _ _ (by exact rfl) _)
    · have E := Lib.hid c2
      go_enter Try.func25, Try.ntmps25
      go_wp2_with (go_at_call 52; ((with_reducible refine (over_any _ _ _ _ _ _ _ _ H.out).mono ?_); rintro x w' ⟨rfl, n, rfl⟩))
      go_quiet (fail)
      go_wp2
      go_ret
      refine ⟨fr, lt, bg, .inr ⟨c, rfl, rfl, rfl⟩, ret_bool (decide_eq_false (by have := E.out; omega)).symm, ?_, ?_⟩
      · rw [if_neg (by have := E.out; omega)]; simp [World.setCell, World.drewN, Array.getElem?_modify, H.out]
      · repeat (first | exact Save.refl _ _ | refine Save.drewN ?_ _ | refine Save.set ?_ _ _ (by exact rfl) _)

end Go.Proofs.Ytdlhleegfmnjjaa.Chal
