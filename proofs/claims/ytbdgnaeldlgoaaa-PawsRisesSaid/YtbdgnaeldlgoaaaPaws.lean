/- The functions of layer 10 (old stamps) and the document's, as they are called. Conditions: none but the numbers' kinds. -/
import Derived.Test.YtbdgnaeldlgoaaaSeq
import Derived.Test.YtbdgnaeldlgoaaaArgin
import Derived.Deep.RegionHeld3
namespace Go.Proofs.Ytbdgnaeldlgoaaa.Seq
open Go.RowKit Argin

theorem refgap_any (a b : Int) (w : World) (ha : 0 ≤ a ∧ a < 4294967296) (hb : 0 ≤ b ∧ b < 4294967296) : Calls Try.prog 18 #[.int .u32 a, .int .u32 b] w fun e w' => e = .returned (.int .i64 (gap a b)) ∧ w = w' := by
  by_cases h1 : b - a < -2147483648
  · have h2 : ¬ (b - a + 4294967296 > 2147483647) := by omega
    go_enter Try.func18, Try.ntmps18
    go_wp2
    go_ret
    exact ⟨ret_int (by unfold gap dist; split <;> omega), rfl⟩
  · by_cases h2 : b - a > 2147483647
    · go_enter Try.func18, Try.ntmps18
      go_wp2
      go_ret
      exact ⟨ret_int (by unfold gap dist; split <;> omega), rfl⟩
    · go_enter Try.func18, Try.ntmps18
      go_wp2
      go_ret
      exact ⟨ret_int (by unfold gap dist; split <;> omega), rfl⟩

theorem gap_pos (a b : Int) : decide (0 < gap a b) = bef a b := by
  unfold gap bef dist; rw [decide_eq_decide]; split <;> omega

theorem refbefore_any (a b : Int) (w : World) (ha : 0 ≤ a ∧ a < 4294967296) (hb : 0 ≤ b ∧ b < 4294967296) : Calls Try.prog 16 #[.int .u32 a, .int .u32 b] w fun e w' => e = .returned (.bool (bef a b)) ∧ w = w' := by
  go_enter Try.func16, Try.ntmps16
  go_wp2_with (go_at_call 18; ((with_reducible refine (refgap_any a b _ ha hb).mono ?_); rintro e w' ⟨rfl, rfl⟩))
  go_ret
  exact ⟨ret_bool (gap_pos a b), rfl⟩

theorem old_any (r t : Int) (w : World) : Calls Try.prog 22 #[.int .u32 r, .int .u32 t] w fun e w' => e = .returned (.bool (bef t r)) ∧ w = w' := by
  go_enter Try.func22, Try.ntmps22
  go_wp2_with (go_at_call 15; ((with_reducible refine (before_any _ _ _).mono ?_); rintro e w' ⟨rfl, rfl⟩))
  go_ret
  exact ⟨rfl, rfl⟩

/-- The recent stamp behind a segment of the number sq and the stamp ts. -/
def nxt (r rcv sq ts : Int) : Int := if bef ts r = true then r else if sq = rcv ∨ bef sq rcv = true then ts else r

theorem next_any (r rcv h1 p1 h2 p2 sq ak fl ts ec : Int) (sl : Value) (w : World) :
    Calls Try.prog 23 #[.int .u32 r, .int .u32 rcv, .agg #[.int .u8 h1, .int .u16 p1, .int .u8 h2, .int .u16 p2, .int .u32 sq, .int .u32 ak, .int .i64 fl, .int .u32 ts, .int .u32 ec, sl]] w
      fun e w' => e = .returned (.int .u32 (nxt r rcv sq ts)) ∧ Below w.heap.size w w' := by
  have hb : Below w.heap.size w (w.alloc (.cells #[.int .u8 h1, .int .u16 p1, .int .u8 h2, .int .u16 p2, .int .u32 sq, .int .u32 ak, .int .i64 fl, .int .u32 ts, .int .u32 ec, sl] 33)) := (Below.refl _ _).alloc (Nat.le_refl _) _
  by_cases c1 : bef ts r = true
  · have hn : nxt r rcv sq ts = r := by unfold nxt; rw [if_pos c1]
    have HN := Lib.hid hn
    clear hn
    go_enter Try.func23, Try.ntmps23
    go_wp2_with (go_at_call 22; ((with_reducible refine (old_any _ _ _).mono ?_); rintro e w' ⟨rfl, rfl⟩))
    go_ret
    exact ⟨ret_int HN.out.symm, hb⟩
  · replace c1 := Bool.eq_false_iff.mpr c1
    by_cases c2 : sq = rcv
    · have hn : nxt r rcv sq ts = ts := by unfold nxt; rw [if_neg (by simp [c1]), if_pos (.inl c2)]
      have HN := Lib.hid hn
      clear hn
      subst c2
      go_enter Try.func23, Try.ntmps23
      go_wp2_with (go_at_call 22; ((with_reducible refine (old_any _ _ _).mono ?_); rintro e w' ⟨rfl, rfl⟩))
      go_ret
      exact ⟨ret_int HN.out.symm, hb⟩
    · by_cases c3 : bef sq rcv = true
      · have hn : nxt r rcv sq ts = ts := by unfold nxt; rw [if_neg (by simp [c1]), if_pos (.inr c3)]
        have HN := Lib.hid hn
        have c2 : (sq != rcv) = true := bne_iff_ne.2 c2
        clear hn
        go_enter Try.func23, Try.ntmps23
        go_wp2_with (first
          | (go_at_call 22; ((with_reducible refine (old_any _ _ _).mono ?_); rintro e w' ⟨rfl, rfl⟩))
          | (go_at_call 15; ((with_reducible refine (before_any _ _ _).mono ?_); rintro e w' ⟨rfl, rfl⟩)))
        go_ret
        exact ⟨ret_int HN.out.symm, hb⟩
      · have hn : nxt r rcv sq ts = r := by unfold nxt; rw [if_neg (by simp [c1]), if_neg (by simp [c2, c3])]
        have HN := Lib.hid hn
        replace c3 := Bool.eq_false_iff.mpr c3
        have c2 : (sq != rcv) = true := bne_iff_ne.2 c2
        clear hn
        go_enter Try.func23, Try.ntmps23
        go_wp2_with (first
          | (go_at_call 22; ((with_reducible refine (old_any _ _ _).mono ?_); rintro e w' ⟨rfl, rfl⟩))
          | (go_at_call 15; ((with_reducible refine (before_any _ _ _).mono ?_); rintro e w' ⟨rfl, rfl⟩)))
        go_ret
        exact ⟨ret_int HN.out.symm, hb⟩

theorem gap_nonneg (a b : Int) : decide (0 ≤ gap a b) = decide (dist a b < 2147483648) := by
  unfold gap dist; rw [decide_eq_decide]; split <;> omega

theorem recent_any (r rcv h1 p1 h2 p2 sq ak fl ts ec : Int) (sl : Value) (w : World) (hr : 0 ≤ r ∧ r < 4294967296) (hrc : 0 ≤ rcv ∧ rcv < 4294967296) (hts : 0 ≤ ts ∧ ts < 4294967296) (hsq : 0 ≤ sq ∧ sq < 4294967296) :
    Calls Try.prog 24 #[.int .u32 r, .int .u32 rcv, .agg #[.int .u8 h1, .int .u16 p1, .int .u8 h2, .int .u16 p2, .int .u32 sq, .int .u32 ak, .int .i64 fl, .int .u32 ts, .int .u32 ec, sl]] w
      fun e w' => e = .returned (.int .u32 (nxt r rcv sq ts)) ∧ Below w.heap.size w w' := by
  have hb : Below w.heap.size w (w.alloc (.cells #[.int .u8 h1, .int .u16 p1, .int .u8 h2, .int .u16 p2, .int .u32 sq, .int .u32 ak, .int .i64 fl, .int .u32 ts, .int .u32 ec, sl] 33)) := (Below.refl _ _).alloc (Nat.le_refl _) _
  by_cases c1 : bef ts r = true
  · have hn : nxt r rcv sq ts = r := by unfold nxt; rw [if_pos c1]
    have HN := Lib.hid hn
    clear hn
    go_enter Try.func24, Try.ntmps24
    go_wp2_with (go_at_call 16; ((with_reducible refine (refbefore_any _ _ _ (by assumption) (by assumption)).mono ?_); rintro e w' ⟨rfl, rfl⟩))
    go_ret
    exact ⟨ret_int HN.out.symm, hb⟩
  · replace c1 := Bool.eq_false_iff.mpr c1
    by_cases c2 : 0 ≤ gap sq rcv
    · have hn : nxt r rcv sq ts = ts := by
        unfold nxt; rw [if_neg (by simp [c1]), if_pos]
        unfold bef; unfold gap dist at *; split at c2 <;> simp only [decide_eq_true_eq] <;> omega
      have HN := Lib.hid hn
      clear hn
      go_enter Try.func24, Try.ntmps24
      go_wp2_with (first
        | (go_at_call 16; ((with_reducible refine (refbefore_any _ _ _ (by assumption) (by assumption)).mono ?_); rintro e w' ⟨rfl, rfl⟩))
        | (go_at_call 18; ((with_reducible refine (refgap_any _ _ _ (by assumption) (by assumption)).mono ?_); rintro e w' ⟨rfl, rfl⟩)))
      go_ret
      exact ⟨ret_int HN.out.symm, hb⟩
    · have hn : nxt r rcv sq ts = r := by
        unfold nxt; rw [if_neg (by simp [c1]), if_neg]
        unfold bef; unfold gap dist at *; split at c2 <;> simp only [decide_eq_true_eq] <;> omega
      have HN := Lib.hid hn
      clear hn
      go_enter Try.func24, Try.ntmps24
      go_wp2_with (first
        | (go_at_call 16; ((with_reducible refine (refbefore_any _ _ _ (by assumption) (by assumption)).mono ?_); rintro e w' ⟨rfl, rfl⟩))
        | (go_at_call 18; ((with_reducible refine (refgap_any _ _ _ (by assumption) (by assumption)).mono ?_); rintro e w' ⟨rfl, rfl⟩)))
      go_ret
      exact ⟨ret_int HN.out.symm, hb⟩

theorem pup_any (w : World) : Calls Try.prog 21 #[] w fun e w' => e = .returned (.bool true) ∧ Below w.heap.size w w' := by
  have h1 : bef 4 5 = true := by decide
  have h2 : bef 5 5 = false := by decide
  have h3 : nxt 5 9 9 7 = 7 := by decide
  go_enter Try.func21, Try.ntmps21
  go_wp2_with (first
    | (go_at_call 22; ((with_reducible refine (old_any _ _ _).mono ?_); rintro e w' ⟨rfl, rfl⟩))
    | (go_at_call 23; ((with_reducible refine (next_any _ _ _ _ _ _ _ _ _ _ _ _ _).mono ?_); rintro e w' ⟨rfl, hb⟩)))
  go_ret
  exact ⟨rfl, hb⟩

theorem block_stays {w w' : World} {b : Nat} {o : Obj} (hb : Below w.heap.size w w') (h : w.heap[b]? = some o) : w'.heap[b]? = some o := by
  rw [hb.block b (Array.getElem?_eq_some_iff.1 h).1]; exact h

theorem ten_mk {w0 w : World} {b n : Nat} {c0 c1 c2 c3 c4 c5 c6 c7 c8 c9 : Value} {t : TypeId} (h : w.heap[b]? = some (.cells #[c0, c1, c2, c3, c4, c5, c6, c7, c8, c9] t)) (hb : Below n w0 w) : w.cell? ⟨b, 0, none⟩ = some c0 ∧ w.cell? ⟨b, 1, none⟩ = some c1 ∧ w.cell? ⟨b, 2, none⟩ = some c2 ∧ w.cell? ⟨b, 3, none⟩ = some c3 ∧ w.cell? ⟨b, 4, none⟩ = some c4 ∧ w.cell? ⟨b, 5, none⟩ = some c5 ∧ w.cell? ⟨b, 6, none⟩ = some c6 ∧ w.cell? ⟨b, 7, none⟩ = some c7 ∧ w.cell? ⟨b, 8, none⟩ = some c8 ∧ w.cell? ⟨b, 9, none⟩ = some c9 ∧ w.heap[b]? = some (.cells #[c0, c1, c2, c3, c4, c5, c6, c7, c8, c9] t) ∧ Below n w0 w := by
  refine ⟨?_, ?_, ?_, ?_, ?_, ?_, ?_, ?_, ?_, ?_, h, hb⟩ <;> simp [World.cell?, h]

theorem ten_drew {w0 w : World} {b n : Nat} {c0 c1 c2 c3 c4 c5 c6 c7 c8 c9 : Value} {t : TypeId} (h : w.heap[b]? = some (.cells #[c0, c1, c2, c3, c4, c5, c6, c7, c8, c9] t)) (hb : Below n w0 w) : w.drew.cell? ⟨b, 0, none⟩ = some c0 ∧ w.drew.cell? ⟨b, 1, none⟩ = some c1 ∧ w.drew.cell? ⟨b, 2, none⟩ = some c2 ∧ w.drew.cell? ⟨b, 3, none⟩ = some c3 ∧ w.drew.cell? ⟨b, 4, none⟩ = some c4 ∧ w.drew.cell? ⟨b, 5, none⟩ = some c5 ∧ w.drew.cell? ⟨b, 6, none⟩ = some c6 ∧ w.drew.cell? ⟨b, 7, none⟩ = some c7 ∧ w.drew.cell? ⟨b, 8, none⟩ = some c8 ∧ w.drew.cell? ⟨b, 9, none⟩ = some c9 ∧ w.drew.heap[b]? = some (.cells #[c0, c1, c2, c3, c4, c5, c6, c7, c8, c9] t) ∧ Below n w0 w.drew :=
  ten_mk (w := w.drew) h hb.drew

theorem ten_step {w0 w w' : World} {b n : Nat} {c0 c1 c2 c3 c4 c5 c6 c7 c8 c9 : Value} {t : TypeId} (hb : Below w.heap.size w w') (h : w.cell? ⟨b, 0, none⟩ = some c0 ∧ w.cell? ⟨b, 1, none⟩ = some c1 ∧ w.cell? ⟨b, 2, none⟩ = some c2 ∧ w.cell? ⟨b, 3, none⟩ = some c3 ∧ w.cell? ⟨b, 4, none⟩ = some c4 ∧ w.cell? ⟨b, 5, none⟩ = some c5 ∧ w.cell? ⟨b, 6, none⟩ = some c6 ∧ w.cell? ⟨b, 7, none⟩ = some c7 ∧ w.cell? ⟨b, 8, none⟩ = some c8 ∧ w.cell? ⟨b, 9, none⟩ = some c9 ∧ w.heap[b]? = some (.cells #[c0, c1, c2, c3, c4, c5, c6, c7, c8, c9] t) ∧ Below n w0 w) (hn : n ≤ w.heap.size) : w'.cell? ⟨b, 0, none⟩ = some c0 ∧ w'.cell? ⟨b, 1, none⟩ = some c1 ∧ w'.cell? ⟨b, 2, none⟩ = some c2 ∧ w'.cell? ⟨b, 3, none⟩ = some c3 ∧ w'.cell? ⟨b, 4, none⟩ = some c4 ∧ w'.cell? ⟨b, 5, none⟩ = some c5 ∧ w'.cell? ⟨b, 6, none⟩ = some c6 ∧ w'.cell? ⟨b, 7, none⟩ = some c7 ∧ w'.cell? ⟨b, 8, none⟩ = some c8 ∧ w'.cell? ⟨b, 9, none⟩ = some c9 ∧ w'.heap[b]? = some (.cells #[c0, c1, c2, c3, c4, c5, c6, c7, c8, c9] t) ∧ Below n w0 w' := by
  obtain ⟨_, _, _, _, _, _, _, _, _, _, h, hb0⟩ := h
  exact ten_mk (block_stays hb h) (hb0.trans (hb.mono hn))

theorem ten_below {w0 w : World} {b n : Nat} {c0 c1 c2 c3 c4 c5 c6 c7 c8 c9 : Value} {t : TypeId} (h : w.cell? ⟨b, 0, none⟩ = some c0 ∧ w.cell? ⟨b, 1, none⟩ = some c1 ∧ w.cell? ⟨b, 2, none⟩ = some c2 ∧ w.cell? ⟨b, 3, none⟩ = some c3 ∧ w.cell? ⟨b, 4, none⟩ = some c4 ∧ w.cell? ⟨b, 5, none⟩ = some c5 ∧ w.cell? ⟨b, 6, none⟩ = some c6 ∧ w.cell? ⟨b, 7, none⟩ = some c7 ∧ w.cell? ⟨b, 8, none⟩ = some c8 ∧ w.cell? ⟨b, 9, none⟩ = some c9 ∧ w.heap[b]? = some (.cells #[c0, c1, c2, c3, c4, c5, c6, c7, c8, c9] t) ∧ Below n w0 w) : Below n w0 w := by
  obtain ⟨_, _, _, _, _, _, _, _, _, _, _, hb0⟩ := h
  exact hb0

theorem ten_block {w0 w : World} {b n : Nat} {c0 c1 c2 c3 c4 c5 c6 c7 c8 c9 : Value} {t : TypeId} (h : w.cell? ⟨b, 0, none⟩ = some c0 ∧ w.cell? ⟨b, 1, none⟩ = some c1 ∧ w.cell? ⟨b, 2, none⟩ = some c2 ∧ w.cell? ⟨b, 3, none⟩ = some c3 ∧ w.cell? ⟨b, 4, none⟩ = some c4 ∧ w.cell? ⟨b, 5, none⟩ = some c5 ∧ w.cell? ⟨b, 6, none⟩ = some c6 ∧ w.cell? ⟨b, 7, none⟩ = some c7 ∧ w.cell? ⟨b, 8, none⟩ = some c8 ∧ w.cell? ⟨b, 9, none⟩ = some c9 ∧ w.heap[b]? = some (.cells #[c0, c1, c2, c3, c4, c5, c6, c7, c8, c9] t) ∧ Below n w0 w) : w.heap[b]? = some (.cells #[c0, c1, c2, c3, c4, c5, c6, c7, c8, c9] t) := by
  obtain ⟨_, _, _, _, _, _, _, _, _, _, hb, _⟩ := h
  exact hb

end Go.Proofs.Ytbdgnaeldlgoaaa.Seq
