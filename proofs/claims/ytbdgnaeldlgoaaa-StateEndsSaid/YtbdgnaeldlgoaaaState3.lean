/- The document's table of states as it is called. Conditions: none but the numbers' kinds. -/
import Derived.Test.YtbdgnaeldlgoaaaState2
import Derived.Deep.DeepCutAuto
import Derived.Deep.CutBlock
namespace Go.Proofs.Ytbdgnaeldlgoaaa.State
open Go.RowKit Argin Save
set_option linter.unusedVariables false
set_option linter.unusedSimpArgs false

def tbl : List Int := [1, 2, 3, 1, 3, 2, 2, 1, 3, 3, 4, 4, 3, 5, 7, 4, 6, 5, 4, 5, 6, 5, 5, 9, 6, 6, 9, 7, 4, 8, 8, 6, 9, 1, 4, 0]
def rw_ (i : Nat) : Int := tbl.getD i 0

theorem rows_any (w : World) : Calls Try.prog 62 #[] w fun x w' => x = .returned (.slice (some ⟨w.heap.size, 0, none⟩) 12 12) ∧ w'.heap[w.heap.size]? = some (.cells (tbl.map (Value.int .i64)).toArray 75) ∧ Below w.heap.size w w' := by
  go_enter Try.func62, Try.ntmps62
  go_wp2
  go_ret
  exact ⟨rfl, get_alloc _ _, (Below.refl _ _).alloc (Nat.le_refl _) _⟩

theorem row_cell {w : World} {g : Nat} (h : w.heap[g]? = some (.cells (tbl.map (Value.int .i64)).toArray 75)) (i : Nat) (hi : i < 36) : w.cell? ⟨g, i, none⟩ = some (.int .i64 (rw_ i)) := by
  rw [cell_get h]
  have hl : i < tbl.length := hi
  simp [rw_, List.getD, List.getElem?_eq_getElem hl]

theorem hit : ∀ k, k < 12 → nx (rw_ (k * 3)) (rw_ (k * 3 + 1)) = rw_ (k * 3 + 2) ∧ rw_ (k * 3 + 1) ≠ 7 ∧ 0 ≤ rw_ (k * 3 + 2) := by decide
theorem hits (s e : Int) (h : ∀ k, k < 12 → ¬ (rw_ (k * 3) = s ∧ rw_ (k * 3 + 1) = e)) : nx s e = -1 := by
  unfold nx
  split
  · rename_i c; rcases c with ⟨rfl, rfl⟩ | ⟨rfl, rfl⟩
    · exact absurd ⟨rfl, rfl⟩ (h 0 (by omega))
    · exact absurd ⟨rfl, rfl⟩ (h 2 (by omega))
  · split
    · rename_i c; obtain ⟨rfl, rfl⟩ := c; exact absurd ⟨rfl, rfl⟩ (h 1 (by omega))
    · split
      · rename_i c; obtain ⟨rfl, rfl⟩ := c; exact absurd ⟨rfl, rfl⟩ (h 11 (by omega))
      · split
        · rename_i c; obtain ⟨rfl, rfl⟩ := c; exact absurd ⟨rfl, rfl⟩ (h 3 (by omega))
        · split
          · rename_i c; obtain ⟨rfl, rfl⟩ := c; exact absurd ⟨rfl, rfl⟩ (h 4 (by omega))
          · split
            · rename_i c; obtain ⟨rfl, rfl⟩ := c; exact absurd ⟨rfl, rfl⟩ (h 5 (by omega))
            · split
              · rename_i c; obtain ⟨rfl, rfl⟩ := c; exact absurd ⟨rfl, rfl⟩ (h 6 (by omega))
              · split
                · rename_i c; obtain ⟨rfl, rfl⟩ := c; exact absurd ⟨rfl, rfl⟩ (h 9 (by omega))
                · split
                  · rename_i c; rcases c with ⟨rfl, rfl⟩ | ⟨rfl, rfl⟩ | ⟨rfl, rfl⟩
                    · exact absurd ⟨rfl, rfl⟩ (h 7 (by omega))
                    · exact absurd ⟨rfl, rfl⟩ (h 8 (by omega))
                    · exact absurd ⟨rfl, rfl⟩ (h 10 (by omega))
                  · rfl

theorem rNext_any (s e : Int) (w : World) : Calls Try.prog 45 #[.int .i64 s, .int .i64 e] w fun x w' => x = .returned (.tuple #[.int .i64 (nst s e), .bool (hasn s e)]) ∧ Below w.heap.size w w' := by
  by_cases h : e = 7 ∧ 1 ≤ s ∧ s ≤ 8
  · have E := Lib.hid (to_dead h)
    have h0 : (e == 7) = true := beq_iff_eq.2 h.1
    have h1 := h.2.1
    have h2 := h.2.2
    clear h
    go_enter Try.func45, Try.ntmps45
    go_wp2_with fail
    go_ret2
    exact ⟨by simp [E.out.1, E.out.2], Below.refl _ _⟩
  · go_enter Try.func45, Try.ntmps45
    go_upto_region 1 with fail
    go_cut [17] (fun s17 wx => s17 = .bool false ∧ wx = w)
    case first =>
      by_cases h0 : e = 7
      · have h0' : (e == 7) = true := beq_iff_eq.2 h0
        by_cases h1 : s < 1
        · clear h h0
          go_wp2_with fail
          go_meet
          exact ⟨rfl, rfl⟩
        · have h2 : 8 < s := by omega
          have D := Lib.hid (show decide (s ≤ 8) = false from decide_eq_false (by omega))
          clear h h0
          go_wp2_with fail
          go_meet
          exact ⟨by rw [D.out], rfl⟩
      · have h0' : (e == 7) = false := beq_eq_false_iff_ne.2 h0
        clear h
        go_wp2_with fail
        go_meet
        exact ⟨rfl, rfl⟩
    case rest =>
    obtain ⟨rfl, rfl⟩ := hcut
    have H := Lib.hid h
    clear h
    go_wp2_with (go_at_call 62; ((with_reducible refine (rows_any _).mono ?_); rintro x w1 ⟨rfl, hg, hb⟩; have HG := Lib.hid hg; have HB := Lib.hid hb; clear hg hb))
    go_loop [7] (fun i => ∃ k : Nat, k ≤ 12 ∧ i = .int .i64 k ∧ ∀ j, j < k → ¬ (rw_ (j * 3) = s ∧ rw_ (j * 3 + 1) = e)) (fun i => 12 - (intOf i).toNat)
    case atStart => exact ⟨0, by omega, rfl, fun j hj => by omega⟩
    case round =>
      obtain ⟨k, hk, rfl, hn⟩ := hrel
      have HN := Lib.hid hn
      clear hn
      by_cases hlt : k < 12
      · have c0 := row_cell HG.out (k * 3) (by omega)
        have c1 := row_cell HG.out (k * 3 + 1) (by omega)
        have c2 := row_cell HG.out (k * 3 + 2) (by omega)
        by_cases m1 : rw_ (k * 3) = s
        · by_cases m2 : rw_ (k * 3 + 1) = e
          · have E : Hid (nst s e = rw_ (k * 3 + 2) ∧ hasn s e = true) := by
              obtain ⟨g1, g2, g3⟩ := hit k hlt
              rw [m1, m2] at g1
              obtain ⟨a1, a2⟩ := to_some (s := s) (e := e) (by omega) (by omega)
              exact ⟨a1.trans g1, a2⟩
            have m1 : (rw_ (k * 3) == s) = true := beq_iff_eq.2 m1
            have m2 : (rw_ (k * 3 + 1) == e) = true := beq_iff_eq.2 m2
            go_wp2_with fail
            go_ret2
            exact ⟨by simp [E.out.1, E.out.2], HB.out⟩
          · have E : Hid (∀ j, j < k + 1 → ¬ (rw_ (j * 3) = s ∧ rw_ (j * 3 + 1) = e)) := by
              intro j hj
              by_cases hjk : j = k
              · subst hjk; exact fun h => m2 h.2
              · exact HN.out j (by omega)
            have m1 : (rw_ (k * 3) == s) = true := beq_iff_eq.2 m1
            have m2 : (rw_ (k * 3 + 1) == e) = false := beq_eq_false_iff_ne.2 m2
            go_wp2_with fail
            go_round
            case rel => exact ⟨k + 1, by omega, by go_num, E.out⟩
            case measure => simp [intOf]; omega
        · have E : Hid (∀ j, j < k + 1 → ¬ (rw_ (j * 3) = s ∧ rw_ (j * 3 + 1) = e)) := by
            intro j hj
            by_cases hjk : j = k
            · subst hjk; exact fun h => m1 h.1
            · exact HN.out j (by omega)
          have m1 : (rw_ (k * 3) == s) = false := beq_eq_false_iff_ne.2 m1
          go_wp2_with fail
          go_round
          case rel => exact ⟨k + 1, by omega, by go_num, E.out⟩
          case measure => simp [intOf]; omega
      · obtain rfl : k = 12 := by omega
        have E := Lib.hid (to_none H.out (by rw [hits s e HN.out]; omega))
        go_wp2_with fail
        go_ret2
        exact ⟨by simp [E.out.1, E.out.2], HB.out⟩

end Go.Proofs.Ytbdgnaeldlgoaaa.State
