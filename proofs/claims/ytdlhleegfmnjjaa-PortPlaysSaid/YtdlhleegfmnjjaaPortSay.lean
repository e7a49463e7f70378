/- The function that is handed to Next in PortPlays. Conditions: the numbers' kinds. -/
import Derived.Test.YtdlhleegfmnjjaaPortUp
namespace Go.Proofs.Ytdlhleegfmnjjaa.Port
open Go.RowKit Argin Save
set_option linter.unusedVariables false
set_option linter.unusedSimpArgs false

theorem hcf5 (args : Array Value) (w : World) : Sem.run Try.prog (callFunc 29 args) w = .ok (.enter 29 args) w := by simp [callFunc, Try.func29]; rfl

def freeB (l m : Int) (ls : Nat → Int) (len : Nat) (x : Int) : Bool := decide (∀ k, k < len → ¬ (0 ≤ ls k ∧ l + ls k % m = x))

set_option maxHeartbeats 1000000 in
theorem say5 (x l m : Int) (b c d len cap : Nat) (oa : Option Addr) (ls : Nat → Int) (w : World) (hb : w.cell? ⟨b, 0, none⟩ = some (.slice oa len cap)) (hc : w.cell? ⟨c, 0, none⟩ = some (.int .i64 l)) (hd : w.cell? ⟨d, 0, none⟩ = some (.int .i64 m))
    (hx : 0 ≤ x ∧ x < 65536) (hl : 1 ≤ l ∧ l ≤ 65536) (hm : 1 ≤ m ∧ m ≤ 64) (hlen : len ≤ 100)
    (hcell : ∀ i, i < len → ∃ b o, oa = some ⟨b, o, none⟩ ∧ w.cell? ⟨b, o + i, none⟩ = some (.int .i64 (ls i))) (hls : ∀ i, i < len → -9223372036854775808 ≤ ls i ∧ ls i < 9223372036854775808) :
    Calls Try.prog 29 #[.int .u16 x, .pointer (some ⟨b, 0, none⟩), .pointer (some ⟨c, 0, none⟩), .pointer (some ⟨d, 0, none⟩)] w fun e w' => e = .returned (.bool (freeB l m ls len x)) ∧ Drew w w' := by
  have HC := Lib.hid hcell
  have HL := Lib.hid hls
  clear hcell hls
  have m0 : ¬ m = 0 := by omega
  go_enter Try.func29, Try.ntmps29
  go_wp2_with fail
  go_loopw [6] (fun sk wx => ∃ k : Nat, k ≤ len ∧ sk = .int .i64 k ∧ (∀ j, j < k → ¬ (0 ≤ ls j ∧ l + ls j % m = x)) ∧ Drew w wx) (fun sk _ => len - (intOf sk).toNat)
  case atStart => exact ⟨0, by omega, rfl, fun j hj => by omega, Drew.refl _⟩
  case round =>
    obtain ⟨k, hk, rfl, hno, nd, rfl⟩ := hrel
    have HN := Lib.hid hno
    clear hno
    by_cases hlt : k < len
    · obtain ⟨b2, o, rfl, hcl⟩ := HC.out k hlt
      have hr := HL.out k hlt
      by_cases h0 : 0 ≤ ls k
      · by_cases h1 : l + ls k % m = x
        · have HF := Lib.hid (show freeB l m ls len x = false from decide_eq_false (fun h => h k hlt ⟨h0, h1⟩))
          generalize ls k = a at *
          have ha := Int.emod_nonneg a m0
          have ha2 := Int.emod_lt_of_pos a (show 0 < m by omega)
          have e1 : a.tmod m = a % m := Int.tmod_eq_emod_of_nonneg h0
          have e2 : IntKind.i64.wrap (l + a % m) = l + a % m := Argin.i64_in _ (by omega)
          have e3 : (l + a % m == x) = true := by simp [h1]
          have E0 := decide_eq_true h0
          clear h1
          go_wp2_with fail
          go_quiet (fail)
          go_wp2_with fail
          go_ret
          exact ⟨ret_bool HF.out.symm, Drew.two _ _ _⟩
        · have HNN := Lib.hid (show ∀ j, j < k + 1 → ¬ (0 ≤ ls j ∧ l + ls j % m = x) from fun j hj => by
            by_cases e : j = k
            · subst e; exact fun h => h1 h.2
            · exact HN.out j (by omega))
          generalize ls k = a at hcl hr h0 h1
          have ha := Int.emod_nonneg a m0
          have ha2 := Int.emod_lt_of_pos a (show 0 < m by omega)
          have e1 : a.tmod m = a % m := Int.tmod_eq_emod_of_nonneg h0
          have e2 : IntKind.i64.wrap (l + a % m) = l + a % m := Argin.i64_in _ (by omega)
          have e3 : (l + a % m == x) = false := by simp [h1]
          have E0 := decide_eq_true h0
          clear h1
          go_wp2_with fail
          go_quiet (fail)
          go_wp2_with fail
          go_roundw
          case rel => exact ⟨k + 1, by omega, by go_num, HNN.out, _, rfl⟩
          case measure => simp [intOf]; omega
      · have HNN := Lib.hid (show ∀ j, j < k + 1 → ¬ (0 ≤ ls j ∧ l + ls j % m = x) from fun j hj => by
          by_cases e : j = k
          · subst e; exact fun h => h0 h.1
          · exact HN.out j (by omega))
        generalize ls k = a at hcl hr h0
        have E0 := decide_eq_false h0
        go_wp2_with fail
        go_quiet (fail)
        go_wp2_with fail
        go_roundw
        case rel => exact ⟨k + 1, by omega, by go_num, HNN.out, _, rfl⟩
        case measure => simp [intOf]; omega
    · obtain rfl : k = len := by omega
      have HF := Lib.hid (show freeB l m ls k x = true from decide_eq_true HN.out)
      go_wp2_with fail
      go_ret
      exact ⟨ret_bool HF.out.symm, _, rfl⟩

end Go.Proofs.Ytdlhleegfmnjjaa.Port
