/- QuietPlays: what any restarts come to, one behind the other: whether any tick is quiet, any identity's handle, any handle's identity. Conditions: none. -/
import Derived.Test.YtdlhleegfmnjjaaQuietUp
import Derived.Deep.DeepCutAuto
import Derived.Deep.CutBlock
namespace Go.Proofs.Ytdlhleegfmnjjaa.Quiet
open Go.RowKit Argin Save
set_option linter.unusedVariables false

theorem tq (h : Int) (h1 : 1 ≤ h) (h2 : h < 9223372036854775808) : wrap64 (h.tdiv 65536) = h / 65536 := by
  rw [Int.tdiv_eq_ediv_of_nonneg (by omega)]; unfold wrap64; omega

set_option maxRecDepth 100000 in
set_option maxHeartbeats 4000000 in
theorem plays_main (m now id h : Int) (oa : Option Addr) (len cap : Nat) (rs : Nat → Int) (W : World) (hm : -9223372036854775808 ≤ m ∧ m ≤ 1000000) (hlen : len ≤ 100) (hnow : 0 ≤ now ∧ now ≤ 1000000000000)
    (hid : -9223372036854775808 ≤ id ∧ id < 9223372036854775808) (hh : -9223372036854775808 ≤ h ∧ h < 9223372036854775808)
    (hrs : ∀ i, i < len → 0 ≤ rs i ∧ rs i < 18446744073709551616) (hcell : ∀ i, i < len → ∃ b o, oa = some ⟨b, o, none⟩ ∧ b < W.heap.size ∧ W.cell? ⟨b, o + i, none⟩ = some (.int .u64 (rs i))) :
    Calls Try.prog 3 #[.int .i64 m, .slice oa len cap, .int .u64 now, .int .i64 id, .int .i64 h] W fun e w' => e = .returned (.bool true) ∧ Below W.heap.size W w' := by
  go_enter Try.func3, Try.ntmps3
  go_upto_if 44 with (first
    | (go_at_call 15; ((with_reducible refine (up_any _).mono ?_); rintro e w1 ⟨rfl, hb⟩; have HB := Lib.hid hb; clear hb))
    | (go_at_call 16; ((with_reducible refine (new_any _ _ (by omega)).mono ?_); rintro e w2 ⟨rfl, hl, hb⟩; have HL := Lib.hid hl; have HS := Lib.hid (HB.out.trans (hb.mono HB.out.size)); have HZ := Lib.hid HB.out.size; clear hl hb HB)))
  go_cut [13] (fun s13 wx => s13 = .int .u64 (max m 0) ∧ wx = w2)
  case first =>
    by_cases h0 : 0 < m
    · have e : max m 0 = m := by omega
      have E := Lib.hid e
      clear e
      go_wp2_with fail
      go_meet
      exact ⟨by rw [E.out], rfl⟩
    · have e : max m 0 = 0 := by omega
      have E := Lib.hid e
      clear e
      go_wp2_with fail
      go_meet
      exact ⟨by rw [E.out], rfl⟩
  case rest =>
  obtain ⟨rfl, rfl⟩ := hcut
  obtain ⟨M, hM⟩ : ∃ M : Int, M = max m 0 := ⟨_, rfl⟩
  have hM0 : 0 ≤ M := by omega
  have hM1 : M ≤ 1000000 := by omega
  rw [← hM] at HL ⊢
  clear hM
  generalize w1.heap.size = b0 at HL HZ ⊢
  go_wp2_with fail
  go_loopw [14, 15] (fun u i wr => ∃ (k : Nat) (U : Int), k ≤ len + 1 ∧ 0 ≤ U ∧ u = .int .u64 U ∧ i = .int .i64 k ∧ (k ≤ len → wr.heap[b0]? = some (L k M U)) ∧ Below W.heap.size W wr) (fun _ i _ => (len + 2) - (intOf i).toNat)
  case atStart => exact ⟨0, 0, by omega, by omega, rfl, rfl, fun _ => HL.out, HS.out⟩
  case round =>
    obtain ⟨k, U, hk, hU, rfl, rfl, hl, hb⟩ := hrel
    have HB' := Lib.hid hb
    clear hb
    by_cases hlt : k ≤ len
    rotate_left
    · clear hl
      go_wp2_with fail
      go_ret
      exact ⟨rfl, HB'.out⟩
    have HL' := Lib.hid (hl hlt)
    clear hl
    go_upto_region 12 with fail
    go_cut [69] (fun s69 wx => s69 = .bool false ∧ wr = wx)
    case first =>
      by_cases h0 : 0 < k
      · have q1 : isQuiet k U now = decide (now < U) := by unfold isQuiet; rw [decide_eq_decide]; omega
        go_wp2_with (first
          | (go_at_call 17; ((with_reducible refine (number_any _ _ _ _ _ HL'.out).mono ?_); rintro e w' ⟨rfl, rfl⟩))
          | (go_at_call 18; ((with_reducible refine (quiet_any _ _ _ _ _ _ HL'.out).mono ?_); rintro e w' ⟨rfl, rfl⟩)))
        go_meet
        exact ⟨rfl, rfl⟩
      · have q1 : isQuiet k U now = false := by unfold isQuiet; rw [decide_eq_false_iff_not]; omega
        go_wp2_with (first
          | (go_at_call 17; ((with_reducible refine (number_any _ _ _ _ _ HL'.out).mono ?_); rintro e w' ⟨rfl, rfl⟩))
          | (go_at_call 18; ((with_reducible refine (quiet_any _ _ _ _ _ _ HL'.out).mono ?_); rintro e w' ⟨rfl, rfl⟩)))
        go_meet
        exact ⟨rfl, rfl⟩
    case rest =>
    obtain ⟨rfl, rfl⟩ := hcut
    go_upto_region 15 with fail
    go_cut [75] (fun s75 wx => s75 = .bool (decide (1 ≤ id ∧ id ≤ 65535)) ∧ wr = wx)
    case first =>
      by_cases c1 : 1 ≤ id
      · by_cases c2 : id ≤ 65535
        · have E := Lib.hid (show decide (1 ≤ id ∧ id ≤ 65535) = true from by rw [decide_eq_true_eq]; omega)
          go_wp2_with fail
          go_meet
          exact ⟨by rw [E.out], rfl⟩
        · have E := Lib.hid (show decide (1 ≤ id ∧ id ≤ 65535) = false from by rw [decide_eq_false_iff_not]; omega)
          go_wp2_with fail
          go_meet
          exact ⟨by rw [E.out], rfl⟩
      · have E := Lib.hid (show decide (1 ≤ id ∧ id ≤ 65535) = false from by rw [decide_eq_false_iff_not]; omega)
        go_wp2_with fail
        go_meet
        exact ⟨by rw [E.out], rfl⟩
    case rest =>
    obtain ⟨rfl, rfl⟩ := hcut
    go_upto_if 75 with fail
    go_cut [16] (fun s16 wx => s16 = .int .i64 (handle k id) ∧ wr = wx)
    case first =>
      by_cases c1 : 1 ≤ id ∧ id ≤ 65535
      · have E := Lib.hid (show handle k id = 65536 * k + id from by unfold handle; rw [if_neg (by omega)]; omega)
        have d : decide (1 ≤ id ∧ id ≤ 65535) = true := decide_eq_true c1
        go_wp2_with fail
        go_meet
        exact ⟨by rw [E.out], rfl⟩
      · have E := Lib.hid (show handle k id = 0 from by unfold handle; rw [if_pos (by omega)])
        have d : decide (1 ≤ id ∧ id ≤ 65535) = false := decide_eq_false c1
        go_wp2_with fail
        go_meet
        exact ⟨by rw [E.out], rfl⟩
    case rest =>
    obtain ⟨rfl, rfl⟩ := hcut
    go_upto_region 21 with (first
      | (go_at_call 19; ((with_reducible refine (handle_any _ _ _ _ _ _ HL'.out (by omega)).mono ?_); rintro e w' ⟨rfl, rfl⟩))
      | (go_at_call 20; ((with_reducible refine (id_any _ _ _ _ _ _ HL'.out (by omega)).mono ?_); rintro e w' ⟨rfl, rfl⟩)))
    go_cut [94] (fun s94 wx => (∃ c : Bool, s94 = .bool c ∧ (h < 1 ∨ c = decide (h / 65536 < k))) ∧ wr = wx)
    case first =>
      by_cases c1 : h < 1
      · have E := Lib.hid c1
        go_wp2_with fail
        go_meet
        exact ⟨⟨_, rfl, .inl E.out⟩, rfl⟩
      · go_wp2_with fail
        go_meet
        exact ⟨⟨_, rfl, .inr rfl⟩, rfl⟩
    case rest =>
    obtain ⟨⟨c, rfl, hc⟩, rfl⟩ := hcut
    have HC := Lib.hid hc
    clear hc
    go_upto_if 94 with fail
    go_cut [19] (fun s19 wx => (∃ y : Int, s19 = .int .i64 y ∧ (h < 1 ∨ y = if h / 65536 < k then 11 else 0)) ∧ wr = wx)
    case first =>
      cases c
      · go_wp2_with fail
        go_meet
        refine ⟨⟨_, rfl, ?_⟩, rfl⟩
        rcases HC.out with h1 | h1
        · exact .inl h1
        · exact .inr (by rw [if_neg (of_decide_eq_false h1.symm)])
      · go_wp2_with fail
        go_meet
        refine ⟨⟨_, rfl, ?_⟩, rfl⟩
        rcases HC.out with h1 | h1
        · exact .inl h1
        · exact .inr (by rw [if_pos (of_decide_eq_true h1.symm)])
    case rest =>
    obtain ⟨⟨y, rfl, hy⟩, rfl⟩ := hcut
    have HY := Lib.hid hy
    clear hy
    go_upto_region 23 with fail
    go_cut [107] (fun s107 wx => (∃ c : Bool, s107 = .bool c ∧ bad k h = cond c 1 y) ∧ wr = wx)
    case first =>
      by_cases c1 : h < 1
      · have E := Lib.hid (show bad k h = 1 from by unfold bad; rw [if_pos (.inl c1)])
        go_wp2_with fail
        go_meet
        exact ⟨⟨_, rfl, E.out⟩, rfl⟩
      · by_cases c2 : h % 65536 = 0
        · have E := Lib.hid (show bad k h = 1 from by unfold bad; rw [if_pos (.inr (.inl c2))])
          have c2 : (h % 65536 == 0) = true := beq_iff_eq.2 c2
          go_wp2_with fail
          go_meet
          exact ⟨⟨_, rfl, E.out⟩, rfl⟩
        · have c2' : (h % 65536 == 0) = false := beq_eq_false_iff_ne.2 c2
          by_cases c3 : h / 65536 > k
          · have E := Lib.hid (show bad k h = 1 from by unfold bad; rw [if_pos (.inr (.inr c3))])
            have d : decide (k < h / 65536) = true := decide_eq_true c3
            have D := Lib.hid d
            go_wp2_with fail
            go_meet
            exact ⟨⟨_, rfl, by first | exact E.out | (rw [D.out]; exact E.out)⟩, rfl⟩
          · have E := Lib.hid (show bad k h = y from by unfold bad; rw [if_neg (by omega), HY.out.resolve_left (by omega)])
            have d : decide (k < h / 65536) = false := decide_eq_false c3
            have D := Lib.hid d
            go_wp2_with fail
            go_meet
            exact ⟨⟨_, rfl, by first | exact E.out | (rw [D.out]; exact E.out)⟩, rfl⟩
    case rest =>
    obtain ⟨⟨c, rfl, hc⟩, rfl⟩ := hcut
    have HC := Lib.hid hc
    clear hc
    go_upto_if 107 with fail
    go_cut [19] (fun s19 wx => s19 = .int .i64 (bad k h) ∧ wr = wx)
    case first =>
      cases c
      · go_wp2_with fail
        go_meet
        exact ⟨by rw [show bad k h = y from HC.out], rfl⟩
      · go_wp2_with fail
        go_meet
        exact ⟨by rw [show bad k h = 1 from HC.out], rfl⟩
    case rest =>
    obtain ⟨rfl, rfl⟩ := hcut
    go_upto_region 25 with fail
    go_cut [17, 18, 19, 129] (fun _ _ _ s129 wx => s129 = .bool false ∧ wr = wx)
    case first =>
      have hbad : bad k h = 0 ∨ (bad k h = 1 ∨ bad k h = 11) := by unfold bad; split; exact .inr (.inl rfl); split; exact .inr (.inr rfl); exact .inl rfl
      have hb1 : 0 ≤ bad k h ∧ bad k h ≤ 14 := by omega
      by_cases c1 : bad k h = 0
      · have E : (idOf k h != h % 65536) = false := by unfold idOf; rw [if_pos c1]; exact bne_self_eq_false _
        have c1' : (bad k h == 0) = true := beq_iff_eq.2 c1
        have c2' : (bad k h != 0) = false := bne_eq_false_iff_eq.2 c1
        have h1 : 1 ≤ h := by unfold bad at c1; split at c1; cases c1; omega
        clear hbad c1
        go_wp2_with (first
          | (go_at_call 21; ((with_reducible refine (code_any _ _ (by omega)).mono ?_); rintro e w' ⟨rfl, rfl⟩)))
        go_meet
        exact ⟨rfl, rfl⟩
      · have E : (idOf k h != 0) = false := by unfold idOf; rw [if_neg c1]; rfl
        have c1' : (bad k h == 0) = false := beq_eq_false_iff_ne.2 c1
        have c2' : (bad k h != 0) = true := bne_iff_ne.2 c1
        clear hbad
        go_wp2_with (first
          | (go_at_call 21; ((with_reducible refine (code_any _ _ (by omega)).mono ?_); rintro e w' ⟨rfl, rfl⟩)))
        go_meet
        exact ⟨rfl, rfl⟩
    case rest =>
    obtain ⟨rfl, rfl⟩ := hcut
    by_cases hlt2 : k < len
    · obtain ⟨b, o, rfl, hbW, hc⟩ := hcell k hlt2
      have hr := hrs k hlt2
      have hc' : wr.cell? ⟨b, o + k, none⟩ = some (.int .u64 (rs k)) := by rw [HB'.out.cell hbW]; exact hc
      have HC0 := Lib.hid hc
      clear hc hrs hcell
      by_cases hbig : 1000000000000 < rs k
      · go_wp2_with fail
        go_ret
        exact ⟨rfl, HB'.out⟩
      · go_wp2_with fail
        refine (restart_any _ _ _ _ _ _ HL'.out (by omega) (by omega) (by omega)).mono ?_
        rintro e w5 ⟨rfl, hl, hs⟩
        have HL5 := Lib.hid hl
        have HB5 := Lib.hid (HB'.out.trans (hs.below (fun j _ e => by have := HZ.out; omega) HB'.out.size))
        have hc5 : w5.cell? ⟨b, o + k, none⟩ = some (.int .u64 (rs k)) := by rw [HB5.out.cell hbW]; exact HC0.out
        clear hl hs
        go_wp2_with fail
        go_roundw
        case rel => exact ⟨k + 1, rs k + 2 * M, by omega, by omega, rfl, by go_num, fun _ => by rw [show ((k + 1 : Nat) : Int) = (k : Int) + 1 from by omega]; exact HL5.out, HB5.out⟩
        case measure => simp [intOf]; omega
    · go_wp2_with fail
      go_roundw
      case rel => exact ⟨k + 1, U, by omega, by omega, rfl, by go_num, fun h => by omega, HB'.out⟩
      case measure => simp [intOf]; omega

end Go.Proofs.Ytdlhleegfmnjjaa.Quiet
