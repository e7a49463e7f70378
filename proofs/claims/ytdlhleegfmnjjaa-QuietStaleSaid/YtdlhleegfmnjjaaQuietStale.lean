/- QuietStale: a handle of one life is its identity's in that one, and stale in all that follow; handles of all lives, and identities, are unlike. Conditions: none. -/
import Derived.Test.YtdlhleegfmnjjaaQuietUp
import Derived.Deep.DeepCutAuto
import Derived.Deep.CutBlock
import Derived.WideLaws
namespace Go.Proofs.Ytdlhleegfmnjjaa.Quiet
open Go.RowKit Argin Save
set_option linter.unusedVariables false
set_option linter.unusedSimpArgs false

theorem info3 : (Try.prog.info? 3).map (fun i => (i.zero, i.size, i.bytes)) = some (some (.int .i64 0), 1, 8) := by kernel_rfl

def hs (id : Int) (k : Nat) : List Value := (List.range k).map fun (j : Nat) => Value.int .i64 (handle j id)
theorem hs_len (id : Int) (k : Nat) : (hs id k).length = k := by simp [hs]
theorem hs_succ (id : Int) (k : Nat) : hs id (k + 1) = hs id k ++ [Value.int .i64 (handle k id)] := by simp [hs, List.range_succ]
theorem hs_get (id : Int) (k j : Nat) (h : j < k) : (hs id k)[j]? = some (.int .i64 (handle j id)) := by simp [hs, h]

theorem handle_in (n id : Int) (hi : 1 ≤ id ∧ id ≤ 65535) : handle n id = n * 65536 + id := by unfold handle; rw [if_neg (by omega)]
theorem stale_of (n j id : Int) (hi : 1 ≤ id ∧ id ≤ 65535) (hj : 0 ≤ j) (h : j < n) : err (bad n (handle j id)) = .iface 38 (.int .i64 11) := by
  have e : bad n (handle j id) = 11 := by
    rw [handle_in j id hi]; unfold bad; rw [if_neg (by omega), if_pos (by omega)]
  rw [e]; rfl
theorem own_of (n id : Int) (hi : 1 ≤ id ∧ id ≤ 65535) (hn : 0 ≤ n) : err (bad n (handle n id)) = .nilIface ∧ idOf n (handle n id) = id := by
  have e : bad n (handle n id) = 0 := by
    rw [handle_in n id hi]; unfold bad; rw [if_neg (by omega), if_neg (by omega)]
  refine ⟨by rw [e]; rfl, ?_⟩
  unfold idOf; rw [if_pos e, handle_in n id hi]; omega
theorem unlike (n a b : Int) (ha : 1 ≤ a ∧ a ≤ 65535) (hb : 1 ≤ b ∧ b ≤ 65535) : (handle n a == handle n b) = (a == b) := by
  rw [handle_in n a ha, handle_in n b hb, Bool.eq_iff_iff]; simp only [beq_iff_eq]; omega

theorem row_cells {w : World} {base : Nat} {id : Int} {v : Value} {k : Nat} (h : w.ownsRow base 3 1 v k (hs id k)) : (v = .slice none 0 0 ∧ k = 0) ∨ ∃ g cap, v = .slice (some ⟨g, 0, none⟩) k cap ∧ ∀ j, j < k → w.cell? ⟨g, j, none⟩ = some (.int .i64 (handle j id)) := by
  obtain ⟨h1, h2 | ⟨g, cap, cur, rfl, hg, hh, hk, hc, hsz, hx⟩⟩ := h
  · exact .inl h2
  · refine .inr ⟨g, cap, rfl, fun j hj => ?_⟩
    rw [cell_get hh]
    have := hs_get id k j hj
    rw [← hx, List.getElem?_take_of_lt (by omega)] at this
    simpa using this

set_option maxRecDepth 100000 in
set_option maxHeartbeats 4000000 in
theorem stale_main (id ot lives : Int) (W : World) (hid : 1 ≤ id ∧ id ≤ 65535) (hot : 1 ≤ ot ∧ ot ≤ 65535) (hlv : 0 ≤ lives ∧ lives ≤ 100) :
    Calls Try.prog 4 #[.int .i64 id, .int .i64 ot, .int .i64 lives] W fun e w' => e = .returned (.bool true) ∧ Below W.heap.size W w' := by
  obtain ⟨ic, hic, hcc⟩ := code_info
  obtain ⟨i0, hi, hz0, hz1, hz2⟩ := info_parts info3
  have hr := fun (w : World) (a b : Int) => run_neq_code (P := Try.prog) w a b Try.underlying31 Try.underlying38 hic hcc
  go_enter Try.func4, Try.ntmps4
  go_wp2_with (first
    | (go_at_call 15; ((with_reducible refine (up_any _).mono ?_); rintro e w1 ⟨rfl, hb⟩; have HB := Lib.hid hb; clear hb))
    | (go_at_call 16; ((with_reducible refine (new_any _ _ (by omega)).mono ?_); rintro e w2 ⟨rfl, hl, hb⟩; have hl : w2.heap[w1.heap.size]? = some (L 0 3 0) := hl; have HL := Lib.hid hl; have HS := Lib.hid (HB.out.trans (hb.mono HB.out.size)); have HZ := Lib.hid HB.out.size; clear hl hb HB)))
  generalize w1.heap.size = b0 at HL HZ ⊢
  go_loopw [9, 10] (fun v i wr => ∃ (k : Nat) (U : Int), (k : Int) ≤ lives + 1 ∧ i = .int .i64 k ∧ wr.heap[b0]? = some (L k 3 U) ∧ wr.ownsRow (b0 + 1) 3 1 v k (hs id k) ∧ Below W.heap.size W wr) (fun _ i _ => (lives + 1 - intOf i).toNat)
  case atStart => exact ⟨0, 0, by omega, rfl, HL.out, World.ownsRow_nil _ _ _ _, HS.out⟩
  case round =>
    obtain ⟨k, U, hk, rfl, hl, ho, hb⟩ := hrel
    have HL' := Lib.hid hl
    have HO := Lib.hid ho
    have HB' := Lib.hid hb
    clear hl ho hb HL HS
    by_cases hlt : (k : Int) ≤ lives
    rotate_left
    · go_wp2_with fail
      go_ret
      exact ⟨rfl, HB'.out⟩
    go_upto_block 2 with fail
    go_cut [11, 12, 13] (fun _ _ _ wx => wr = wx)
    case first =>
      rcases row_cells HO.out with ⟨rfl, rfl⟩ | ⟨g, cap, rfl, hc⟩
      · go_wp2_with fail
        go_loop [11] (fun i => i = .int .i64 0) (fun _ => 0)
        case atStart => rfl
        case round =>
          subst hrel
          go_wp2_with fail
          go_meet
          rfl
      · have HC := Lib.hid hc
        clear hc
        go_wp2_with fail
        go_loop [11] (fun i => ∃ j : Nat, j ≤ k ∧ i = .int .i64 j) (fun i => k - (intOf i).toNat)
        case atStart => exact ⟨0, by omega, rfl⟩
        case round =>
          obtain ⟨j, hj, rfl⟩ := hrel
          by_cases hjk : j < k
          · have c := HC.out j hjk
            have E := stale_of k j id hid (by omega) (by omega)
            go_wp2_with fail
            refine (id_any _ _ _ _ _ _ HL'.out ?_).mono ?_
            · rw [handle_in j id hid]; omega
            rintro e w' ⟨rfl, rfl⟩
            go_wp2_with fail
            go_round
            case rel => exact ⟨j + 1, by omega, by go_num⟩
            case measure => simp [intOf]; omega
          · go_wp2_with fail
            go_meet
            rfl
    case rest =>
    obtain rfl := hcut
    have q1 := unlike k id ot hid hot
    have q2 := (own_of k id hid (by omega)).1
    have q3 := (own_of k id hid (by omega)).2
    have hh : -9223372036854775808 ≤ handle k id ∧ handle k id < 9223372036854775808 := by rw [handle_in k id hid]; omega
    have hsz := HB'.out.size
    have hb0 := lt_of_get HL'.out
    go_wp2_with (first
      | (go_at_call 19; ((with_reducible refine (handle_any _ _ _ _ _ _ HL'.out (by omega)).mono ?_); rintro e w' ⟨rfl, rfl⟩))
      | (go_at_call 20; ((with_reducible refine (id_any _ _ _ _ _ _ HL'.out (by omega)).mono ?_); rintro e w' ⟨rfl, rfl⟩))
      | (at_builtin; refine wpList_append_own _ rfl _ _ 37 rfl (b0 + 1) 3 i0 (.int .i64 0) 1 8 Try.underlying37 hi hz0 hz1 hz2 rfl (by decide) _ _ _ rfl (HO.out.alloc _) ⟨wr.heap.size, 0, none⟩ 1 1 [.int .i64 (handle k id)] rfl rfl ?c1 ?c2 ?c3 ?c4 ?c5 ?_))
    case c1 => exact news_one _ _ _
    case c2 => intro u hu; simp only [List.mem_singleton] at hu; subst hu; rfl
    case c3 => unfold maxLen; omega
    case c4 => omega
    case c5 => simp; omega
    intro v' w5 ho hg _
    have hl5 : w5.heap[b0]? = some (L k 3 U) := by
      rw [hg.block b0 (by simp; omega) (fun e => by have := HO.out.lt b0 e.symm; omega)]
      exact get_alloc_old _ HL'.out
    have HB5 := Lib.hid (HB'.out.trans (((Below.refl wr.heap.size wr).alloc (Nat.le_refl _) (.cells #[.int .i64 (handle k id)] 3)).mono hsz))
    have HB6 := Lib.hid (HB5.out.grown hg (by simp; omega) (fun j e => by have := HO.out.lt j e; have := HZ.out; omega))
    have HL5 := Lib.hid hl5
    have HO5 := Lib.hid ho
    clear ho hg hl5 HB5
    go_wp2_with fail
    refine (restart_any _ _ _ _ _ _ HL5.out (by omega) (by omega) (by omega)).mono ?_
    rintro e w6 ⟨rfl, hl6, hs6⟩
    have HB7 := Lib.hid (HB6.out.trans (hs6.below (fun j _ e => by have := HZ.out; omega) HB6.out.size))
    have HO6 := Lib.hid (owns_save HO5.out hs6 (fun j e => by left; omega))
    have HL6 := Lib.hid hl6
    clear hl6 hs6
    go_wp2_with fail
    go_roundw
    case rel => exact ⟨k + 1, k + 2 * 3, by omega, by go_num, by rw [show ((k + 1 : Nat) : Int) = (k : Int) + 1 from by omega]; exact HL6.out, by rw [hs_succ]; exact HO6.out, HB7.out⟩
    case measure => simp [intOf]; omega

set_option maxRecDepth 100000 in
theorem stale_big0 (id ot lives : Int) (W : World)  (c : id < 1) : Calls Try.prog 4 #[.int .i64 id, .int .i64 ot, .int .i64 lives] W fun e w' => e = .returned (.bool true) ∧ Below W.heap.size W w' := by
  go_enter Try.func4, Try.ntmps4
  go_wp2_with (first
    | (go_at_call 15; ((with_reducible refine (up_any _).mono ?_); rintro e w1 ⟨rfl, hb⟩; have HB := Lib.hid hb; clear hb))
    | (go_at_call 16; ((with_reducible refine (new_any _ _ (by omega)).mono ?_); rintro e w2 ⟨rfl, hl, hb⟩; have HS := Lib.hid (HB.out.trans (hb.mono HB.out.size)); clear hl hb HB)))
  go_ret
  exact ⟨rfl, HS.out⟩

set_option maxRecDepth 100000 in
theorem stale_big1 (id ot lives : Int) (W : World) (c0 : ¬ id < 1) (c : 65535 < id) : Calls Try.prog 4 #[.int .i64 id, .int .i64 ot, .int .i64 lives] W fun e w' => e = .returned (.bool true) ∧ Below W.heap.size W w' := by
  go_enter Try.func4, Try.ntmps4
  go_wp2_with (first
    | (go_at_call 15; ((with_reducible refine (up_any _).mono ?_); rintro e w1 ⟨rfl, hb⟩; have HB := Lib.hid hb; clear hb))
    | (go_at_call 16; ((with_reducible refine (new_any _ _ (by omega)).mono ?_); rintro e w2 ⟨rfl, hl, hb⟩; have HS := Lib.hid (HB.out.trans (hb.mono HB.out.size)); clear hl hb HB)))
  go_ret
  exact ⟨rfl, HS.out⟩

set_option maxRecDepth 100000 in
theorem stale_big2 (id ot lives : Int) (W : World) (c0 : ¬ id < 1) (c1 : ¬ 65535 < id) (c : ot < 1) : Calls Try.prog 4 #[.int .i64 id, .int .i64 ot, .int .i64 lives] W fun e w' => e = .returned (.bool true) ∧ Below W.heap.size W w' := by
  go_enter Try.func4, Try.ntmps4
  go_wp2_with (first
    | (go_at_call 15; ((with_reducible refine (up_any _).mono ?_); rintro e w1 ⟨rfl, hb⟩; have HB := Lib.hid hb; clear hb))
    | (go_at_call 16; ((with_reducible refine (new_any _ _ (by omega)).mono ?_); rintro e w2 ⟨rfl, hl, hb⟩; have HS := Lib.hid (HB.out.trans (hb.mono HB.out.size)); clear hl hb HB)))
  go_ret
  exact ⟨rfl, HS.out⟩

set_option maxRecDepth 100000 in
theorem stale_big3 (id ot lives : Int) (W : World) (c0 : ¬ id < 1) (c1 : ¬ 65535 < id) (c2 : ¬ ot < 1) (c : 65535 < ot) : Calls Try.prog 4 #[.int .i64 id, .int .i64 ot, .int .i64 lives] W fun e w' => e = .returned (.bool true) ∧ Below W.heap.size W w' := by
  go_enter Try.func4, Try.ntmps4
  go_wp2_with (first
    | (go_at_call 15; ((with_reducible refine (up_any _).mono ?_); rintro e w1 ⟨rfl, hb⟩; have HB := Lib.hid hb; clear hb))
    | (go_at_call 16; ((with_reducible refine (new_any _ _ (by omega)).mono ?_); rintro e w2 ⟨rfl, hl, hb⟩; have HS := Lib.hid (HB.out.trans (hb.mono HB.out.size)); clear hl hb HB)))
  go_ret
  exact ⟨rfl, HS.out⟩

set_option maxRecDepth 100000 in
theorem stale_big4 (id ot lives : Int) (W : World) (c0 : ¬ id < 1) (c1 : ¬ 65535 < id) (c2 : ¬ ot < 1) (c3 : ¬ 65535 < ot) (c : lives < 0) : Calls Try.prog 4 #[.int .i64 id, .int .i64 ot, .int .i64 lives] W fun e w' => e = .returned (.bool true) ∧ Below W.heap.size W w' := by
  go_enter Try.func4, Try.ntmps4
  go_wp2_with (first
    | (go_at_call 15; ((with_reducible refine (up_any _).mono ?_); rintro e w1 ⟨rfl, hb⟩; have HB := Lib.hid hb; clear hb))
    | (go_at_call 16; ((with_reducible refine (new_any _ _ (by omega)).mono ?_); rintro e w2 ⟨rfl, hl, hb⟩; have HS := Lib.hid (HB.out.trans (hb.mono HB.out.size)); clear hl hb HB)))
  go_ret
  exact ⟨rfl, HS.out⟩

set_option maxRecDepth 100000 in
theorem stale_big5 (id ot lives : Int) (W : World) (c0 : ¬ id < 1) (c1 : ¬ 65535 < id) (c2 : ¬ ot < 1) (c3 : ¬ 65535 < ot) (c4 : ¬ lives < 0) (c : 100 < lives) : Calls Try.prog 4 #[.int .i64 id, .int .i64 ot, .int .i64 lives] W fun e w' => e = .returned (.bool true) ∧ Below W.heap.size W w' := by
  go_enter Try.func4, Try.ntmps4
  go_wp2_with (first
    | (go_at_call 15; ((with_reducible refine (up_any _).mono ?_); rintro e w1 ⟨rfl, hb⟩; have HB := Lib.hid hb; clear hb))
    | (go_at_call 16; ((with_reducible refine (new_any _ _ (by omega)).mono ?_); rintro e w2 ⟨rfl, hl, hb⟩; have HS := Lib.hid (HB.out.trans (hb.mono HB.out.size)); clear hl hb HB)))
  go_ret
  exact ⟨rfl, HS.out⟩

theorem stale_law (W : World) (v0 v1 v2 : Value) (o0 : Came Try.prog W 3 v0) (o1 : Came Try.prog W 3 v1) (o2 : Came Try.prog W 3 v2) : Calls Try.prog 4 #[v0, v1, v2] W fun e W' => e = .returned (.bool true) ∧ Below W.heap.size W W' := by
  obtain ⟨id, rfl, _⟩ := o0.int Try.underlying3
  obtain ⟨ot, rfl, _⟩ := o1.int Try.underlying3
  obtain ⟨lives, rfl, _⟩ := o2.int Try.underlying3
  by_cases c0 : id < 1
  · exact stale_big0 id ot lives W  c0
  by_cases c1 : 65535 < id
  · exact stale_big1 id ot lives W c0 c1
  by_cases c2 : ot < 1
  · exact stale_big2 id ot lives W c0 c1 c2
  by_cases c3 : 65535 < ot
  · exact stale_big3 id ot lives W c0 c1 c2 c3
  by_cases c4 : lives < 0
  · exact stale_big4 id ot lives W c0 c1 c2 c3 c4
  by_cases c5 : 100 < lives
  · exact stale_big5 id ot lives W c0 c1 c2 c3 c4 c5
  exact stale_main id ot lives W (by omega) (by omega) (by omega)

end Go.Proofs.Ytdlhleegfmnjjaa.Quiet
