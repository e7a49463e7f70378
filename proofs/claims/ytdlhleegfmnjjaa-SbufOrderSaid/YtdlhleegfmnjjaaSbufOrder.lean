/- SbufOrder: whatever is put, and dropped, so many behind each: what is dropped, as it was looked at, is a front of what was taken, in order, and there are never more than 128. Conditions: none. -/
import Derived.Test.YtdlhleegfmnjjaaSbufPlays
namespace Go.Proofs.Ytdlhleegfmnjjaa.Sbuf
open Go.RowKit Argin Save Win Bytes Pick
set_option linter.unusedVariables false
set_option linter.unusedSimpArgs false

theorem peek0_any (b : Nat) (F : Nat → Prop) (l : List UInt8) (d : Int) (w : World) (h : Sb w b F l) (hl : l.length ≤ 128) (hd : -9223372036854775808 ≤ d ∧ d < 9223372036854775808) :
    Calls Try.prog 38 #[.pointer (some ⟨b, 0, none⟩), .int .i64 0, .int .i64 d] w fun e w' => ∃ oa' cap', e = .returned (.slice oa' (l.take d.toNat).length cap') ∧ Rd w' w'.heap.size oa' cap' (l.take d.toNat) ∧ Below w.heap.size w w' := by
  by_cases h0 : (l.length : Int) ≤ 0 ∨ d < 1
  · refine (peek_no b F l 0 d w h hl (by omega)).mono ?_
    rintro e w' ⟨rfl, rfl⟩
    have : l.take d.toNat = [] := by
      rcases h0 with h0 | h0
      · rw [List.eq_nil_of_length_eq_zero (by omega : l.length = 0)]; simp
      · rw [show d.toNat = 0 from by omega]; rfl
    rw [this]
    exact ⟨none, 0, rfl, Rd.empty _ _ _ (by simp), Below.refl _ _⟩
  · refine (peek_yes b F l 0 d w h hl (by omega) ⟨by omega, hd.2⟩).mono ?_
    rintro e w' ⟨oa', cap', rfl, hw, hb⟩
    rw [List.drop_zero] at hw ⊢
    exact ⟨oa', cap', rfl, Rd.of_win hw, hb⟩

set_option maxRecDepth 100000 in
set_option maxHeartbeats 4000000 in
theorem order_main (oa : Option Addr) (len cap : Nat) (ob : Option Addr) (len2 cap2 : Nat) (ds : Nat → Int) (W : World) (hlen : len ≤ 60) (hlen2 : len ≤ len2) (hmax2 : len2 ≤ 9223372036854775807)
    (hrow : ∀ i, i < len → ∃ b o x, oa = some ⟨b, o, none⟩ ∧ b < W.heap.size ∧ W.cell? ⟨b, o + i, none⟩ = some (.string (str x)) ∧ x.length ≤ maxLen)
    (hds : ∀ i, i < len2 → (-9223372036854775808 ≤ ds i ∧ ds i < 9223372036854775808) ∧ ∃ b o, ob = some ⟨b, o, none⟩ ∧ b < W.heap.size ∧ W.cell? ⟨b, o + i, none⟩ = some (.int .i64 (ds i))) :
    Calls Try.prog 10 #[.slice oa len cap, .slice ob len2 cap2] W fun e w' => e = .returned (.bool true) ∧ Below W.heap.size W w' := by
  have HRow := Lib.hid hrow
  have HDs := Lib.hid hds
  have q1 : decide (60 < (len : Int)) = false := decide_eq_false (by omega)
  have q2 : decide (len2 < len) = false := decide_eq_false (by omega)
  clear hrow hds
  go_enter Try.func10, Try.ntmps10
  go_wp2_with fail
  refine (up_any _).mono ?_
  rintro e w1 ⟨rfl, hb⟩
  have HB := Lib.hid hb
  clear hb
  go_wp2_with fail
  refine (new_any _).mono ?_
  rintro e w2 ⟨rfl, hs, hb⟩
  have HS := Lib.hid hs
  have HB2 := Lib.hid (HB.out.trans (hb.mono HB.out.size))
  have hbW := HB.out.size
  clear hs hb HB
  generalize w1.heap.size = b at HS hbW ⊢
  go_wp2_with fail
  go_loopw [7, 8, 9] (fun sn so si wr => ∃ (i : Nat) (F : Nat → Prop) (m O : List UInt8), i ≤ len ∧ si = .int .i64 i ∧ sn = .string (str (O ++ m)) ∧ so = .string (str O) ∧ m.length ≤ 128 ∧ O.length + m.length ≤ 128 * i ∧ Sb wr b F m ∧ (∀ k, F k → W.heap.size ≤ k) ∧ Below W.heap.size W wr) (fun _ _ si _ => len - (intOf si).toNat)
  case atStart => exact ⟨0, _, [], [], by omega, rfl, rfl, rfl, by simp, by simp, HS.out, fun k e => by omega, HB2.out⟩
  case round =>
    obtain ⟨i, F, m, O, hi, rfl, rfl, rfl, hm, hOm, hs, hF, hb⟩ := hrel
    clear HS HB2
    have HS := Lib.hid hs
    have HF := Lib.hid hF
    have HB := Lib.hid hb
    clear hs hF hb
    have hz1 := str_size (O ++ m)
    have hz2 := str_size O
    rw [List.length_append] at hz1
    by_cases hlt : i < len
    rotate_left
    · have hle : O.length ≤ O.length + m.length := by omega
      have hcut := fun w : World => run_cut_str_hi (P := Try.prog) w Try.underlying9 (O ++ m) (show (0 : Int) ≤ O.length by omega) (show (O.length : Int) ≤ ((O ++ m).length : Int) by rw [List.length_append]; omega)
      rw [Int.toNat_natCast, List.take_left' rfl] at hcut
      go_wp2_with fail
      go_ret
      exact ⟨rfl, HB.out⟩
    obtain ⟨ab, ao, x, rfl, hab, hac, hxm⟩ := HRow.out i hlt
    obtain ⟨hdr, db, dO, rfl, hdb, hdc⟩ := HDs.out i (by omega)
    have c0 : wr.cell? ⟨ab, ao + i, none⟩ = some (.string (str x)) := by rw [HB.out.cell (p := ⟨ab, ao + i, none⟩) hab]; exact hac
    have hxs := str_size x
    have hxm2 : x.length ≤ 9223372036854775807 := by unfold maxLen at hxm; omega
    by_cases hx : 300 < x.length
    · go_wp2_with fail
      go_ret
      exact ⟨rfl, HB.out⟩
    obtain ⟨d, hd⟩ : ∃ d, d = ds i := ⟨_, rfl⟩
    rw [← hd] at hdr hdc
    have HC0 := Lib.hid hac
    have HD0 := Lib.hid hdc
    have hcv := fun w : World => run_bytes (P := Try.prog) w (src := 9) (dst := 40) Try.underlying9 Try.underlying40 Try.underlying5 x
    clear hd hac hdc
    go_wp2_with fail
    have hbb := below_bytes wr 5 (str x)
    have HR := Lib.hid (rd_bytes wr 5 x hxm)
    have HS1 := Lib.hid (HS.out.below hbb)
    have HB1 := Lib.hid (HB.out.trans (hbb.mono HB.out.size))
    clear hbb c0 hcv
    generalize Lib.bytesWorld wr 5 (str x) = wb at HR HS1 HB1 ⊢
    refine (put_any _ _ _ _ _ _ _ _ HS1.out HR.out hm).mono ?_
    rintro e w5 ⟨rfl, ⟨F', hs, hF'⟩, hsv⟩
    obtain ⟨N, hN⟩ : ∃ N : Nat, N = min x.length (128 - m.length) := ⟨_, rfl⟩
    have htk : x.take (128 - m.length) = x.take N := by
      by_cases c : x.length ≤ 128 - m.length
      · rw [List.take_of_length_le c, List.take_of_length_le (by omega)]
      · congr 1; omega
    rw [htk] at hs
    rw [← hN]
    have hlt2 : (x.take N).length = N := by rw [List.length_take]; omega
    obtain ⟨M, hM⟩ : ∃ M, M = m ++ x.take N := ⟨_, rfl⟩
    have hMl : M.length = m.length + N := by rw [hM, List.length_append, hlt2]
    have happ : str (O ++ m) ++ str (x.take N) = str (O ++ M) := by rw [str_app, hM, List.append_assoc]
    have hNx : N ≤ x.length := by omega
    have hN8 : m.length + N ≤ 128 := by omega
    have hts := str_size (x.take N)
    rw [hlt2] at hts
    rw [← hM] at hs
    have HS5 := Lib.hid hs
    have HB5 := Lib.hid (HB1.out.trans (hsv.below (B := W.heap.size) (fun k _ e => HF.out k e) HB1.out.size))
    have HF5 := Lib.hid (show ∀ k, F' k → W.heap.size ≤ k from fun k e => by rcases hF' k e with e | e; exact HF.out k e; have := HB1.out.size; omega)
    have hcut := fun w : World => run_cut_str_hi (P := Try.prog) w Try.underlying9 x (show (0 : Int) ≤ N by omega) (show (N : Int) ≤ (x.length : Int) by omega)
    rw [Int.toNat_natCast] at hcut
    have c0 : w5.cell? ⟨ab, ao + i, none⟩ = some (.string (str x)) := by rw [HB5.out.cell (p := ⟨ab, ao + i, none⟩) hab]; exact HC0.out
    have d0 : w5.cell? ⟨db, dO + i, none⟩ = some (.int .i64 d) := by rw [HB5.out.cell (p := ⟨db, dO + i, none⟩) hdb]; exact HD0.out
    have HMl := Lib.hid hMl
    clear hs hF' hsv hM htk hN HS HB HS1 HB1 hMl
    go_wp2_with fail
    refine (peek0_any _ _ _ _ _ HS5.out (by have := HMl.out; omega) hdr).mono ?_
    rintro e w6 ⟨oa', cap', rfl, hrd, hb⟩
    have hst := run_str (P := Try.prog) w6 (src := 40) (dst := 9) Try.underlying40 Try.underlying5 Try.underlying9 hrd
    have HS6 := Lib.hid (HS5.out.below hb)
    have HB6 := Lib.hid (HB5.out.trans (hb.mono HB5.out.size))
    have d1 : w6.cell? ⟨db, dO + i, none⟩ = some (.int .i64 d) := by rw [HB6.out.cell (p := ⟨db, dO + i, none⟩) hdb]; exact HD0.out
    obtain ⟨R, hR⟩ : ∃ R, R = M.take d.toNat := ⟨_, rfl⟩
    rw [← hR] at hst ⊢
    have HR6 := Lib.hid hR
    have hRs := str_size R
    have hRl : R.length = min d.toNat M.length := by rw [hR, List.length_take]
    have HRl := Lib.hid hRl
    clear hrd hb hR hRl c0 d0 HS5 HB5 HR
    go_wp2_with fail
    refine (drop_any _ _ _ _ _ HS6.out hdr (by have := HMl.out; omega)).mono ?_
    rintro e w7 ⟨rfl, hs, hsv⟩
    rw [← HRl.out]
    have HS7 := Lib.hid hs
    have HB7 := Lib.hid (HB6.out.trans (hsv.below (B := W.heap.size) (fun k _ e => HF5.out k e) HB6.out.size))
    obtain ⟨M2, hM2⟩ : ∃ M2, M2 = M.drop d.toNat := ⟨_, rfl⟩
    have hMM : O ++ M = (O ++ R) ++ M2 := by rw [HR6.out, hM2, List.append_assoc, List.take_append_drop]
    have hM2l : M2.length + R.length = M.length := by rw [hM2, HRl.out, List.length_drop]; omega
    rw [← hM2] at hs
    have HS7 := Lib.hid hs
    have happ2 : str O ++ str R = str (O ++ R) := str_app _ _
    have hz3 := str_size (O ++ R)
    have hz4 := str_size (O ++ M)
    obtain ⟨A, hA⟩ : ∃ A, A = (O ++ R).length := ⟨_, rfl⟩
    obtain ⟨T, hT⟩ : ∃ T, T = (O ++ M).length := ⟨_, rfl⟩
    have hA2 : A = O.length + R.length := by rw [hA, List.length_append]
    have hT2 : T = A + M2.length := by rw [hT, hMM, List.length_append, hA]
    rw [← hA] at hz3
    rw [← hT] at hz4
    have hTA : (T : Int) - (A : Int) = (M2.length : Int) := by omega
    have hAm : A ≤ 128 * (i + 1) ∧ T ≤ 128 * (i + 1) ∧ M2.length ≤ 128 ∧ A + M2.length ≤ 128 * (i + 1) := by have := HMl.out; omega
    have hOR : O.length + R.length ≤ 128 * (i + 1) := by omega
    have hOR2 : O.length + R.length + M2.length ≤ 128 * (i + 1) := by omega
    have HA := Lib.hid hA
    have HMM := Lib.hid hMM
    clear hs hsv hM2 hMM hM2l d1 HS6 HB6 hA hT hA2 hT2
    go_wp2_with fail
    refine (len_any _ _ _ _ HS7.out).mono ?_
    rintro e w8 ⟨rfl, rfl⟩
    go_wp2_with fail
    refine (len_any _ _ _ _ HS7.out).mono ?_
    rintro e w8 ⟨rfl, rfl⟩
    go_wp2_with fail
    go_roundw
    case rel => exact ⟨i + 1, F', M2, O ++ R, by omega, by go_num, by rw [HMM.out], rfl, by omega, by rw [← HA.out]; omega, HS7.out, HF5.out, HB7.out⟩
    case measure => simp [intOf]; omega

theorem order_long (oa : Option Addr) (len cap : Nat) (ob : Option Addr) (len2 cap2 : Nat) (W : World) (hmax : len ≤ 9223372036854775807) (hmax2 : len2 ≤ 9223372036854775807) (h : 60 < len ∨ len2 < len) :
    Calls Try.prog 10 #[.slice oa len cap, .slice ob len2 cap2] W fun e w' => e = .returned (.bool true) ∧ Below W.heap.size W w' := by
  by_cases c0 : 60 < len
  rotate_left
  have c1 : len2 < len := by omega
  all_goals
    clear h
    go_enter Try.func10, Try.ntmps10
    go_wp2_with fail
    refine (up_any _).mono ?_
    rintro e w1 ⟨rfl, hb⟩
    have HB := Lib.hid hb
    clear hb
    go_wp2_with fail
    refine (new_any _).mono ?_
    rintro e w2 ⟨rfl, hs, hb⟩
    have HB2 := Lib.hid (HB.out.trans (hb.mono HB.out.size))
    clear hs hb HB
    go_wp2_with fail
    go_ret
    exact ⟨rfl, HB2.out⟩

theorem order_law (W : World) (v0 v1 : Value) (o0 : Came Try.prog W 64 v0) (o1 : Came Try.prog W 37 v1) :
    Calls Try.prog 10 #[v0, v1] W fun e W' => e = .returned (.bool true) ∧ Below W.heap.size W W' := by
  obtain ⟨oa, len, cap, rfl, hlc, hc, hi⟩ := Open.slice_elems (by omega) (o0.slice (.slice 1 .string) (by kernel_rfl) Try.underlying64)
  obtain ⟨ob, len2, cap2, ds, rfl, hl2, hc2, hi2⟩ := slice_ints (o1.slice (.slice 1 (.int .i64)) (by kernel_rfl) Try.underlying37)
  unfold maxLen at hc hc2
  by_cases hlen : 60 < len ∨ len2 < len
  · exact order_long oa len cap ob len2 cap2 W (by omega) (by omega) hlen
  · refine order_main oa len cap ob len2 cap2 ds W (by omega) (by omega) (by omega) (fun i hi' => ?_) (fun i h => ⟨Argin.wf_i64 (hi2 i h).1, (hi2 i h).2⟩)
    obtain ⟨b, o, cs, e, hb, hcl, hcell, hok⟩ := hi i hi'
    unfold Sh.Ok at hok
    obtain ⟨s, rfl, hs⟩ := hok
    obtain ⟨l, rfl, hl⟩ := str_of s
    exact ⟨b, o, l, e, hb, by simpa using hcell 0 _ rfl, by rw [hl]; exact hs⟩

end Go.Proofs.Ytdlhleegfmnjjaa.Sbuf
