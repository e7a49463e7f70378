/- SbufPlays: what any bytes come to that are put, dropped, looked at, one behind the other: each answer. Conditions: none. -/
import Derived.Test.YtdlhleegfmnjjaaSbuf
import Derived.Test.YtdlhleegfmnjjaaPick
import Derived.Lib.SlBytesConst
namespace Go.Proofs.Ytdlhleegfmnjjaa.Sbuf
open Go.RowKit Argin Save Win Bytes Pick
set_option linter.unusedVariables false
set_option linter.unusedSimpArgs false

set_option maxHeartbeats 1000000 in
theorem up_any (w : World) : Calls Try.prog 33 #[] w fun e w' => e = .returned (.bool true) ∧ Below w.heap.size w w' := by
  go_enter Try.func33, Try.ntmps33
  go_wp2_with fail
  refine (new_any _).mono ?_
  rintro e w1 ⟨rfl, hs, hb⟩
  have HS := Lib.hid hs
  have HB := Lib.hid hb
  clear hs hb
  have hcv := Lib.run_convert_bytes_const (P := Try.prog) w1 40 5 #[.int .u8 97, .int .u8 98, .int .u8 99] 3 3 Try.underlying40 Try.underlying5
  go_wp2_with fail
  clear hcv
  have hb2 : Below w1.heap.size w1 (w1.alloc (.cells #[.int .u8 97, .int .u8 98, .int .u8 99] 5 (3, 4))) := (Below.refl _ _).alloc (Nat.le_refl _) _
  have hget := get_alloc w1 (.cells #[.int .u8 97, .int .u8 98, .int .u8 99] 5 (3, 4))
  have hrd : Rd (w1.alloc (.cells #[.int .u8 97, .int .u8 98, .int .u8 99] 5 (3, 4))) (w1.heap.size + 1) (some ⟨w1.heap.size, 0, none⟩) 3 [97, 98, 99] := by
    refine ⟨by decide, by unfold maxLen; omega, .inr ⟨_, _, rfl, by omega, fun i u hu => ?_⟩⟩
    rw [cell_get hget]
    match i, hu with
    | 0, hu => simp at hu; subst hu; rfl
    | 1, hu => simp at hu; subst hu; rfl
    | 2, hu => simp at hu; subst hu; rfl
  have HS2 := Lib.hid (HS.out.save (Save.of_below (S := fun _ => False) hb2) (fun _ _ => id))
  have HB2 := Lib.hid (HB.out.trans (hb2.mono HB.out.size))
  have HR := Lib.hid hrd
  have hz := HB.out.size
  clear hb2 hget hrd HS HB
  refine (put_any _ _ [] [97, 98, 99] _ _ _ _ HS2.out HR.out (by simp)).mono ?_
  rintro e w3 ⟨rfl, ⟨F', hs, hF⟩, hsv⟩
  have hs3 : Sb w3 w.heap.size F' [97, 98, 99] := hs
  have HS3 := Lib.hid hs3
  have HF := Lib.hid hF
  have HB3 := Lib.hid (HB2.out.trans (hsv.below (B := w.heap.size) (fun k _ e => by omega) HB2.out.size))
  clear hs hs3 hF hsv HS2 HB2 HR
  rw [show (min ([97, 98, 99] : List UInt8).length (128 - ([] : List UInt8).length) : Nat) = 3 from rfl]
  go_wp2_with fail
  refine (drop_any _ _ _ 1 _ HS3.out (by omega) (by simp)).mono ?_
  rintro e w4 ⟨rfl, hs, hsv⟩
  have hs4 : Sb w4 w.heap.size F' [98, 99] := hs
  have HS4 := Lib.hid hs4
  have HB4 := Lib.hid (HB3.out.trans (hsv.below (B := w.heap.size) (fun k _ e => by rcases HF.out k e with h | h <;> (first | omega | (simp at h; omega))) HB3.out.size))
  clear hs hs4 hsv HS3 HB3
  rw [show (min (1 : Int).toNat ([97, 98, 99] : List UInt8).length : Nat) = 1 from rfl]
  go_wp2_with fail
  refine (peek_yes _ _ _ 0 9 _ HS4.out (by simp) (by simp) (by omega)).mono ?_
  rintro e w5 ⟨oa', cap', rfl, hw, hb⟩
  have hw5 : Win w5 w4.heap.size 5 1 (.slice oa' 2 cap') 2 (bv [98, 99]) := hw
  have hst : Sem.run Try.prog (convert 40 9 (.slice oa' 2 cap')) w5 = .ok (.string (str [98, 99])) w5 := run_str (P := Try.prog) w5 (src := 40) (dst := 9) Try.underlying40 Try.underlying5 Try.underlying9 (Rd.of_win (l := [98, 99]) hw5)
  have HS5 := Lib.hid (HS4.out.save (Save.of_below (S := fun _ => False) hb) (fun _ _ => id))
  have HB5 := Lib.hid (HB4.out.trans (hb.mono HB4.out.size))
  have htl := str_toList [98, 99]
  clear hw hw5 hb HS4 HB4
  rw [show (List.take (9 : Int).toNat (List.drop 0 ([98, 99] : List UInt8))).length = 2 from rfl]
  go_wp2_with fail
  refine (len_any _ _ _ _ HS5.out).mono ?_
  rintro e w6 ⟨rfl, rfl⟩
  go_wp2_with fail
  go_ret
  exact ⟨rfl, HB5.out⟩
/-- A deed that came in. -/
structure Deed (W : World) (oa : Option Addr) (i : Nat) (b o : Nat) (a n m : Int) (xa : Option Addr) (xcap : Nat) (x : List UInt8) : Prop where
  at' : oa = some ⟨b, o, none⟩
  lt : b < W.heap.size
  c0 : W.cell? ⟨b, o + i * 4, none⟩ = some (.int .i64 a)
  c1 : W.cell? ⟨b, o + i * 4 + 1, none⟩ = some (.int .i64 n)
  c2 : W.cell? ⟨b, o + i * 4 + 2, none⟩ = some (.int .i64 m)
  c3 : W.cell? ⟨b, o + i * 4 + 3, none⟩ = some (.slice xa x.length xcap)
  rd : Rd W W.heap.size xa xcap x
  ba : -9223372036854775808 ≤ a ∧ a < 9223372036854775808
  bn : -9223372036854775808 ≤ n ∧ n < 9223372036854775808
  bm : -9223372036854775808 ≤ m ∧ m < 9223372036854775808

set_option maxRecDepth 100000 in
set_option maxHeartbeats 4000000 in
theorem plays_main (oa : Option Addr) (len cap : Nat) (W : World) (hlen : len ≤ 100) (hrow : ∀ i, i < len → ∃ b o a n m xa xcap x, Deed W oa i b o a n m xa xcap x) :
    Calls Try.prog 9 #[.slice oa len cap] W fun e w' => e = .returned (.bool true) ∧ Below W.heap.size W w' := by
  have HRow := Lib.hid hrow
  clear hrow
  go_enter Try.func9, Try.ntmps9
  go_wp2_with fail
  refine (up_any _).mono ?_
  rintro e w1 ⟨rfl, hb⟩
  have HB := Lib.hid hb
  clear hb
  go_wp2_with fail
  refine (new_any _).mono ?_
  rintro e w2 ⟨rfl, hs, hb⟩
  have HS := Lib.hid hs
  have HB2 := Lib.hid (HB.out.trans (hb.mono HB.out.size))
  have hbW := HB.out.size
  clear hs hb HB
  generalize w1.heap.size = b at HS hbW ⊢
  have hz0 : str [] = { data := #[] } := rfl
  go_wp2_with fail
  go_loopw [5, 6] (fun sm si wr => ∃ (i : Nat) (F : Nat → Prop) (m : List UInt8), i ≤ len ∧ si = .int .i64 i ∧ sm = .string (str m) ∧ m.length ≤ 128 ∧ Sb wr b F m ∧ (∀ k, F k → W.heap.size ≤ k) ∧ Below W.heap.size W wr) (fun _ si _ => len - (intOf si).toNat)
  case atStart => exact ⟨0, _, [], by omega, rfl, rfl, by simp, HS.out, fun k e => by omega, HB2.out⟩
  case round =>
    obtain ⟨i, F, m, hi, rfl, rfl, hm, hs, hF, hb⟩ := hrel
    clear HS HB2 hz0
    have HS := Lib.hid hs
    have HF := Lib.hid hF
    have HB := Lib.hid hb
    clear hs hF hb
    have hms := str_size m
    by_cases hlt : i < len
    rotate_left
    · go_wp2_with fail
      go_ret
      exact ⟨rfl, HB.out⟩
    obtain ⟨ab, ao, a, n, k, xa, xcap, x, hd⟩ := HRow.out i hlt
    obtain rfl := hd.at'
    have c0 : wr.cell? ⟨ab, ao + i * 4, none⟩ = some (.int .i64 a) := by rw [HB.out.cell (p := ⟨ab, ao + i * 4, none⟩) hd.lt]; exact hd.c0
    have c1 : wr.cell? ⟨ab, ao + i * 4 + 1, none⟩ = some (.int .i64 n) := by rw [HB.out.cell (p := ⟨ab, ao + i * 4 + 1, none⟩) hd.lt]; exact hd.c1
    have c2 : wr.cell? ⟨ab, ao + i * 4 + 2, none⟩ = some (.int .i64 k) := by rw [HB.out.cell (p := ⟨ab, ao + i * 4 + 2, none⟩) hd.lt]; exact hd.c2
    have c3 : wr.cell? ⟨ab, ao + i * 4 + 3, none⟩ = some (.slice xa x.length xcap) := by rw [HB.out.cell (p := ⟨ab, ao + i * 4 + 3, none⟩) hd.lt]; exact hd.c3
    have hxl : x.length ≤ 9223372036854775807 := by have := hd.rd.1; have := hd.rd.2.1; unfold maxLen at this; omega
    by_cases hx : 300 < x.length
    · go_wp2_with fail
      go_ret
      exact ⟨rfl, HB.out.alloc HB.out.size _⟩
    obtain ⟨p, hp⟩ : ∃ p : Int, p = pick a 3 := ⟨_, rfl⟩
    have hp3 := pick_in a 3 (by omega)
    rw [← hp] at hp3
    have HP := Lib.hid hp
    have HD := Lib.hid hd
    have ha := hd.ba
    clear hp hd
    go_wp2_with fail
    refine (pick_any _ _ _ ha (by omega)).mono ?_
    rintro e w3 ⟨rfl, rfl⟩
    rw [← HP.out]
    have hba : Below wr.heap.size wr (wr.alloc (.cells #[.int .i64 a, .int .i64 n, .int .i64 k, .slice xa x.length xcap] 59)) := (Below.refl _ _).alloc (Nat.le_refl _) _
    have KX := Lib.hid (get_alloc wr (.cells #[.int .i64 a, .int .i64 n, .int .i64 k, .slice xa x.length xcap] 59))
    have HS1 := Lib.hid (HS.out.below hba)
    have HB1 := Lib.hid (HB.out.trans (hba.mono HB.out.size))
    have hgF : ∀ k, F k → k ≠ wr.heap.size := fun k e => by have := HS.out.lt k e; omega
    have hgW : W.heap.size ≤ wr.heap.size := HB.out.size
    have HGF := Lib.hid hgF
    clear c0 c1 c2 c3 hba HS HB hgF
    generalize wr.alloc (.cells #[.int .i64 a, .int .i64 n, .int .i64 k, .slice xa x.length xcap] 59) = wx at KX HS1 HB1 ⊢
    generalize wr.heap.size = g at KX HGF hgW ⊢
    have HX1 := Lib.hid (HD.out.rd.below HB1.out)
    have bn := HD.out.bn
    have bm := HD.out.bm
    have c0 := cell_get KX.out 0
    have c1 := cell_get KX.out 1
    have c2 := cell_get KX.out 2
    have c3 := cell_get KX.out 3
    have hxc := HX1.out.1
    have htl := str_toList
    clear HP
    by_cases hp0 : p = 0
    · obtain ⟨N, hN⟩ : ∃ N : Nat, N = min x.length (128 - m.length) := ⟨_, rfl⟩
      have HN := Lib.hid hN
      have hNx : N ≤ x.length := by omega
      have hN8 : m.length + N ≤ 128 := by omega
      clear hN
      subst hp0
      by_cases hc : (x.length : Int) < 128 - (m.length : Int)
      · have hNe : N = x.length := by have := HN.out; omega
        go_wp2_with fail
        refine (put_any _ _ _ _ _ _ _ _ HS1.out HX1.out hm).mono ?_
        rintro e w5 ⟨rfl, ⟨F', hs, hF'⟩, hsv⟩
        have htk : x.take (128 - m.length) = x.take N := by
          have := HN.out
          by_cases c : x.length ≤ 128 - m.length
          · rw [List.take_of_length_le c, List.take_of_length_le (by omega)]
          · congr 1; omega
        rw [htk] at hs
        have hlt : (x.take N).length = N := by rw [List.length_take]; omega
        obtain ⟨M, hM⟩ : ∃ M, M = m ++ x.take N := ⟨_, rfl⟩
        have hMl : M.length ≤ 128 := by rw [hM, List.length_append, hlt]; exact hN8
        have happ : str m ++ str (x.take N) = str M := by rw [str_app, hM]
        have hts : (str (x.take N)).size = N := by rw [str_size, hlt]
        have hMs := str_size M
        rw [← hM] at hs
        have HS5 := Lib.hid hs
        have hsB := hsv.below (B := W.heap.size) (fun k _ e => HF.out k e) HB1.out.size
        have HB5 := Lib.hid (HB1.out.trans hsB)
        have HF5 := Lib.hid (show ∀ k, F' k → W.heap.size ≤ k from fun k e => by rcases hF' k e with e | e; exact HF.out k e; have := HB1.out.size; omega)
        have c3 := cell_get (hsv.stays KX.out (fun e => HGF.out g e rfl)) 3
        have hrd := (HX1.out.below hsB).cut hNx (Nat.zero_le _)
        rw [cutA_zero, List.drop_zero, Nat.sub_zero] at hrd
        have hst := run_str (P := Try.prog) w5 (src := 40) (dst := 9) Try.underlying40 Try.underlying5 Try.underlying9 hrd
        rw [hlt] at hst
        obtain ⟨i0, hi, hz0, hz1, hz2⟩ := info_parts infoB
        have hcut := fun w : World => run_cut_hi (P := Try.prog) w (oa := xa) (n := x.length) (cap := xcap) Try.underlying40 hi (show (0 : Int) ≤ N by omega) (show (N : Int) ≤ xcap by omega)
        rw [hz1, cutA_zero, Int.toNat_natCast] at hcut
        clear hi hz0 hz1 hz2 hM htk hs hF' hsv hsB hrd htl
        rw [← HN.out]
        subst hNe
        rw [List.take_length] at happ hst hts
        go_wp2_with fail
        refine (len_any _ _ _ _ HS5.out).mono ?_
        rintro e w6 ⟨rfl, rfl⟩
        go_wp2_with fail
        go_roundw
        case rel => exact ⟨i + 1, F', M, by omega, by go_num, rfl, hMl, HS5.out, HF5.out, HB5.out⟩
        case measure => simp [intOf]; omega
      · have hNe : (128 : Int) - m.length = N := by have := HN.out; omega
        go_wp2_with fail
        refine (put_any _ _ _ _ _ _ _ _ HS1.out HX1.out hm).mono ?_
        rintro e w5 ⟨rfl, ⟨F', hs, hF'⟩, hsv⟩
        have htk : x.take (128 - m.length) = x.take N := by
          have := HN.out
          by_cases c : x.length ≤ 128 - m.length
          · rw [List.take_of_length_le c, List.take_of_length_le (by omega)]
          · congr 1; omega
        rw [htk] at hs
        have hlt : (x.take N).length = N := by rw [List.length_take]; omega
        obtain ⟨M, hM⟩ : ∃ M, M = m ++ x.take N := ⟨_, rfl⟩
        have hMl : M.length ≤ 128 := by rw [hM, List.length_append, hlt]; exact hN8
        have happ : str m ++ str (x.take N) = str M := by rw [str_app, hM]
        have hts : (str (x.take N)).size = N := by rw [str_size, hlt]
        have hMs := str_size M
        rw [← hM] at hs
        have HS5 := Lib.hid hs
        have hsB := hsv.below (B := W.heap.size) (fun k _ e => HF.out k e) HB1.out.size
        have HB5 := Lib.hid (HB1.out.trans hsB)
        have HF5 := Lib.hid (show ∀ k, F' k → W.heap.size ≤ k from fun k e => by rcases hF' k e with e | e; exact HF.out k e; have := HB1.out.size; omega)
        have c3 := cell_get (hsv.stays KX.out (fun e => HGF.out g e rfl)) 3
        have hrd := (HX1.out.below hsB).cut hNx (Nat.zero_le _)
        rw [cutA_zero, List.drop_zero, Nat.sub_zero] at hrd
        have hst := run_str (P := Try.prog) w5 (src := 40) (dst := 9) Try.underlying40 Try.underlying5 Try.underlying9 hrd
        rw [hlt] at hst
        obtain ⟨i0, hi, hz0, hz1, hz2⟩ := info_parts infoB
        have hcut := fun w : World => run_cut_hi (P := Try.prog) w (oa := xa) (n := x.length) (cap := xcap) Try.underlying40 hi (show (0 : Int) ≤ N by omega) (show (N : Int) ≤ xcap by omega)
        rw [hz1, cutA_zero, Int.toNat_natCast] at hcut
        clear hi hz0 hz1 hz2 hM htk hs hF' hsv hsB hrd htl
        rw [← HN.out]
        
        go_wp2_with fail
        refine (len_any _ _ _ _ HS5.out).mono ?_
        rintro e w6 ⟨rfl, rfl⟩
        go_wp2_with fail
        go_roundw
        case rel => exact ⟨i + 1, F', M, by omega, by go_num, rfl, hMl, HS5.out, HF5.out, HB5.out⟩
        case measure => simp [intOf]; omega
    by_cases hp1 : p = 1
    · subst hp1
      clear hp0
      obtain ⟨N, hN⟩ : ∃ N : Nat, N = min n.toNat m.length := ⟨_, rfl⟩
      have HN := Lib.hid hN
      have hNm : N ≤ m.length := by omega
      clear hN
      by_cases hc0 : n < 0
      · have hNe : N = 0 := by have := HN.out; omega
        go_wp2_with fail
        refine (drop_any _ _ _ _ _ HS1.out bn hm).mono ?_
        rintro e w5 ⟨rfl, hs, hsv⟩
        rw [show m.drop n.toNat = m.drop N from by
          have := HN.out
          by_cases c : n.toNat ≤ m.length
          · congr 1; omega
          · rw [List.drop_eq_nil_of_le (by omega), List.drop_eq_nil_of_le (by omega)]] at hs
        have HS5 := Lib.hid hs
        have HB5 := Lib.hid (HB1.out.trans (hsv.below (B := W.heap.size) (fun k _ e => HF.out k e) HB1.out.size))
        have hcut := fun w : World => run_cut_str_lo (P := Try.prog) w Try.underlying9 m (show (0 : Int) ≤ N by omega) (show (N : Int) ≤ m.length by omega)
        rw [Int.toNat_natCast] at hcut
        have hMl : (m.drop N).length ≤ 128 := by rw [List.length_drop]; omega
        have hMs := str_size (m.drop N)
        rw [← HN.out]
        clear hs hsv htl
        generalize m.drop N = M at HS5 hcut hMl hMs ⊢
        subst hNe
        rw [show ((0 : Nat) : Int) = 0 from rfl] at hcut ⊢
        
        go_wp2_with fail
        refine (len_any _ _ _ _ HS5.out).mono ?_
        rintro e w6 ⟨rfl, rfl⟩
        go_wp2_with fail
        go_roundw
        case rel => exact ⟨i + 1, F, M, by omega, by go_num, rfl, hMl, HS5.out, HF.out, HB5.out⟩
        case measure => simp [intOf]; omega
      by_cases hc1 : (m.length : Int) < n
      · have hNe : N = m.length := by have := HN.out; omega
        go_wp2_with fail
        refine (drop_any _ _ _ _ _ HS1.out bn hm).mono ?_
        rintro e w5 ⟨rfl, hs, hsv⟩
        rw [show m.drop n.toNat = m.drop N from by
          have := HN.out
          by_cases c : n.toNat ≤ m.length
          · congr 1; omega
          · rw [List.drop_eq_nil_of_le (by omega), List.drop_eq_nil_of_le (by omega)]] at hs
        have HS5 := Lib.hid hs
        have HB5 := Lib.hid (HB1.out.trans (hsv.below (B := W.heap.size) (fun k _ e => HF.out k e) HB1.out.size))
        have hcut := fun w : World => run_cut_str_lo (P := Try.prog) w Try.underlying9 m (show (0 : Int) ≤ N by omega) (show (N : Int) ≤ m.length by omega)
        rw [Int.toNat_natCast] at hcut
        have hMl : (m.drop N).length ≤ 128 := by rw [List.length_drop]; omega
        have hMs := str_size (m.drop N)
        rw [← HN.out]
        clear hs hsv htl
        generalize m.drop N = M at HS5 hcut hMl hMs ⊢
        rw [hNe] at hcut
        rw [hNe]
        go_wp2_with fail
        refine (len_any _ _ _ _ HS5.out).mono ?_
        rintro e w6 ⟨rfl, rfl⟩
        go_wp2_with fail
        go_roundw
        case rel => exact ⟨i + 1, F, M, by omega, by go_num, rfl, hMl, HS5.out, HF.out, HB5.out⟩
        case measure => simp [intOf]; omega
      · have HNE := Lib.hid (show n = N by have := HN.out; omega)
        have hn0 : ¬ n < 0 := hc0
        go_wp2_with fail
        refine (drop_any _ _ _ _ _ HS1.out bn hm).mono ?_
        rintro e w5 ⟨rfl, hs, hsv⟩
        rw [show m.drop n.toNat = m.drop N from by
          have := HN.out
          by_cases c : n.toNat ≤ m.length
          · congr 1; omega
          · rw [List.drop_eq_nil_of_le (by omega), List.drop_eq_nil_of_le (by omega)]] at hs
        have HS5 := Lib.hid hs
        have HB5 := Lib.hid (HB1.out.trans (hsv.below (B := W.heap.size) (fun k _ e => HF.out k e) HB1.out.size))
        have hcut := fun w : World => run_cut_str_lo (P := Try.prog) w Try.underlying9 m (show (0 : Int) ≤ N by omega) (show (N : Int) ≤ m.length by omega)
        rw [Int.toNat_natCast] at hcut
        have hMl : (m.drop N).length ≤ 128 := by rw [List.length_drop]; omega
        have hMs := str_size (m.drop N)
        rw [← HN.out]
        clear hs hsv htl
        generalize m.drop N = M at HS5 hcut hMl hMs ⊢
        have hNe := HNE.out
        clear HNE
        subst hNe
        
        go_wp2_with fail
        refine (len_any _ _ _ _ HS5.out).mono ?_
        rintro e w6 ⟨rfl, rfl⟩
        go_wp2_with fail
        go_roundw
        case rel => exact ⟨i + 1, F, M, by omega, by go_num, rfl, hMl, HS5.out, HF.out, HB5.out⟩
        case measure => simp [intOf]; omega
    obtain rfl : p = 2 := by omega
    clear hp0 hp1 hp3
    by_cases hno : n < 0 ∨ (m.length : Int) ≤ n ∨ k < 1
    · have HNo := Lib.hid hno
      have hst := fun w : World => run_str (P := Try.prog) w (src := 40) (dst := 9) Try.underlying40 Try.underlying5 Try.underlying9 (Rd.empty w 0 none (cap := 0) (by simp))
      simp only [List.length_nil] at hst
      have ht0 := str_toList []
      have hz : ({ data := #[] } : ByteArray).toList = [] := str_toList []
      by_cases q0 : n < 0
      rotate_left
      by_cases q1 : (m.length : Int) ≤ n
      rotate_left
      have q2 : k < 1 := by omega
      all_goals
        clear hno htl
        go_wp2_with fail
        refine (peek_no _ _ _ _ _ _ HS1.out hm HNo.out).mono ?_
        rintro e w5 ⟨rfl, rfl⟩
        go_wp2_with fail
        refine (len_any _ _ _ _ HS1.out).mono ?_
        rintro e w6 ⟨rfl, rfl⟩
        go_wp2_with fail
        go_roundw
        case rel => exact ⟨i + 1, F, m, by omega, by go_num, rfl, hm, HS1.out, HF.out, HB1.out⟩
        case measure => simp [intOf]; omega
    · obtain ⟨f, rfl⟩ : ∃ f : Nat, n = f := ⟨n.toNat, by omega⟩
      have hf : f < m.length := by omega
      have hk1 : 1 ≤ k := by omega
      have hcutA := fun w : World => run_cut_str_lo (P := Try.prog) w Try.underlying9 m (show (0 : Int) ≤ f by omega) (show (f : Int) ≤ m.length by omega)
      rw [Int.toNat_natCast] at hcutA
      have hds := str_size (m.drop f)
      have hdl : (m.drop f).length = m.length - f := List.length_drop
      obtain ⟨D, hD⟩ : ∃ D : Nat, D = m.length - f := ⟨_, rfl⟩
      have HDD := Lib.hid hD
      rw [← hD] at hdl
      rw [hdl] at hds
      have HDL := Lib.hid hdl
      clear hno htl hdl hD
      by_cases hk : k < (D : Int)
      · have hcutB := fun w : World => run_cut_str_hi (P := Try.prog) w Try.underlying9 (m.drop f) (show (0 : Int) ≤ k by omega) (show k ≤ ((m.drop f).length : Int) by rw [HDL.out]; omega)
        go_wp2_with fail
        refine (peek_yes _ _ _ f k _ HS1.out hm (by omega) ⟨by omega, by omega⟩).mono ?_
        rintro e w5 ⟨oa', cap', rfl, hw, hb⟩
        generalize hR : (m.drop f).take k.toNat = R at hw hcutB ⊢
        have hst := run_str (P := Try.prog) w5 (src := 40) (dst := 9) Try.underlying40 Try.underlying5 Try.underlying9 (Rd.of_win hw)
        have HS5 := Lib.hid (HS1.out.below hb)
        have HB5 := Lib.hid (HB1.out.trans (hb.mono HB1.out.size))
        have c0 := cell_get (block_stays hb KX.out) 0
        have ht1 := str_toList R
        clear hw hb hR
        
        go_wp2_with fail
        refine (len_any _ _ _ _ HS5.out).mono ?_
        rintro e w6 ⟨rfl, rfl⟩
        go_wp2_with fail
        go_roundw
        case rel => exact ⟨i + 1, F, m, by omega, by go_num, rfl, hm, HS5.out, HF.out, HB5.out⟩
        case measure => simp [intOf]; omega
      · obtain ⟨R, hR⟩ : ∃ R, R = (m.drop f).take k.toNat := ⟨_, rfl⟩
        rw [show m.drop f = R from by rw [hR, List.take_of_length_le (by rw [HDL.out]; omega)]] at hcutA hds
        have HR := Lib.hid hR
        clear hR
        go_wp2_with fail
        refine (peek_yes _ _ _ f k _ HS1.out hm (by omega) ⟨by omega, by omega⟩).mono ?_
        rintro e w5 ⟨oa', cap', rfl, hw, hb⟩
        rw [← HR.out] at hw ⊢
        have hst := run_str (P := Try.prog) w5 (src := 40) (dst := 9) Try.underlying40 Try.underlying5 Try.underlying9 (Rd.of_win hw)
        have HS5 := Lib.hid (HS1.out.below hb)
        have HB5 := Lib.hid (HB1.out.trans (hb.mono HB1.out.size))
        have c0 := cell_get (block_stays hb KX.out) 0
        have ht1 := str_toList R
        clear hw hb
        
        go_wp2_with fail
        refine (len_any _ _ _ _ HS5.out).mono ?_
        rintro e w6 ⟨rfl, rfl⟩
        go_wp2_with fail
        go_roundw
        case rel => exact ⟨i + 1, F, m, by omega, by go_num, rfl, hm, HS5.out, HF.out, HB5.out⟩
        case measure => simp [intOf]; omega

theorem plays_long (oa : Option Addr) (len cap : Nat) (W : World) (hlen : 100 < len) (hmax : len ≤ 9223372036854775807) :
    Calls Try.prog 9 #[.slice oa len cap] W fun e w' => e = .returned (.bool true) ∧ Below W.heap.size W w' := by
  go_enter Try.func9, Try.ntmps9
  go_wp2_with fail
  refine (up_any _).mono ?_
  rintro e w1 ⟨rfl, hb⟩
  have HB := Lib.hid hb
  clear hb
  go_wp2_with fail
  refine (new_any _).mono ?_
  rintro e w2 ⟨rfl, hs, hb⟩
  have HB2 := Lib.hid (HB.out.trans (hb.mono HB.out.size))
  clear hs hb HB
  go_wp2_with fail
  go_ret
  exact ⟨rfl, HB2.out⟩

theorem plays_law (W : World) (v0 : Value) (o0 : Came Try.prog W 55 v0) :
    Calls Try.prog 9 #[v0] W fun e W' => e = .returned (.bool true) ∧ Below W.heap.size W W' := by
  obtain ⟨oa, len, cap, rfl, hlc, hc, hi⟩ := Open.slice_elems (by omega) (o0.slice (.slice 4 (.agg [.int .i64, .int .i64, .int .i64, .slice 1 (.int .u8)])) (by kernel_rfl) Try.underlying55)
  by_cases hlen : 100 < len
  · exact plays_long oa len cap W hlen (by unfold maxLen at hc; omega)
  · refine plays_main oa len cap W (by omega) (fun i hi' => ?_)
    obtain ⟨b, o, cs, e, hb, hcl, hcell, hok⟩ := hi i hi'
    unfold Sh.Ok Sh.OkL at hok
    obtain ⟨_, _, rfl, h1, hok⟩ := hok
    unfold Sh.Ok at h1
    obtain ⟨a, rfl, ha⟩ := h1
    unfold Sh.OkL at hok
    obtain ⟨_, _, rfl, h1, hok⟩ := hok
    unfold Sh.Ok at h1
    obtain ⟨n, rfl, hn⟩ := h1
    unfold Sh.OkL at hok
    obtain ⟨_, _, rfl, h1, hok⟩ := hok
    unfold Sh.Ok at h1
    obtain ⟨m, rfl, hm⟩ := h1
    unfold Sh.OkL at hok
    obtain ⟨x, _, rfl, h1, hok⟩ := hok
    unfold Sh.OkL at hok
    subst hok
    obtain ⟨v, rfl⟩ : ∃ v, x = [v] := by
      match x, hcl with
      | [v], _ => exact ⟨v, rfl⟩
    obtain ⟨xa, xcap, l, rfl, hrd⟩ := rd_of h1
    exact ⟨b, o, a, n, m, xa, xcap, l, e, hb, hcell 0 _ rfl, hcell 1 _ rfl, hcell 2 _ rfl, hcell 3 _ rfl, hrd, Argin.wf_i64 ha, Argin.wf_i64 hn, Argin.wf_i64 hm⟩
end Go.Proofs.Ytdlhleegfmnjjaa.Sbuf
