/- PortPlays: what any turns come to, of any ports, of which some aren't free: each answer. Conditions: none. -/
import Derived.Test.YtdlhleegfmnjjaaPortSay
import Derived.Test.YtdlhleegfmnjjaaOpen
import Derived.Test.YtdlhleegfmnjjaaErrs
namespace Go.Proofs.Ytdlhleegfmnjjaa.Port
open Go.RowKit Argin Save
set_option linter.unusedVariables false
set_option linter.unusedSimpArgs false

theorem plays_no (l m : Int) (oa : Option Addr) (len cap : Nat) (W : World) (hl : -9223372036854775808 ≤ l ∧ l < 9223372036854775808) (hm : -9223372036854775808 ≤ m ∧ m < 9223372036854775808) (h : Bad l m) :
    Calls Try.prog 7 #[.int .i64 l, .int .i64 m, .slice oa len cap] W fun e w' => e = .returned (.bool true) ∧ Below W.heap.size W w' := by
  have HBad := Lib.hid h
  have he := Errs.code_eql
  unfold Bad at h
  by_cases c0 : l < 1
  rotate_left
  by_cases c1 : 65535 < l
  rotate_left
  by_cases c2 : m < 1
  rotate_left
  by_cases c3 : 64 < m
  rotate_left
  have c4 : 65536 < l + m := by omega
  all_goals
    clear h
    go_enter Try.func7, Try.ntmps7
    go_wp2_with fail
    refine (up_any _).mono ?_
    rintro e w1 ⟨rfl, hb⟩
    have h2 := (((Below.refl _ _).alloc (Nat.le_refl _) (.cells #[.int .i64 l] 3)).alloc (by simp) (.cells #[.int .i64 m] 3)).trans (hb.mono (by simp; omega))
    have HB := Lib.hid h2
    have kl := cell_get (block_stays hb (get_alloc_old (.cells #[.int .i64 m] 3) (get_alloc W (.cells #[.int .i64 l] 3)))) 0
    have km := cell_get (block_stays hb (get_alloc (W.alloc (.cells #[.int .i64 l] 3)) (.cells #[.int .i64 m] 3))) 0
    simp only [World.size_alloc] at km
    clear hb h2
    go_wp2_with fail
    refine (new_no _ _ _ hl hm HBad.out).mono ?_
    rintro e w2 ⟨rfl, rfl⟩
    go_wp2_with fail
    go_ret
    exact ⟨rfl, HB.out⟩

theorem plays_long (l m : Int) (oa : Option Addr) (len cap : Nat) (W : World) (h : ¬ Bad l m) (hlen : 40 < len) (hmax : len ≤ 9223372036854775807) :
    Calls Try.prog 7 #[.int .i64 l, .int .i64 m, .slice oa len cap] W fun e w' => e = .returned (.bool true) ∧ Below W.heap.size W w' := by
  have HBad := Lib.hid h
  unfold Bad at h
  have hl : 1 ≤ l ∧ l ≤ 65535 ∧ 1 ≤ m ∧ m ≤ 64 ∧ l + m ≤ 65536 := by omega
  clear h
  go_enter Try.func7, Try.ntmps7
  go_wp2_with fail
  refine (up_any _).mono ?_
  rintro e w1 ⟨rfl, hb⟩
  have h2 := (((Below.refl _ _).alloc (Nat.le_refl _) (.cells #[.int .i64 l] 3)).alloc (by simp) (.cells #[.int .i64 m] 3)).trans (hb.mono (by simp; omega))
  have HB := Lib.hid h2
  have KL := Lib.hid (block_stays hb (get_alloc_old (.cells #[.int .i64 m] 3) (get_alloc W (.cells #[.int .i64 l] 3))))
  have km := block_stays hb (get_alloc (W.alloc (.cells #[.int .i64 l] 3)) (.cells #[.int .i64 m] 3))
  simp only [World.size_alloc] at km
  have KM := Lib.hid km
  clear hb h2 km
  have kl := cell_get KL.out 0
  have km := cell_get KM.out 0
  go_wp2_with fail
  refine (new_ok _ _ _ HBad.out).mono ?_
  rintro e w2 ⟨rfl, hh, hb⟩
  have HB2 := Lib.hid (HB.out.trans (hb.mono (HB.out.size)))
  clear kl km
  have kl := cell_get (block_stays hb KL.out) 0
  have km := cell_get (block_stays hb KM.out) 0
  clear hh hb
  go_wp2_with fail
  go_ret
  exact ⟨rfl, HB2.out⟩

set_option maxRecDepth 100000 in
set_option maxHeartbeats 4000000 in
theorem plays_main (l : Int) (M : Nat) (oa : Option Addr) (len cap : Nat) (W : World) (h : ¬ Bad l M) (hlen : len ≤ 40)
    (hrow : ∀ i, i < len → ∃ b o v, oa = some ⟨b, o, none⟩ ∧ b < W.heap.size ∧ W.cell? ⟨b, o + i, none⟩ = some v ∧ (Sh.slice 1 (.int .i64)).Ok W [v]) :
    Calls Try.prog 7 #[.int .i64 l, .int .i64 (M : Int), .slice oa len cap] W fun e w' => e = .returned (.bool true) ∧ Below W.heap.size W w' := by
  have HBad := Lib.hid h
  have HRow := Lib.hid hrow
  unfold Bad at h
  have hl : 1 ≤ l ∧ l ≤ 65535 ∧ 1 ≤ (M : Int) ∧ (M : Int) ≤ 64 ∧ l + M ≤ 65536 := by omega
  clear h hrow
  go_enter Try.func7, Try.ntmps7
  go_wp2_with fail
  refine (up_any _).mono ?_
  rintro e w1 ⟨rfl, hb⟩
  have h2 := (((Below.refl _ _).alloc (Nat.le_refl _) (.cells #[.int .i64 l] 3)).alloc (by simp) (.cells #[.int .i64 M] 3)).trans (hb.mono (by simp; omega))
  have HB := Lib.hid h2
  have KL := Lib.hid (block_stays hb (get_alloc_old (.cells #[.int .i64 M] 3) (get_alloc W (.cells #[.int .i64 l] 3))))
  have km := block_stays hb (get_alloc (W.alloc (.cells #[.int .i64 l] 3)) (.cells #[.int .i64 M] 3))
  simp only [World.size_alloc] at km
  have KM := Lib.hid km
  clear hb h2 km
  have kl := cell_get KL.out 0
  have km := cell_get KM.out 0
  go_wp2_with fail
  refine (new_ok _ _ _ HBad.out).mono ?_
  rintro e w2 ⟨rfl, hh, hb⟩
  have HB2 := Lib.hid (HB.out.trans (hb.mono (HB.out.size)))
  have KL2 := Lib.hid (block_stays hb KL.out)
  have KM2 := Lib.hid (block_stays hb KM.out)
  have HH := Lib.hid hh
  have hdb := lt_of_get KM.out
  clear kl km hh hb HB KL KM
  have kl := cell_get KL2.out 0
  have km := cell_get KM2.out 0
  generalize w1.heap.size = b at HH hdb ⊢
  have HCW := Lib.hid (show W.heap.size = W.heap.size from rfl)
  have hcd : W.heap.size < W.heap.size + 1 := by omega
  go_wp2_with fail
  clear kl km
  go_loopw [10, 11] (fun sx si wx => ∃ (i : Nat) (nx : Int), i ≤ len ∧ si = .int .i64 i ∧ sx = .int .i64 nx ∧ 0 ≤ nx ∧ nx < M ∧ wx.heap[b]? = some (Pt l M nx) ∧ wx.heap[W.heap.size]? = some (.cells #[.int .i64 l] 3) ∧ wx.heap[W.heap.size + 1]? = some (.cells #[.int .i64 M] 3) ∧ Below W.heap.size W wx) (fun _ si _ => len - (intOf si).toNat)
  case atStart => exact ⟨0, 0, by omega, rfl, rfl, by omega, by omega, HH.out, KL2.out, KM2.out, HB2.out⟩
  case round =>
    clear HB2 KL2 KM2 HH
    obtain ⟨i, nx, hi, rfl, rfl, hn0, hn1, hh, hk, hm, hb⟩ := hrel
    have HH := Lib.hid hh
    have HK := Lib.hid hk
    have HM := Lib.hid hm
    have HB := Lib.hid hb
    clear hh hk hm hb
    by_cases hlt : i < len
    rotate_left
    · go_wp2_with fail
      go_ret
      exact ⟨rfl, HB.out⟩
    obtain ⟨ab, ao, v, rfl, hab, hac, hok⟩ := HRow.out i hlt
    obtain ⟨ob, ln, cp, rs, rfl, hlc, hcm, hrs⟩ := slice_ints hok
    have hc' : wr.cell? ⟨ab, ao + i, none⟩ = some (.slice ob ln cp) := by rw [HB.out.cell hab]; exact hac
    have HRS := Lib.hid hrs
    unfold maxLen at hcm
    clear hac hrs hok
    have HG := Lib.hid (get_alloc wr (.cells #[.slice ob ln cp] 37))
    have HH2 := Lib.hid (get_alloc_old (.cells #[.slice ob ln cp] 37) HH.out)
    have HK2 := Lib.hid (get_alloc_old (.cells #[.slice ob ln cp] 37) HK.out)
    have HM2 := Lib.hid (get_alloc_old (.cells #[.slice ob ln cp] 37) HM.out)
    have HB2 := Lib.hid (HB.out.alloc HB.out.size (.cells #[.slice ob ln cp] 37))
    have hbg := lt_of_get HH.out
    clear HH HK HM HB
    by_cases hln : 100 < ln
    · go_wp2_with fail
      go_ret
      exact ⟨rfl, HB2.out⟩
    go_wp2_with fail
    generalize wr.alloc (.cells #[.slice ob ln cp] 37) = ws at HG HH2 HK2 HM2 HB2 ⊢
    generalize wr.heap.size = g at HG hbg ⊢
    have hsay : ∀ (x : Int) (w1 : World), 0 ≤ x → x < 65536 → Save (· = b) ws w1 → Calls Try.prog 29 #[.int .u16 x, .pointer (some ⟨g, 0, none⟩), .pointer (some ⟨W.heap.size, 0, none⟩), .pointer (some ⟨W.heap.size + 1, 0, none⟩)] w1 fun e w' => e = .returned (.bool (freeB l M rs ln x)) ∧ Drew w1 w' := by
      intro x w1 h0 h1 hs
      refine say5 x l M g _ _ ln cp ob rs w1 (cell_get (hs.stays HG.out (by omega)) 0) (cell_get (hs.stays HK2.out (by omega)) 0) (cell_get (hs.stays HM2.out (by omega)) 0) ⟨h0, h1⟩ (by omega) (by omega) (by omega) ?_ (fun j hj => Argin.wf_i64 (HRS.out j hj).1)
      intro j hj
      obtain ⟨_, b2, o2, e2, h2, h3⟩ := HRS.out j hj
      refine ⟨b2, o2, e2, ?_⟩
      rw [(hs.below (B := W.heap.size) (fun k _ e => by omega) (by have := lt_of_get HK2.out; omega)).cell (p := ⟨b2, o2 + j, none⟩) h2, HB2.out.cell (p := ⟨b2, o2 + j, none⟩) h2]
      exact h3
    have HS := Lib.hid hsay
    clear hsay
    generalize hfr : freeB l M rs ln = fr at HS
    clear hfr HRS
    go_loopw [10, 14, 15] (fun sx sw sn wx => ∃ (k : Nat) (n wt : Int), k ≤ M ∧ sn = .int .i64 k ∧ sx = .int .i64 n ∧ sw = .int .i64 wt ∧ (0 ≤ n ∧ n < M) ∧ (0 ≤ wt ∧ wt ≤ 65536) ∧ ((wt = 0 ∧ turns fr l M M nx = turns fr l M (M - k) n) ∨ (1 ≤ wt ∧ turns fr l M M nx = (some wt, n))) ∧ Drew ws wx) (fun _ _ sn _ => M - (intOf sn).toNat)
    case atStart => exact ⟨0, nx, 0, by omega, rfl, rfl, rfl, by omega, by omega, .inl ⟨rfl, rfl⟩, Drew.refl _⟩
    case round =>
      obtain ⟨k, n, wt, hk, rfl, rfl, rfl, hn, hwt, ht, nd, rfl⟩ := hrel
      have HT := Lib.hid ht
      clear ht
      have km := cell_get HM2.out 0
      have kl := cell_get HK2.out 0
      by_cases hgo : k < M ∧ wt = 0
      · obtain ⟨hkM, rfl⟩ := hgo
        have ht := (HT.out.resolve_right (by omega)).2
        have hk1 : M - k = M - (k + 1) + 1 := by omega
        rw [hk1, turns] at ht
        have m0 : ¬ (M : Int) = 0 := by omega
        have hx : 0 ≤ (n + 1) % (M : Int) ∧ (n + 1) % (M : Int) < M := ⟨Int.emod_nonneg _ (by omega), Int.emod_lt_of_pos _ (by omega)⟩
        have hw2 : (n + 1).tmod (M : Int) = (n + 1) % M := Int.tmod_eq_emod_of_nonneg (by omega)
        have HT2 := Lib.hid ht
        clear ht hk1
        go_wp2_with fail
        clear hw2
        refine (HS.out (l + n) _ (by omega) (by omega) ((Save.refl _ _).drewN nd)).mono ?_
        rintro e w3 ⟨rfl, nd2, rfl⟩
        have ht := HT2.out
        cases hq : fr (l + n)
        · rw [if_neg (by simp [hq])] at ht
          have HT3 := Lib.hid ht
          clear ht hq
          go_wp2_with fail
          go_roundw
          case rel => exact ⟨k + 1, _, 0, by omega, by go_num, rfl, rfl, hx, by omega, .inl ⟨rfl, HT3.out⟩, _, rfl⟩
          case measure => simp [intOf]; omega
        · rw [if_pos hq] at ht
          have HT3 := Lib.hid ht
          clear ht hq
          go_wp2_with fail
          go_roundw
          case rel => exact ⟨k + 1, _, l + n, by omega, by go_num, rfl, rfl, hx, by omega, .inr ⟨by omega, HT3.out⟩, _, rfl⟩
          case measure => simp [intOf]; omega
      · have hcase : (wt = 0 ∧ ¬ k < M ∧ turns fr l M M nx = (none, n)) ∨ (1 ≤ wt ∧ turns fr l M M nx = (some wt, n)) := by
          rcases HT.out with ⟨h0, h1⟩ | h1
          · refine .inl ⟨h0, by omega, ?_⟩
            rw [h1, show M - k = 0 from by omega]; rfl
          · exact .inr h1
        clear HT
        rcases hcase with ⟨rfl, h1, ht⟩ | ⟨h1, ht⟩
        · have HT2 := Lib.hid ht
          clear ht hgo
          have hkM : ¬ k < M := by omega
          go_wp2_with fail
          refine (next_any _ _ _ _ _ _ fr _ (get_drewN HH2.out) (by omega) (by omega) hcf5 (fun x w1 h0 h1 hs => by
            rw [show ((#[Value.int .u16 x] : Array Value) ++ #[.pointer (some ⟨g, 0, none⟩), .pointer (some ⟨W.heap.size, 0, none⟩), .pointer (some ⟨W.heap.size + 1, 0, none⟩)]) = #[.int .u16 x, .pointer (some ⟨g, 0, none⟩), .pointer (some ⟨W.heap.size, 0, none⟩), .pointer (some ⟨W.heap.size + 1, 0, none⟩)] from rfl]
            exact HS.out x w1 h0 h1 (((Save.refl _ _).drewN nd).trans hs))).mono ?_
          rintro e w5 ⟨rfl, hh5, hs5⟩
          rw [Int.toNat_natCast, HT2.out] at hh5 ⊢
          have HH5 := Lib.hid hh5
          have hs6 := ((Save.refl (· = b) ws).drewN nd).trans hs5
          have HK5 := Lib.hid (hs6.stays HK2.out (by omega))
          have HM5 := Lib.hid (hs6.stays HM2.out (by omega))
          have HB5 := Lib.hid (HB2.out.trans (hs6.below (B := W.heap.size) (fun k _ e => by omega) (by have := lt_of_get HK2.out; omega)))
          clear hh5 hs5 hs6
          simp only [told]
          have hc := fun w => Errs.code_any 6 w (by omega)
          rw [Errs.err_code 6 (by decide)] at hc
          go_wp2_with fail
          refine (hc _).mono ?_
          rintro e w6 ⟨rfl, rfl⟩
          go_wp2_with fail
          go_roundw
          case rel => exact ⟨i + 1, n, by omega, by go_num, rfl, by omega, by omega, HH5.out, HK5.out, HM5.out, HB5.out⟩
          case measure => simp [intOf]; omega
        · have HT2 := Lib.hid ht
          clear ht
          have hw1 : (wt == 0) = false := beq_eq_false_iff_ne.2 (by omega)
          by_cases hkM : k < M
          all_goals
            clear hgo
            go_wp2_with fail
            refine (next_any _ _ _ _ _ _ fr _ (get_drewN HH2.out) (by omega) (by omega) hcf5 (fun x w1 h0 h1 hs => by
              rw [show ((#[Value.int .u16 x] : Array Value) ++ #[.pointer (some ⟨g, 0, none⟩), .pointer (some ⟨W.heap.size, 0, none⟩), .pointer (some ⟨W.heap.size + 1, 0, none⟩)]) = #[.int .u16 x, .pointer (some ⟨g, 0, none⟩), .pointer (some ⟨W.heap.size, 0, none⟩), .pointer (some ⟨W.heap.size + 1, 0, none⟩)] from rfl]
              exact HS.out x w1 h0 h1 (((Save.refl _ _).drewN nd).trans hs))).mono ?_
            rintro e w5 ⟨rfl, hh5, hs5⟩
            rw [Int.toNat_natCast, HT2.out] at hh5 ⊢
            have HH5 := Lib.hid hh5
            have hs6 := ((Save.refl (· = b) ws).drewN nd).trans hs5
            have HK5 := Lib.hid (hs6.stays HK2.out (by omega))
            have HM5 := Lib.hid (hs6.stays HM2.out (by omega))
            have HB5 := Lib.hid (HB2.out.trans (hs6.below (B := W.heap.size) (fun k _ e => by omega) (by have := lt_of_get HK2.out; omega)))
            clear hh5 hs5 hs6
            simp only [told]
            have hc := fun w => Errs.code_any 0 w (by omega)
            rw [Errs.err_zero] at hc
            go_wp2_with fail
            refine (hc _).mono ?_
            rintro e w6 ⟨rfl, rfl⟩
            go_wp2_with fail
            go_roundw
            case rel => exact ⟨i + 1, n, by omega, by go_num, rfl, by omega, by omega, HH5.out, HK5.out, HM5.out, HB5.out⟩
            case measure => simp [intOf]; omega

theorem plays_law (W : World) (v0 v1 v2 : Value) (o0 : Came Try.prog W 3 v0) (o1 : Came Try.prog W 3 v1) (o2 : Came Try.prog W 46 v2) :
    Calls Try.prog 7 #[v0, v1, v2] W fun e W' => e = .returned (.bool true) ∧ Below W.heap.size W W' := by
  obtain ⟨l, rfl, hl⟩ := o0.int Try.underlying3
  obtain ⟨m, rfl, hm⟩ := o1.int Try.underlying3
  obtain ⟨oa, len, cap, rfl, hlc, hc, hi⟩ := Open.slice_elems (by omega) (o2.slice (.slice 1 (.slice 1 (.int .i64))) (by kernel_rfl) Try.underlying46)
  by_cases h : Bad l m
  · exact plays_no l m oa len cap W (Argin.wf_i64 hl) (Argin.wf_i64 hm) h
  · by_cases hlen : 40 < len
    · exact plays_long l m oa len cap W h hlen (by unfold maxLen at hc; omega)
    · obtain ⟨M, rfl⟩ : ∃ M : Nat, m = M := ⟨m.toNat, by unfold Bad at h; omega⟩
      refine plays_main l M oa len cap W h (by omega) (fun i hi' => ?_)
      obtain ⟨b, o, cs, e, hb, hcl, hcell, hok⟩ := hi i hi'
      obtain ⟨v, rfl⟩ : ∃ v, cs = [v] := by
        match cs, hcl with
        | [v], _ => exact ⟨v, rfl⟩
      exact ⟨b, o, v, e, hb, by simpa using hcell 0 v rfl, hok⟩

end Go.Proofs.Ytdlhleegfmnjjaa.Port
