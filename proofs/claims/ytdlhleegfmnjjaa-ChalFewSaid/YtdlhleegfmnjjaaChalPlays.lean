/- ChalPlays: what any times come to that one more is asked for at, so many ticks behind each other: each answer, and how many are left. Conditions: none. -/
import Derived.Test.YtdlhleegfmnjjaaChal
import Derived.Deep.DeepCutAuto
import Derived.Deep.CutBlock
namespace Go.Proofs.Ytdlhleegfmnjjaa.Chal
open Go.RowKit Argin Save
set_option linter.unusedVariables false
set_option linter.unusedSimpArgs false

/-- What an interval's state is when one more is asked for. -/
def Turn (iv fr : Int) (bg : Bool) (lt now fr' : Int) (bg' : Bool) (lt' : Int) : Prop :=
  (ov iv fr bg now = true ∧ fr' = now ∧ bg' = true ∧ lt' = 0) ∨ (ov iv fr bg now = false ∧ fr' = fr ∧ bg' = bg ∧ lt' = lt)

theorem Turn.one {iv fr lt now f1 f2 l1 l2 : Int} {bg b1 b2 : Bool} (h : Turn iv fr bg lt now f1 b1 l1) (k : Turn iv fr bg lt now f2 b2 l2) : f1 = f2 ∧ b1 = b2 ∧ l1 = l2 := by
  rcases h with ⟨a, rfl, rfl, rfl⟩ | ⟨a, rfl, rfl, rfl⟩ <;> rcases k with ⟨c, rfl, rfl, rfl⟩ | ⟨c, rfl, rfl, rfl⟩
  · exact ⟨rfl, rfl, rfl⟩
  · rw [a] at c; cases c
  · rw [a] at c; cases c
  · exact ⟨rfl, rfl, rfl⟩

theorem Turn.begun {iv fr lt now f1 l1 : Int} {bg b1 : Bool} (h : Turn iv fr bg lt now f1 b1 l1) : b1 = true := by
  rcases h with ⟨a, rfl, rfl, rfl⟩ | ⟨a, rfl, rfl, rfl⟩
  · rfl
  · unfold ov at a; cases b1
    · simp at a
    · rfl

theorem up_any (w : World) : Calls Try.prog 23 #[] w fun e w' => e = .returned (.bool true) ∧ Below w.heap.size w w' := by
  go_enter Try.func23, Try.ntmps23
  go_wp2_with (go_at_call 24; ((with_reducible refine (new_any _ _ _ (by omega) (by omega)).mono ?_); rintro e w1 ⟨rfl, hl, hb⟩; have hl : w1.heap[w.heap.size]? = some (Lm 1 10 0 false 0) := hl; have H1 := Lib.hid hl; have HB := Lib.hid hb; clear hl hb))
  refine (may_any _ _ _ _ _ _ _ _ H1.out (by omega) (by omega)).mono ?_
  rintro e w2 ⟨fr, lt, bg, ht, rfl, hl, hs⟩
  obtain ⟨rfl, rfl, rfl⟩ := Turn.one ht (.inl ⟨by decide, rfl, rfl, rfl⟩)
  have hl : w2.heap[w.heap.size]? = some (Lm 1 10 0 true 1) := hl
  have H2 := Lib.hid hl
  have HB2 := Lib.hid (HB.out.trans (hs.below (fun k _ e => by omega) HB.out.size))
  clear hl hs ht H1
  go_wp2_with fail
  refine (may_any _ _ _ _ _ _ _ _ H2.out (by omega) (by omega)).mono ?_
  rintro e w3 ⟨fr, lt, bg, ht, rfl, hl, hs⟩
  obtain ⟨rfl, rfl, rfl⟩ := Turn.one ht (.inr ⟨by decide, rfl, rfl, rfl⟩)
  have hl : w3.heap[w.heap.size]? = some (Lm 1 10 0 true 1) := hl
  have H3 := Lib.hid hl
  have HB3 := Lib.hid (HB2.out.trans (hs.below (fun k _ e => by omega) HB2.out.size))
  clear hl hs ht H2
  go_wp2_with fail
  refine (may_any _ _ _ _ _ _ _ _ H3.out (by omega) (by omega)).mono ?_
  rintro e w4 ⟨fr, lt, bg, ht, rfl, hl, hs⟩
  obtain ⟨rfl, rfl, rfl⟩ := Turn.one ht (.inl ⟨by decide, rfl, rfl, rfl⟩)
  have hl : w4.heap[w.heap.size]? = some (Lm 1 10 10 true 1) := hl
  have H4 := Lib.hid hl
  have HB4 := Lib.hid (HB3.out.trans (hs.below (fun k _ e => by omega) HB3.out.size))
  clear hl hs ht H3
  have f1 : left 1 10 10 true 1 10 = 0 := by decide
  have f2 : left 1 10 10 true 1 20 = 1 := by decide
  go_wp2_with fail
  refine (left_any _ _ _ _ _ _ _ _ H4.out (by omega) (by omega)).mono ?_
  rintro e w' ⟨rfl, n, rfl⟩
  go_wp2_with fail
  refine (left_any _ _ _ _ _ _ _ _ (get_drewN H4.out) (by omega) (by omega)).mono ?_
  rintro e w' ⟨rfl, m, rfl⟩
  go_wp2_with fail
  go_ret
  exact ⟨rfl, below_drewN HB4.out _⟩

set_option maxRecDepth 100000 in
set_option maxHeartbeats 4000000 in
theorem plays_main (lim itv fm look : Int) (oa : Option Addr) (len cap : Nat) (rs : Nat → Int) (W : World) (hlim : -9223372036854775808 ≤ lim ∧ lim < 9223372036854775808) (hitv : -9223372036854775808 ≤ itv ∧ itv < 9223372036854775808) (hlen : len ≤ 200)
    (hfm : 0 ≤ fm ∧ fm ≤ 1000000000000) (hlook : 0 ≤ look ∧ look < 256) (hrs : ∀ i, i < len → 0 ≤ rs i ∧ rs i < 256) (hcell : ∀ i, i < len → ∃ b o, oa = some ⟨b, o, none⟩ ∧ b < W.heap.size ∧ W.cell? ⟨b, o + i, none⟩ = some (.int .u8 (rs i))) :
    Calls Try.prog 5 #[.int .i64 lim, .int .i64 itv, .int .u64 fm, .slice oa len cap, .int .u8 look] W fun e w' => e = .returned (.bool true) ∧ Below W.heap.size W w' := by
  have HR := Lib.hid hrs
  have HC := Lib.hid hcell
  clear hrs hcell
  go_enter Try.func5, Try.ntmps5
  go_upto_if 44 with (first
    | (go_at_call 23; ((with_reducible refine (up_any _).mono ?_); rintro e w1 ⟨rfl, hb⟩; have HB := Lib.hid hb; clear hb))
    | (go_at_call 24; ((with_reducible refine (new_any _ _ _ (by omega) (by omega)).mono ?_); rintro e w2 ⟨rfl, hl, hb⟩; have HL := Lib.hid hl; have HS := Lib.hid (HB.out.trans (hb.mono HB.out.size)); have HZ := Lib.hid HB.out.size; clear hl hb HB)))
  go_cut [13] (fun s13 wx => s13 = .int .i64 (max lim 0) ∧ w2 = wx)
  case first =>
    by_cases h0 : lim < 0
    · have E := Lib.hid (show max lim 0 = 0 from by omega)
      go_wp2_with fail
      go_meet
      exact ⟨by rw [E.out], rfl⟩
    · have E := Lib.hid (show max lim 0 = lim from by omega)
      go_wp2_with fail
      go_meet
      exact ⟨by rw [E.out], rfl⟩
  case rest =>
  obtain ⟨rfl, rfl⟩ := hcut
  go_upto_if 47 with fail
  go_cut [14] (fun s14 wx => s14 = .int .i64 (max itv 1) ∧ w2 = wx)
  case first =>
    by_cases h0 : itv < 1
    · have E := Lib.hid (show max itv 1 = 1 from by omega)
      go_wp2_with fail
      go_meet
      exact ⟨by rw [E.out], rfl⟩
    · have E := Lib.hid (show max itv 1 = itv from by omega)
      go_wp2_with fail
      go_meet
      exact ⟨by rw [E.out], rfl⟩
  case rest =>
  obtain ⟨rfl, rfl⟩ := hcut
  obtain ⟨M, hM⟩ : ∃ M : Int, M = max lim 0 := ⟨_, rfl⟩
  obtain ⟨V, hV⟩ : ∃ V : Int, V = max itv 1 := ⟨_, rfl⟩
  have hM0 : 0 ≤ M ∧ M < 9223372036854775808 := by omega
  have hV0 : 1 ≤ V ∧ V < 9223372036854775808 := by omega
  rw [← hM, ← hV] at HL
  rw [← hM, ← hV]
  clear hM hV
  generalize w1.heap.size = b0 at HL HZ ⊢
  go_wp2_with fail
  go_loopw [15, 16, 17, 18, 19] (fun sn sf sb sl si wr => ∃ (k : Nat) (NOW FR LT : Int) (BG : Bool), k ≤ len ∧ sn = .int .u64 NOW ∧ sf = .int .u64 FR ∧ sb = .bool BG ∧ sl = .int .i64 LT ∧ si = .int .i64 k ∧ (0 ≤ FR ∧ FR ≤ NOW) ∧ NOW ≤ 1000000000000 + 256 * k ∧ (0 ≤ LT ∧ LT ≤ M) ∧
      wr.heap[b0]? = some (Lm M V FR BG LT) ∧ Below W.heap.size W wr) (fun _ _ _ _ i _ => len - (intOf i).toNat)
  case atStart => exact ⟨0, fm, 0, 0, false, by omega, rfl, rfl, rfl, rfl, rfl, by omega, by omega, by omega, HL.out, HS.out⟩
  case round =>
    obtain ⟨k, NOW, FR, LT, BG, hk, rfl, rfl, rfl, rfl, rfl, hF, hN, hT, hl, hb⟩ := hrel
    have HL' := Lib.hid hl
    have HB' := Lib.hid hb
    clear hl hb HL HS
    by_cases hlt : k < len
    rotate_left
    · go_wp2_with fail
      go_ret
      exact ⟨rfl, HB'.out⟩
    obtain ⟨b, o, rfl, hbW, hc⟩ := HC.out k hlt
    have hr := HR.out k hlt
    have hc' : wr.cell? ⟨b, o + k, none⟩ = some (.int .u8 (rs k)) := by rw [HB'.out.cell hbW]; exact hc
    clear hc
    generalize rs k = g at hr hc'
    go_upto_region 19 with fail
    go_cut [71] (fun s71 wx => s71 = .bool (ov V FR BG (NOW + g)) ∧ wr = wx)
    case first =>
      have E := Lib.hid (show (NOW + g - FR) % 18446744073709551616 = NOW + g - FR from by omega)
      cases BG
      · go_wp2_with fail
        go_meet
        exact ⟨rfl, rfl⟩
      · by_cases h0 : V ≤ NOW + g - FR
        · have E2 := Lib.hid (show ov V FR true (NOW + g) = true from by unfold ov; rw [E.out, decide_eq_true h0]; rfl)
          go_wp2_with fail
          go_meet
          exact ⟨by rw [E2.out], rfl⟩
        · have E2 := Lib.hid (show ov V FR true (NOW + g) = false from by unfold ov; rw [E.out, decide_eq_false h0]; rfl)
          go_wp2_with fail
          go_meet
          exact ⟨by rw [E2.out], rfl⟩
    case rest =>
    obtain ⟨rfl, rfl⟩ := hcut
    obtain ⟨q, hq⟩ : ∃ q : Bool, q = ov V FR BG (NOW + g) := ⟨_, rfl⟩
    rw [← hq]
    have HQ := Lib.hid hq
    clear hq
    go_upto_if 71 with fail
    go_cut [16, 17, 18] (fun s16 s17 s18 wx => (∃ (f1 l1 : Int) (b1 : Bool), s16 = .int .u64 f1 ∧ s17 = .bool b1 ∧ s18 = .int .i64 l1 ∧ Turn V FR BG LT (NOW + g) f1 b1 l1) ∧ wr = wx)
    case first =>
      cases q
      · go_wp2_with fail
        go_meet
        exact ⟨⟨_, _, _, rfl, rfl, rfl, .inr ⟨HQ.out.symm, rfl, rfl, rfl⟩⟩, rfl⟩
      · go_wp2_with fail
        go_meet
        exact ⟨⟨_, _, _, rfl, rfl, rfl, .inl ⟨HQ.out.symm, rfl, rfl, rfl⟩⟩, rfl⟩
    case rest =>
    obtain ⟨⟨f1, l1, b1, rfl, rfl, rfl, ht⟩, rfl⟩ := hcut
    obtain rfl := ht.begun
    have hf1 : 0 ≤ f1 ∧ f1 ≤ NOW + g := by rcases ht with ⟨_, rfl, _, rfl⟩ | ⟨_, rfl, _, rfl⟩ <;> omega
    have hl1 : 0 ≤ l1 ∧ l1 ≤ M := by rcases ht with ⟨_, rfl, _, rfl⟩ | ⟨_, rfl, _, rfl⟩ <;> omega
    have HT := Lib.hid ht
    clear ht
    go_upto_if 76 with fail
    go_cut [18] (fun s18 wx => s18 = .int .i64 (if l1 < M then l1 + 1 else l1) ∧ wr = wx)
    case first =>
      by_cases h0 : l1 < M
      · have E := Lib.hid (show (if l1 < M then l1 + 1 else l1) = l1 + 1 from if_pos h0)
        go_wp2_with fail
        go_meet
        exact ⟨by rw [E.out], rfl⟩
      · have E := Lib.hid (show (if l1 < M then l1 + 1 else l1) = l1 from if_neg h0)
        go_wp2_with fail
        go_meet
        exact ⟨by rw [E.out], rfl⟩
    case rest =>
    obtain ⟨rfl, rfl⟩ := hcut
    go_upto_region 28 with (
      (go_at_call 25; refine (may_any _ _ _ _ _ _ _ _ HL'.out (by omega) (by omega)).mono ?_; rintro e w5 ⟨f2, l2, b2, ht, rfl, hl, hs⟩; obtain ⟨rfl, rfl, rfl⟩ := Turn.one HT.out ht; have HL5 := Lib.hid hl; have HB5 := Lib.hid (HB'.out.trans (hs.below (fun j _ e => by have := HZ.out; omega) HB'.out.size)); clear hl hs ht))
    obtain ⟨l2, hl2⟩ : ∃ l2 : Int, l2 = (if l1 < M then l1 + 1 else l1) := ⟨_, rfl⟩
    have hl2' : 0 ≤ l2 ∧ l2 ≤ M := by rw [hl2]; split <;> omega
    rw [← hl2] at HL5
    rw [← hl2]
    clear hl2 HT
    have hw : (NOW + g + look - f1) % 18446744073709551616 = NOW + g + look - f1 := by omega
    have HW := Lib.hid hw
    clear hw
    go_upto_region 29 with fail
    go_cut [95] (fun s95 wx => s95 = .bool (decide (V ≤ NOW + g + look - f1)) ∧ w5 = wx)
    case first =>
      by_cases h0 : V ≤ NOW + g + look - f1
      · have E := Lib.hid (decide_eq_true h0)
        go_wp2_with fail
        go_meet
        exact ⟨by rw [E.out], rfl⟩
      · have E := Lib.hid (decide_eq_false h0)
        go_wp2_with fail
        go_meet
        exact ⟨by rw [E.out], rfl⟩
    case rest =>
    obtain ⟨rfl, rfl⟩ := hcut
    go_upto_if 95 with fail
    go_cut [21] (fun s21 wx => s21 = .int .i64 (left M V f1 true l2 (NOW + g + look)) ∧ w5 = wx)
    case first =>
      by_cases h0 : V ≤ NOW + g + look - f1
      · have d := decide_eq_true h0
        have E := Lib.hid (show left M V f1 true l2 (NOW + g + look) = M from by unfold left ov; rw [HW.out, d]; rfl)
        go_wp2_with fail
        go_meet
        exact ⟨by rw [E.out], rfl⟩
      · have d := decide_eq_false h0
        have E := Lib.hid (show left M V f1 true l2 (NOW + g + look) = M - l2 from by unfold left ov; rw [HW.out, d]; rfl)
        go_wp2_with fail
        go_meet
        exact ⟨by rw [E.out], rfl⟩
    case rest =>
    obtain ⟨rfl, rfl⟩ := hcut
    go_wp2_with fail
    refine (left_any _ _ _ _ _ _ _ _ HL5.out (by omega) (by omega)).mono ?_
    rintro e w' ⟨rfl, n, rfl⟩
    go_wp2_with fail
    go_roundw
    case rel => exact ⟨k + 1, NOW + g, f1, l2, true, by omega, rfl, rfl, rfl, rfl, by go_num, by omega, by omega, by omega, get_drewN HL5.out, below_drewN HB5.out _⟩
    case measure => simp [intOf]; omega

set_option maxRecDepth 100000 in
theorem plays_big (lim itv fm look : Int) (oa : Option Addr) (len cap : Nat) (W : World) (hlim : -9223372036854775808 ≤ lim ∧ lim < 9223372036854775808) (hitv : -9223372036854775808 ≤ itv ∧ itv < 9223372036854775808) (hl : len ≤ 9223372036854775807)
    (hbig : 200 < len ∨ 1000000000000 < fm) :
    Calls Try.prog 5 #[.int .i64 lim, .int .i64 itv, .int .u64 fm, .slice oa len cap, .int .u8 look] W fun e w' => e = .returned (.bool true) ∧ Below W.heap.size W w' := by
  by_cases c1 : 200 < len
  · clear hbig
    go_enter Try.func5, Try.ntmps5
    go_wp2_with (first
      | (go_at_call 23; ((with_reducible refine (up_any _).mono ?_); rintro e w1 ⟨rfl, hb⟩; have HB := Lib.hid hb; clear hb))
      | (go_at_call 24; ((with_reducible refine (new_any _ _ _ (by omega) (by omega)).mono ?_); rintro e w2 ⟨rfl, hl, hb⟩; have HS := Lib.hid (HB.out.trans (hb.mono HB.out.size)); clear hl hb HB)))
    go_ret
    exact ⟨rfl, HS.out⟩
  · have c2 : 1000000000000 < fm := by omega
    clear hbig
    go_enter Try.func5, Try.ntmps5
    go_wp2_with (first
      | (go_at_call 23; ((with_reducible refine (up_any _).mono ?_); rintro e w1 ⟨rfl, hb⟩; have HB := Lib.hid hb; clear hb))
      | (go_at_call 24; ((with_reducible refine (new_any _ _ _ (by omega) (by omega)).mono ?_); rintro e w2 ⟨rfl, hl, hb⟩; have HS := Lib.hid (HB.out.trans (hb.mono HB.out.size)); clear hl hb HB)))
    go_ret
    exact ⟨rfl, HS.out⟩

theorem plays_law (W : World) (v0 v1 v2 v3 v4 : Value) (o0 : Came Try.prog W 3 v0) (o1 : Came Try.prog W 3 v1) (o2 : Came Try.prog W 23 v2) (o3 : Came Try.prog W 40 v3) (o4 : Came Try.prog W 5 v4) :
    Calls Try.prog 5 #[v0, v1, v2, v3, v4] W fun e W' => e = .returned (.bool true) ∧ Below W.heap.size W W' := by
  obtain ⟨lim, rfl, hlim⟩ := o0.int Try.underlying3
  obtain ⟨itv, rfl, hitv⟩ := o1.int Try.underlying3
  obtain ⟨fm, rfl, hfm⟩ := o2.int Try.underlying23
  obtain ⟨look, rfl, hlook⟩ := o4.int Try.underlying5
  obtain ⟨oa, len, cap, rs, rfl, hl, hc, hi⟩ := slice_ints (o3.slice (.slice 1 (.int .u8)) (by kernel_rfl) Try.underlying40)
  have hlim := Argin.wf_i64 hlim
  have hitv := Argin.wf_i64 hitv
  have hfm := Argin.wf_u64 hfm
  have hlook := Argin.wf_u8 hlook
  unfold maxLen at hc
  by_cases hbig : 200 < len ∨ 1000000000000 < fm
  · exact plays_big lim itv fm look oa len cap W hlim hitv (by omega) hbig
  · exact plays_main lim itv fm look oa len cap rs W hlim hitv (by omega) (by omega) hlook (fun i h => Argin.wf_u8 (hi i h).1) (fun i h => (hi i h).2)

end Go.Proofs.Ytdlhleegfmnjjaa.Chal
