/- ChalFew: in as many ticks as an interval has, from the first one that was let on, and, of all, in any interval, no more than limit, or two times that, are let. Conditions: none. -/
import Derived.Test.YtdlhleegfmnjjaaChalMath
import Derived.WideLaws
import Derived.Laws.AppendOwn
namespace Go.Proofs.Ytdlhleegfmnjjaa.Chal
open Go.RowKit Argin Save
set_option linter.unusedVariables false
set_option linter.unusedSimpArgs false

theorem infoU : (Try.prog.info? 23).map (fun i => (i.zero, i.size, i.bytes)) = some (some (.int .u64 0), 1, 8) := by kernel_rfl

def us (f : Nat → Int) (k : Nat) : List Value := (List.range k).map fun (j : Nat) => Value.int .u64 (f j)
theorem us_len (f : Nat → Int) (k : Nat) : (us f k).length = k := by simp [us]
theorem us_up (f : Nat → Int) (k : Nat) (x : Int) : us (up1 f k x) (k + 1) = us f k ++ [Value.int .u64 x] := by
  simp only [us, List.range_succ, List.map_append, List.map_cons, List.map_nil, up1_at]
  congr 1
  apply List.map_congr_left
  intro j hj
  rw [List.mem_range] at hj
  rw [up1_ne _ _ _ (by omega)]
theorem us_get (f : Nat → Int) (k j : Nat) (h : j < k) : (us f k)[j]? = some (.int .u64 (f j)) := by simp [us, h]
theorem us_cells {w : World} {base : Nat} {f : Nat → Int} {v : Value} {k : Nat} (h : w.ownsRow base 23 1 v k (us f k)) : (v = .slice none 0 0 ∧ k = 0) ∨ ∃ g cap, v = .slice (some ⟨g, 0, none⟩) k cap ∧ ∀ j, j < k → w.cell? ⟨g, j, none⟩ = some (.int .u64 (f j)) := by
  obtain ⟨h1, h2 | ⟨g, cap, cur, rfl, hg, hh, hk, hc, hsz, hx⟩⟩ := h
  · exact .inl h2
  · refine .inr ⟨g, cap, rfl, fun j hj => ?_⟩
    rw [cell_get hh]
    have := us_get f k j hj
    rw [← hx, List.getElem?_take_of_lt (by omega)] at this
    simpa using this

set_option maxRecDepth 100000 in
set_option maxHeartbeats 4000000 in
theorem few_main (m : Nat) (V : Int) (oa : Option Addr) (len cap : Nat) (rs : Nat → Int) (W : World) (hm : m ≤ 1000) (hV : 1 ≤ V ∧ V ≤ 1000) (hlen : len ≤ 200)
    (hrs : ∀ i, i < len → 0 ≤ rs i ∧ rs i < 256) (hcell : ∀ i, i < len → ∃ b o, oa = some ⟨b, o, none⟩ ∧ b < W.heap.size ∧ W.cell? ⟨b, o + i, none⟩ = some (.int .u8 (rs i))) :
    Calls Try.prog 6 #[.int .i64 (m : Int), .int .i64 V, .slice oa len cap] W fun e w' => e = .returned (.bool true) ∧ Below W.heap.size W w' := by
  have HR := Lib.hid hrs
  have HC := Lib.hid hcell
  have HV := Lib.hid hV.1
  obtain ⟨i0, hi, hz0, hz1, hz2⟩ := info_parts infoU
  clear hrs hcell
  go_enter Try.func6, Try.ntmps6
  go_wp2_with (first
    | (go_at_call 23; ((with_reducible refine (up_any _).mono ?_); rintro e w1 ⟨rfl, hb⟩; have HB := Lib.hid hb; clear hb))
    | (go_at_call 24; ((with_reducible refine (new_any _ _ _ (by omega) (by omega)).mono ?_); rintro e w2 ⟨rfl, hl, hb⟩; rw [show max (m : Int) 0 = m from by omega, show max V 1 = V from by omega] at hl; have HL := Lib.hid hl; have HS := Lib.hid (HB.out.trans (hb.mono HB.out.size)); have HZ := Lib.hid HB.out.size; clear hl hb HB)))
  generalize w1.heap.size = b0 at HL HZ ⊢
  go_loopw [9, 10, 11] (fun v sn si wr => ∃ (k n : Nat) (NOW FR LT : Int) (BG : Bool) (L B : Nat → Int), k ≤ len ∧ n ≤ k ∧ sn = .int .u64 NOW ∧ si = .int .i64 k ∧ (0 ≤ FR ∧ FR ≤ NOW) ∧ NOW ≤ 256 * k ∧ WI V FR NOW m BG LT n L B ∧
      wr.heap[b0]? = some (Lm m V FR BG LT) ∧ wr.ownsRow (b0 + 1) 23 1 v n (us L n) ∧ Below W.heap.size W wr) (fun _ _ i _ => len - (intOf i).toNat)
  case atStart => exact ⟨0, 0, 0, 0, 0, false, fun _ => 0, fun _ => 0, by omega, by omega, rfl, rfl, by omega, by omega, WI.start _ _ _ _, HL.out, World.ownsRow_nil _ _ _ _, HS.out⟩
  case round =>
    obtain ⟨k, n, NOW, FR, LT, BG, L, B, hk, hn, rfl, rfl, hF, hN, hw, hl, ho, hb⟩ := hrel
    have HW := Lib.hid hw
    have HL' := Lib.hid hl
    have HO := Lib.hid ho
    have HB' := Lib.hid hb
    clear hl ho hb hw HL HS
    by_cases hlt : k < len
    · obtain ⟨b, o, rfl, hbW, hc⟩ := HC.out k hlt
      have hr := HR.out k hlt
      have hc' : wr.cell? ⟨b, o + k, none⟩ = some (.int .u8 (rs k)) := by rw [HB'.out.cell hbW]; exact hc
      have hlt' := HW.out.lt
      clear hc
      generalize rs k = g at hr hc'
      go_wp2_with fail
      refine (may_any _ _ _ _ _ _ _ _ HL'.out (by omega) (by omega)).mono ?_
      rintro e w5 ⟨f1, l1, b1, ht, rfl, hl, hs⟩
      have HL5 := Lib.hid hl
      have HT := Lib.hid (show Turn V FR BG LT (NOW + g) f1 b1 l1 from ht)
      have HS5 := Lib.hid hs
      clear hl hs ht
      obtain rfl := HT.out.begun
      have hl1 : 0 ≤ l1 ∧ l1 ≤ m := by rcases HT.out with ⟨_, rfl, _, rfl⟩ | ⟨_, rfl, _, rfl⟩ <;> omega
      have hf1 : 0 ≤ f1 ∧ f1 ≤ NOW + g := by rcases HT.out with ⟨_, rfl, _, rfl⟩ | ⟨_, rfl, _, rfl⟩ <;> omega
      have hst := HW.out.step (by omega) hr.1 hF (by omega) HT.out
      have HST := Lib.hid hst
      have hz5 := HS5.out.size
      have hb0 := lt_of_get HL'.out
      have HB5 := Lib.hid (HB'.out.trans (HS5.out.below (fun j _ e => by have := HZ.out; omega) HB'.out.size))
      have HO5 := Lib.hid (owns_save HO.out HS5.out (fun j e => by left; omega))
      clear hst
      by_cases c : l1 < m
      · have hw2 := Lib.hid (HST.out.1 c)
        have E := decide_eq_true c
        have hl5 := HL5.out
        rw [if_pos c] at hl5
        have HL6 := Lib.hid hl5
        clear hl5
        go_wp2_with (at_builtin; refine wpList_append_own _ rfl _ _ 22 rfl (b0 + 1) 23 i0 (.int .u64 0) 1 8 Try.underlying22 hi hz0 hz1 hz2 rfl (by decide) _ _ _ rfl (HO5.out.alloc _) ⟨w5.heap.size, 0, none⟩ 1 1 [.int .u64 (NOW + g)] rfl rfl ?c1 ?c2 ?c3 ?c4 ?c5 ?_)
        case c1 => exact news_one _ _ _
        case c2 => intro u hu; simp only [List.mem_singleton] at hu; subst hu; rfl
        case c3 => unfold maxLen; omega
        case c4 => omega
        case c5 => simp; omega
        intro v' w6 ho hg _
        have hl7 : w6.heap[b0]? = some (Lm m V f1 true (l1 + 1)) := by
          rw [hg.block b0 (by simp; omega) (fun e => by have := HO5.out.lt b0 e.symm; omega)]
          exact get_alloc_old _ HL6.out
        have HB6 := Lib.hid (HB5.out.trans (((Below.refl w5.heap.size w5).alloc (Nat.le_refl _) (.cells #[.int .u64 (NOW + g)] 23)).mono HB5.out.size))
        have HB7 := Lib.hid (HB6.out.grown hg (by have := HB5.out.size; simp; omega) (fun j e => by have := HO5.out.lt j e; have := HZ.out; omega))
        have HL7 := Lib.hid hl7
        have HO7 := Lib.hid ho
        clear ho hg hl7 HB6
        go_wp2_with fail
        go_roundw
        case rel => exact ⟨k + 1, n + 1, NOW + g, f1, l1 + 1, true, _, _, by omega, by omega, rfl, by go_num, by omega, by omega, hw2.out, HL7.out, by rw [us_up]; exact HO7.out, HB7.out⟩
        case measure => simp [intOf]; omega
      · have hw2 := Lib.hid (HST.out.2 c)
        have E := decide_eq_false c
        have hl5 := HL5.out
        rw [if_neg c] at hl5
        have HL6 := Lib.hid hl5
        clear hl5
        go_wp2_with fail
        go_roundw
        case rel => exact ⟨k + 1, n, NOW + g, f1, l1, true, _, _, by omega, by omega, rfl, by go_num, by omega, by omega, hw2.out, HL6.out, HO5.out, HB5.out⟩
        case measure => simp [intOf]; omega
    · have HF := Lib.hid (fun i j (a : j < n) (c : i + top m i ≤ j) => HW.out.few (by omega) a c)
      have HM := Lib.hid (fun i j (a : i ≤ j) (c : j < n) => HW.out.mono i j a c)
      have HD := Lib.hid (fun j (c : j < n) => HW.out.bd j c)
      rcases us_cells HO.out with ⟨rfl, rfl⟩ | ⟨g, cp, rfl, hc⟩
      · go_wp2_with fail
        go_loop [12] (fun i => i = .int .i64 0) (fun _ => 0)
        case atStart => rfl
        case round =>
          subst hrel
          go_wp2_with fail
          go_ret
          exact ⟨rfl, HB'.out⟩
      · have HC2 := Lib.hid hc
        clear hc
        go_wp2_with fail
        go_loopw [12] (fun si wx => ∃ i : Nat, i ≤ n ∧ si = .int .i64 i ∧ Drew wr wx) (fun i _ => n - (intOf i).toNat)
        case atStart => exact ⟨0, by omega, rfl, Drew.refl _⟩
        case round =>
          obtain ⟨i, hin, rfl, nd, rfl⟩ := hrel
          by_cases hi2 : i < n
          · have ci := HC2.out i hi2
            have di := HD.out i hi2
            generalize hLi : L i = a at ci di
            have HA := Lib.hid hLi
            clear hLi
            have htop : top m i = m ∧ i = 0 ∨ top m i = 2 * m ∧ i ≠ 0 := by unfold top; by_cases e : i = 0 <;> simp [e]
            go_wp2_with fail
            go_loopw [13, 14] (fun sc sj wx => ∃ (c j : Nat), i ≤ j ∧ j ≤ n ∧ sc = .int .i64 c ∧ sj = .int .i64 j ∧ c ≤ j - i ∧ c ≤ top m i ∧ Drew wr wx) (fun _ j _ => n - (intOf j).toNat)
            case atStart => exact ⟨0, i, by omega, by omega, rfl, rfl, by omega, by omega, _, rfl⟩
            case round =>
              obtain ⟨c, j, hij, hjn, rfl, rfl, hcj, hct, nd2, rfl⟩ := hrel
              by_cases hj2 : j < n
              · have cj := HC2.out j hj2
                have dj := HD.out j hj2
                have hmn := HM.out i j hij hj2
                have hfw := HF.out i j hj2
                rw [HA.out] at hmn hfw
                generalize L j = b at cj dj hmn hfw
                have HFW := Lib.hid hfw
                have hs : IntKind.u64.wrap (b - a) = b - a := by rw [u64_wrap]; omega
                clear hfw
                by_cases q : b - a < V
                · have hcc : c < top m i := by have := HFW.out; omega
                  have E := decide_eq_true q
                  go_wp2_with fail
                  go_quiet (fail)
                  go_wp2_with fail
                  go_roundw
                  case rel => exact ⟨c + 1, j + 1, by omega, by omega, by go_num, by go_num, by omega, by omega, _, rfl⟩
                  case measure => simp [intOf]; omega
                · have E := decide_eq_false q
                  go_wp2_with fail
                  go_quiet (fail)
                  go_wp2_with fail
                  go_roundw
                  case rel => exact ⟨c, j + 1, by omega, by omega, rfl, by go_num, by omega, by omega, _, rfl⟩
                  case measure => simp [intOf]; omega
              · by_cases e0 : i = 0
                · subst e0
                  have hc1 : (c : Int) ≤ m := by omega
                  have E : decide ((m : Int) < c) = false := decide_eq_false (by omega)
                  have E2 : decide (2 * (m : Int) < c) = false := decide_eq_false (by omega)
                  go_wp2_with fail
                  go_roundw
                  case rel => exact ⟨1, by omega, by go_num, _, rfl⟩
                  case measure => simp [intOf]; omega
                · have hc1 : (c : Int) ≤ 2 * m := by omega
                  have E0 : (((i : Nat) : Int) == 0) = false := beq_eq_false_iff_ne.2 (by omega)
                  have E2 : decide (2 * (m : Int) < c) = false := decide_eq_false (by omega)
                  go_wp2_with fail
                  go_roundw
                  case rel => exact ⟨i + 1, by omega, by go_num, _, rfl⟩
                  case measure => simp [intOf]; omega
          · go_wp2_with fail
            go_ret
            exact ⟨rfl, below_drewN HB'.out _⟩

set_option maxRecDepth 100000 in
theorem few_big (lim V : Int) (oa : Option Addr) (len cap : Nat) (W : World) (hlim : -9223372036854775808 ≤ lim ∧ lim < 9223372036854775808) (hitv : -9223372036854775808 ≤ V ∧ V < 9223372036854775808) (hl : len ≤ 9223372036854775807)
    (hbig : 200 < len ∨ lim < 0 ∨ 1000 < lim ∨ V < 1 ∨ 1000 < V) :
    Calls Try.prog 6 #[.int .i64 lim, .int .i64 V, .slice oa len cap] W fun e w' => e = .returned (.bool true) ∧ Below W.heap.size W w' := by
  by_cases c0 : 200 < len
  rotate_left
  by_cases c1 : lim < 0
  rotate_left
  by_cases c2 : 1000 < lim
  rotate_left
  by_cases c3 : V < 1
  rotate_left
  have c4 : 1000 < V := by omega
  all_goals
    clear hbig
    go_enter Try.func6, Try.ntmps6
    go_wp2_with (first
      | (go_at_call 23; ((with_reducible refine (up_any _).mono ?_); rintro e w1 ⟨rfl, hb⟩; have HB := Lib.hid hb; clear hb))
      | (go_at_call 24; ((with_reducible refine (new_any _ _ _ (by omega) (by omega)).mono ?_); rintro e w2 ⟨rfl, hl, hb⟩; have HS := Lib.hid (HB.out.trans (hb.mono HB.out.size)); clear hl hb HB)))
    go_ret
    exact ⟨rfl, HS.out⟩

theorem few_law (W : World) (v0 v1 v2 : Value) (o0 : Came Try.prog W 3 v0) (o1 : Came Try.prog W 3 v1) (o2 : Came Try.prog W 40 v2) :
    Calls Try.prog 6 #[v0, v1, v2] W fun e W' => e = .returned (.bool true) ∧ Below W.heap.size W W' := by
  obtain ⟨lim, rfl, hlim⟩ := o0.int Try.underlying3
  obtain ⟨itv, rfl, hitv⟩ := o1.int Try.underlying3
  obtain ⟨oa, len, cap, rs, rfl, hl, hc, hi⟩ := slice_ints (o2.slice (.slice 1 (.int .u8)) (by kernel_rfl) Try.underlying40)
  have hlim := Argin.wf_i64 hlim
  have hitv := Argin.wf_i64 hitv
  unfold maxLen at hc
  by_cases hbig : 200 < len ∨ lim < 0 ∨ 1000 < lim ∨ itv < 1 ∨ 1000 < itv
  · exact few_big lim itv oa len cap W hlim hitv (by omega) hbig
  · obtain ⟨m, rfl⟩ : ∃ m : Nat, lim = m := ⟨lim.toNat, by omega⟩
    exact few_main m itv oa len cap rs W (by omega) (by omega) (by omega) (fun i h => Argin.wf_u8 (hi i h).1) (fun i h => (hi i h).2)

end Go.Proofs.Ytdlhleegfmnjjaa.Chal
