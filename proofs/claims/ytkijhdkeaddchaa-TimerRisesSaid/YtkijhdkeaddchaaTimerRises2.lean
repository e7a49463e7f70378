/- TimerRises: the law's walk. Conditions: none. -/
import Derived.Test.YtkijhdkeaddchaaTimerRises
namespace Go.Proofs.Ytkijhdkeaddchaa.Timer
open Go.RowKit Go.Maps Argin Save
set_option linter.unusedVariables false
set_option linter.unusedSimpArgs false

/-- Deeds that came in: each one's identity and deadline. -/
def Rows (W : World) (oa : Option Addr) (len : Nat) (ids ats : Nat → Int) : Prop := ∀ i, i < len → ∃ b o, oa = some ⟨b, o, none⟩ ∧ b < W.heap.size ∧ W.cell? ⟨b, o + i * 3 + 1, none⟩ = some (.int .i64 (ids i)) ∧ W.cell? ⟨b, o + i * 3 + 2, none⟩ = some (.int .u64 (ats i)) ∧ KIn (ids i) ∧ VIn (ats i)

def Known (len : Nat) (ids : Nat → Int) (f : Int → Option Int) : Prop := ∀ k v, f k = some v → VIn v ∧ KIn k ∧ ∃ j, j < len ∧ ids j = k

set_option maxRecDepth 100000 in
set_option maxHeartbeats 4000000 in
theorem rises_main (oa : Option Addr) (len cap : Nat) (ids ats : Nat → Int) (now rto tries most : Int) (W : World) (hlen : len ≤ 150) (hrow : Rows W oa len ids ats) (hnow : VIn now) (hr : KIn rto) (ht : KIn tries) (hm : KIn most) :
    Calls Try.prog 5 #[.slice oa len cap, .int .u64 now, .int .i64 rto, .int .i64 tries, .int .i64 most] W fun e w' => e = .returned (.bool true) ∧ Below W.heap.size W w' := by
  have HRow := Lib.hid hrow
  have HNow := Lib.hid hnow
  have HR := Lib.hid hr
  have HT := Lib.hid ht
  have HM := Lib.hid hm
  have g1 : decide (150 < (len : Int)) = false := decide_eq_false (by omega)
  clear hrow hnow hr ht hm
  go_enter Try.func5, Try.ntmps5
  go_wp2_with fail
  refine (up_any _).mono ?_
  rintro e w1 ⟨rfl, hb⟩
  have HB := Lib.hid hb
  clear hb
  go_wp2_with fail
  refine (new_any _).mono ?_
  rintro e w2 ⟨p, b, rfl, hq, hp, hb, hB⟩
  have HQ := Lib.hid hq
  have HB2 := Lib.hid (HB.out.trans (hB.mono HB.out.size))
  have hpW : W.heap.size ≤ p := Nat.le_trans HB.out.size hp
  have hbW : W.heap.size ≤ b := Nat.le_trans HB.out.size hb
  clear hq hB hp hb HB
  go_wp2_with fail
  go_loopw [13] (fun si wr => ∃ (i c : Nat) (f : Int → Option Int), i ≤ len ∧ si = .int .i64 i ∧ c ≤ i ∧ Qu wr p b i f c ∧ Known len ids f ∧ Below W.heap.size W wr) (fun si _ => len - (intOf si).toNat)
  case atStart => exact ⟨0, 0, _, by omega, rfl, by omega, HQ.out, (fun k v h => by cases h), HB2.out⟩
  case round =>
    obtain ⟨i, c, f, hi, rfl, hci, hq, hk, hb⟩ := hrel
    have HQ := Lib.hid hq
    have HK := Lib.hid hk
    have HB := Lib.hid hb
    clear hq hk hb HB2
    by_cases hlt : i < len
    · obtain ⟨ab, ao, rfl, hab, h1, h2, hik, hiv⟩ := HRow.out i hlt
      have c1 : wr.cell? ⟨ab, ao + i * 3 + 1, none⟩ = some (.int .i64 (ids i)) := by rw [HB.out.cell (p := ⟨ab, ao + i * 3 + 1, none⟩) hab]; exact h1
      have c2 : wr.cell? ⟨ab, ao + i * 3 + 2, none⟩ = some (.int .u64 (ats i)) := by rw [HB.out.cell (p := ⟨ab, ao + i * 3 + 2, none⟩) hab]; exact h2
      have HIK := Lib.hid hik
      have HIV := Lib.hid hiv
      clear h1 h2 hik hiv
      go_wp2_with fail
      refine wp_region_still_tail 11 (by kernel_rfl) (by kernel_rfl) ?_
      simp only [List.take_succ_cons, List.take_zero, List.drop_succ_cons, List.drop_zero]
      repeat still_step
      refine wpStill_nil ?_
      change wpList _ _ _ _ _ (World.drew _)
      go_wp2_with fail
      have hqd : Qu wr.drew p b i f c := HQ.out
      refine (arm_any _ _ _ _ _ _ _ _ hqd HIK.out HIV.out (by omega)).mono ?_
      rintro e w3 ⟨rfl, hq, hs⟩
      have HQ3 := Lib.hid hq
      have HB3 := Lib.hid ((below_drewN HB.out 1).trans (hs.below (B := W.heap.size) (fun k _ e => by omega) HB.out.size))
      have HK3 := Lib.hid (show Known len ids (put f (ids i) (some (ats i))) from fun k v h => by
        by_cases e : k = ids i
        · subst e; rw [put_same] at h; cases h; exact ⟨HIV.out, HIK.out, i, hlt, rfl⟩
        · rw [put_other _ _ e] at h; exact HK.out k v h)
      have hm1 : more (f (ids i)) c ≤ i + 1 := by unfold more; split <;> omega
      clear hq hs hqd c1 c2
      go_wp2_with fail
      go_roundw
      case rel => exact ⟨i + 1, _, _, by omega, by go_num, hm1, HQ3.out, HK3.out, HB3.out⟩
      case measure => simp [intOf]; omega
    · go_wp2_with fail
      refine (len_any _ _ _ _ _ _ HQ.out).mono ?_
      rintro e w3 ⟨rfl, rfl⟩
      go_wp2_with fail
      have HC := Lib.hid (show c ≤ 150 by omega)
      go_loopw [15, 16, 17] (fun sl se si wx => ∃ (i2 c2 : Nat) (f2 : Int → Option Int) (last en : Int), sl = .int .i64 last ∧ se = .int .u64 en ∧ si = .int .i64 i2 ∧ c2 + i2 = c ∧ Qu wx p b i f2 c2 ∧ Known len ids f2 ∧ (0 < i2 → ∀ k v, f2 k = some v → v ≤ now → en < v ∨ (en = v ∧ last < k)) ∧ Below W.heap.size W wx) (fun _ _ si _ => c + 1 - (intOf si).toNat)
      case atStart => exact ⟨0, c, f, 0, 0, rfl, rfl, rfl, by omega, HQ.out, HK.out, (fun h => by omega), HB.out⟩
      case round =>
        clear HQ HK HB
        obtain ⟨i2, c2, f2, last, en, rfl, rfl, rfl, hc2, hq, hk, hri, hb⟩ := hrel
        have HQ := Lib.hid hq
        have HK := Lib.hid hk
        have HRI := Lib.hid hri
        have HB := Lib.hid hb
        have HC2 := Lib.hid hc2
        have g2 : decide ((i2 : Int) ≤ c) = true := decide_eq_true (by omega)
        have g3 : i2 ≤ c := by omega
        clear hq hk hri hb hc2
        go_wp2_with fail
        go_loop [18, 19] (fun sa sk => ∃ (j : Nat) (m : Int), sa = .int .u64 m ∧ sk = .int .i64 j ∧ j ≤ len ∧ m ≤ now ∧ (∀ q, q < j → ∀ t, f2 (ids q) = some t → m ≤ t) ∧ (m = now ∨ ∃ k, KIn k ∧ f2 k = some m)) (fun _ sk => len - (intOf sk).toNat)
        case atStart => exact ⟨0, now, rfl, rfl, by omega, by omega, (fun q h => by omega), .inl rfl⟩
        case round =>
          obtain ⟨j, m, rfl, rfl, hj, hmn, hmin, hme⟩ := hrel
          have HMIN := Lib.hid hmin
          have HME := Lib.hid hme
          clear hmin hme
          by_cases hjl : j < len
          · obtain ⟨ab, ao, rfl, hab, h1, h2, hik, hiv⟩ := HRow.out j hjl
            have c1 : wr.cell? ⟨ab, ao + j * 3 + 1, none⟩ = some (.int .i64 (ids j)) := by rw [HB.out.cell (p := ⟨ab, ao + j * 3 + 1, none⟩) hab]; exact h1
            have HIK := Lib.hid hik
            clear h1 h2 hik hiv
            go_wp2_with fail
            refine (at_any _ _ _ _ _ _ _ HQ.out HIK.out).mono ?_
            rintro e w3 ⟨rfl, rfl⟩
            cases hf : f2 (ids j) with
            | none =>
              have HF := Lib.hid hf
              clear hf
              rw [show (none : Option Int).getD 0 = 0 from rfl, show (none : Option Int).isSome = false from rfl]
              go_wp2_with fail
              go_round
              case rel => exact ⟨j + 1, m, rfl, by go_num, by omega, hmn, (fun q hq t ht => by
                by_cases e : q = j
                · subst e; rw [HF.out] at ht; cases ht
                · exact HMIN.out q (by omega) t ht), HME.out⟩
              case measure => simp [intOf]; omega
            | some t =>
              have HF := Lib.hid hf
              clear hf
              rw [show (some t : Option Int).getD 0 = t from rfl, show (some t : Option Int).isSome = true from rfl]
              by_cases hlt2 : t < m
              · have E := decide_eq_true hlt2
                go_wp2_with fail
                go_round
                case rel => exact ⟨j + 1, t, rfl, by go_num, by omega, by omega, (fun q hq u hu => by
                  by_cases e : q = j
                  · subst e; rw [HF.out] at hu; cases hu; omega
                  · have := HMIN.out q (by omega) u hu; omega), .inr ⟨_, HIK.out, HF.out⟩⟩
                case measure => simp [intOf]; omega
              · have E := decide_eq_false hlt2
                go_wp2_with fail
                go_round
                case rel => exact ⟨j + 1, m, rfl, by go_num, by omega, hmn, (fun q hq u hu => by
                  by_cases e : q = j
                  · subst e; rw [HF.out] at hu; cases hu; omega
                  · exact HMIN.out q (by omega) u hu), HME.out⟩
                case measure => simp [intOf]; omega
          · obtain rfl : j = len := by omega
            go_wp2_with fail
            refine (pop_any _ _ _ _ _ _ _ HQ.out).mono ?_
            rintro e w3 ⟨k, v, met, hsc, rfl, hq, hs⟩
            have HB3 := Lib.hid (HB.out.trans (hs.below (B := W.heap.size) (fun y _ e => by have := HB.out.size; omega) HB.out.size))
            cases met
            · have hq2 : Qu w3 p b i f2 c2 := by simpa using hq
              have HQ3 := Lib.hid hq2
              have HNO := Lib.hid (show ∀ k v, KIn k → f2 k = some v → now < v from fun k v a b => by unfold Scan at hsc; rw [if_neg (by simp)] at hsc; exact hsc.2.2 k v a b)
              clear hq hq2 hsc hs
              go_wp2_with fail
              go_loop [24] (fun sk => ∃ q : Nat, q ≤ j ∧ sk = .int .i64 q) (fun sk => j - (intOf sk).toNat)
              case atStart => exact ⟨0, by omega, rfl⟩
              case round =>
                obtain ⟨q, hqj, rfl⟩ := hrel
                by_cases hql : q < j
                · obtain ⟨ab, ao, rfl, hab, h1, h2, hik, hiv⟩ := HRow.out q hql
                  have c1 : w3.cell? ⟨ab, ao + q * 3 + 1, none⟩ = some (.int .i64 (ids q)) := by rw [HB3.out.cell (p := ⟨ab, ao + q * 3 + 1, none⟩) hab]; exact h1
                  have HIK := Lib.hid hik
                  clear h1 h2 hik hiv
                  go_wp2_with fail
                  refine (at_any _ _ _ _ _ _ _ HQ3.out HIK.out).mono ?_
                  rintro e w4 ⟨rfl, rfl⟩
                  cases hf : f2 (ids q) with
                  | none =>
                    clear hf
                    rw [show (none : Option Int).getD 0 = 0 from rfl, show (none : Option Int).isSome = false from rfl]
                    go_wp2_with fail
                    go_round
                    case rel => exact ⟨q + 1, by omega, by go_num⟩
                    case measure => simp [intOf]; omega
                  | some t =>
                    have E : decide (t ≤ now) = false := decide_eq_false (by have := HNO.out _ t HIK.out hf; omega)
                    clear hf
                    rw [show (some t : Option Int).getD 0 = t from rfl, show (some t : Option Int).isSome = true from rfl]
                    go_wp2_with fail
                    go_round
                    case rel => exact ⟨q + 1, by omega, by go_num⟩
                    case measure => simp [intOf]; omega
                · go_wp2_with fail
                  refine (back_any _ _ _ _ HR.out HT.out HM.out).mono ?_
                  rintro e w4 ⟨rfl, rfl⟩
                  obtain ⟨A, hA⟩ : ∃ A, A = back rto tries most := ⟨_, rfl⟩
                  rw [← hA]
                  have hm := HM.out
                  have ht := HT.out
                  unfold KIn at hm ht
                  have hA1 : 1 ≤ A := by
                    have := bkf_pos (max most 1) (by omega) tries.toNat (max rto 1) (by omega)
                    rw [hA]; unfold back; omega
                  have hA2 : A ≤ max most 1 := by rw [hA]; unfold back; omega
                  have HA := Lib.hid hA
                  clear hA
                  have F1 : decide (A < 1) = false := decide_eq_false (by omega)
                  have hend : ∀ T : Int, tries ≤ 100 → T = back rto (tries + 1) most → A ≤ T := fun T h1 hT => by
                    rw [HA.out, hT]
                    unfold back
                    by_cases h0 : 0 ≤ tries
                    · rw [show (tries + 1).toNat = tries.toNat + 1 from by omega]
                      exact bkf_mono (max most 1) (by omega) _ _ (by omega)
                    · rw [show (tries + 1).toNat = 0 from by omega, show tries.toNat = 0 from by omega]
                      exact Int.le_refl _
                  have HEND := Lib.hid hend
                  clear hend
                  by_cases hmo : 0 < most
                  · have F2 : decide (0 < most) = true := decide_eq_true hmo
                    have F3 : decide (most < A) = false := decide_eq_false (by omega)
                    have F4 : decide (most < 1) = false := decide_eq_false (by omega)
                    by_cases htr : 100 < tries
                    · have F5 : decide (100 < tries) = true := decide_eq_true htr
                      go_wp2_with fail
                      go_ret
                      exact ⟨rfl, HB3.out⟩
                    · have F5 : decide (100 < tries) = false := decide_eq_false htr
                      have HT2 := Lib.hid (show KIn (tries + 1) by unfold KIn; omega)
                      go_wp2_with fail
                      refine (back_any _ _ _ _ HR.out HT2.out HM.out).mono ?_
                      rintro e w5 ⟨rfl, rfl⟩
                      obtain ⟨T, hT⟩ : ∃ T, T = back rto (tries + 1) most := ⟨_, rfl⟩
                      rw [← hT]
                      have F6 : decide (A ≤ T) = true := decide_eq_true (HEND.out T (by omega) hT)
                      clear hT
                      go_wp2_with fail
                      go_ret
                      exact ⟨rfl, HB3.out⟩
                  · have F2 : decide (0 < most) = false := decide_eq_false hmo
                    have F4 : decide (most < 1) = true := decide_eq_true (by omega)
                    have F7 : (A != 1) = false := by simp; omega
                    by_cases htr : 100 < tries
                    · have F5 : decide (100 < tries) = true := decide_eq_true htr
                      go_wp2_with fail
                      go_ret
                      exact ⟨rfl, HB3.out⟩
                    · have F5 : decide (100 < tries) = false := decide_eq_false htr
                      have HT2 := Lib.hid (show KIn (tries + 1) by unfold KIn; omega)
                      go_wp2_with fail
                      refine (back_any _ _ _ _ HR.out HT2.out HM.out).mono ?_
                      rintro e w5 ⟨rfl, rfl⟩
                      obtain ⟨T, hT⟩ : ∃ T, T = back rto (tries + 1) most := ⟨_, rfl⟩
                      rw [← hT]
                      have F6 : decide (A ≤ T) = true := decide_eq_true (HEND.out T (by omega) hT)
                      clear hT
                      go_wp2_with fail
                      go_ret
                      exact ⟨rfl, HB3.out⟩
            · have hle : Least f2 now KIn k v := by unfold Scan at hsc; rwa [if_pos rfl] at hsc
              have hq2 : Qu w3 p b i (put f2 k none) (less (f2 k) c2) := by simpa using hq
              have hpos := HQ.out.pos hle.2.1
              have hless : less (f2 k) c2 = c2 - 1 := by unfold less; rw [hle.2.1]; rfl
              rw [hless] at hq2
              have hvm : v = m := by
                obtain ⟨_, _, q, hql, rfl⟩ := HK.out k v hle.2.1
                have h1 := HMIN.out q hql v hle.2.1
                rcases HME.out with h2 | ⟨k2, h2, h3⟩
                · have := hle.2.2.1; omega
                · have := hle.2.2.2 k2 m h2 h3 hmn; omega
              subst hvm
              have HQ3 := Lib.hid hq2
              have HLE := Lib.hid hle
              have HK3 := Lib.hid (show Known j ids (put f2 k none) from fun x u h => by
                by_cases e : x = k
                · subst e; rw [put_same] at h; cases h
                · rw [put_other _ _ e] at h; exact HK.out x u h)
              have HRI3 := Lib.hid (show ∀ x u, put f2 k none x = some u → u ≤ now → v < u ∨ (v = u ∧ k < x) from fun x u h hu => by
                by_cases e : x = k
                · subst e; rw [put_same] at h; cases h
                · rw [put_other _ _ e] at h
                  have := hle.2.2.2 x u (HK.out x u h).2.1 h hu
                  omega)
              have hnew : 0 < i2 → en < v ∨ (en = v ∧ last < k) := fun h0 => HRI.out h0 k v hle.2.1 hle.2.2.1
              have HCC := Lib.hid (show c2 - 1 + (i2 + 1) = c by have := HC2.out; omega)
              clear hq hq2 hsc hs hless hle hpos
              by_cases hi0 : i2 = 0
              · have E0 : decide (0 < (i2 : Int)) = false := decide_eq_false (by omega)
                have E1 : decide (0 < i2) = false := decide_eq_false (by omega)
                clear hnew
                go_wp2_with fail
                go_roundw
                case rel => exact ⟨i2 + 1, c2 - 1, _, k, v, rfl, rfl, by go_num, HCC.out, HQ3.out, HK3.out, (fun _ => HRI3.out), HB3.out⟩
                case measure => simp [intOf]; omega
              · have E0 : decide (0 < (i2 : Int)) = true := decide_eq_true (by omega)
                have E1 : decide (0 < i2) = true := decide_eq_true (by omega)
                have hn2 := hnew (by omega)
                have E2 : decide (v < en) = false := decide_eq_false (by omega)
                clear hnew
                by_cases heq : v = en
                · have E3 : (v == en) = true := beq_iff_eq.2 heq
                  have E4 : decide (k ≤ last) = false := decide_eq_false (by omega)
                  clear heq hn2
                  go_wp2_with fail
                  go_roundw
                  case rel => exact ⟨i2 + 1, c2 - 1, _, k, v, rfl, rfl, by go_num, HCC.out, HQ3.out, HK3.out, (fun _ => HRI3.out), HB3.out⟩
                  case measure => simp [intOf]; omega
                · have E3 : (v == en) = false := beq_eq_false_iff_ne.2 heq
                  clear heq hn2
                  go_wp2_with fail
                  go_roundw
                  case rel => exact ⟨i2 + 1, c2 - 1, _, k, v, rfl, rfl, by go_num, HCC.out, HQ3.out, HK3.out, (fun _ => HRI3.out), HB3.out⟩
                  case measure => simp [intOf]; omega

set_option maxRecDepth 100000 in
theorem rises_long (oa : Option Addr) (len cap : Nat) (now rto tries most : Int) (W : World) (hlen : 150 < len) (hmax : len ≤ 9223372036854775807) :
    Calls Try.prog 5 #[.slice oa len cap, .int .u64 now, .int .i64 rto, .int .i64 tries, .int .i64 most] W fun e w' => e = .returned (.bool true) ∧ Below W.heap.size W w' := by
  go_enter Try.func5, Try.ntmps5
  go_wp2_with fail
  refine (up_any _).mono ?_
  rintro e w1 ⟨rfl, hb⟩
  have HB := Lib.hid hb
  clear hb
  go_wp2_with fail
  refine (new_any _).mono ?_
  rintro e w2 ⟨p, b, rfl, hq, hp, hb, hB⟩
  have HB2 := Lib.hid (HB.out.trans (hB.mono HB.out.size))
  clear hq hB hp hb HB
  go_wp2_with fail
  go_ret
  exact ⟨rfl, HB2.out⟩

theorem rows_of {W : World} {v : Value} (o : Came Try.prog W 53 v) : ∃ (oa : Option Addr) (len cap : Nat) (ids ats whats : Nat → Int), v = .slice oa len cap ∧ len ≤ cap ∧ cap ≤ maxLen ∧ Rows W oa len ids ats ∧
    ∀ i, i < len → ∃ b o, oa = some ⟨b, o, none⟩ ∧ b < W.heap.size ∧ W.cell? ⟨b, o + i * 3, none⟩ = some (.int .i64 (whats i)) ∧ KIn (whats i) := by
  obtain ⟨oa, len, cap, rfl, hlc, hc, hi⟩ := Open.slice_elems (by omega) (o.slice (.slice 3 (.agg [.int .i64, .int .i64, .int .u64])) (by kernel_rfl) Try.underlying53)
  have key : ∀ i, i < len → ∃ (a d t : Int) (b o : Nat), oa = some ⟨b, o, none⟩ ∧ b < W.heap.size ∧ W.cell? ⟨b, o + i * 3, none⟩ = some (.int .i64 a) ∧ W.cell? ⟨b, o + i * 3 + 1, none⟩ = some (.int .i64 d) ∧ W.cell? ⟨b, o + i * 3 + 2, none⟩ = some (.int .u64 t) ∧ KIn a ∧ KIn d ∧ VIn t := by
    intro i hi'
    obtain ⟨b, o, cs, e, hb, hcl, hcell, hok⟩ := hi i hi'
    unfold Sh.Ok Sh.OkL at hok
    obtain ⟨_, _, rfl, h1, hok⟩ := hok
    unfold Sh.Ok at h1
    obtain ⟨a, rfl, ha⟩ := h1
    unfold Sh.OkL at hok
    obtain ⟨_, _, rfl, h1, hok⟩ := hok
    unfold Sh.Ok at h1
    obtain ⟨d, rfl, hd⟩ := h1
    unfold Sh.OkL at hok
    obtain ⟨_, _, rfl, h1, hok⟩ := hok
    unfold Sh.Ok at h1
    obtain ⟨t, rfl, ht⟩ := h1
    unfold Sh.OkL at hok
    subst hok
    exact ⟨a, d, t, b, o, e, hb, hcell 0 _ rfl, hcell 1 _ rfl, hcell 2 _ rfl, Argin.wf_i64 ha, Argin.wf_i64 hd, Argin.wf_u64 ht⟩
  have hch : ∀ i, ∃ x : Int × Int × Int, i < len → ∃ (b o : Nat), oa = some ⟨b, o, none⟩ ∧ b < W.heap.size ∧ W.cell? ⟨b, o + i * 3, none⟩ = some (.int .i64 x.1) ∧ W.cell? ⟨b, o + i * 3 + 1, none⟩ = some (.int .i64 x.2.1) ∧ W.cell? ⟨b, o + i * 3 + 2, none⟩ = some (.int .u64 x.2.2) ∧ KIn x.1 ∧ KIn x.2.1 ∧ VIn x.2.2 := by
    intro i
    by_cases h : i < len
    · obtain ⟨a, d, t, b, o, r⟩ := key i h
      exact ⟨(a, d, t), fun _ => ⟨b, o, r⟩⟩
    · exact ⟨(0, 0, 0), fun h' => absurd h' h⟩
  obtain ⟨g, hg⟩ := Classical.axiomOfChoice hch
  refine ⟨oa, len, cap, fun i => (g i).2.1, fun i => (g i).2.2, fun i => (g i).1, rfl, hlc, hc, fun i hi' => ?_, fun i hi' => ?_⟩
  · obtain ⟨b, o, h1, h2, h3, h4, h5, h6, h7, h8⟩ := hg i hi'
    exact ⟨b, o, h1, h2, h4, h5, h7, h8⟩
  · obtain ⟨b, o, h1, h2, h3, h4, h5, h6, h7, h8⟩ := hg i hi'
    exact ⟨b, o, h1, h2, h3, h6⟩

theorem rises_law (W : World) (v0 v1 v2 v3 v4 : Value) (o0 : Came Try.prog W 53 v0) (o1 : Came Try.prog W 32 v1) (o2 : Came Try.prog W 3 v2) (o3 : Came Try.prog W 3 v3) (o4 : Came Try.prog W 3 v4) :
    Calls Try.prog 5 #[v0, v1, v2, v3, v4] W fun e W' => e = .returned (.bool true) ∧ Below W.heap.size W W' := by
  obtain ⟨oa, len, cap, ids, ats, whats, rfl, hlc, hc, hrow, _⟩ := rows_of o0
  obtain ⟨now, rfl, hnow⟩ := o1.int Try.underlying32
  obtain ⟨rto, rfl, hr⟩ := o2.int Try.underlying3
  obtain ⟨tries, rfl, ht⟩ := o3.int Try.underlying3
  obtain ⟨most, rfl, hm⟩ := o4.int Try.underlying3
  by_cases hlen : 150 < len
  · exact rises_long oa len cap now rto tries most W hlen (by unfold maxLen at hc; omega)
  · exact rises_main oa len cap ids ats now rto tries most W (by omega) hrow (Argin.wf_u64 hnow) (Argin.wf_i64 hr) (Argin.wf_i64 ht) (Argin.wf_i64 hm)
end Go.Proofs.Ytkijhdkeaddchaa.Timer
