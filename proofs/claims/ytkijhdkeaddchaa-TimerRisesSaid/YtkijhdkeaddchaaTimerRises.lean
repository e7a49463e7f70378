/- TimerRises: what is popped at one time rises by deadlines, then ids; nothing due is left; a wait never falls by more tries, and is 1 to most. Conditions: none. -/
import Derived.Test.YtkijhdkeaddchaaTimerBack
import Derived.Test.YtkijhdkeaddchaaOpen
import Derived.StillTailTactics
namespace Go.Proofs.Ytkijhdkeaddchaa.Timer
open Go.RowKit Go.Maps Argin Save
set_option linter.unusedVariables false
set_option linter.unusedSimpArgs false

theorem Qu.pos {w : World} {p b n c : Nat} {f : Int → Option Int} {k v : Int} (h : Qu w p b n f c) (hk : f k = some v) : 1 ≤ c := by
  obtain ⟨_, _, D, _, hh⟩ := h
  have := size_del hh.tidy (k := kl k)
  rw [hh.has, hk, hh.size] at this
  simp at this
  omega
theorem Qu.save {w w' : World} {p b n c : Nat} {f : Int → Option Int} {S : Nat → Prop} (h : Qu w p b n f c) (hs : Save S w w') (hp : ¬ S p) (hb : ¬ S b) : Qu w' p b n f c := by
  obtain ⟨h1, h2, D, h3, h4⟩ := h
  refine ⟨hs.stays h1 hp, h2, D, ?_, h4⟩
  have hl := h3.lt
  have e := hs.block b hl hb
  unfold World.ownsMap at h3 ⊢
  rw [e]; exact h3

theorem up_scan1 {k v : Int} {met : Bool} (h : Scan (put (put (fun _ => none) 2 (some 5)) 1 (some 5)) 5 KIn k v met) : met = true ∧ k = 1 := by
  unfold Scan at h
  cases met
  · rw [if_neg (by simp)] at h
    have := h.2.2 1 5 (by unfold KIn; omega) rfl
    omega
  · rw [if_pos rfl] at h
    refine ⟨rfl, ?_⟩
    obtain ⟨h1, h2, h3, h4⟩ := h
    have h5 := h4 1 5 (by unfold KIn; omega) rfl (by omega)
    unfold put at h2
    split at h2
    · assumption
    · split at h2
      · cases h2; omega
      · cases h2
theorem up_scan2 {k v : Int} {met : Bool} (h : Scan (put (put (put (fun _ => none) 2 (some 5)) 1 (some 5)) 1 none) 4 KIn k v met) : met = false ∧ k = 0 := by
  unfold Scan at h
  cases met
  · rw [if_neg (by simp)] at h
    exact ⟨rfl, h.1⟩
  · rw [if_pos rfl] at h
    obtain ⟨h1, h2, h3, h4⟩ := h
    exfalso
    by_cases e1 : k = 1
    · simp [put, e1] at h2
    · by_cases e2 : k = 2
      · simp [put, e2] at h2; omega
      · simp [put, e1, e2] at h2

set_option maxRecDepth 100000 in
set_option maxHeartbeats 1000000 in
theorem up_any (w : World) : Calls Try.prog 25 #[] w fun e w' => e = .returned (.bool true) ∧ Below w.heap.size w w' := by
  have hbk : back 3 2 10 = 10 := by decide
  have HBK := Lib.hid hbk
  clear hbk
  go_enter Try.func25, Try.ntmps25
  go_wp2_with fail
  refine (new_any _).mono ?_
  rintro e w1 ⟨p, b, rfl, hq, hp, hb, hB⟩
  have HQ := Lib.hid hq
  have HB := Lib.hid hB
  clear hq hB
  go_wp2_with fail
  refine (arm_any _ _ _ _ _ _ _ _ HQ.out (by unfold KIn; omega) (by unfold VIn; omega) (by omega)).mono ?_
  rintro e w2 ⟨rfl, hq, hs⟩
  have HQ2 := Lib.hid hq
  have HB2 := Lib.hid (HB.out.trans (hs.below (B := w.heap.size) (fun k _ e => by omega) HB.out.size))
  clear hq hs HQ HB
  go_wp2_with fail
  refine (arm_any _ _ _ _ _ _ _ _ HQ2.out (by unfold KIn; omega) (by unfold VIn; omega) (by omega)).mono ?_
  rintro e w3 ⟨rfl, hq, hs⟩
  have HQ3 := Lib.hid hq
  have HB3 := Lib.hid (HB2.out.trans (hs.below (B := w.heap.size) (fun k _ e => by omega) HB2.out.size))
  clear hq hs HQ2 HB2
  go_wp2_with fail
  refine (pop_any _ _ _ _ _ _ _ HQ3.out).mono ?_
  rintro e w4 ⟨k, v, met, hsc, rfl, hq, hs⟩
  obtain ⟨rfl, rfl⟩ := up_scan1 hsc
  have HQ4 := Lib.hid hq
  have HB4 := Lib.hid (HB3.out.trans (hs.below (B := w.heap.size) (fun k _ e => by have := HB3.out.size; omega) HB3.out.size))
  clear hq hs hsc HQ3 HB3
  go_wp2_with fail
  refine (pop_any _ _ _ _ _ _ _ HQ4.out).mono ?_
  rintro e w5 ⟨k, v, met, hsc, rfl, hq, hs⟩
  obtain ⟨rfl, rfl⟩ := up_scan2 (by simpa using hsc)
  have hq5 : Qu w5 p b 2 (put (put (put (fun _ => none) 2 (some 5)) 1 (some 5)) 1 none) 1 := hq
  have HQ5 := Lib.hid hq5
  have HB5 := Lib.hid (HB4.out.trans (hs.below (B := w.heap.size) (fun k _ e => by have := HB4.out.size; omega) HB4.out.size))
  clear hq hq5 hs hsc HQ4 HB4
  go_wp2_with fail
  refine (len_any _ _ _ _ _ _ HQ5.out).mono ?_
  rintro e w6 ⟨rfl, rfl⟩
  go_wp2_with fail
  refine (back_any _ _ _ _ (by unfold KIn; omega) (by unfold KIn; omega) (by unfold KIn; omega)).mono ?_
  rintro e w7 ⟨rfl, rfl⟩
  rw [HBK.out]
  go_wp2_with fail
  go_ret
  exact ⟨rfl, HB5.out⟩
end Go.Proofs.Ytkijhdkeaddchaa.Timer
