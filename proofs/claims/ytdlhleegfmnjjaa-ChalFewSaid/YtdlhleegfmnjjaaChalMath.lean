/- Windows in which some are let: plain facts on numbers. -/
import Derived.Test.YtdlhleegfmnjjaaChalPlays
namespace Go.Proofs.Ytdlhleegfmnjjaa.Chal
set_option linter.unusedVariables false

structure WI (V FR NOW : Int) (m : Nat) (BG : Bool) (LT : Int) (n : Nat) (L B : Nat → Int) : Prop where
  bd : ∀ k, k < n → B k ≤ L k ∧ L k < B k + V ∧ 0 ≤ L k ∧ L k ≤ NOW
  mono : ∀ j k, j ≤ k → k < n → L j ≤ L k
  far : ∀ k, k + m < n → B k + V ≤ B (k + m)
  hd : 0 < n → B 0 = L 0
  old : ∀ k : Nat, (k : Int) < n - LT → B k + V ≤ FR
  cur : ∀ k : Nat, (n : Int) - LT ≤ k → k < n → B k = FR
  lt : 0 ≤ LT ∧ LT ≤ n ∧ LT ≤ m
  bg : BG = false → n = 0
  one : n = 0 → LT < m → BG = false

def up1 (f : Nat → Int) (n : Nat) (x : Int) : Nat → Int := fun k => if k = n then x else f k
theorem up1_at (f : Nat → Int) (n : Nat) (x : Int) : up1 f n x n = x := if_pos rfl
theorem up1_ne (f : Nat → Int) (n : Nat) (x : Int) {k : Nat} (h : k ≠ n) : up1 f n x k = f k := if_neg h

theorem WI.start (V : Int) (m : Nat) (L B : Nat → Int) : WI V 0 0 m false 0 0 L B :=
  ⟨fun k h => by omega, fun j k _ h => by omega, fun k h => by omega, fun h => by omega, fun k h => by omega, fun k _ h => by omega, by omega, fun _ => rfl, fun _ _ => rfl⟩

theorem WI.empty {V FR NOW LT : Int} {m n : Nat} {BG : Bool} {L B : Nat → Int} (h : WI V FR NOW m BG LT n L B) (hV : 1 ≤ V) (hm : m = 0) : n = 0 := by
  subst hm
  by_cases c : n = 0
  · exact c
  · have := h.far 0 (by omega); simp at this; omega

theorem WI.step {V FR NOW LT g f1 l1 : Int} {m n : Nat} {BG b1 : Bool} {L B : Nat → Int} (h : WI V FR NOW m BG LT n L B) (hV : 1 ≤ V) (hg : 0 ≤ g) (hF : 0 ≤ FR ∧ FR ≤ NOW) (hN : NOW + g < 18446744073709551616)
    (ht : Turn V FR BG LT (NOW + g) f1 b1 l1) :
    (l1 < m → WI V f1 (NOW + g) m true (l1 + 1) (n + 1) (up1 L n (NOW + g)) (up1 B n f1)) ∧ (¬ l1 < m → WI V f1 (NOW + g) m true l1 n L B) := by
  have hov : (NOW + g - FR) % 18446744073709551616 = NOW + g - FR := by omega
  have hl := h.lt
  rcases ht with ⟨a, rfl, rfl, rfl⟩ | ⟨a, rfl, rfl, rfl⟩
  · have hnew : BG = true → FR + V ≤ NOW + g := by
      intro e; unfold ov at a; rw [e, hov] at a; simp at a; omega
    have hall : ∀ k, k < n → B k ≤ FR := by
      intro k hk
      by_cases c : (k : Int) < n - LT
      · have := h.old k c; omega
      · have := h.cur k (by omega) hk; omega
    have hbg : 0 < n → BG = true := by
      intro hn; cases e : BG
      · have := h.bg e; omega
      · rfl
    refine ⟨fun c => ⟨?_, ?_, ?_, ?_, ?_, ?_, by omega, fun e => by simp at e, fun e => by omega⟩, fun c => ?_⟩
    · intro k hk
      by_cases e : k = n
      · subst e; rw [up1_at, up1_at]; omega
      · rw [up1_ne _ _ _ e, up1_ne _ _ _ e]; have := h.bd k (by omega); omega
    · intro j k hjk hk
      by_cases e : k = n
      · subst e
        rw [up1_at]
        by_cases e' : j = k
        · subst e'; rw [up1_at]; omega
        · rw [up1_ne _ _ _ e']; have := h.bd j (by omega); omega
      · rw [up1_ne _ _ _ e, up1_ne _ _ _ (by omega)]; exact h.mono j k hjk (by omega)
    · intro k hk
      rw [up1_ne _ _ _ (by omega)]
      by_cases e : k + m = n
      · rw [e, up1_at]; have := hall k (by omega); have := hnew (hbg (by omega)); omega
      · rw [up1_ne _ _ _ e]; exact h.far k (by omega)
    · intro _
      by_cases e : n = 0
      · subst e; rw [up1_at, up1_at]
      · rw [up1_ne _ _ _ (by omega), up1_ne _ _ _ (by omega)]; exact h.hd (by omega)
    · intro k hk
      rw [up1_ne _ _ _ (by omega)]
      have := hall k (by omega); have := hnew (hbg (by omega)); omega
    · intro k hk hk2
      obtain rfl : k = n := by omega
      exact up1_at _ _ _
    · have hm : m = 0 := by omega
      have hn := h.empty hV hm
      subst hn
      exact ⟨fun k h => by omega, fun j k _ h => by omega, fun k h => by omega, fun h => by omega, fun k h => by omega, fun k _ h => by omega, by omega, (fun e => by cases e), (fun _ h => by omega)⟩
  · have hB : b1 = true := by unfold ov at a; cases b1 <;> simp at a ⊢
    subst hB
    have hin : NOW + g < f1 + V := by unfold ov at a; rw [hov] at a; simp at a; omega
    refine ⟨fun c => ⟨?_, ?_, ?_, ?_, ?_, ?_, by omega, fun e => by simp at e, fun e => by omega⟩, fun c => ?_⟩
    · intro k hk
      by_cases e : k = n
      · subst e; rw [up1_at, up1_at]; omega
      · rw [up1_ne _ _ _ e, up1_ne _ _ _ e]; have := h.bd k (by omega); omega
    · intro j k hjk hk
      by_cases e : k = n
      · subst e
        rw [up1_at]
        by_cases e' : j = k
        · subst e'; rw [up1_at]; omega
        · rw [up1_ne _ _ _ e']; have := h.bd j (by omega); omega
      · rw [up1_ne _ _ _ e, up1_ne _ _ _ (by omega)]; exact h.mono j k hjk (by omega)
    · intro k hk
      rw [up1_ne _ _ _ (by omega)]
      by_cases e : k + m = n
      · rw [e, up1_at]; exact h.old k (by omega)
      · rw [up1_ne _ _ _ e]; exact h.far k (by omega)
    · intro _
      by_cases e : n = 0
      · have := h.one e (by omega); simp at this
      · rw [up1_ne _ _ _ (by omega), up1_ne _ _ _ (by omega)]; exact h.hd (by omega)
    · intro k hk
      rw [up1_ne _ _ _ (by omega)]; exact h.old k (by omega)
    · intro k hk hk2
      by_cases e : k = n
      · subst e; exact up1_at _ _ _
      · rw [up1_ne _ _ _ e]; exact h.cur k (by omega) (by omega)
    · exact ⟨fun k hk => by have := h.bd k hk; omega, h.mono, h.far, h.hd, h.old, h.cur, h.lt, h.bg, h.one⟩

/-- How many of those from i on may lie within an interval. -/
def top (m i : Nat) : Nat := if i = 0 then m else 2 * m
theorem WI.few {V FR NOW LT : Int} {m n : Nat} {BG : Bool} {L B : Nat → Int} (h : WI V FR NOW m BG LT n L B) (hV : 1 ≤ V) {i k : Nat} (hk : k < n) (hi : i + top m i ≤ k) : V ≤ L k - L i := by
  unfold top at hi
  by_cases e : i = 0
  · subst e
    simp only [if_true] at hi
    have a := h.far 0 (by omega)
    have b := h.bd (0 + m) (by omega)
    have c := h.mono (0 + m) k (by omega) hk
    have d := h.hd (by omega)
    omega
  · rw [if_neg e] at hi
    have a := h.far i (by omega)
    have a2 := h.far (i + m) (by omega)
    have b := h.bd (i + m + m) (by omega)
    have c := h.mono (i + m + m) k (by omega) hk
    have d := h.bd i (by omega)
    omega
end Go.Proofs.Ytdlhleegfmnjjaa.Chal
