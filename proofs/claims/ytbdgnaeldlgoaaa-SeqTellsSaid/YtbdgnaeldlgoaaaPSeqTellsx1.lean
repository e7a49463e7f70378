-- PRINTED BY print.sh 35421559b90ae4d0a3588c463048766b98c2df88dd9212a6774a882060cdf62d: not written by this session
import Derived.Test.YtbdgnaeldlgoaaaPSeqTellsx0
namespace Go.Proofs.Ytbdgnaeldlgoaaa.PSeqTells
open Go.RowKit Go.Proofs.YtbdgnaeldlgoaaaW.PrintWords Go.Proofs.YtbdgnaeldlgoaaaW.PrintLast Go.Proofs.YtbdgnaeldlgoaaaW.PrintMore
attribute [local go_sem] max2_int min2_int max_two min_two max_three min_three max_four min_four   -- for this text's walks alone
set_option linter.unusedVariables false
set_option linter.unusedSimpArgs false

/-! ### seq_Before: function 15 -/
def seq_Before.f (a0 : Int) (a1 : Int) : Option (Bool) := some (decide ((wrap32 ((a1 - a0) % 4294967296)) > 0))
set_option maxHeartbeats 8000000 in
set_option maxRecDepth 100000 in
theorem seq_Before.calls (a0 : Int) (a1 : Int) (r : Bool) (w : World) (h : seq_Before.f a0 a1 = some r) :
    Calls Try.prog 15 #[.int .u32 a0, .int .u32 a1] w fun e w' => e = .returned (.bool r) ∧ Drawn0 w w' := by
  have H : (some (decide ((wrap32 ((a1 - a0) % 4294967296)) > 0))) = some r := h
  clear h
  obtain rfl := Option.some.inj H
  go_enter Try.func15, Try.ntmps15
  go_wp2
  go_ret
  exact ⟨by first | rfl | (simp; done) | (simp [*]; done), by repeat (first | exact Drawn0.refl _ | apply Drawn0.step)⟩

/-! ### seq_Gap: function 17 -/
def seq_Gap.f (a0 : Int) (a1 : Int) : Option (Int) := some (wrap64 (wrap32 ((a1 - a0) % 4294967296)))
set_option maxHeartbeats 8000000 in
set_option maxRecDepth 100000 in
theorem seq_Gap.calls (a0 : Int) (a1 : Int) (r : Int) (w : World) (h : seq_Gap.f a0 a1 = some r) :
    Calls Try.prog 17 #[.int .u32 a0, .int .u32 a1] w fun e w' => e = .returned (.int .i64 r) ∧ Drawn0 w w' := by
  have H : (some (wrap64 (wrap32 ((a1 - a0) % 4294967296)))) = some r := h
  clear h
  obtain rfl := Option.some.inj H
  go_enter Try.func17, Try.ntmps17
  go_wp2
  go_ret
  exact ⟨by first | rfl | (simp; done) | (simp [*]; done), by repeat (first | exact Drawn0.refl _ | apply Drawn0.step)⟩

/-! ### seq_In: function 19 -/
def seq_In.f (a0 : Int) (a1 : Int) (a2 : Int) : Option (Bool) := if a2 > 0 then (some (decide (((a0 - a1) % 4294967296) < (IntKind.u64.wrap (a2))))) else (some false)
set_option maxHeartbeats 8000000 in
set_option maxRecDepth 100000 in
theorem seq_In.calls (a0 : Int) (a1 : Int) (a2 : Int) (r : Bool) (w : World) (h : seq_In.f a0 a1 a2 = some r) :
    Calls Try.prog 19 #[.int .u32 a0, .int .u32 a1, .int .i64 a2] w fun e w' => e = .returned (.bool r) ∧ Drawn0 w w' := by
  have H : (if a2 > 0 then (some (decide (((a0 - a1) % 4294967296) < (IntKind.u64.wrap (a2))))) else (some false)) = some r := h
  clear h
  by_cases c4 : a2 > 0
  · rw [if_pos c4] at H
    have c4b0 : decide (0 < a2) = true := decide_eq_true c4
    clear c4
    obtain rfl := Option.some.inj H
    go_enter Try.func19, Try.ntmps19
    go_wp2
    go_ret
    exact ⟨by first | rfl | (simp; done) | (simp [*]; done), by repeat (first | exact Drawn0.refl _ | apply Drawn0.step)⟩
  · rw [if_neg c4] at H
    have c4b0 : decide (0 < a2) = false := decide_eq_false c4
    clear c4
    obtain rfl := Option.some.inj H
    go_enter Try.func19, Try.ntmps19
    go_wp2
    go_ret
    exact ⟨by first | rfl | (simp; done) | (simp [*]; done), by repeat (first | exact Drawn0.refl _ | apply Drawn0.step)⟩

/-! ### jorumlaw01_up: function 14 -/
def jorumlaw01_up.f  : Option (Bool) := (seq_Before.f 4294967295 0).bind fun t101 => (if t101 = true then ((seq_Gap.f 5 3).bind fun t102 => (if t102 = (-2) then ((seq_In.f 3 3 1).bind fun t103 => (some t103)) else (some false))) else (some false))
set_option maxHeartbeats 8000000 in
set_option maxRecDepth 100000 in
theorem jorumlaw01_up.calls  (r : Bool) (w : World) (h : jorumlaw01_up.f  = some r) :
    Calls Try.prog 14 #[] w fun e w' => e = .returned (.bool r) ∧ Drawn0 w w' := by
  have H : ((seq_Before.f 4294967295 0).bind fun t101 => (if t101 = true then ((seq_Gap.f 5 3).bind fun t102 => (if t102 = (-2) then ((seq_In.f 3 3 1).bind fun t103 => (some t103)) else (some false))) else (some false))) = some r := h
  clear h
  replace H := Option.bind_eq_some_iff.mp H
  obtain ⟨t101, A10, H⟩ := H
  replace H : (if t101 = true then ((seq_Gap.f 5 3).bind fun t102 => (if t102 = (-2) then ((seq_In.f 3 3 1).bind fun t103 => (some t103)) else (some false))) else (some false)) = some r := H
  have A1 := Aside0.mk A10
  clear A10
  by_cases c2 : t101 = true
  · subst c2
    have H1 : ((seq_Gap.f 5 3).bind fun t102 => (if t102 = (-2) then ((seq_In.f 3 3 1).bind fun t103 => (some t103)) else (some false))) = some r := by rw [if_pos rfl] at H; exact H
    clear H
    have H := H1
    clear H1
    replace H := Option.bind_eq_some_iff.mp H
    obtain ⟨t102, A30, H⟩ := H
    replace H : (if t102 = (-2) then ((seq_In.f 3 3 1).bind fun t103 => (some t103)) else (some false)) = some r := H
    have A3 := Aside0.mk A30
    clear A30
    by_cases c4 : t102 = (-2)
    · rw [if_pos c4] at H
      have c4b0 : (t102 == (-2)) = true := beq_iff_eq.mpr c4
      have c4b1 : (t102 != (-2)) = false := bne_eq_false_iff_eq.mpr c4
      clear c4
      replace H := Option.bind_eq_some_iff.mp H
      obtain ⟨t103, A50, H⟩ := H
      replace H : (some t103) = some r := H
      have A5 := Aside0.mk A50
      clear A50
      obtain rfl := Option.some.inj H
      go_enter Try.func14, Try.ntmps14
      go_wp2_with (first | ((with_reducible refine gate_callee (f := 15) rfl ?_); refine goesL_ (some 1) rfl rfl Try.func15 (by kernel_rfl) rfl #[.int .u32 4294967295, .int .u32 0] rfl (by (try simp only [List.map_toArray, List.map_cons, List.map_nil]); first | done | rfl | (simp only [List.length_drop, List.length_take]; rfl)) ?_; (with_reducible refine (seq_Before.calls 4294967295 0 true _ A1.out).mono ?_); rintro e w' ⟨rfl, ⟨nd, rfl⟩⟩; refine ⟨_, rfl, ?_⟩) | (go_at_call 17; (with_reducible refine (seq_Gap.calls 5 3 t102 _ A3.out).mono ?_); rintro e w' ⟨rfl, ⟨nd, rfl⟩⟩) | (go_at_call 19; (with_reducible refine (seq_In.calls 3 3 1 t103 _ A5.out).mono ?_); rintro e w' ⟨rfl, ⟨nd, rfl⟩⟩))
      go_ret
      exact ⟨by first | rfl | (simp; done) | (simp [*]; done), by repeat (first | exact Drawn0.refl _ | apply Drawn0.step)⟩
    · rw [if_neg c4] at H
      have c4b0 : (t102 == (-2)) = false := beq_eq_false_iff_ne.mpr c4
      have c4b1 : (t102 != (-2)) = true := bne_iff_ne.mpr c4
      obtain rfl := Option.some.inj H
      go_enter Try.func14, Try.ntmps14
      go_wp2_with (first | ((with_reducible refine gate_callee (f := 15) rfl ?_); refine goesL_ (some 1) rfl rfl Try.func15 (by kernel_rfl) rfl #[.int .u32 4294967295, .int .u32 0] rfl (by (try simp only [List.map_toArray, List.map_cons, List.map_nil]); first | done | rfl | (simp only [List.length_drop, List.length_take]; rfl)) ?_; (with_reducible refine (seq_Before.calls 4294967295 0 true _ A1.out).mono ?_); rintro e w' ⟨rfl, ⟨nd, rfl⟩⟩; refine ⟨_, rfl, ?_⟩) | (go_at_call 17; (with_reducible refine (seq_Gap.calls 5 3 t102 _ A3.out).mono ?_); rintro e w' ⟨rfl, ⟨nd, rfl⟩⟩))
      go_ret
      exact ⟨by first | rfl | (simp; done) | (simp [*]; done), by repeat (first | exact Drawn0.refl _ | apply Drawn0.step)⟩
  · replace c2 := Bool.eq_false_iff.mpr c2
    subst c2
    have H1 : (some false) = some r := by rw [if_neg (show ¬ (false = true) by decide)] at H; exact H
    clear H
    have H := H1
    clear H1
    obtain rfl := Option.some.inj H
    go_enter Try.func14, Try.ntmps14
    go_wp2_with (first | ((with_reducible refine gate_callee (f := 15) rfl ?_); refine goesL_ (some 1) rfl rfl Try.func15 (by kernel_rfl) rfl #[.int .u32 4294967295, .int .u32 0] rfl (by (try simp only [List.map_toArray, List.map_cons, List.map_nil]); first | done | rfl | (simp only [List.length_drop, List.length_take]; rfl)) ?_; (with_reducible refine (seq_Before.calls 4294967295 0 false _ A1.out).mono ?_); rintro e w' ⟨rfl, ⟨nd, rfl⟩⟩; refine ⟨_, rfl, ?_⟩))
    go_ret
    exact ⟨by first | rfl | (simp; done) | (simp [*]; done), by repeat (first | exact Drawn0.refl _ | apply Drawn0.step)⟩

/-! ### jorumref01_Gap: function 18 -/
def jorumref01_Gap.f (a0 : Int) (a1 : Int) : Option (Int) := if (wrap64 ((wrap64 (a1)) - (wrap64 (a0)))) < (-2147483648) then (if (wrap64 ((wrap64 ((wrap64 (a1)) - (wrap64 (a0)))) + 4294967296)) > 2147483647 then (some (wrap64 ((wrap64 ((wrap64 ((wrap64 (a1)) - (wrap64 (a0)))) + 4294967296)) - 4294967296))) else (some (wrap64 ((wrap64 ((wrap64 (a1)) - (wrap64 (a0)))) + 4294967296)))) else (if (wrap64 ((wrap64 (a1)) - (wrap64 (a0)))) > 2147483647 then (some (wrap64 ((wrap64 ((wrap64 (a1)) - (wrap64 (a0)))) - 4294967296))) else (some (wrap64 ((wrap64 (a1)) - (wrap64 (a0))))))
set_option maxHeartbeats 8000000 in
set_option maxRecDepth 100000 in
theorem jorumref01_Gap.calls (a0 : Int) (a1 : Int) (r : Int) (w : World) (h : jorumref01_Gap.f a0 a1 = some r) :
    Calls Try.prog 18 #[.int .u32 a0, .int .u32 a1] w fun e w' => e = .returned (.int .i64 r) ∧ Drawn0 w w' := by
  have H : (if (wrap64 ((wrap64 (a1)) - (wrap64 (a0)))) < (-2147483648) then (if (wrap64 ((wrap64 ((wrap64 (a1)) - (wrap64 (a0)))) + 4294967296)) > 2147483647 then (some (wrap64 ((wrap64 ((wrap64 ((wrap64 (a1)) - (wrap64 (a0)))) + 4294967296)) - 4294967296))) else (some (wrap64 ((wrap64 ((wrap64 (a1)) - (wrap64 (a0)))) + 4294967296)))) else (if (wrap64 ((wrap64 (a1)) - (wrap64 (a0)))) > 2147483647 then (some (wrap64 ((wrap64 ((wrap64 (a1)) - (wrap64 (a0)))) - 4294967296))) else (some (wrap64 ((wrap64 (a1)) - (wrap64 (a0))))))) = some r := h
  clear h
  by_cases c3 : (wrap64 ((wrap64 (a1)) - (wrap64 (a0)))) < (-2147483648)
  · rw [if_pos c3] at H
    have c3b0 : decide ((wrap64 ((wrap64 (a1)) - (wrap64 (a0)))) < (-2147483648)) = true := decide_eq_true c3
    clear c3
    by_cases c4 : (wrap64 ((wrap64 ((wrap64 (a1)) - (wrap64 (a0)))) + 4294967296)) > 2147483647
    · rw [if_pos c4] at H
      have c4b0 : decide (2147483647 < (wrap64 ((wrap64 ((wrap64 (a1)) - (wrap64 (a0)))) + 4294967296))) = true := decide_eq_true c4
      clear c4
      obtain rfl := Option.some.inj H
      go_enter Try.func18, Try.ntmps18
      go_wp2
      go_ret
      exact ⟨by first | rfl | (simp; done) | (simp [*]; done), by repeat (first | exact Drawn0.refl _ | apply Drawn0.step)⟩
    · rw [if_neg c4] at H
      have c4b0 : decide (2147483647 < (wrap64 ((wrap64 ((wrap64 (a1)) - (wrap64 (a0)))) + 4294967296))) = false := decide_eq_false c4
      clear c4
      obtain rfl := Option.some.inj H
      go_enter Try.func18, Try.ntmps18
      go_wp2
      go_ret
      exact ⟨by first | rfl | (simp; done) | (simp [*]; done), by repeat (first | exact Drawn0.refl _ | apply Drawn0.step)⟩
  · rw [if_neg c3] at H
    have c3b0 : decide ((wrap64 ((wrap64 (a1)) - (wrap64 (a0)))) < (-2147483648)) = false := decide_eq_false c3
    clear c3
    by_cases c5 : (wrap64 ((wrap64 (a1)) - (wrap64 (a0)))) > 2147483647
    · rw [if_pos c5] at H
      have c5b0 : decide (2147483647 < (wrap64 ((wrap64 (a1)) - (wrap64 (a0))))) = true := decide_eq_true c5
      clear c5
      obtain rfl := Option.some.inj H
      go_enter Try.func18, Try.ntmps18
      go_wp2
      go_ret
      exact ⟨by first | rfl | (simp; done) | (simp [*]; done), by repeat (first | exact Drawn0.refl _ | apply Drawn0.step)⟩
    · rw [if_neg c5] at H
      have c5b0 : decide (2147483647 < (wrap64 ((wrap64 (a1)) - (wrap64 (a0))))) = false := decide_eq_false c5
      clear c5
      obtain rfl := Option.some.inj H
      go_enter Try.func18, Try.ntmps18
      go_wp2
      go_ret
      exact ⟨by first | rfl | (simp; done) | (simp [*]; done), by repeat (first | exact Drawn0.refl _ | apply Drawn0.step)⟩

/-! ### jorumref01_Before: function 16 -/
def jorumref01_Before.f (a0 : Int) (a1 : Int) : Option (Bool) := (jorumref01_Gap.f a0 a1).bind fun t104 => (some (decide (t104 > 0)))
set_option maxHeartbeats 8000000 in
set_option maxRecDepth 100000 in
theorem jorumref01_Before.calls (a0 : Int) (a1 : Int) (r : Bool) (w : World) (h : jorumref01_Before.f a0 a1 = some r) :
    Calls Try.prog 16 #[.int .u32 a0, .int .u32 a1] w fun e w' => e = .returned (.bool r) ∧ Drawn0 w w' := by
  have H : ((jorumref01_Gap.f a0 a1).bind fun t104 => (some (decide (t104 > 0)))) = some r := h
  clear h
  replace H := Option.bind_eq_some_iff.mp H
  obtain ⟨t104, A30, H⟩ := H
  replace H : (some (decide (t104 > 0))) = some r := H
  have A3 := Aside0.mk A30
  clear A30
  obtain rfl := Option.some.inj H
  go_enter Try.func16, Try.ntmps16
  go_wp2_with (first | ((with_reducible refine gate_callee (f := 18) rfl ?_); refine goesL_ (some 7) rfl rfl Try.func18 (by kernel_rfl) rfl #[.int .u32 a0, .int .u32 a1] rfl (by (try simp only [List.map_toArray, List.map_cons, List.map_nil]); first | done | rfl | (simp only [List.length_drop, List.length_take]; rfl)) ?_; (with_reducible refine (jorumref01_Gap.calls a0 a1 t104 _ A3.out).mono ?_); rintro e w' ⟨rfl, ⟨nd, rfl⟩⟩; refine ⟨_, rfl, ?_⟩))
  go_ret
  exact ⟨by first | rfl | (simp; done) | (simp [*]; done), by repeat (first | exact Drawn0.refl _ | apply Drawn0.step)⟩

/-! ### jorumref01_In: function 20 -/
def jorumref01_In.f (a0 : Int) (a1 : Int) (a2 : Int) : Option (Bool) := if (wrap64 ((wrap64 (a0)) - (wrap64 (a1)))) < 0 then (some (decide ((wrap64 ((wrap64 ((wrap64 (a0)) - (wrap64 (a1)))) + 4294967296)) < a2))) else (some (decide ((wrap64 ((wrap64 (a0)) - (wrap64 (a1)))) < a2)))
set_option maxHeartbeats 8000000 in
set_option maxRecDepth 100000 in
theorem jorumref01_In.calls (a0 : Int) (a1 : Int) (a2 : Int) (r : Bool) (w : World) (h : jorumref01_In.f a0 a1 a2 = some r) :
    Calls Try.prog 20 #[.int .u32 a0, .int .u32 a1, .int .i64 a2] w fun e w' => e = .returned (.bool r) ∧ Drawn0 w w' := by
  have H : (if (wrap64 ((wrap64 (a0)) - (wrap64 (a1)))) < 0 then (some (decide ((wrap64 ((wrap64 ((wrap64 (a0)) - (wrap64 (a1)))) + 4294967296)) < a2))) else (some (decide ((wrap64 ((wrap64 (a0)) - (wrap64 (a1)))) < a2)))) = some r := h
  clear h
  by_cases c4 : (wrap64 ((wrap64 (a0)) - (wrap64 (a1)))) < 0
  · rw [if_pos c4] at H
    have c4b0 : decide ((wrap64 ((wrap64 (a0)) - (wrap64 (a1)))) < 0) = true := decide_eq_true c4
    clear c4
    obtain rfl := Option.some.inj H
    go_enter Try.func20, Try.ntmps20
    go_wp2
    go_ret
    exact ⟨by first | rfl | (simp; done) | (simp [*]; done), by repeat (first | exact Drawn0.refl _ | apply Drawn0.step)⟩
  · rw [if_neg c4] at H
    have c4b0 : decide ((wrap64 ((wrap64 (a0)) - (wrap64 (a1)))) < 0) = false := decide_eq_false c4
    clear c4
    obtain rfl := Option.some.inj H
    go_enter Try.func20, Try.ntmps20
    go_wp2
    go_ret
    exact ⟨by first | rfl | (simp; done) | (simp [*]; done), by repeat (first | exact Drawn0.refl _ | apply Drawn0.step)⟩

/-! ### jorumlaw01_SeqTells: function 3 -/
def jorumlaw01_SeqTells.f (a0 : Int) (a1 : Int) (a2 : Int) : Option (Bool) := (jorumlaw01_up.f).bind fun t105 => (if t105 = true then ((seq_Before.f a0 a1).bind fun t106 => ((jorumref01_Before.f a0 a1).bind fun t107 => (if (t106 == t107) = true then ((seq_Gap.f a0 a1).bind fun t108 => ((jorumref01_Gap.f a0 a1).bind fun t109 => (if t108 = t109 then ((seq_In.f a0 a1 a2).bind fun t110 => ((jorumref01_In.f a0 a1 a2).bind fun t111 => (some (t110 == t111)))) else (some false)))) else (some false)))) else (some false))
set_option maxHeartbeats 8000000 in
set_option maxRecDepth 100000 in
theorem jorumlaw01_SeqTells.calls (a0 : Int) (a1 : Int) (a2 : Int) (r : Bool) (w : World) (h : jorumlaw01_SeqTells.f a0 a1 a2 = some r) :
    Calls Try.prog 3 #[.int .u32 a0, .int .u32 a1, .int .i64 a2] w fun e w' => e = .returned (.bool r) ∧ Drawn0 w w' := by
  have H : ((jorumlaw01_up.f).bind fun t105 => (if t105 = true then ((seq_Before.f a0 a1).bind fun t106 => ((jorumref01_Before.f a0 a1).bind fun t107 => (if (t106 == t107) = true then ((seq_Gap.f a0 a1).bind fun t108 => ((jorumref01_Gap.f a0 a1).bind fun t109 => (if t108 = t109 then ((seq_In.f a0 a1 a2).bind fun t110 => ((jorumref01_In.f a0 a1 a2).bind fun t111 => (some (t110 == t111)))) else (some false)))) else (some false)))) else (some false))) = some r := h
  clear h
  replace H := Option.bind_eq_some_iff.mp H
  obtain ⟨t105, A40, H⟩ := H
  replace H : (if t105 = true then ((seq_Before.f a0 a1).bind fun t106 => ((jorumref01_Before.f a0 a1).bind fun t107 => (if (t106 == t107) = true then ((seq_Gap.f a0 a1).bind fun t108 => ((jorumref01_Gap.f a0 a1).bind fun t109 => (if t108 = t109 then ((seq_In.f a0 a1 a2).bind fun t110 => ((jorumref01_In.f a0 a1 a2).bind fun t111 => (some (t110 == t111)))) else (some false)))) else (some false)))) else (some false)) = some r := H
  have A4 := Aside0.mk A40
  clear A40
  by_cases c5 : t105 = true
  · subst c5
    have H1 : ((seq_Before.f a0 a1).bind fun t106 => ((jorumref01_Before.f a0 a1).bind fun t107 => (if (t106 == t107) = true then ((seq_Gap.f a0 a1).bind fun t108 => ((jorumref01_Gap.f a0 a1).bind fun t109 => (if t108 = t109 then ((seq_In.f a0 a1 a2).bind fun t110 => ((jorumref01_In.f a0 a1 a2).bind fun t111 => (some (t110 == t111)))) else (some false)))) else (some false)))) = some r := by rw [if_pos rfl] at H; exact H
    clear H
    have H := H1
    clear H1
    replace H := Option.bind_eq_some_iff.mp H
    obtain ⟨t106, A60, H⟩ := H
    replace H : ((jorumref01_Before.f a0 a1).bind fun t107 => (if (t106 == t107) = true then ((seq_Gap.f a0 a1).bind fun t108 => ((jorumref01_Gap.f a0 a1).bind fun t109 => (if t108 = t109 then ((seq_In.f a0 a1 a2).bind fun t110 => ((jorumref01_In.f a0 a1 a2).bind fun t111 => (some (t110 == t111)))) else (some false)))) else (some false))) = some r := H
    have A6 := Aside0.mk A60
    clear A60
    replace H := Option.bind_eq_some_iff.mp H
    obtain ⟨t107, A70, H⟩ := H
    replace H : (if (t106 == t107) = true then ((seq_Gap.f a0 a1).bind fun t108 => ((jorumref01_Gap.f a0 a1).bind fun t109 => (if t108 = t109 then ((seq_In.f a0 a1 a2).bind fun t110 => ((jorumref01_In.f a0 a1 a2).bind fun t111 => (some (t110 == t111)))) else (some false)))) else (some false)) = some r := H
    have A7 := Aside0.mk A70
    clear A70
    by_cases c8 : (t106 == t107) = true
    · rw [if_pos c8] at H
      have c8b0 : (t106 == t107) = true := c8
      (try (have c8b1 : decide (t106 = t107) = true := by simpa using c8))
      (try (have c8b2 : (t106 == t107) = true := by simpa using c8))
      clear c8
      replace H := Option.bind_eq_some_iff.mp H
      obtain ⟨t108, A90, H⟩ := H
      replace H : ((jorumref01_Gap.f a0 a1).bind fun t109 => (if t108 = t109 then ((seq_In.f a0 a1 a2).bind fun t110 => ((jorumref01_In.f a0 a1 a2).bind fun t111 => (some (t110 == t111)))) else (some false))) = some r := H
      have A9 := Aside0.mk A90
      clear A90
      replace H := Option.bind_eq_some_iff.mp H
      obtain ⟨t109, A100, H⟩ := H
      replace H : (if t108 = t109 then ((seq_In.f a0 a1 a2).bind fun t110 => ((jorumref01_In.f a0 a1 a2).bind fun t111 => (some (t110 == t111)))) else (some false)) = some r := H
      have A10 := Aside0.mk A100
      clear A100
      by_cases c11 : t108 = t109
      · rw [if_pos c11] at H
        have c11b0 : (t108 == t109) = true := beq_iff_eq.mpr c11
        have c11b1 : (t108 != t109) = false := bne_eq_false_iff_eq.mpr c11
        clear c11
        replace H := Option.bind_eq_some_iff.mp H
        obtain ⟨t110, A120, H⟩ := H
        replace H : ((jorumref01_In.f a0 a1 a2).bind fun t111 => (some (t110 == t111))) = some r := H
        have A12 := Aside0.mk A120
        clear A120
        replace H := Option.bind_eq_some_iff.mp H
        obtain ⟨t111, A130, H⟩ := H
        replace H : (some (t110 == t111)) = some r := H
        have A13 := Aside0.mk A130
        clear A130
        obtain rfl := Option.some.inj H
        go_enter Try.func3, Try.ntmps3
        go_wp2_with (first | ((with_reducible refine gate_callee (f := 14) rfl ?_); refine goesL_ (some 8) rfl rfl Try.func14 (by kernel_rfl) rfl #[] rfl (by (try simp only [List.map_toArray, List.map_cons, List.map_nil]); first | done | rfl | (simp only [List.length_drop, List.length_take]; rfl)) ?_; (with_reducible refine (jorumlaw01_up.calls  true _ A4.out).mono ?_); rintro e w' ⟨rfl, ⟨nd, rfl⟩⟩; refine ⟨_, rfl, ?_⟩) | (go_at_call 15; (with_reducible refine (seq_Before.calls a0 a1 t106 _ A6.out).mono ?_); rintro e w' ⟨rfl, ⟨nd, rfl⟩⟩) | (go_at_call 16; (with_reducible refine (jorumref01_Before.calls a0 a1 t107 _ A7.out).mono ?_); rintro e w' ⟨rfl, ⟨nd, rfl⟩⟩) | (go_at_call 17; (with_reducible refine (seq_Gap.calls a0 a1 t108 _ A9.out).mono ?_); rintro e w' ⟨rfl, ⟨nd, rfl⟩⟩) | (go_at_call 18; (with_reducible refine (jorumref01_Gap.calls a0 a1 t109 _ A10.out).mono ?_); rintro e w' ⟨rfl, ⟨nd, rfl⟩⟩) | (go_at_call 19; (with_reducible refine (seq_In.calls a0 a1 a2 t110 _ A12.out).mono ?_); rintro e w' ⟨rfl, ⟨nd, rfl⟩⟩) | (go_at_call 20; (with_reducible refine (jorumref01_In.calls a0 a1 a2 t111 _ A13.out).mono ?_); rintro e w' ⟨rfl, ⟨nd, rfl⟩⟩))
        go_ret
        exact ⟨by first | rfl | (simp; done) | (simp [*]; done), by repeat (first | exact Drawn0.refl _ | apply Drawn0.step)⟩
      · rw [if_neg c11] at H
        have c11b0 : (t108 == t109) = false := beq_eq_false_iff_ne.mpr c11
        have c11b1 : (t108 != t109) = true := bne_iff_ne.mpr c11
        obtain rfl := Option.some.inj H
        go_enter Try.func3, Try.ntmps3
        go_wp2_with (first | ((with_reducible refine gate_callee (f := 14) rfl ?_); refine goesL_ (some 8) rfl rfl Try.func14 (by kernel_rfl) rfl #[] rfl (by (try simp only [List.map_toArray, List.map_cons, List.map_nil]); first | done | rfl | (simp only [List.length_drop, List.length_take]; rfl)) ?_; (with_reducible refine (jorumlaw01_up.calls  true _ A4.out).mono ?_); rintro e w' ⟨rfl, ⟨nd, rfl⟩⟩; refine ⟨_, rfl, ?_⟩) | (go_at_call 15; (with_reducible refine (seq_Before.calls a0 a1 t106 _ A6.out).mono ?_); rintro e w' ⟨rfl, ⟨nd, rfl⟩⟩) | (go_at_call 16; (with_reducible refine (jorumref01_Before.calls a0 a1 t107 _ A7.out).mono ?_); rintro e w' ⟨rfl, ⟨nd, rfl⟩⟩) | (go_at_call 17; (with_reducible refine (seq_Gap.calls a0 a1 t108 _ A9.out).mono ?_); rintro e w' ⟨rfl, ⟨nd, rfl⟩⟩) | (go_at_call 18; (with_reducible refine (jorumref01_Gap.calls a0 a1 t109 _ A10.out).mono ?_); rintro e w' ⟨rfl, ⟨nd, rfl⟩⟩))
        go_ret
        exact ⟨by first | rfl | (simp; done) | (simp [*]; done), by repeat (first | exact Drawn0.refl _ | apply Drawn0.step)⟩
    · rw [if_neg c8] at H
      have c8b0 : (t106 == t107) = false := by simpa using c8
      (try (have c8b1 : decide (t106 = t107) = false := by simpa using c8))
      (try (have c8b2 : (t106 == t107) = false := by simpa using c8))
      (try (have c8b3 : ¬ (t106 = t107) := by simpa using c8))
      clear c8
      obtain rfl := Option.some.inj H
      go_enter Try.func3, Try.ntmps3
      go_wp2_with (first | ((with_reducible refine gate_callee (f := 14) rfl ?_); refine goesL_ (some 8) rfl rfl Try.func14 (by kernel_rfl) rfl #[] rfl (by (try simp only [List.map_toArray, List.map_cons, List.map_nil]); first | done | rfl | (simp only [List.length_drop, List.length_take]; rfl)) ?_; (with_reducible refine (jorumlaw01_up.calls  true _ A4.out).mono ?_); rintro e w' ⟨rfl, ⟨nd, rfl⟩⟩; refine ⟨_, rfl, ?_⟩) | (go_at_call 15; (with_reducible refine (seq_Before.calls a0 a1 t106 _ A6.out).mono ?_); rintro e w' ⟨rfl, ⟨nd, rfl⟩⟩) | (go_at_call 16; (with_reducible refine (jorumref01_Before.calls a0 a1 t107 _ A7.out).mono ?_); rintro e w' ⟨rfl, ⟨nd, rfl⟩⟩))
      go_ret
      exact ⟨by first | rfl | (simp; done) | (simp [*]; done), by repeat (first | exact Drawn0.refl _ | apply Drawn0.step)⟩
  · replace c5 := Bool.eq_false_iff.mpr c5
    subst c5
    have H1 : (some false) = some r := by rw [if_neg (show ¬ (false = true) by decide)] at H; exact H
    clear H
    have H := H1
    clear H1
    obtain rfl := Option.some.inj H
    go_enter Try.func3, Try.ntmps3
    go_wp2_with (first | ((with_reducible refine gate_callee (f := 14) rfl ?_); refine goesL_ (some 8) rfl rfl Try.func14 (by kernel_rfl) rfl #[] rfl (by (try simp only [List.map_toArray, List.map_cons, List.map_nil]); first | done | rfl | (simp only [List.length_drop, List.length_take]; rfl)) ?_; (with_reducible refine (jorumlaw01_up.calls  false _ A4.out).mono ?_); rintro e w' ⟨rfl, ⟨nd, rfl⟩⟩; refine ⟨_, rfl, ?_⟩))
    go_ret
    exact ⟨by first | rfl | (simp; done) | (simp [*]; done), by repeat (first | exact Drawn0.refl _ | apply Drawn0.step)⟩

/-- THE ONE PURE STATEMENT of jorumlaw01_SeqTells: yours. -/
def jorumlaw01_SeqTells.Pure : Prop := ∀ (a0 : Int) (a1 : Int) (a2 : Int), (Lit.int .u32 a0).wf = true → (Lit.int .u32 a1).wf = true → (Lit.int .i64 a2).wf = true → jorumlaw01_SeqTells.f a0 a1 a2 = some true
theorem jorumlaw01_SeqTells.walk (P : jorumlaw01_SeqTells.Pure) (a0 : Int) (a1 : Int) (a2 : Int) (w : World) (w0 : (Lit.int .u32 a0).wf = true) (w1 : (Lit.int .u32 a1).wf = true) (w2 : (Lit.int .i64 a2).wf = true) :
    Calls Try.prog 3 #[.int .u32 a0, .int .u32 a1, .int .i64 a2] w fun e w' => e = .returned (.bool true) ∧ Below w.heap.size w w' := by
  have h := P a0 a1 a2 w0 w1 w2
  refine (jorumlaw01_SeqTells.calls a0 a1 a2 true w h).mono ?_
  rintro e w' ⟨rfl, hd⟩
  exact ⟨rfl, hd.below⟩

end Go.Proofs.Ytbdgnaeldlgoaaa.PSeqTells
