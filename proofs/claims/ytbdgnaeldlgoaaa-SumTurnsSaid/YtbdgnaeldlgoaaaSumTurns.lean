/- SumTurns: what Put tells is right; with one bit of it turned it isn't; what was handed in stands ahead. Conditions: none. -/
import Derived.Test.YtbdgnaeldlgoaaaSumMath
import Derived.Deep.RegionHeld3
import Derived.RegionTactic
import Derived.BigQuiet
import Derived.Deep.DeepCutAuto
import Derived.Deep.QuietTactic
namespace Go.Proofs.Ytbdgnaeldlgoaaa.Sum
open Go.RowKit Argin Save
set_option linter.unusedVariables false
set_option linter.unusedSimpArgs false

theorem bstr_congr (f g : Nat → Int) (n : Nat) (h : ∀ i, i < n → f i = g i) : bstr f n = bstr g n := by
  unfold bstr
  rw [show (List.range n).map f = (List.range n).map g from List.map_congr_left fun i hi => h i (by simpa using hi)]

theorem putf_front (f : Nat → Int) (len : Nat) : bstr (putf f len) len = bstr f len := bstr_congr _ _ _ fun i hi => by unfold putf; rw [if_pos hi]

theorem Bytes.front {w : World} {oa : Option Addr} {n m : Nat} {f : Nat → Int} (h : Bytes w oa n f) (hm : m ≤ n) : Bytes w oa m f := fun i hi => h i (by omega)
theorem Bytes.drewN {w : World} {oa : Option Addr} {n : Nat} {f : Nat → Int} (h : Bytes w oa n f) (k : Nat) : Bytes (w.drewN k) oa n f := h

theorem own_some2 {w : World} {base : Nat} {v : Value} {n : Nat} {f : Nat → Int} (h : w.ownsRow base 5 1 v n (bts f n)) (hn : 0 < n) (hf : ∀ i, i < n → 0 ≤ f i ∧ f i < 256) :
    ∃ g cap cur, v = .slice (some ⟨g, 0, none⟩) n cap ∧ base ≤ g ∧ n ≤ cap ∧ cap ≤ maxLen ∧ w.heap[g]? = some (.cells cur 5) ∧ cur.size = cap ∧ Bytes w (some ⟨g, 0, none⟩) n f := by
  obtain ⟨oa, cap, rfl, hB⟩ := own_bytes h hf
  obtain ⟨_, b, o, rfl, _⟩ := hB 0 hn
  obtain ⟨h1, ⟨h2, _⟩ | ⟨g, c, cur, h2, hg, hh, hk, hm, hs, _⟩⟩ := h
  · cases h2
  · cases h2; exact ⟨_, _, cur, rfl, hg, hk, hm, hh, by omega, hB⟩

theorem xor_all : ∀ p ∈ [1, 2, 4, 8, 16, 32, 64, 128], ∀ a, a < 256 → (a ^^^ p) < 256 ∧ ((a ^^^ p) = a + p ∨ (a ^^^ p) + p = a) := by decide +kernel

theorem xor_turn (x : Int) (hx : 0 ≤ x ∧ x < 256) (p : Nat) (hp : p ∈ [1, 2, 4, 8, 16, 32, 64, 128]) :
    (0 ≤ bits .xor .u8 x (p : Int) ∧ bits .xor .u8 x (p : Int) < 256) ∧ (bits .xor .u8 x (p : Int) = x + p ∨ bits .xor .u8 x (p : Int) = x - p) ∧ 1 ≤ p ∧ p ≤ 128 := by
  obtain ⟨a, rfl⟩ := Int.eq_ofNat_of_zero_le hx.1
  have hp8 : 1 ≤ p ∧ p ≤ 128 := by
    simp only [List.mem_cons, List.mem_nil_iff, or_false] at hp
    omega
  have e : bits .xor .u8 (a : Int) (p : Int) = ((a ^^^ p : Nat) : Int) := by
    show IntKind.u8.wrap ((BitVec.ofInt 8 (a : Int) ^^^ BitVec.ofInt 8 (p : Int)).toNat : Int) = _
    have h1 : (BitVec.ofInt 8 (a : Int)).toNat = a := by
      rw [BitVec.ofInt_natCast, BitVec.toNat_ofNat]; exact Nat.mod_eq_of_lt (by omega)
    have h2 : (BitVec.ofInt 8 (p : Int)).toNat = p := by
      rw [BitVec.ofInt_natCast, BitVec.toNat_ofNat]; exact Nat.mod_eq_of_lt (by omega)
    have h3 := (xor_all p hp a (by omega)).1
    rw [BitVec.toNat_xor, h1, h2, u8_wrap]; omega
  rw [e]
  have h := xor_all p hp a (by omega)
  omega

theorem turned_bytes {w : World} {g n i : Nat} {f : Nat → Int} {x y : Int} {q : Nat} (h : Bytes w (some ⟨g, 0, none⟩) n f) (hc : w.cell? ⟨g, i, none⟩ = some (.int .u8 x)) (hy : 0 ≤ y ∧ y < 256) :
    Bytes ((w.drewN q).setCell ⟨g, i, none⟩ (.int .u8 y)) (some ⟨g, 0, none⟩) n (fun k => if k = i then y else f k) := by
  intro k hk
  obtain ⟨hf, b, o, ha, hlt, hc2⟩ := h k hk
  cases ha
  have hc' : (w.drewN q).cell? ⟨g, i, none⟩ = some (.int .u8 x) := hc
  refine ⟨?_, g, 0, rfl, by simpa [World.setCell, World.drewN] using hlt, ?_⟩
  · by_cases h0 : k = i
    · simp only [h0, if_pos]; exact hy
    · simp only [if_neg h0]; exact hf
  · rw [Nat.zero_add] at hc2 ⊢
    by_cases h0 : k = i
    · subst h0
      simp only [if_pos]
      exact World.cell?_setCell_same _ _ _ hc'
    · simp only [if_neg h0]
      rw [World.cell?_setCell_other _ _ _ _ (fun e => h0 (by cases e; rfl))]
      exact hc2

set_option maxHeartbeats 2000000 in
theorem turns_gen (oa : Option Addr) (len cap : Nat) (f : Nat → Int) (at_ : Int) (W : World) (hl : len ≤ 2000) (hat : 0 ≤ at_ ∧ at_ < 9223372036854775808) (hf : ∀ i, i < len → 0 ≤ f i ∧ f i < 256) (hB : Bytes W oa len f) (hconv : ∀ w', Below W.heap.size W w' → (convert 31 9 (.slice oa len cap)).run Try.prog w' = .ok (.string (bstr f len)) w') :
    Calls Try.prog 8 #[.slice oa len cap, .int .i64 at_] W fun e w' => e = .returned (.bool true) ∧ Below W.heap.size W w' := by
  have HB := Lib.hid hB
  have HF := Lib.hid hf
  have HCV := Lib.hid hconv
  clear hB hf hconv
  go_enter Try.func8, Try.ntmps8
  go_wp2_with (first
    | (go_at_call 25; ((with_reducible refine (up_any _).mono ?_); rintro e w1 ⟨rfl, hb⟩; have H1 := Lib.hid hb; clear hb)))
  refine (put_any _ _ _ f _ (by omega) HF.out (HB.out.below H1.out)).mono ?_
  rintro e w2 ⟨v, rfl, ho, hb⟩
  obtain ⟨g, c, cur, rfl, hg, hnc, hcm, hh2, hsz2, hB2⟩ := own_some2 ho (by omega) (fun i _ => putf_range f len HF.out i)
  have H2 := Lib.hid (H1.out.trans (hb.mono H1.out.size))
  have HB2 := Lib.hid hB2
  have HR := Lib.hid (put_right f len HF.out)
  have hgW : W.heap.size ≤ g := by have := H1.out.size; omega
  clear ho hb hB2
  have hn : ((padn len + 2 : Nat) : Int) = (len : Int) + (len : Int) % 2 + 2 := by unfold padn; omega
  obtain ⟨n, hnn⟩ : ∃ n, n = padn len + 2 := ⟨_, rfl⟩
  rw [← hnn] at hn HB2 HR hnc
  unfold maxLen at hcm
  have HH := Lib.hid hh2
  clear hh2
  rw [← hnn]
  have hln : len ≤ n := by rw [hnn]; unfold padn; omega
  have hn0 : 2 ≤ n := by rw [hnn]; omega
  have hnb : n ≤ len + 3 := by rw [hnn]; unfold padn; omega
  have hne : ((n : Int) != (len : Int) + (len : Int) % 2 + 2) = false := bne_eq_false_iff_eq.2 hn
  clear hnn hn
  have hr := HR.out
  go_wp2_with (first
    | (go_at_call 30; ((with_reducible refine (right_any _ _ _ _ _ (by omega) HB2.out).mono ?_); rintro e w' ⟨rfl, rfl⟩)))
  have q1 : ∀ nq, (convert 31 9 (.slice (some ⟨g, 0, none⟩) len c)).run Try.prog (w2.drewN nq) = .ok (.string (bstr f len)) (w2.drewN nq) := fun nq => by rw [← putf_front f len]; exact conv_any _ _ _ _ _ ((HB2.out.front hln).drewN nq)
  have q2 : ∀ nq, (convert 31 9 (.slice oa len cap)).run Try.prog (w2.drewN nq) = .ok (.string (bstr f len)) (w2.drewN nq) := fun nq => HCV.out _ (below_drewN H2.out nq)
  go_quiet (fail)
  go_wp2_with fail
  have hk0 : 0 ≤ at_ % (8 * (n : Int)) := Int.emod_nonneg _ (by omega)
  have hk1 : at_ % (8 * (n : Int)) < 8 * (n : Int) := Int.emod_lt_of_pos _ (by omega)
  generalize at_ % (8 * (n : Int)) = K at hk0 hk1 ⊢
  obtain ⟨i, hi⟩ : ∃ i : Nat, K / 8 = (i : Int) := ⟨(K / 8).toNat, by omega⟩
  have hin : i < n := by omega
  obtain ⟨hfi, b', o', hab, hbl, hci⟩ := HB2.out i hin
  cases hab
  rw [Nat.zero_add] at hci
  have hfr := free_get HH.out i
  clear q1 q2
  obtain ⟨x, hx⟩ : ∃ x : Int, x = putf f len i := ⟨_, rfl⟩
  rw [← hx] at hfi hci
  have HXE := Lib.hid hx
  clear hx
  have HX := Lib.hid hfi
  have hq1 : K.tdiv 8 = (i : Int) := by rw [Int.tdiv_eq_ediv_of_nonneg hk0]; exact hi
  have hw := i64_in (i : Int) (by omega)
  have hm : K.tmod 8 = K % 8 := Int.tmod_eq_emod_of_nonneg hk0
  obtain ⟨j, hj⟩ : ∃ j : Nat, K % 8 = (j : Int) := ⟨(K % 8).toNat, by omega⟩
  rw [hj] at hm
  have hj8 : j < 8 := by omega
  clear hj hi
  have HQ1 := Lib.hid hq1
  have HW := Lib.hid hw
  have HM := Lib.hid hm
  have HCI := Lib.hid hci
  have HFR := Lib.hid hfr
  clear hq1 hw hm hci hfr
  go_cut [] (fun wx => ∃ (q : Nat) (y d : Int), wx = (w2.drewN q).setCell ⟨g, i, none⟩ (.int .u8 y) ∧ y = x + d ∧ (1 ≤ d ∧ d ≤ 128 ∨ -128 ≤ d ∧ d ≤ -1) ∧ 0 ≤ y ∧ y < 256)
  case first =>
    have hq1 := HQ1.out
    have hw := HW.out
    have hm := HM.out
    have hci := HCI.out
    have hfr := HFR.out
    have fin : ∀ p : Nat, p ∈ [1, 2, 4, 8, 16, 32, 64, 128] → ∃ d : Int, bits .xor .u8 x (p : Int) = x + d ∧ (1 ≤ d ∧ d ≤ 128 ∨ -128 ≤ d ∧ d ≤ -1) ∧ 0 ≤ bits .xor .u8 x (p : Int) ∧ bits .xor .u8 x (p : Int) < 256 := by
      intro p hp
      obtain ⟨h1, h2, h3⟩ := xor_turn x HX.out p hp
      rcases h2 with h2 | h2
      · exact ⟨p, h2, by omega, h1⟩
      · exact ⟨-p, by omega, by omega, h1⟩
    have FIN := Lib.hid fin
    clear fin
    match j, hj8 with
    | 0, _ =>
      go_region
      go_wp2_with fail
      go_meet
      obtain ⟨d, h1, h2, h3⟩ := FIN.out 1 (by decide)
      exact ⟨_, _, d, rfl, h1, h2, h3⟩
    | 1, _ =>
      go_region
      go_wp2_with fail
      go_meet
      obtain ⟨d, h1, h2, h3⟩ := FIN.out 2 (by decide)
      exact ⟨_, _, d, rfl, h1, h2, h3⟩
    | 2, _ =>
      go_region
      go_wp2_with fail
      go_meet
      obtain ⟨d, h1, h2, h3⟩ := FIN.out 4 (by decide)
      exact ⟨_, _, d, rfl, h1, h2, h3⟩
    | 3, _ =>
      go_region
      go_wp2_with fail
      go_meet
      obtain ⟨d, h1, h2, h3⟩ := FIN.out 8 (by decide)
      exact ⟨_, _, d, rfl, h1, h2, h3⟩
    | 4, _ =>
      go_region
      go_wp2_with fail
      go_meet
      obtain ⟨d, h1, h2, h3⟩ := FIN.out 16 (by decide)
      exact ⟨_, _, d, rfl, h1, h2, h3⟩
    | 5, _ =>
      go_region
      go_wp2_with fail
      go_meet
      obtain ⟨d, h1, h2, h3⟩ := FIN.out 32 (by decide)
      exact ⟨_, _, d, rfl, h1, h2, h3⟩
    | 6, _ =>
      go_region
      go_wp2_with fail
      go_meet
      obtain ⟨d, h1, h2, h3⟩ := FIN.out 64 (by decide)
      exact ⟨_, _, d, rfl, h1, h2, h3⟩
    | 7, _ =>
      go_region
      go_wp2_with fail
      go_meet
      obtain ⟨d, h1, h2, h3⟩ := FIN.out 128 (by decide)
      exact ⟨_, _, d, rfl, h1, h2, h3⟩
  case rest =>
  obtain ⟨q, y, d, rfl, hy, hd, hy0, hy1⟩ := hcut
  have HG := Lib.hid (turned_bytes HB2.out HCI.out (q := q) ⟨hy0, hy1⟩)
  have hwrong := turned_wrong (putf f len) (fun k => if k = i then y else putf f len k) n i d hin (by simp only [if_pos]; rw [← HXE.out]; exact hy) (fun j hj => by simp only [if_neg hj]) hd (fun k _ => putf_range f len HF.out k)
    (fun k _ => by
      by_cases hk : k = i
      · simp only [hk, if_pos]; exact ⟨hy0, hy1⟩
      · simp only [if_neg hk]; exact putf_range f len HF.out k) HR.out
  clear hy
  go_wp2_with fail
  refine (right_any _ _ _ _ _ (by omega) HG.out).mono ?_
  rintro e w' ⟨rfl, rfl⟩
  go_wp2_with fail
  go_ret
  exact ⟨rfl, (below_drewN H2.out q).setCell (p := ⟨g, i, none⟩) hgW _⟩

theorem turns_big1 (oa : Option Addr) (len cap : Nat) (at_ : Int) (W : World) (hl : len ≤ 9223372036854775807) (hbig : 2000 < len) :
    Calls Try.prog 8 #[.slice oa len cap, .int .i64 at_] W fun e w' => e = .returned (.bool true) ∧ Below W.heap.size W w' := by
  go_enter Try.func8, Try.ntmps8
  go_wp2_with (first
    | (go_at_call 25; ((with_reducible refine (up_any _).mono ?_); rintro e w1 ⟨rfl, hb⟩; have H1 := Lib.hid hb; clear hb)))
  go_ret
  exact ⟨rfl, H1.out⟩

theorem turns_big2 (oa : Option Addr) (len cap : Nat) (at_ : Int) (W : World) (hl : len ≤ 2000) (hbig : at_ < 0) :
    Calls Try.prog 8 #[.slice oa len cap, .int .i64 at_] W fun e w' => e = .returned (.bool true) ∧ Below W.heap.size W w' := by
  go_enter Try.func8, Try.ntmps8
  go_wp2_with (first
    | (go_at_call 25; ((with_reducible refine (up_any _).mono ?_); rintro e w1 ⟨rfl, hb⟩; have H1 := Lib.hid hb; clear hb)))
  go_ret
  exact ⟨rfl, H1.out⟩

/-- What came in as bytes. -/
theorem bytes_in2 {w : World} {v : Value} (h : (Sh.slice 1 (.int .u8)).Ok w [v]) : v = .slice none 0 0 ∨ ∃ a len cap f, v = .slice (some a) len cap ∧ len ≤ cap ∧ cap ≤ maxLen ∧ (∀ i, i < len → 0 ≤ f i ∧ f i < 256) ∧ Bytes w (some a) len f := by
  obtain ⟨oa, len, cap, f, rfl, hl, hm, hi⟩ := slice_ints h
  cases oa with
  | none =>
    left
    unfold Sh.Ok at h
    rcases h with h | ⟨a, l, c, h, _⟩
    · simpa using h
    · simp at h
  | some a => exact .inr ⟨a, len, cap, f, rfl, hl, hm, fun i h => wf_u8 (hi i h).1, fun i h => ⟨wf_u8 (hi i h).1, (hi i h).2⟩⟩

theorem turns_law (W : World) (v0 v1 : Value) (o0 : Came Try.prog W 31 v0) (o1 : Came Try.prog W 3 v1) : Calls Try.prog 8 #[v0, v1] W fun e W' => e = .returned (.bool true) ∧ Below W.heap.size W W' := by
  obtain ⟨k, rfl, hk⟩ := o1.int Try.underlying3
  have hk := Argin.wf_i64 hk
  rcases bytes_in2 (o0.slice (.slice 1 (.int .u8)) (by kernel_rfl) Try.underlying31) with rfl | ⟨a, len, cap, f, rfl, hl, hm, hf, hB⟩
  · by_cases hneg : k < 0
    · exact turns_big2 none 0 0 k W (by omega) hneg
    · exact turns_gen none 0 0 (fun _ => 0) k W (by omega) (by omega) (fun i hi => by omega) (fun i hi => by omega) (fun w' _ => conv_none w' 0 _)
  · unfold maxLen at hm
    by_cases hbig : 2000 < len
    · exact turns_big1 _ len cap k W (by omega) hbig
    · by_cases hneg : k < 0
      · exact turns_big2 _ len cap k W (by omega) hneg
      · exact turns_gen (some a) len cap f k W (by omega) (by omega) hf hB (fun w' hb => conv_any w' a len cap f (hB.below hb))

end Go.Proofs.Ytbdgnaeldlgoaaa.Sum
