/- Bytes with their sum behind (layer 2): the document's; whether bytes are right. Conditions: no more than 2^36 bytes. -/
import Derived.Test.YtbdgnaeldlgoaaaSumPut
namespace Go.Proofs.Ytbdgnaeldlgoaaa.Sum
open Go.RowKit Argin Save
set_option linter.unusedVariables false
set_option linter.unusedSimpArgs false

set_option maxHeartbeats 1000000 in
theorem rput_any (a : Addr) (len cap : Nat) (f : Nat → Int) (w : World) (hl : len ≤ 100000000000) (hf : ∀ i, i < len → 0 ≤ f i ∧ f i < 256) (hB : Bytes w (some a) len f) :
    Calls Try.prog 29 #[.slice (some a) len cap] w fun e w' => ∃ v, e = .returned v ∧ w'.ownsRow w.heap.size 5 1 v (padn len + 2) (bts (putf f len) (padn len + 2)) ∧ Below w.heap.size w w' := by
  obtain ⟨i0, hi, hz0, hz1, hz2⟩ := info_parts info5
  have HB := Lib.hid hB
  have HF := Lib.hid hf
  clear hB hf
  go_enter Try.func29, Try.ntmps29
  go_upto_region 2 with (first
    | (at_builtin; refine wpList_append_own _ rfl _ _ 31 rfl w.heap.size 5 i0 (.int .u8 0) 1 1 Try.underlying31 hi hz0 hz1 hz2 rfl (by decide) _ _ _ rfl (World.ownsRow_made w #[] 0 (Nat.le_refl _) (by decide) rfl) a len cap (bts f len) rfl (by simp [bts_len]) ?c1 ?c2 ?c3 ?c4 ?c5 ?_))
  case c1 => exact bytes_news HB.out _
  case c2 => intro u hu; simp only [bts, List.mem_map] at hu; obtain ⟨_, _, rfl⟩ := hu; rfl
  case c3 => unfold maxLen; omega
  case c4 => omega
  case c5 => simp
  intro v1 w1 ho hg _
  have hb := ((Below.refl w.heap.size w).alloc (Nat.le_refl _) (.cells #[] 5)).grown hg (by simp) (fun k e => by simp [Value.ownBlock] at e; omega)
  clear hg
  obtain ⟨o1, c1, rfl, hB1⟩ := own_bytes ho HF.out
  have HO1 := Lib.hid ho
  have H1 := Lib.hid hb
  clear ho hb hB1
  have hs1 := H1.out.size
  go_upto_if 11 with fail
  go_cut [3] (fun s3 wx => wx.ownsRow w.heap.size 5 1 s3 (padn len) (bts (padf f len) (padn len)) ∧ Below w.heap.size w wx)
  case first =>
    by_cases hp : len % 2 = 0
    · obtain ⟨e1, e2⟩ := pad_even f len hp
      have E1 := Lib.hid e1
      have E2 := Lib.hid e2
      clear e1 e2
      have hp' : ((len : Int) % 2 == 1) = false := beq_eq_false_iff_ne.2 (by omega)
      go_wp2_with fail
      go_meet
      exact ⟨by rw [E2.out, E1.out]; exact HO1.out, H1.out⟩
    · obtain ⟨e1, e2⟩ := pad_odd f len (by omega)
      have E1 := Lib.hid e1
      have E2 := Lib.hid e2
      clear e1 e2
      have hp' : ((len : Int) % 2 == 1) = true := beq_iff_eq.2 (by omega)
      go_wp2_with (at_builtin; refine wpList_append_own _ rfl _ _ 31 rfl w.heap.size 5 i0 (.int .u8 0) 1 1 Try.underlying31 hi hz0 hz1 hz2 rfl (by decide) _ _ _ rfl (HO1.out.alloc _) ⟨w1.heap.size, 0, none⟩ 1 1 [.int .u8 0] rfl rfl ?c1 ?c2 ?c3 ?c4 ?c5 ?_)
      case c1 => exact news_one _ _ _
      case c2 => intro u hu; simp only [List.mem_singleton] at hu; subst hu; rfl
      case c3 => unfold maxLen; omega
      case c4 => omega
      case c5 => simp; omega
      intro v' w2 ho hg _
      have HO2 := Lib.hid ho
      have H2 := Lib.hid ((H1.out.alloc hs1 (.cells #[.int .u8 0] 5)).grown hg (by simp; omega) (fun k e => (HO1.out.lt k e).1))
      clear ho hg
      go_wp2_with fail
      go_meet
      exact ⟨by rw [E2.out, E1.out]; exact HO2.out, H2.out⟩
  case rest =>
  obtain ⟨ho, hb⟩ := hcut
  obtain ⟨o2, c2, rfl, hB2⟩ := own_bytes ho (fun i _ => padf_range HF.out i)
  have HO2 := Lib.hid ho
  have H2 := Lib.hid hb
  have HB2 := Lib.hid hB2
  clear ho hb hB2
  have hs2 := H2.out.size
  have hr := sum_range (padf f len) (padn len)
  have hpn : padn len ≤ len + 1 := by unfold padn; omega
  go_wp2_with fail
  refine (ref_any _ _ _ _ _ (by omega) HB2.out).mono ?_
  rintro e w' ⟨rfl, rfl⟩
  go_wp2_with (at_builtin; refine wpList_append_own _ rfl _ _ 31 rfl w.heap.size 5 i0 (.int .u8 0) 1 1 Try.underlying31 hi hz0 hz1 hz2 rfl (by decide) _ _ _ rfl (HO2.out.alloc _) ⟨wc.heap.size, 0, none⟩ 2 2 [.int .u8 (sumOf (padf f len) (padn len) / 256), .int .u8 (sumOf (padf f len) (padn len) % 256)] rfl rfl ?c1 ?c2 ?c3 ?c4 ?c5 ?_)
  case c1 => exact news_two _ _ _ _
  case c2 => intro u hu; simp only [List.mem_cons, List.mem_nil_iff, or_false] at hu; rcases hu with rfl | rfl <;> rfl
  case c3 => unfold maxLen; omega
  case c4 => omega
  case c5 => simp; omega
  intro v' w3 ho hg _
  have HO3 := Lib.hid ho
  have H3 := Lib.hid ((H2.out.alloc hs2 (.cells #[.int .u8 (sumOf (padf f len) (padn len) / 256), .int .u8 (sumOf (padf f len) (padn len) % 256)] 5)).grown hg (by simp; omega) (fun k e => (HO2.out.lt k e).1))
  clear ho hg
  go_wp2_with fail
  go_ret
  exact ⟨v', rfl, by rw [put_is]; exact HO3.out, H3.out⟩


def right (f : Nat → Int) (len : Nat) : Bool := decide (2 ≤ len ∧ len % 2 = 0 ∧ sumOf f len = 0)

theorem right_any (oa : Option Addr) (len cap : Nat) (f : Nat → Int) (w : World) (hl : len ≤ 1000000000000) (hB : Bytes w oa len f) :
    Calls Try.prog 30 #[.slice oa len cap] w fun e w' => e = .returned (.bool (right f len)) ∧ w = w' := by
  have HB := Lib.hid hB
  clear hB
  by_cases h1 : 2 ≤ len
  · by_cases h2 : len % 2 = 0
    · have h2' : ((len : Int) % 2 == 0) = true := beq_iff_eq.2 (by omega)
      have E : Hid ((sumOf f len == 0) = right f len) := by
        unfold right; rw [Bool.eq_iff_iff]; simp only [beq_iff_eq, decide_eq_true_eq]; exact ⟨fun h => ⟨h1, h2, h⟩, fun h => h.2.2⟩
      clear h2
      go_enter Try.func30, Try.ntmps30
      go_wp2_with (go_at_call 27; ((with_reducible refine (of_any _ _ _ _ _ hl HB.out).mono ?_); rintro e w' ⟨rfl, rfl⟩))
      go_ret
      exact ⟨ret_bool E.out, rfl⟩
    · have h2' : ((len : Int) % 2 == 0) = false := beq_eq_false_iff_ne.2 (by omega)
      have E := Lib.hid (show right f len = false from by unfold right; rw [decide_eq_false_iff_not]; omega)
      clear h2
      go_enter Try.func30, Try.ntmps30
      go_wp2_with (go_at_call 27; ((with_reducible refine (of_any _ _ _ _ _ hl HB.out).mono ?_); rintro e w' ⟨rfl, rfl⟩))
      go_ret
      exact ⟨ret_bool E.out.symm, rfl⟩
  · have E := Lib.hid (show right f len = false from by unfold right; rw [decide_eq_false_iff_not]; omega)
    go_enter Try.func30, Try.ntmps30
    go_wp2_with (go_at_call 27; ((with_reducible refine (of_any _ _ _ _ _ hl HB.out).mono ?_); rintro e w' ⟨rfl, rfl⟩))
    go_ret
    exact ⟨ret_bool E.out.symm, rfl⟩

end Go.Proofs.Ytbdgnaeldlgoaaa.Sum
