/- The word of up to eight bytes. Conditions: no more than eight. -/
import Derived.Test.YtdlhleegfmnjjaaSip2
import Derived.Laws.Bits64b
namespace Go.Proofs.Ytdlhleegfmnjjaa.Sip
open Go.RowKit Argin Save Win Bytes
set_option linter.unusedVariables false
set_option linter.unusedSimpArgs false

def wd : List UInt8 → Nat
  | [] => 0
  | b :: r => b.toNat + 256 * wd r
theorem wd_app (a b : List UInt8) : wd (a ++ b) = wd a + 2 ^ (8 * a.length) * wd b := by
  induction a with
  | nil => simp [wd]
  | cons x r ih =>
    simp only [List.cons_append, wd, ih, List.length_cons]
    rw [show 8 * (r.length + 1) = 8 * r.length + 8 from by omega, Nat.pow_add, Nat.mul_add, ← Nat.mul_assoc, ← Nat.add_assoc]
    congr 2
    rw [Nat.mul_comm]
theorem wd_lt (a : List UInt8) : wd a < 2 ^ (8 * a.length) := by
  induction a with
  | nil => simp [wd]
  | cons x r ih =>
    have := x.toNat_lt
    simp only [wd, List.length_cons]
    rw [show 8 * (r.length + 1) = 8 * r.length + 8 from by omega, Nat.pow_add]
    have h8 : (2 : Nat) ^ 8 = 256 := rfl
    rw [h8]
    omega
theorem wd_take (l : List UInt8) (k : Nat) (h : k < l.length) : wd (l.take (k + 1)) = wd (l.take k) + l[k].toNat * 2 ^ (8 * k) := by
  rw [List.take_succ_eq_append_getElem h, wd_app, List.length_take, show min k l.length = k from by omega]
  simp [wd, Nat.mul_comm]

theorem or_word (m c k : Nat) (hm : m < 2 ^ (8 * k)) (hc : c < 256) (hk : k < 8) : bits .or .u64 (m : Int) (IntKind.u64.wrap ((c : Int) * 2 ^ (8 * k))) = ((m + c * 2 ^ (8 * k) : Nat) : Int) := by
  have hp : (2 : Nat) ^ (8 * k) ≤ 2 ^ 56 := Nat.pow_le_pow_right (by omega) (by omega)
  have hcm : c * 2 ^ (8 * k) ≤ 255 * 2 ^ 56 := Nat.mul_le_mul (by omega) hp
  have h56 : (2 : Nat) ^ 56 = 72057594037927936 := rfl
  have e : IntKind.u64.wrap ((c : Int) * 2 ^ (8 * k)) = ((c * 2 ^ (8 * k) : Nat) : Int) := by
    rw [u64_wrap]
    have : ((c : Int) * 2 ^ (8 * k)) = ((c * 2 ^ (8 * k) : Nat) : Int) := by simp
    rw [this]
    generalize c * 2 ^ (8 * k) = x at hcm
    omega
  rw [e, bits_or_u64_nat m _ (by omega) (by omega)]
  congr 1
  rw [Nat.or_comm, ← Nat.shiftLeft_eq, ← Nat.shiftLeft_add_eq_or_of_lt hm, Nat.add_comm]

set_option maxHeartbeats 1000000 in
theorem word_any (B : Nat) (oa : Option Addr) (cap : Nat) (l : List UInt8) (w : World) (h : Rd w B oa cap l) (hl : l.length ≤ 8) :
    Calls Try.prog 57 #[.slice oa l.length cap] w fun e w' => e = .returned (.int .u64 (wd l : Nat)) ∧ w = w' := by
  have HX := Lib.hid h
  clear h
  go_enter Try.func57, Try.ntmps57
  go_wp2_with fail
  go_loop [3, 8] (fun sm sk => ∃ k : Nat, k ≤ l.length ∧ sk = .int .i64 k ∧ sm = .int .u64 (wd (l.take k) : Nat)) (fun _ sk => l.length - (intOf sk).toNat)
  case atStart => exact ⟨0, by omega, rfl, rfl⟩
  case round =>
    obtain ⟨k, hk, rfl, rfl⟩ := hrel
    by_cases hlt : k < l.length
    · obtain ⟨b, o, rfl, _, hc⟩ := HX.out.cell hlt
      have hm := wd_lt (l.take k)
      rw [List.length_take, show min k l.length = k from by omega] at hm
      have hor := or_word _ _ k hm l[k].toNat_lt (by omega)
      rw [← wd_take l k hlt] at hor
      have HM := Lib.hid hm
      generalize wd (l.take k) = m at hor ⊢
      have hcl := l[k].toNat_lt
      generalize l[k].toNat = c at hor hc hcl
      have hmin : min (8 * (k : Int)).toNat 64 = 8 * k := by omega
      clear hm HM
      go_wp2_with fail
      go_round
      case rel => exact ⟨k + 1, by omega, by go_num, by trace_state; rfl⟩
      case measure => simp [intOf]; omega
    · obtain rfl : k = l.length := by omega
      rw [List.take_length]
      go_wp2_with fail
      go_ret
      exact ⟨rfl, rfl⟩
end Go.Proofs.Ytdlhleegfmnjjaa.Sip
