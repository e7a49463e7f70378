/- The sum of bytes (layer 2) as it is called, the program's and the document's. Conditions: the bytes' number is no more than 2^40. -/
import Derived.Test.YtbdgnaeldlgoaaaProg
import Derived.Test.YtbdgnaeldlgoaaaSave
import Derived.WalkSpells
import Derived.WalkLawsBesides
import Derived.Laws.BitsLemmas
import Derived.Laws.Bits64b
import Derived.Deep.DeepCutAuto
import Derived.Deep.CutBlock
namespace Go.Proofs.Ytbdgnaeldlgoaaa.Sum
open Go.RowKit Argin Save
set_option linter.unusedVariables false
set_option linter.unusedSimpArgs false

/-- The words of the first k bytes, added. -/
def tot (f : Nat → Int) : Nat → Int
  | 0 => 0
  | k + 1 => tot f k + (if k % 2 = 0 then 256 * f k else f k)
/-- What is left when what lies above 16 bits is added as long as there is some. -/
def fd (n : Int) : Int := if n = 0 then 0 else (n - 1) % 65535 + 1
def sumOf (f : Nat → Int) (len : Nat) : Int := 65535 - fd (tot f len)

theorem tot_bound (f : Nat → Int) (k : Nat) (h : ∀ i, i < k → 0 ≤ f i ∧ f i < 256) : 0 ≤ tot f k ∧ tot f k ≤ 65536 * k := by
  induction k with
  | zero => simp [tot]
  | succ k ih =>
    have h1 := ih (fun i hi => h i (by omega))
    have h2 := h k (by omega)
    unfold tot
    split <;> omega

theorem fd_small (n : Int) (h : 0 ≤ n ∧ n < 65536) : fd n = n := by unfold fd; split <;> omega
theorem fd_step (n : Int) (h : 65536 ≤ n) : fd (n / 65536 + n % 65536) = fd n := by unfold fd; split <;> split <;> omega
theorem fd_range (n : Int) : 0 ≤ fd n ∧ fd n ≤ 65535 := by unfold fd; split <;> omega

/-- Bytes in memory. -/
def Bytes (w : World) (oa : Option Addr) (len : Nat) (f : Nat → Int) : Prop := ∀ i, i < len → (0 ≤ f i ∧ f i < 256) ∧ ∃ b o, oa = some ⟨b, o, none⟩ ∧ b < w.heap.size ∧ w.cell? ⟨b, o + i, none⟩ = some (.int .u8 (f i))

set_option maxHeartbeats 1000000 in
theorem ref_any (oa : Option Addr) (len cap : Nat) (f : Nat → Int) (w : World) (hl : len ≤ 1000000000000) (hB : Bytes w oa len f) :
    Calls Try.prog 26 #[.slice oa len cap] w fun e w' => e = .returned (.int .u16 (sumOf f len)) ∧ w = w' := by
  have HB := Lib.hid hB
  clear hB
  go_enter Try.func26, Try.ntmps26
  go_wp2_with fail
  go_loop [3, 4] (fun n i => ∃ k : Nat, k ≤ len ∧ i = .int .i64 k ∧ n = .int .i64 (tot f k)) (fun _ i => len - (intOf i).toNat)
  case atStart => exact ⟨0, by omega, rfl, rfl⟩
  case round =>
    obtain ⟨k, hk, rfl, rfl⟩ := hrel
    have hb := tot_bound f k (fun i hi => (HB.out i (by omega)).1)
    by_cases hlt : k < len
    · obtain ⟨hf, b, o, rfl, hbw, hc⟩ := HB.out k hlt
      have ht : tot f (k + 1) = tot f k + (if k % 2 = 0 then 256 * f k else f k) := rfl
      have HT := Lib.hid ht
      clear ht
      by_cases hp : (k : Int) % 2 = 0
      · have hp' : ((k : Int) % 2 == 0) = true := beq_iff_eq.2 hp
        go_wp2_with fail
        go_round
        case rel => exact ⟨k + 1, by omega, by go_num, by rw [HT.out, if_pos (by omega)]⟩
        case measure => simp [intOf]; omega
      · have hp' : ((k : Int) % 2 == 0) = false := beq_eq_false_iff_ne.2 hp
        go_wp2_with fail
        go_round
        case rel => exact ⟨k + 1, by omega, by go_num, by rw [HT.out, if_neg (by omega)]⟩
        case measure => simp [intOf]; omega
    · obtain rfl : k = len := by omega
      go_wp2_with fail
      go_loop [3] (fun n => ∃ m : Int, 0 ≤ m ∧ m ≤ tot f k ∧ fd m = fd (tot f k) ∧ n = .int .i64 m) (fun n => (intOf n).toNat)
      case atStart => exact ⟨tot f k, by omega, by omega, rfl, rfl⟩
      case round =>
        obtain ⟨m, hm0, hm1, hfd, rfl⟩ := hrel
        have HF := Lib.hid hfd
        clear hfd
        by_cases hbig : 65536 ≤ m
        · go_wp2_with fail
          go_round
          case rel => exact ⟨m % 65536 + m / 65536, by omega, by omega, by rw [Int.add_comm, fd_step m hbig]; exact HF.out, rfl⟩
          case measure => simp [intOf]; omega
        · go_wp2_with fail
          go_ret
          exact ⟨ret_int (by unfold sumOf; rw [← HF.out, fd_small m (by omega)]), rfl⟩

theorem low16 (m : Int) (h0 : 0 ≤ m) (h1 : m < 18446744073709551616) : bits .and .u64 m 65535 = m % 65536 := by
  obtain ⟨n, rfl⟩ := Int.eq_ofNat_of_zero_le h0
  have := bits_and_u64_nat n 65535 (by omega) (by omega)
  rw [show ((65535 : Int)) = ((65535 : Nat) : Int) from rfl, this]
  rw [show (65535 : Nat) = 2 ^ 16 - 1 from rfl, Nat.and_two_pow_sub_one_eq_mod]
  omega

theorem u16_not (m : Int) (h0 : 0 ≤ m) (h1 : m < 65536) : bits .xor .u16 IntKind.u16.max m = 65535 - m := by
  obtain ⟨n, rfl⟩ := Int.eq_ofNat_of_zero_le h0
  have hn : n < 65536 := by omega
  show IntKind.u16.wrap ((BitVec.ofInt 16 65535 ^^^ BitVec.ofInt 16 (n : Int)).toNat : Int) = _
  have h1 : BitVec.ofInt 16 65535 = BitVec.allOnes 16 := by decide
  have h2 : (BitVec.ofInt 16 (n : Int)).toNat = n := by
    rw [BitVec.ofInt_natCast, BitVec.toNat_ofNat]; exact Nat.mod_eq_of_lt (by omega)
  rw [h1, BitVec.allOnes_xor, BitVec.toNat_not, h2, u16_wrap]
  omega

theorem of_any (oa : Option Addr) (len cap : Nat) (f : Nat → Int) (w : World) (hl : len ≤ 1000000000000) (hB : Bytes w oa len f) :
    Calls Try.prog 27 #[.slice oa len cap] w fun e w' => e = .returned (.int .u16 (sumOf f len)) ∧ w = w' := by
  have HB := Lib.hid hB
  clear hB
  go_enter Try.func27, Try.ntmps27
  go_wp2_with fail
  go_loop [3, 4, 7] (fun n _ i => ∃ k : Nat, k ≤ len ∧ i = .int .i64 k ∧ n = .int .u64 (tot f k)) (fun _ _ i => len - (intOf i).toNat)
  case atStart => exact ⟨0, by omega, rfl, rfl⟩
  case round =>
    obtain ⟨k, hk, rfl, rfl⟩ := hrel
    have hb := tot_bound f k (fun i hi => (HB.out i (by omega)).1)
    by_cases hlt : k < len
    · obtain ⟨hf, b, o, rfl, hbw, hc⟩ := HB.out k hlt
      have ht : tot f (k + 1) = tot f k + (if k % 2 = 0 then 256 * f k else f k) := rfl
      have HT := Lib.hid ht
      clear ht
      by_cases hp : (k : Int) % 2 = 0
      · have hp' : ((k : Int) + 1) % 2 = 1 := by omega
        go_wp2_with fail
        go_round
        case rel => exact ⟨k + 1, by omega, by go_num, by rw [HT.out, if_pos (by omega), Int.mul_comm]⟩
        case measure => simp [intOf]; omega
      · have hp' : ((k : Int) + 1) % 2 = 0 := by omega
        go_wp2_with fail
        go_round
        case rel => exact ⟨k + 1, by omega, by go_num, by rw [HT.out, if_neg (by omega)]⟩
        case measure => simp [intOf]; omega
    · obtain rfl : k = len := by omega
      go_wp2_with fail
      go_loop [3] (fun n => ∃ m : Int, 0 ≤ m ∧ m ≤ tot f k ∧ fd m = fd (tot f k) ∧ n = .int .u64 m) (fun n => (intOf n).toNat)
      case atStart => exact ⟨tot f k, by omega, by omega, rfl, rfl⟩
      case round =>
        obtain ⟨m, hm0, hm1, hfd, rfl⟩ := hrel
        have HF := Lib.hid hfd
        clear hfd
        by_cases hbig : 65536 ≤ m
        · have hlow := low16 m hm0 (by omega)
          go_wp2_with fail
          go_round
          case rel => exact ⟨m / 65536 + m % 65536, by omega, by omega, by rw [fd_step m hbig]; exact HF.out, by go_num⟩
          case measure => simp [intOf]; omega
        · go_wp2_with fail
          go_ret
          exact ⟨ret_int (by rw [u16_not m hm0 (by omega)]; unfold sumOf; rw [← HF.out, fd_small m (by omega)]), rfl⟩

end Go.Proofs.Ytbdgnaeldlgoaaa.Sum
