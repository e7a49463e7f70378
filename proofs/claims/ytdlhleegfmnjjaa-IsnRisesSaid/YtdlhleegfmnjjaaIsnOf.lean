/- The first numbers and stamps of layer 5 as they are called. Conditions: the numbers' kinds. -/
import Derived.Test.YtdlhleegfmnjjaaIsn
namespace Go.Proofs.Ytdlhleegfmnjjaa.Isn
open Go.RowKit Argin Save Win Bytes Sip
set_option linter.unusedVariables false
set_option linter.unusedSimpArgs false

/-- A tuple's first number. -/
def ofv (k0 k1 : Int) (t : Tup) (now : Int) : Int := (now * 64 + hash k0 k1 (tb t)) % 4294967296
theorem ofv_eq1 (k0 k1 : Int) (t : Tup) (now : Int) : IntKind.u32.wrap (IntKind.u32.wrap (IntKind.u64.wrap (now * 64)) + IntKind.u32.wrap (hash k0 k1 (tb t))) = ofv k0 k1 t now := by
  unfold ofv; rw [u32_wrap, u32_wrap, u32_wrap, u64_wrap]; omega
theorem ofv_eq2 (k0 k1 : Int) (t : Tup) (now : Int) : IntKind.u32.wrap (IntKind.u64.wrap (IntKind.u64.wrap (64 * now) + hash k0 k1 (tb t))) = ofv k0 k1 t now := by
  unfold ofv; rw [u32_wrap, u64_wrap, u64_wrap]; omega

set_option maxHeartbeats 1000000 in
theorem of_any (k0 k1 now : Int) (t : Tup) (ht : t.In) (w : World) : Calls Try.prog 48 #[.int .u64 k0, .int .u64 k1, tv t, .int .u64 now] w fun e w' => e = .returned (.int .u32 (ofv k0 k1 t now)) ∧ Below w.heap.size w w' := by
  have HT := Lib.hid ht
  clear ht
  go_enter Try.func48, Try.ntmps48
  go_wp2_with fail
  refine (bytes_any t HT.out _).mono ?_
  rintro e w1 ⟨oa, cap, rfl, hr, hb⟩
  have HR := Lib.hid hr
  have HB := Lib.hid (((Below.refl w.heap.size w).alloc (Nat.le_refl _) _).trans (hb.mono (by simp)))
  clear hr hb
  go_wp2_with fail
  refine (Sip.of_any _ _ _ _ _ _ _ HR.out (Nat.le_refl _) (by rw [tb_len]; omega)).mono ?_
  rintro e w2 ⟨rfl, hb⟩
  have HB2 := Lib.hid (HB.out.trans (hb.mono HB.out.size))
  clear hb
  go_wp2_with fail
  go_ret
  exact ⟨ret_int (ofv_eq1 k0 k1 t now), HB2.out⟩

set_option maxHeartbeats 1000000 in
theorem first_any (k0 k1 now : Int) (t : Tup) (ht : t.In) (w : World) : Calls Try.prog 49 #[.int .u64 k0, .int .u64 k1, tv t, .int .u64 now] w fun e w' => e = .returned (.int .u32 (ofv k0 k1 t now)) ∧ Below w.heap.size w w' := by
  have HT := Lib.hid ht
  clear ht
  go_enter Try.func49, Try.ntmps49
  go_wp2_with fail
  refine (ref_bytes t HT.out _).mono ?_
  rintro e w1 ⟨oa, cap, rfl, hr, hb⟩
  have HR := Lib.hid hr
  have HB := Lib.hid (((Below.refl w.heap.size w).alloc (Nat.le_refl _) _).trans (hb.mono (by simp)))
  clear hr hb
  go_wp2_with fail
  refine (Sip.ref_of _ _ _ _ _ _ _ HR.out (Nat.le_refl _) (by rw [tb_len]; omega)).mono ?_
  rintro e w2 ⟨rfl, hb⟩
  have HB2 := Lib.hid (HB.out.trans (hb.mono HB.out.size))
  clear hb
  go_wp2_with fail
  go_ret
  exact ⟨ret_int (ofv_eq2 k0 k1 t now), HB2.out⟩

def stamp (now : Int) : Int := (now + 1) % 4294967296
theorem stamp_any (now : Int) (w : World) : Calls Try.prog 50 #[.int .u64 now] w fun e w' => e = .returned (.int .u32 (stamp now)) ∧ w = w' := by
  have e : IntKind.u32.wrap (IntKind.u32.wrap now + 1) = stamp now := by unfold stamp; rw [u32_wrap, u32_wrap]; omega
  have E := Lib.hid e
  clear e
  go_enter Try.func50, Try.ntmps50
  go_wp2
  go_ret
  exact ⟨ret_int E.out, rfl⟩
theorem ref_stamp (now : Int) (w : World) : Calls Try.prog 51 #[.int .u64 now] w fun e w' => e = .returned (.int .u32 (stamp now)) ∧ w = w' := by
  have e : IntKind.u32.wrap (IntKind.u64.wrap (now + 1)) = stamp now := by unfold stamp; rw [u32_wrap, u64_wrap]; omega
  have E := Lib.hid e
  clear e
  go_enter Try.func51, Try.ntmps51
  go_wp2
  go_ret
  exact ⟨ret_int E.out, rfl⟩

theorem up_any (w : World) : Calls Try.prog 45 #[] w fun e w' => e = .returned (.bool true) ∧ Below w.heap.size w w' := by
  have hs : stamp 0 = 1 := by decide
  have HS := Lib.hid hs
  clear hs
  go_enter Try.func45, Try.ntmps45
  go_wp2_with fail
  refine (stamp_any 0 _).mono ?_
  rintro e w' ⟨rfl, rfl⟩
  rw [HS.out]
  go_wp2_with fail
  refine (bytes_any ⟨0, 0, 0, 0⟩ (by unfold Tup.In; simp) _).mono ?_
  rintro e w1 ⟨oa, cap, rfl, hr, hb⟩
  have HB := Lib.hid hb
  clear hr hb
  rw [tb_len]
  go_wp2_with fail
  go_ret
  exact ⟨rfl, HB.out⟩
end Go.Proofs.Ytdlhleegfmnjjaa.Isn
