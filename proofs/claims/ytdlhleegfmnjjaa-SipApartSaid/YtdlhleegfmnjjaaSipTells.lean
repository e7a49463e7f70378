/- SipTells: the number of any bytes, by any key; a round of any four numbers. Conditions: none. -/
import Derived.Test.YtdlhleegfmnjjaaSipRefOf
import Derived.Test.YtdlhleegfmnjjaaSipEq
import Derived.Test.YtdlhleegfmnjjaaSipQuad
namespace Go.Proofs.Ytdlhleegfmnjjaa.Sip
open Go.RowKit Argin Save Win Bytes
set_option linter.unusedVariables false
set_option linter.unusedSimpArgs false

theorem hash_up : hash 506097522914230528 1084818905618843912 [] = 8246050544436514353 := by decide +kernel

theorem up_any (w : World) : Calls Try.prog 40 #[] w fun e w' => e = .returned (.bool true) ∧ Below w.heap.size w w' := by
  have hh := of_any 506097522914230528 1084818905618843912 0 none 0 [] w (Rd.empty _ _ _ (by simp)) (Nat.zero_le _) (by simp)
  rw [hash_up] at hh
  have HH := Lib.hid hh
  clear hh
  go_enter Try.func40, Try.ntmps40
  go_wp2_with fail
  refine HH.out.mono ?_
  rintro e w' ⟨rfl, hb⟩
  have HB := Lib.hid hb
  clear hb
  go_wp2_with fail
  go_ret
  exact ⟨rfl, HB.out⟩

theorem quad_eql (w : World) (a b : Quad) : (Op.equalIn 10000 66 (qv a) (qv b)).run Try.prog w = .ok (a.a == b.a && a.b == b.b && a.c == b.c && a.d == b.d) w := by
  obtain ⟨i0, hi, hz0, hz1, hz2⟩ := info_parts infoU8
  exact run_equalIn_quad w 9998 Try.underlying66 Try.underlying23 hi hz1 hz0 a b

set_option maxRecDepth 100000 in
set_option maxHeartbeats 4000000 in
theorem tells_main (k0 k1 : Int) (oa : Option Addr) (cap : Nat) (l : List UInt8) (q : Quad) (W : World) (h : Rd W W.heap.size oa cap l) (hl : l.length ≤ 2000) :
    Calls Try.prog 11 #[.int .u64 k0, .int .u64 k1, .slice oa l.length cap, qv q] W fun e w' => e = .returned (.bool true) ∧ Below W.heap.size W w' := by
  have HX := Lib.hid h
  clear h
  have hq := quad_eql
  go_enter Try.func11, Try.ntmps11
  go_wp2_with fail
  refine (up_any _).mono ?_
  rintro e w1 ⟨rfl, hb⟩
  have hv := block_stays hb (get_alloc W (.cells #[.int .u64 q.a, .int .u64 q.b, .int .u64 q.c, .int .u64 q.d] 66))
  have HB := Lib.hid (((Below.refl W.heap.size W).alloc (Nat.le_refl _) _).trans (hb.mono (by simp)))
  obtain ⟨c0, c1, c2, c3⟩ := c4 hv
  have HV := Lib.hid hv
  clear hb hv
  go_wp2_with fail
  have HBd := Lib.hid (below_drew HB.out)
  have HVd := Lib.hid (show w1.drew.heap[W.heap.size]? = some (.cells #[.int .u64 q.a, .int .u64 q.b, .int .u64 q.c, .int .u64 q.d] 66) from HV.out)
  have HXd := Lib.hid (HX.out.below HBd.out)
  go_region_with (first
    | (go_at_call 41; refine (of_any _ _ W.heap.size _ _ _ _ HXd.out HBd.out.size (by omega)).mono ?_; rintro e w2 ⟨rfl, hb⟩; have hv := block_stays hb HVd.out; have HB2 := Lib.hid (HBd.out.trans (hb.mono (by exact HBd.out.size))); obtain ⟨c0, c1, c2, c3⟩ := c4 hv; have HV2 := Lib.hid hv; clear hb hv)
    | (go_at_call 42; refine (ref_of _ _ W.heap.size _ _ _ _ (HX.out.below HB2.out) (by exact HB2.out.size) (by omega)).mono ?_; rintro e w3 ⟨rfl, hb⟩; have hv := block_stays hb HV2.out; have HB3 := Lib.hid (HB2.out.trans (hb.mono (by exact HB2.out.size))); obtain ⟨c0, c1, c2, c3⟩ := c4 hv; have HV3 := Lib.hid hv; clear hb hv)
    | (go_at_call 43; refine (round_any q _).mono ?_; rintro e w4 ⟨rfl, hb⟩; have hv := block_stays hb HV3.out; have HB4 := Lib.hid (HB3.out.trans (hb.mono (by exact HB3.out.size))); obtain ⟨c0, c1, c2, c3⟩ := c4 hv; have HV4 := Lib.hid hv; clear hb hv)
    | (go_at_call 44; refine (ref_round q _).mono ?_; rintro e w5 ⟨rfl, hb⟩; have HB5 := Lib.hid (HB4.out.trans (hb.mono (by exact HB4.out.size))); clear hb))
  all_goals
    go_wp2_with fail
    go_ret
    exact ⟨rfl, HB5.out⟩

set_option maxRecDepth 100000 in
theorem tells_long (k0 k1 : Int) (oa : Option Addr) (len cap : Nat) (q : Quad) (W : World) (hl : 2000 < len) (hm : len ≤ 9223372036854775807) :
    Calls Try.prog 11 #[.int .u64 k0, .int .u64 k1, .slice oa len cap, qv q] W fun e w' => e = .returned (.bool true) ∧ Below W.heap.size W w' := by
  go_enter Try.func11, Try.ntmps11
  go_wp2_with fail
  refine (up_any _).mono ?_
  rintro e w1 ⟨rfl, hb⟩
  have HB := Lib.hid (((Below.refl W.heap.size W).alloc (Nat.le_refl _) _).trans (hb.mono (by simp)))
  clear hb
  go_wp2_with fail
  go_ret
  exact ⟨rfl, HB.out⟩

theorem tells_law (W : World) (v0 v1 v2 v3 : Value) (o0 : Came Try.prog W 23 v0) (o1 : Came Try.prog W 23 v1) (o2 : Came Try.prog W 40 v2) (o3 : Came Try.prog W 66 v3) :
    Calls Try.prog 11 #[v0, v1, v2, v3] W fun e W' => e = .returned (.bool true) ∧ Below W.heap.size W W' := by
  obtain ⟨k0, rfl, _⟩ := o0.int Try.underlying23
  obtain ⟨k1, rfl, _⟩ := o1.int Try.underlying23
  obtain ⟨oa, cap, l, rfl, hr⟩ := rd_of (o2.slice (.slice 1 (.int .u8)) (by kernel_rfl) Try.underlying40)
  obtain ⟨q, rfl, _⟩ := quad_of o3
  by_cases hl : 2000 < l.length
  · exact tells_long k0 k1 oa l.length cap q W hl (by have := hr.1; have := hr.2.1; unfold maxLen at this; omega)
  · exact tells_main k0 k1 oa cap l q W hr (by omega)
end Go.Proofs.Ytdlhleegfmnjjaa.Sip
