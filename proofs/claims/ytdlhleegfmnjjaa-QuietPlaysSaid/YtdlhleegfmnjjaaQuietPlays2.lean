/- QuietPlays: what the document's limits let go, and the whole law. Conditions: none. -/
import Derived.Test.YtdlhleegfmnjjaaQuietPlays
namespace Go.Proofs.Ytdlhleegfmnjjaa.Quiet
open Go.RowKit Argin Save
set_option linter.unusedVariables false

set_option maxRecDepth 100000 in
set_option maxHeartbeats 1000000 in
theorem plays_big (m now id h : Int) (oa : Option Addr) (len cap : Nat) (W : World) (hm : -9223372036854775808 ≤ m ∧ m < 9223372036854775808) (hl : len ≤ 9223372036854775807) (hbig : 100 < len ∨ 1000000 < m ∨ 1000000000000 < now) :
    Calls Try.prog 3 #[.int .i64 m, .slice oa len cap, .int .u64 now, .int .i64 id, .int .i64 h] W fun e w' => e = .returned (.bool true) ∧ Below W.heap.size W w' := by
  by_cases c1 : len ≤ 100
  · by_cases c2 : m ≤ 1000000
    · have c3 : 1000000000000 < now := by omega
      clear hbig
      go_enter Try.func3, Try.ntmps3
      go_wp2_with (first
        | (go_at_call 15; ((with_reducible refine (up_any _).mono ?_); rintro e w1 ⟨rfl, hb⟩; have HB := Lib.hid hb; clear hb))
        | (go_at_call 16; ((with_reducible refine (new_any _ _ (by omega)).mono ?_); rintro e w2 ⟨rfl, hl, hb⟩; have HS := Lib.hid (HB.out.trans (hb.mono HB.out.size)); clear hl hb HB)))
      go_ret
      exact ⟨rfl, HS.out⟩
    · have c3 : 1000000 < m := by omega
      clear hbig c2
      go_enter Try.func3, Try.ntmps3
      go_wp2_with (first
        | (go_at_call 15; ((with_reducible refine (up_any _).mono ?_); rintro e w1 ⟨rfl, hb⟩; have HB := Lib.hid hb; clear hb))
        | (go_at_call 16; ((with_reducible refine (new_any _ _ (by omega)).mono ?_); rintro e w2 ⟨rfl, hl, hb⟩; have HS := Lib.hid (HB.out.trans (hb.mono HB.out.size)); clear hl hb HB)))
      go_ret
      exact ⟨rfl, HS.out⟩
  · have c3 : 100 < len := by omega
    clear hbig c1
    go_enter Try.func3, Try.ntmps3
    go_wp2_with (first
      | (go_at_call 15; ((with_reducible refine (up_any _).mono ?_); rintro e w1 ⟨rfl, hb⟩; have HB := Lib.hid hb; clear hb))
      | (go_at_call 16; ((with_reducible refine (new_any _ _ (by omega)).mono ?_); rintro e w2 ⟨rfl, hl, hb⟩; have HS := Lib.hid (HB.out.trans (hb.mono HB.out.size)); clear hl hb HB)))
    go_ret
    exact ⟨rfl, HS.out⟩

theorem plays_law (W : World) (v0 v1 v2 v3 v4 : Value) (o0 : Came Try.prog W 3 v0) (o1 : Came Try.prog W 22 v1) (o2 : Came Try.prog W 23 v2) (o3 : Came Try.prog W 3 v3) (o4 : Came Try.prog W 3 v4) :
    Calls Try.prog 3 #[v0, v1, v2, v3, v4] W fun e W' => e = .returned (.bool true) ∧ Below W.heap.size W W' := by
  obtain ⟨m, rfl, hm⟩ := o0.int Try.underlying3
  obtain ⟨now, rfl, hnow⟩ := o2.int Try.underlying23
  obtain ⟨id, rfl, hid⟩ := o3.int Try.underlying3
  obtain ⟨h, rfl, hh⟩ := o4.int Try.underlying3
  obtain ⟨oa, len, cap, rs, rfl, hl, hc, hi⟩ := slice_ints (o1.slice (.slice 1 (.int .u64)) (by kernel_rfl) Try.underlying22)
  have hm := Argin.wf_i64 hm
  have hnow := Argin.wf_u64 hnow
  have hid := Argin.wf_i64 hid
  have hh := Argin.wf_i64 hh
  unfold maxLen at hc
  by_cases hbig : 100 < len ∨ 1000000 < m ∨ 1000000000000 < now
  · exact plays_big m now id h oa len cap W hm (by omega) hbig
  · exact plays_main m now id h oa len cap rs W (by omega) (by omega) (by omega) hid hh (fun i h => Argin.wf_u64 (hi i h).1) (fun i h => (hi i h).2)

end Go.Proofs.Ytdlhleegfmnjjaa.Quiet
