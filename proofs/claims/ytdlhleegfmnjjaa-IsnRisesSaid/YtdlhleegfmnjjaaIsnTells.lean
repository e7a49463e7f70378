/- IsnTells: any tuple's bytes, its first number at any tick, by any key, and the stamp of any tick. Conditions: none. -/
import Derived.Test.YtdlhleegfmnjjaaIsnOf
namespace Go.Proofs.Ytdlhleegfmnjjaa.Isn
open Go.RowKit Argin Save Win Bytes Sip
set_option linter.unusedVariables false
set_option linter.unusedSimpArgs false

def cvA : Op := Op.convert 40 9 (Operand.tmp 14)
def cvB : Op := Op.convert 40 9 (Operand.tmp 17)
attribute [local go_sem] cvA cvB

/-- What is carried through: the tuple's cells. -/
theorem keepc {w w' : World} {b : Nat} {o : Nat} {v : Value} (hb : Below w.heap.size w w') (hz : b < w.heap.size) (h : w.cell? ⟨b, o, none⟩ = some v) : w'.cell? ⟨b, o, none⟩ = some v := (hb.cell (p := ⟨b, o, none⟩) hz).trans h

set_option maxRecDepth 100000 in
set_option maxHeartbeats 4000000 in
theorem tells_main (k0 k1 now : Int) (t : Tup) (ht : t.In) (W : World) :
    Calls Try.prog 13 #[.int .u64 k0, .int .u64 k1, tv t, .int .u64 now] W fun e w' => e = .returned (.bool true) ∧ Below W.heap.size W w' := by
  have HT := Lib.hid ht
  have htl := str_toList
  clear ht
  go_enter Try.func13, Try.ntmps13
  go_wp2_with fail
  refine (up_any _).mono ?_
  rintro e w1 ⟨rfl, hb⟩
  have hv := block_stays hb (get_alloc W (.cells #[.int .u8 t.h, .int .u16 t.p, .int .u8 t.k, .int .u16 t.q] 74))
  have HB := Lib.hid (below_drew (((Below.refl W.heap.size W).alloc (Nat.le_refl _) _).trans (hb.mono (by simp))))
  obtain ⟨c0, c1, c2, c3⟩ := c4 hv
  have HZ := Lib.hid (show W.heap.size < w1.drew.heap.size from lt_of_get hv)
  clear hb hv
  go_wp2_with fail
  rw [show Op.convert 40 9 (Operand.tmp 14) = cvA from rfl, show Op.convert 40 9 (Operand.tmp 17) = cvB from rfl]
  go_region_held3 (fun w' => w'.cell? ⟨W.heap.size, 0, none⟩ = some (.int .u8 t.h) ∧ w'.cell? ⟨W.heap.size, 1, none⟩ = some (.int .u16 t.p) ∧ w'.cell? ⟨W.heap.size, 2, none⟩ = some (.int .u8 t.k) ∧ w'.cell? ⟨W.heap.size, 3, none⟩ = some (.int .u16 t.q)) (go_keep) (first
    | (go_at_call 46; (with_reducible refine (bytes_any t HT.out _).mono ?_); rintro e w2 ⟨oa, cap, rfl, hr, hb⟩; have hz := HZ.out; have a0 := keepc (o := 0) hb hz (by assumption); have a1 := keepc (o := 1) hb hz (by assumption); have a2 := keepc (o := 2) hb hz (by assumption); have a3 := keepc (o := 3) hb hz (by assumption); have HB2 := Lib.hid (HB.out.trans (hb.mono (Nat.le_of_lt hz))); have HZ2 := Lib.hid (Nat.lt_of_lt_of_le hz hb.size); have HR2 := Lib.hid hr; have hst := run_str (P := Try.prog) w2 (src := 40) (dst := 9) Try.underlying40 Try.underlying5 Try.underlying9 hr; clear hz hb hr)
    | (go_at_call 47; (with_reducible refine (ref_bytes t HT.out _).mono ?_); rintro e w3 ⟨oa2, cap2, rfl, hr, hb⟩; have hz := HZ2.out; have a0 := keepc (o := 0) hb hz (by assumption); have a1 := keepc (o := 1) hb hz (by assumption); have a2 := keepc (o := 2) hb hz (by assumption); have a3 := keepc (o := 3) hb hz (by assumption); have HB3 := Lib.hid (HB2.out.trans (hb.mono (Nat.le_of_lt hz))); have HZ3 := Lib.hid (Nat.lt_of_lt_of_le hz hb.size); have hst2 := run_str (P := Try.prog) w3 (src := 40) (dst := 9) Try.underlying40 Try.underlying5 Try.underlying9 hr; have hst3 := run_str (P := Try.prog) w3 (src := 40) (dst := 9) Try.underlying40 Try.underlying5 Try.underlying9 (HR2.out.below hb); clear hz hb hr)
    | (go_at_call 48; (with_reducible refine (of_any k0 k1 now t HT.out _).mono ?_); rintro e w4 ⟨rfl, hb⟩; have hz := HZ3.out; have a0 := keepc (o := 0) hb hz (by assumption); have a1 := keepc (o := 1) hb hz (by assumption); have a2 := keepc (o := 2) hb hz (by assumption); have a3 := keepc (o := 3) hb hz (by assumption); have HB4 := Lib.hid (HB3.out.trans (hb.mono (Nat.le_of_lt hz))); have HZ4 := Lib.hid (Nat.lt_of_lt_of_le hz hb.size); clear hz hb)
    | (go_at_call 49; (with_reducible refine (first_any k0 k1 now t HT.out _).mono ?_); rintro e w5 ⟨rfl, hb⟩; have hz := HZ4.out; have a0 := keepc (o := 0) hb hz (by assumption); have a1 := keepc (o := 1) hb hz (by assumption); have a2 := keepc (o := 2) hb hz (by assumption); have a3 := keepc (o := 3) hb hz (by assumption); have HB5 := Lib.hid (HB4.out.trans (hb.mono (Nat.le_of_lt hz))); clear hz hb)
    | (go_at_call 50; (with_reducible refine (stamp_any now _).mono ?_); rintro e w6 ⟨rfl, rfl⟩)
    | (go_at_call 51; (with_reducible refine (ref_stamp now _).mono ?_); rintro e w7 ⟨rfl, rfl⟩))
  all_goals
    go_wp2_with fail
    go_ret
    exact ⟨rfl, HB5.out⟩
theorem tup_of {W : World} {v : Value} (o : Came Try.prog W 74 v) : ∃ t : Tup, v = tv t ∧ t.In := by
  obtain ⟨cs, rfl, hok⟩ := o.agg (.agg [.agg [.int .u8, .int .u16], .agg [.int .u8, .int .u16]]) (by kernel_rfl) Try.underlying74
  unfold Sh.Ok Sh.OkL at hok
  obtain ⟨x, _, hcs, h1, hok⟩ := hok
  unfold Sh.OkL at hok
  obtain ⟨y, _, rfl, h2, hok⟩ := hok
  unfold Sh.OkL at hok
  subst hok
  unfold Sh.Ok Sh.OkL at h1 h2
  obtain ⟨_, _, rfl, a1, h1⟩ := h1
  unfold Sh.OkL at h1
  obtain ⟨_, _, rfl, a2, h1⟩ := h1
  unfold Sh.OkL at h1
  subst h1
  obtain ⟨_, _, rfl, b1, h2⟩ := h2
  unfold Sh.OkL at h2
  obtain ⟨_, _, rfl, b2, h2⟩ := h2
  unfold Sh.OkL at h2
  subst h2
  unfold Sh.Ok at a1 a2 b1 b2
  obtain ⟨h, rfl, wh⟩ := a1
  obtain ⟨p, rfl, wp⟩ := a2
  obtain ⟨k, rfl, wk⟩ := b1
  obtain ⟨q, rfl, wq⟩ := b2
  refine ⟨⟨h, p, k, q⟩, ?_, Argin.wf_u8 wh, Argin.wf_u16 wp, Argin.wf_u8 wk, Argin.wf_u16 wq⟩
  obtain ⟨l⟩ := cs
  simp only [List.cons_append, List.nil_append, List.append_nil] at hcs
  rw [show l = [.int .u8 h, .int .u16 p, .int .u8 k, .int .u16 q] from hcs]

theorem tells_law (W : World) (v0 v1 v2 v3 : Value) (o0 : Came Try.prog W 23 v0) (o1 : Came Try.prog W 23 v1) (o2 : Came Try.prog W 74 v2) (o3 : Came Try.prog W 23 v3) :
    Calls Try.prog 13 #[v0, v1, v2, v3] W fun e W' => e = .returned (.bool true) ∧ Below W.heap.size W W' := by
  obtain ⟨k0, rfl, _⟩ := o0.int Try.underlying23
  obtain ⟨k1, rfl, _⟩ := o1.int Try.underlying23
  obtain ⟨now, rfl, _⟩ := o3.int Try.underlying23
  obtain ⟨t, rfl, ht⟩ := tup_of o2
  exact tells_main k0 k1 now t ht W
end Go.Proofs.Ytdlhleegfmnjjaa.Isn
