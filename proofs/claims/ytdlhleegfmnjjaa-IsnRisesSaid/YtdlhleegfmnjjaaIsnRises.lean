/- IsnRises: a tick later it is 64 more, whatever the key is; tuples that are unlike have unlike bytes. Conditions: none. -/
import Derived.Test.YtdlhleegfmnjjaaIsnTells
import Derived.Laws.StructEq
namespace Go.Proofs.Ytdlhleegfmnjjaa.Isn
open Go.RowKit Argin Save Win Bytes Sip
set_option linter.unusedVariables false
set_option linter.unusedSimpArgs false

def sameT (a b : Tup) : Bool := a.h == b.h && a.p == b.p && a.k == b.k && a.q == b.q
theorem sameT_iff (a b : Tup) : sameT a b = true ↔ a = b := by
  obtain ⟨a0, a1, a2, a3⟩ := a
  obtain ⟨b0, b1, b2, b3⟩ := b
  simp [sameT, and_assoc]
theorem tb_same {t u : Tup} (ht : t.In) (hu : u.In) : (tb t == tb u) = sameT t u := by
  rw [Bool.eq_iff_iff, sameT_iff, beq_iff_eq]
  refine ⟨fun h => ?_, fun h => by rw [h]⟩
  have h2 : bv (tb t) = bv (tb u) := by rw [h]
  rw [bv_tb t ht, bv_tb u hu] at h2
  obtain ⟨a0, a1, a2, a3⟩ := t
  obtain ⟨b0, b1, b2, b3⟩ := u
  simp only [List.cons.injEq, Value.int.injEq, true_and, and_true] at h2
  obtain ⟨e0, e1, e2, e3, e4, e5⟩ := h2
  subst e0 e3
  have : a1 = b1 := by omega
  have : a3 = b3 := by omega
  subst_vars
  rfl

theorem tup_eql (w : World) (a b : Tup) : (Op.equalIn 10000 74 (tv a) (tv b)).run Try.prog w = .ok (sameT a b) w := by
  obtain ⟨a0, a1, a2, a3⟩ := a
  obtain ⟨b0, b1, b2, b3⟩ := b
  unfold sameT
  by_cases h0 : a0 = b0 <;> by_cases h1 : a1 = b1 <;> by_cases h2 : a2 = b2 <;> by_cases h3 : a3 = b3 <;>
    simp [go_sem, h0, h1, h2, h3]
def cvC : Op := Op.convert 40 9 (Operand.tmp 40)
def cvD : Op := Op.convert 40 9 (Operand.tmp 43)
attribute [local go_sem] cvC cvD

set_option maxRecDepth 100000 in
set_option maxHeartbeats 8000000 in
theorem rises_main (k0 k1 now : Int) (t u : Tup) (ht : t.In) (hu : u.In) (W : World) :
    Calls Try.prog 14 #[.int .u64 k0, .int .u64 k1, tv t, tv u, .int .u64 now] W fun e w' => e = .returned (.bool true) ∧ Below W.heap.size W w' := by
  have HT := Lib.hid ht
  have HU := Lib.hid hu
  have HS := Lib.hid (tb_same ht hu)
  have htl := str_toList
  have hte := tup_eql
  obtain ⟨n1, hn1⟩ : ∃ n1, IntKind.u64.wrap (now + 1) = n1 := ⟨_, rfl⟩
  have ho : IntKind.u32.wrap (ofv k0 k1 t now + 64) = ofv k0 k1 t n1 := by
    rw [← hn1]; unfold ofv; rw [u32_wrap, u64_wrap]; omega
  have hs : IntKind.u32.wrap (stamp now + 1) = stamp n1 := by
    rw [← hn1]; unfold stamp; rw [u32_wrap, u64_wrap]; omega
  clear ht hu
  go_enter Try.func14, Try.ntmps14
  go_wp2_with fail
  refine (up_any _).mono ?_
  rintro e w1 ⟨rfl, hb⟩
  have hv := block_stays hb (get_alloc_old (.cells #[.int .u8 u.h, .int .u16 u.p, .int .u8 u.k, .int .u16 u.q] 74) (get_alloc W (.cells #[.int .u8 t.h, .int .u16 t.p, .int .u8 t.k, .int .u16 t.q] 74)))
  have hv2 := block_stays hb (get_alloc (W.alloc (.cells #[.int .u8 t.h, .int .u16 t.p, .int .u8 t.k, .int .u16 t.q] 74)) (.cells #[.int .u8 u.h, .int .u16 u.p, .int .u8 u.k, .int .u16 u.q] 74))
  simp only [World.size_alloc] at hv2
  have HB := Lib.hid (below_drew ((((Below.refl W.heap.size W).alloc (Nat.le_refl _) _).alloc (by simp) _).trans (hb.mono (by simp; omega))))
  obtain ⟨c0, c1, c2, c3⟩ := c4 hv
  obtain ⟨d0, d1, d2, d3⟩ := c4 hv2
  have HZ := Lib.hid (show W.heap.size + 1 < w1.drew.heap.size from lt_of_get hv2)
  clear hb hv hv2
  go_wp2_with fail
  rw [show Op.convert 40 9 (Operand.tmp 40) = cvC from rfl, show Op.convert 40 9 (Operand.tmp 43) = cvD from rfl]
  go_region_held3 (fun w' => w'.cell? ⟨W.heap.size, 0, none⟩ = some (.int .u8 t.h) ∧ w'.cell? ⟨W.heap.size, 1, none⟩ = some (.int .u16 t.p) ∧ w'.cell? ⟨W.heap.size, 2, none⟩ = some (.int .u8 t.k) ∧ w'.cell? ⟨W.heap.size, 3, none⟩ = some (.int .u16 t.q) ∧ w'.cell? ⟨W.heap.size + 1, 0, none⟩ = some (.int .u8 u.h) ∧ w'.cell? ⟨W.heap.size + 1, 1, none⟩ = some (.int .u16 u.p) ∧ w'.cell? ⟨W.heap.size + 1, 2, none⟩ = some (.int .u8 u.k) ∧ w'.cell? ⟨W.heap.size + 1, 3, none⟩ = some (.int .u16 u.q)) (go_keep) (first
    | (go_at_call 48; (with_reducible refine (of_any k0 k1 n1 t HT.out _).mono ?_); rintro e w2 ⟨rfl, hb⟩; have hz := HZ.out; have a0 := keepc (b := W.heap.size) (o := 0) hb (Nat.lt_of_succ_lt hz) (by assumption); have a1 := keepc (b := W.heap.size) (o := 1) hb (Nat.lt_of_succ_lt hz) (by assumption); have a2 := keepc (b := W.heap.size) (o := 2) hb (Nat.lt_of_succ_lt hz) (by assumption); have a3 := keepc (b := W.heap.size) (o := 3) hb (Nat.lt_of_succ_lt hz) (by assumption); have b0 := keepc (b := W.heap.size + 1) (o := 0) hb hz (by assumption); have b1 := keepc (b := W.heap.size + 1) (o := 1) hb hz (by assumption); have b2 := keepc (b := W.heap.size + 1) (o := 2) hb hz (by assumption); have b3 := keepc (b := W.heap.size + 1) (o := 3) hb hz (by assumption); have HB2 := Lib.hid (HB.out.trans (hb.mono (Nat.le_of_lt (Nat.lt_of_succ_lt hz)))); have HZ2 := Lib.hid (Nat.lt_of_lt_of_le hz hb.size); clear hz hb)
    | (go_at_call 48; (with_reducible refine (of_any k0 k1 now t HT.out _).mono ?_); rintro e w3 ⟨rfl, hb⟩; have hz := HZ2.out; have a0 := keepc (b := W.heap.size) (o := 0) hb (Nat.lt_of_succ_lt hz) (by assumption); have a1 := keepc (b := W.heap.size) (o := 1) hb (Nat.lt_of_succ_lt hz) (by assumption); have a2 := keepc (b := W.heap.size) (o := 2) hb (Nat.lt_of_succ_lt hz) (by assumption); have a3 := keepc (b := W.heap.size) (o := 3) hb (Nat.lt_of_succ_lt hz) (by assumption); have b0 := keepc (b := W.heap.size + 1) (o := 0) hb hz (by assumption); have b1 := keepc (b := W.heap.size + 1) (o := 1) hb hz (by assumption); have b2 := keepc (b := W.heap.size + 1) (o := 2) hb hz (by assumption); have b3 := keepc (b := W.heap.size + 1) (o := 3) hb hz (by assumption); have HB3 := Lib.hid (HB2.out.trans (hb.mono (Nat.le_of_lt (Nat.lt_of_succ_lt hz)))); have HZ3 := Lib.hid (Nat.lt_of_lt_of_le hz hb.size); clear hz hb)
    | (go_at_call 50; (with_reducible refine (stamp_any n1 _).mono ?_); rintro e w6 ⟨rfl, rfl⟩)
    | (go_at_call 50; (with_reducible refine (stamp_any now _).mono ?_); rintro e w7 ⟨rfl, rfl⟩)
    | (go_at_call 46; (with_reducible refine (bytes_any t HT.out _).mono ?_); rintro e w4 ⟨oa, cap, rfl, hr, hb⟩; have hz := HZ3.out; have a0 := keepc (b := W.heap.size) (o := 0) hb (Nat.lt_of_succ_lt hz) (by assumption); have a1 := keepc (b := W.heap.size) (o := 1) hb (Nat.lt_of_succ_lt hz) (by assumption); have a2 := keepc (b := W.heap.size) (o := 2) hb (Nat.lt_of_succ_lt hz) (by assumption); have a3 := keepc (b := W.heap.size) (o := 3) hb (Nat.lt_of_succ_lt hz) (by assumption); have b0 := keepc (b := W.heap.size + 1) (o := 0) hb hz (by assumption); have b1 := keepc (b := W.heap.size + 1) (o := 1) hb hz (by assumption); have b2 := keepc (b := W.heap.size + 1) (o := 2) hb hz (by assumption); have b3 := keepc (b := W.heap.size + 1) (o := 3) hb hz (by assumption); have HB4 := Lib.hid (HB3.out.trans (hb.mono (Nat.le_of_lt (Nat.lt_of_succ_lt hz)))); have HZ4 := Lib.hid (Nat.lt_of_lt_of_le hz hb.size); have HR4 := Lib.hid hr; have hst := run_str (P := Try.prog) w4 (src := 40) (dst := 9) Try.underlying40 Try.underlying5 Try.underlying9 hr; clear hr; clear hz hb)
    | (go_at_call 46; (with_reducible refine (bytes_any u HU.out _).mono ?_); rintro e w5 ⟨oa2, cap2, rfl, hr, hb⟩; have hz := HZ4.out; have a0 := keepc (b := W.heap.size) (o := 0) hb (Nat.lt_of_succ_lt hz) (by assumption); have a1 := keepc (b := W.heap.size) (o := 1) hb (Nat.lt_of_succ_lt hz) (by assumption); have a2 := keepc (b := W.heap.size) (o := 2) hb (Nat.lt_of_succ_lt hz) (by assumption); have a3 := keepc (b := W.heap.size) (o := 3) hb (Nat.lt_of_succ_lt hz) (by assumption); have b0 := keepc (b := W.heap.size + 1) (o := 0) hb hz (by assumption); have b1 := keepc (b := W.heap.size + 1) (o := 1) hb hz (by assumption); have b2 := keepc (b := W.heap.size + 1) (o := 2) hb hz (by assumption); have b3 := keepc (b := W.heap.size + 1) (o := 3) hb hz (by assumption); have HB5 := Lib.hid (HB4.out.trans (hb.mono (Nat.le_of_lt (Nat.lt_of_succ_lt hz)))); have HZ5 := Lib.hid (Nat.lt_of_lt_of_le hz hb.size); have hst2 := run_str (P := Try.prog) w5 (src := 40) (dst := 9) Try.underlying40 Try.underlying5 Try.underlying9 hr; have hst3 := run_str (P := Try.prog) w5 (src := 40) (dst := 9) Try.underlying40 Try.underlying5 Try.underlying9 (HR4.out.below hb); clear hr; clear hz hb))
  all_goals
    go_wp2_with fail
    go_ret
    exact ⟨ret_bool (by rw [HS.out]; simp), HB5.out⟩

theorem rises_law (W : World) (v0 v1 v2 v3 v4 : Value) (o0 : Came Try.prog W 23 v0) (o1 : Came Try.prog W 23 v1) (o2 : Came Try.prog W 74 v2) (o3 : Came Try.prog W 74 v3) (o4 : Came Try.prog W 23 v4) :
    Calls Try.prog 14 #[v0, v1, v2, v3, v4] W fun e W' => e = .returned (.bool true) ∧ Below W.heap.size W W' := by
  obtain ⟨k0, rfl, _⟩ := o0.int Try.underlying23
  obtain ⟨k1, rfl, _⟩ := o1.int Try.underlying23
  obtain ⟨now, rfl, _⟩ := o4.int Try.underlying23
  obtain ⟨t, rfl, ht⟩ := tup_of o2
  obtain ⟨u, rfl, hu⟩ := tup_of o3
  exact rises_main k0 k1 now t u ht hu W
end Go.Proofs.Ytdlhleegfmnjjaa.Isn
