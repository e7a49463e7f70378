/- SipApart: rounds of unlike four numbers are unlike. Conditions: none. -/
import Derived.Test.YtdlhleegfmnjjaaSipTells
import Derived.Test.YtdlhleegfmnjjaaSipInj
import Derived.Deep.RegionHeld3
namespace Go.Proofs.Ytdlhleegfmnjjaa.Sip
open Go.RowKit Argin Save Win Bytes
set_option linter.unusedVariables false
set_option linter.unusedSimpArgs false

def same (a b : Quad) : Bool := a.a == b.a && a.b == b.b && a.c == b.c && a.d == b.d
theorem same_iff (a b : Quad) : same a b = true ↔ a = b := by
  obtain ⟨a0, a1, a2, a3⟩ := a
  obtain ⟨b0, b1, b2, b3⟩ := b
  simp [same, and_assoc]
theorem same_round {p q : Quad} (hp : InQ p) (hq : InQ q) : same (round p) (round q) = same p q := by
  rw [Bool.eq_iff_iff, same_iff, same_iff]
  exact ⟨round_inj hp hq, fun h => by rw [h]⟩

set_option maxRecDepth 100000 in
set_option maxHeartbeats 1000000 in
theorem apart_main (p q : Quad) (W : World) (hp : InQ p) (hq : InQ q) :
    Calls Try.prog 12 #[qv p, qv q] W fun e w' => e = .returned (.bool true) ∧ Below W.heap.size W w' := by
  have hqe : ∀ (w : World) (a b : Quad), (Op.equalIn 10000 66 (qv a) (qv b)).run Try.prog w = .ok (same a b) w := quad_eql
  have HSR := Lib.hid (same_round hp hq)
  clear hp hq
  have hpq := hqe
  go_enter Try.func12, Try.ntmps12
  go_wp2_with fail
  refine (up_any _).mono ?_
  rintro e w1 ⟨rfl, hb⟩
  have hv := block_stays hb (get_alloc_old (.cells #[.int .u64 q.a, .int .u64 q.b, .int .u64 q.c, .int .u64 q.d] 66) (get_alloc W (.cells #[.int .u64 p.a, .int .u64 p.b, .int .u64 p.c, .int .u64 p.d] 66)))
  have hv2 := block_stays hb (get_alloc (W.alloc (.cells #[.int .u64 p.a, .int .u64 p.b, .int .u64 p.c, .int .u64 p.d] 66)) (.cells #[.int .u64 q.a, .int .u64 q.b, .int .u64 q.c, .int .u64 q.d] 66))
  simp only [World.size_alloc] at hv2
  have HB := Lib.hid ((((Below.refl W.heap.size W).alloc (Nat.le_refl _) _).alloc (by simp) _).trans (hb.mono (by simp; omega)))
  obtain ⟨c0, c1, c2, c3⟩ := c4 hv
  obtain ⟨d0, d1, d2, d3⟩ := c4 hv2
  have HBd := Lib.hid (below_drew HB.out)
  have HVd := Lib.hid (show w1.drew.heap[W.heap.size]? = some (.cells #[.int .u64 p.a, .int .u64 p.b, .int .u64 p.c, .int .u64 p.d] 66) from hv)
  have HWd := Lib.hid (show w1.drew.heap[W.heap.size + 1]? = some (.cells #[.int .u64 q.a, .int .u64 q.b, .int .u64 q.c, .int .u64 q.d] 66) from hv2)
  clear hb hv hv2
  go_wp2_with fail
  have hwz := lt_of_get HWd.out
  have HZ0 := Lib.hid (show W.heap.size + 1 < w1.heap.size from hwz)
  clear HVd HWd hwz
  go_region_held3 (fun w' => w'.cell? ⟨W.heap.size, 0, none⟩ = some (.int .u64 p.a) ∧ w'.cell? ⟨W.heap.size, 1, none⟩ = some (.int .u64 p.b) ∧ w'.cell? ⟨W.heap.size, 2, none⟩ = some (.int .u64 p.c) ∧ w'.cell? ⟨W.heap.size, 3, none⟩ = some (.int .u64 p.d) ∧ w'.cell? ⟨W.heap.size + 1, 0, none⟩ = some (.int .u64 q.a) ∧ w'.cell? ⟨W.heap.size + 1, 1, none⟩ = some (.int .u64 q.b) ∧ w'.cell? ⟨W.heap.size + 1, 2, none⟩ = some (.int .u64 q.c) ∧ w'.cell? ⟨W.heap.size + 1, 3, none⟩ = some (.int .u64 q.d)) (go_keep) (first
    | (go_at_call 43; (with_reducible refine (round_any p _).mono ?_); rintro e w2 ⟨rfl, hb⟩; have hz := HZ0.out; have c0 := (hb.cell (p := ⟨W.heap.size, 0, none⟩) (by first | exact Nat.lt_of_succ_lt hz | exact hz)).trans (by assumption); have c1 := (hb.cell (p := ⟨W.heap.size, 1, none⟩) (by first | exact Nat.lt_of_succ_lt hz | exact hz)).trans (by assumption); have c2 := (hb.cell (p := ⟨W.heap.size, 2, none⟩) (by first | exact Nat.lt_of_succ_lt hz | exact hz)).trans (by assumption); have c3 := (hb.cell (p := ⟨W.heap.size, 3, none⟩) (by first | exact Nat.lt_of_succ_lt hz | exact hz)).trans (by assumption); have c4 := (hb.cell (p := ⟨W.heap.size + 1, 0, none⟩) (by first | exact Nat.lt_of_succ_lt hz | exact hz)).trans (by assumption); have c5 := (hb.cell (p := ⟨W.heap.size + 1, 1, none⟩) (by first | exact Nat.lt_of_succ_lt hz | exact hz)).trans (by assumption); have c6 := (hb.cell (p := ⟨W.heap.size + 1, 2, none⟩) (by first | exact Nat.lt_of_succ_lt hz | exact hz)).trans (by assumption); have c7 := (hb.cell (p := ⟨W.heap.size + 1, 3, none⟩) (by first | exact Nat.lt_of_succ_lt hz | exact hz)).trans (by assumption); have HZ0x := Lib.hid (Nat.lt_of_lt_of_le hz hb.size); have HBdx := Lib.hid (HBd.out.trans (hb.mono (Nat.le_of_lt (Nat.lt_of_succ_lt hz)))); clear hz hb)
    | (go_at_call 43; (with_reducible refine (round_any q _).mono ?_); rintro e w3 ⟨rfl, hb⟩; have hz := HZ0x.out; have c0 := (hb.cell (p := ⟨W.heap.size, 0, none⟩) (by first | exact Nat.lt_of_succ_lt hz | exact hz)).trans (by assumption); have c1 := (hb.cell (p := ⟨W.heap.size, 1, none⟩) (by first | exact Nat.lt_of_succ_lt hz | exact hz)).trans (by assumption); have c2 := (hb.cell (p := ⟨W.heap.size, 2, none⟩) (by first | exact Nat.lt_of_succ_lt hz | exact hz)).trans (by assumption); have c3 := (hb.cell (p := ⟨W.heap.size, 3, none⟩) (by first | exact Nat.lt_of_succ_lt hz | exact hz)).trans (by assumption); have c4 := (hb.cell (p := ⟨W.heap.size + 1, 0, none⟩) (by first | exact Nat.lt_of_succ_lt hz | exact hz)).trans (by assumption); have c5 := (hb.cell (p := ⟨W.heap.size + 1, 1, none⟩) (by first | exact Nat.lt_of_succ_lt hz | exact hz)).trans (by assumption); have c6 := (hb.cell (p := ⟨W.heap.size + 1, 2, none⟩) (by first | exact Nat.lt_of_succ_lt hz | exact hz)).trans (by assumption); have c7 := (hb.cell (p := ⟨W.heap.size + 1, 3, none⟩) (by first | exact Nat.lt_of_succ_lt hz | exact hz)).trans (by assumption); have HZ0xx := Lib.hid (Nat.lt_of_lt_of_le hz hb.size); have HBdxx := Lib.hid (HBdx.out.trans (hb.mono (Nat.le_of_lt (Nat.lt_of_succ_lt hz)))); clear hz hb))
  go_wp2_with fail
  go_ret
  exact ⟨ret_bool (by rw [HSR.out]; simp), HBdxx.out⟩

theorem apart_law (W : World) (v0 v1 : Value) (o0 : Came Try.prog W 66 v0) (o1 : Came Try.prog W 66 v1) :
    Calls Try.prog 12 #[v0, v1] W fun e W' => e = .returned (.bool true) ∧ Below W.heap.size W W' := by
  obtain ⟨p, rfl, hp⟩ := quad_of o0
  obtain ⟨q, rfl, hq⟩ := quad_of o1
  exact apart_main p q W hp hq
end Go.Proofs.Ytdlhleegfmnjjaa.Sip
