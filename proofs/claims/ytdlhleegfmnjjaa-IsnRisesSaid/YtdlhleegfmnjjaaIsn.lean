/- The functions of layer 5 (first numbers) as they are called. Conditions: the numbers' kinds. -/
import Derived.Test.YtdlhleegfmnjjaaSipRefOf
import Derived.Deep.RegionHeld3
namespace Go.Proofs.Ytdlhleegfmnjjaa.Isn
open Go.RowKit Argin Save Win Bytes Sip
set_option linter.unusedVariables false
set_option linter.unusedSimpArgs false

/-- Both ends of a connection. -/
structure Tup where
  h : Int
  p : Int
  k : Int
  q : Int
def Tup.In (t : Tup) : Prop := (0 ≤ t.h ∧ t.h < 256) ∧ (0 ≤ t.p ∧ t.p < 65536) ∧ (0 ≤ t.k ∧ t.k < 256) ∧ (0 ≤ t.q ∧ t.q < 65536)
abbrev tv (t : Tup) : Value := .agg #[.int .u8 t.h, .int .u16 t.p, .int .u8 t.k, .int .u16 t.q]
def u8 (a : Int) : UInt8 := UInt8.ofNat a.toNat
theorem u8_nat (a : Int) (h : 0 ≤ a ∧ a < 256) : ((u8 a).toNat : Int) = a := toNat_of a h
/-- A tuple's bytes. -/
def tb (t : Tup) : List UInt8 := [u8 t.h, u8 (t.p / 256), u8 (t.p % 256), u8 t.k, u8 (t.q / 256), u8 (t.q % 256)]
theorem tb_len (t : Tup) : (tb t).length = 6 := rfl
theorem bv_tb (t : Tup) (h : t.In) : bv (tb t) = [.int .u8 t.h, .int .u8 (t.p / 256), .int .u8 (t.p % 256), .int .u8 t.k, .int .u8 (t.q / 256), .int .u8 (t.q % 256)] := by
  unfold Tup.In at h
  simp only [tb, bv, List.map_cons, List.map_nil]
  rw [u8_nat t.h (by omega), u8_nat (t.p / 256) (by omega), u8_nat (t.p % 256) (by omega), u8_nat t.k (by omega), u8_nat (t.q / 256) (by omega), u8_nat (t.q % 256) (by omega)]

theorem addr_any (h p : Int) (w : World) (hh : 0 ≤ h ∧ h < 256) (hp : 0 ≤ p ∧ p < 65536) :
    Calls Try.prog 62 #[.agg #[.int .u8 h, .int .u16 p]] w fun e w' => e = .returned (.slice (some ⟨w.heap.size + 1, 0, none⟩) 3 3) ∧ w'.heap[w.heap.size + 1]? = some (.cells #[.int .u8 h, .int .u8 (p / 256), .int .u8 (p % 256)] 5) ∧ Below w.heap.size w w' := by
  have e1 : IntKind.u8.wrap (p / 256) = p / 256 := by rw [u8_wrap]; omega
  have e2 : IntKind.u8.wrap p = p % 256 := u8_wrap p
  go_enter Try.func62, Try.ntmps62
  go_wp2
  go_ret
  refine ⟨rfl, ?_, ((Below.refl _ _).alloc (Nat.le_refl _) _).alloc (by simp) _⟩
  have := get_alloc (w.alloc (.cells #[.int .u8 h, .int .u16 p] 72)) (.cells #[.int .u8 h, .int .u8 (p / 256), .int .u8 (p % 256)] 5)
  rw [World.size_alloc] at this
  exact this

theorem ref_bytes (t : Tup) (ht : t.In) (w : World) : Calls Try.prog 47 #[tv t] w fun e w' => ∃ oa cap, e = .returned (.slice oa (tb t).length cap) ∧ Rd w' w'.heap.size oa cap (tb t) ∧ Below w.heap.size w w' := by
  have hbv := bv_tb t ht
  have HBV := Lib.hid hbv
  obtain ⟨h, p, k, q⟩ := t
  unfold Tup.In at ht
  simp only at ht
  have q1 : p.tdiv 256 = p / 256 := Int.tdiv_eq_ediv_of_nonneg (by omega)
  have q2 : q.tdiv 256 = q / 256 := Int.tdiv_eq_ediv_of_nonneg (by omega)
  have q3 : IntKind.u16.wrap (p / 256) = p / 256 := by rw [u16_wrap]; omega
  have q4 : IntKind.u16.wrap (q / 256) = q / 256 := by rw [u16_wrap]; omega
  have q5 : p / 256 % 256 = p / 256 := by omega
  have q6 : q / 256 % 256 = q / 256 := by omega
  have e1 : IntKind.u8.wrap (p / 256) = p / 256 := by rw [u8_wrap]; omega
  have e2 : IntKind.u8.wrap (p % 256) = p % 256 := by rw [u8_wrap]; omega
  have e3 : IntKind.u8.wrap (q / 256) = q / 256 := by rw [u8_wrap]; omega
  have e4 : IntKind.u8.wrap (q % 256) = q % 256 := by rw [u8_wrap]; omega
  clear hbv
  go_enter Try.func47, Try.ntmps47
  go_wp2
  go_ret
  refine ⟨_, _, rfl, ⟨by rw [tb_len]; exact Nat.le_refl _, by unfold maxLen; omega, .inr ⟨_, _, rfl, by simp, fun i u hu => ?_⟩⟩, ((Below.refl _ _).alloc (Nat.le_refl _) _).alloc (by simp) _⟩
  have hg := get_alloc (w.alloc (.cells #[.int .u8 h, .int .u16 p, .int .u8 k, .int .u16 q] 74)) (.cells #[.int .u8 h, .int .u8 (p / 256), .int .u8 (p % 256), .int .u8 k, .int .u8 (q / 256), .int .u8 (q % 256)] 5)
  rw [World.size_alloc] at hg
  rw [Nat.zero_add, cell_get hg]
  have h2 : (bv (tb ⟨h, p, k, q⟩))[i]? = some (.int .u8 u.toNat) := by rw [bv_get, hu]; rfl
  rw [HBV.out] at h2
  rw [← h2]
  simp

set_option maxHeartbeats 1000000 in
theorem bytes_any (t : Tup) (ht : t.In) (w : World) : Calls Try.prog 46 #[tv t] w fun e w' => ∃ oa cap, e = .returned (.slice oa (tb t).length cap) ∧ Rd w' w'.heap.size oa cap (tb t) ∧ Below w.heap.size w w' := by
  have hbv := bv_tb t ht
  have HBV := Lib.hid hbv
  obtain ⟨h, p, k, q⟩ := t
  unfold Tup.In at ht
  simp only at ht
  clear hbv
  obtain ⟨i0, hi, hz0, hz1, hz2⟩ := info_parts infoB8
  go_enter Try.func46, Try.ntmps46
  go_wp2_with fail
  have hge := get_alloc w (.cells #[.int .u8 h, .int .u16 p, .int .u8 k, .int .u16 q] 74)
  have HB0 := Lib.hid (((Below.refl w.heap.size w).alloc (Nat.le_refl _) (.cells #[.int .u8 h, .int .u16 p, .int .u8 k, .int .u16 q] 74)))
  have hz : w.heap.size < (w.alloc (.cells #[.int .u8 h, .int .u16 p, .int .u8 k, .int .u16 q] 74)).heap.size := by simp
  generalize w.alloc (.cells #[.int .u8 h, .int .u16 p, .int .u8 k, .int .u16 q] 74) = wa at hge HB0 hz ⊢
  obtain ⟨t0, t1, t2, t3⟩ := c4 hge
  have HZ := Lib.hid hz
  have HBd := Lib.hid (below_drew HB0.out)
  clear hge hz
  go_region_held3 (fun w' => w'.cell? ⟨w.heap.size, 0, none⟩ = some (.int .u8 h) ∧ w'.cell? ⟨w.heap.size, 1, none⟩ = some (.int .u16 p) ∧ w'.cell? ⟨w.heap.size, 2, none⟩ = some (.int .u8 k) ∧ w'.cell? ⟨w.heap.size, 3, none⟩ = some (.int .u16 q)) (go_keep) (first
    | (go_at_call 62; (with_reducible refine (addr_any h p _ (by omega) (by omega)).mono ?_); rintro e w2 ⟨rfl, hg, hb⟩; have hz := HZ.out; have HZ2 := Lib.hid (Nat.lt_of_lt_of_le hz hb.size); have HB2 := Lib.hid (HBd.out.trans (hb.mono (Nat.le_of_lt hz))); have a0 := (hb.cell (p := ⟨w.heap.size, 0, none⟩) hz).trans (by assumption); have a1 := (hb.cell (p := ⟨w.heap.size, 1, none⟩) hz).trans (by assumption); have a2 := (hb.cell (p := ⟨w.heap.size, 2, none⟩) hz).trans (by assumption); have a3 := (hb.cell (p := ⟨w.heap.size, 3, none⟩) hz).trans (by assumption); have HG := Lib.hid hg; clear hz hg hb)
    | (go_at_call 62; (with_reducible refine (addr_any k q _ (by omega) (by omega)).mono ?_); rintro e w3 ⟨rfl, hg, hb⟩; have hz := HZ2.out; have HZ3 := Lib.hid (Nat.lt_of_lt_of_le hz hb.size); have HB3 := Lib.hid (HB2.out.trans (hb.mono (Nat.le_of_lt hz))); have a0 := (hb.cell (p := ⟨w.heap.size, 0, none⟩) hz).trans (by assumption); have a1 := (hb.cell (p := ⟨w.heap.size, 1, none⟩) hz).trans (by assumption); have a2 := (hb.cell (p := ⟨w.heap.size, 2, none⟩) hz).trans (by assumption); have a3 := (hb.cell (p := ⟨w.heap.size, 3, none⟩) hz).trans (by assumption); have HG2 := Lib.hid hg; have HG1 := Lib.hid (block_stays hb HG.out); clear hz hg hb)
    | (refine step_win rfl (.tmp 5) (.tmp 8) 40 40 rfl 5 i0 (.int .u8 0) 1 1 Try.underlying40 hi hz0 hz1 hz2 rfl (base := w.heap.size) (.slice (some ⟨wa.heap.size + 1, 0, none⟩) 3 3) 3 [.int .u8 h, .int .u8 (p / 256), .int .u8 (p % 256)] (by simp [Act.eval, Act.put]) ⟨rfl, _, 3, rfl, Nat.le_refl _, by simp [maxLen], .inr ⟨_, 0, _, rfl, (Nat.le_succ_of_le (Nat.le_of_lt HZ.out)), HG1.out, by simp, rfl⟩⟩ (.slice (some ⟨w2.heap.size + 1, 0, none⟩) 3 3) (by simp [Act.eval, Act.put]) 3 [.int .u8 k, .int .u8 (q / 256), .int .u8 (q % 256)] (Src.ofSlice _ Try.underlying40 ⟨w2.heap.size + 1, 0, none⟩ 3 3 _ rfl (news_block HG2.out) (by simp [Value.oneCell'])) (by simp [maxLen]) (by omega) (by exact HB3.out.size) ?_; intro v' w4 hw4 hs4 _; obtain ⟨oa4, cap4, rfl, hr4⟩ := hw4.is; have hz := HZ.out; have bl := fun (o : Nat) => World.cell?_of_block (a := ⟨w.heap.size, o, none⟩) (hs4.block w.heap.size (by exact HZ3.out) (by simp [blk]; omega)); have a0 := (bl 0).trans (by assumption); have a1 := (bl 1).trans (by assumption); have a2 := (bl 2).trans (by assumption); have a3 := (bl 3).trans (by assumption); have HW4 := Lib.hid hw4; have HB4 := Lib.hid (HB3.out.trans (hs4.below (B := w.heap.size) (fun j _ e => by simp [blk] at e; omega) (by exact HB3.out.size))); clear hw4 hs4 hr4 hz bl))
  go_wp2_with fail
  go_ret
  have hw := HW4.out
  rw [show ([.int .u8 h, .int .u8 (p / 256), .int .u8 (p % 256)] ++ [.int .u8 k, .int .u8 (q / 256), .int .u8 (q % 256)] : List Value) = bv (tb ⟨h, p, k, q⟩) from HBV.out.symm] at hw
  exact ⟨oa4, cap4, rfl, Rd.of_win (l := tb ⟨h, p, k, q⟩) hw, HB4.out⟩
end Go.Proofs.Ytdlhleegfmnjjaa.Isn
