/- PawsTells, PawsRises. -/
import Derived.Test.YtbdgnaeldlgoaaaPaws
namespace Go.Proofs.Ytbdgnaeldlgoaaa.Seq
open Go.RowKit Argin

set_option maxHeartbeats 1000000 in
theorem ptells_any (r rcv h1 p1 h2 p2 sq ak fl ts ec : Int) (sl : Value) (w : World) (hr : 0 ≤ r ∧ r < 4294967296) (hrc : 0 ≤ rcv ∧ rcv < 4294967296) (hts : 0 ≤ ts ∧ ts < 4294967296) (hsq : 0 ≤ sq ∧ sq < 4294967296) :
    Calls Try.prog 5 #[.int .u32 r, .int .u32 rcv, .agg #[.int .u8 h1, .int .u16 p1, .int .u8 h2, .int .u16 p2, .int .u32 sq, .int .u32 ak, .int .i64 fl, .int .u32 ts, .int .u32 ec, sl]] w
      fun e w' => e = .returned (.bool true) ∧ Below w.heap.size w w' := by
  go_enter Try.func5, Try.ntmps5
  go_wp2_with (first
    | (go_at_call 21; ((with_reducible refine (pup_any _).mono ?_); rintro e w1 ⟨rfl, hb⟩)))
  have H1 := Lib.hid (block_stays hb (Array.getElem?_push_size ..))
  have H2 := Lib.hid (((Below.refl w.heap.size w).alloc (Nat.le_refl _) _).trans (hb.mono (by simp)))
  clear hb
  go_region_held3 (fun w' => w'.cell? ⟨w.heap.size, 0, none⟩ = some (.int .u8 h1) ∧ w'.cell? ⟨w.heap.size, 1, none⟩ = some (.int .u16 p1) ∧ w'.cell? ⟨w.heap.size, 2, none⟩ = some (.int .u8 h2) ∧ w'.cell? ⟨w.heap.size, 3, none⟩ = some (.int .u16 p2) ∧ w'.cell? ⟨w.heap.size, 4, none⟩ = some (.int .u32 sq) ∧ w'.cell? ⟨w.heap.size, 5, none⟩ = some (.int .u32 ak) ∧ w'.cell? ⟨w.heap.size, 6, none⟩ = some (.int .i64 fl) ∧ w'.cell? ⟨w.heap.size, 7, none⟩ = some (.int .u32 ts) ∧ w'.cell? ⟨w.heap.size, 8, none⟩ = some (.int .u32 ec) ∧ w'.cell? ⟨w.heap.size, 9, none⟩ = some (sl) ∧ w'.heap[w.heap.size]? = some (.cells #[.int .u8 h1, .int .u16 p1, .int .u8 h2, .int .u16 p2, .int .u32 sq, .int .u32 ak, .int .i64 fl, .int .u32 ts, .int .u32 ec, sl] 33) ∧ Below w.heap.size w w') ((first | exact ten_drew H1.out H2.out | exact ten_step (by assumption) (by assumption) (ten_below (by assumption)).size))
    (first
      | (go_at_call 22; ((with_reducible refine (old_any _ _ _).mono ?_); rintro e w' ⟨rfl, rfl⟩))
      | (go_at_call 16; ((with_reducible refine (refbefore_any _ _ _ (by assumption) (by assumption)).mono ?_); rintro e w' ⟨rfl, rfl⟩))
      | (go_at_call 23; ((with_reducible refine (next_any _ _ _ _ _ _ _ _ _ _ _ _ _).mono ?_); rintro e w' ⟨rfl, hb⟩))
      | (go_at_call 24; ((with_reducible refine (recent_any _ _ _ _ _ _ _ _ _ _ _ _ _ (by assumption) (by assumption) (by assumption) (by assumption)).mono ?_); rintro e w' ⟨rfl, hb⟩)))
  go_wp2
  go_ret
  exact ⟨rfl, ten_below (by assumption)⟩

theorem bef_self (a : Int) : bef a a = false := by unfold bef dist; rw [decide_eq_false_iff_not]; omega

theorem nxt_not (r rcv sq ts : Int) : bef (nxt r rcv sq ts) r = false := by
  unfold nxt
  split
  · exact bef_self r
  · split
    · rename_i h _; exact Bool.eq_false_iff.mpr h
    · exact bef_self r

theorem nxt_again (r rcv sq ts : Int) : nxt (nxt r rcv sq ts) rcv sq ts = nxt r rcv sq ts := by
  unfold nxt
  by_cases h1 : bef ts r = true
  · simp [h1]
  · by_cases h2 : sq = rcv ∨ bef sq rcv = true
    · simp [h1, h2, bef_self]
    · simp [h1, h2]

theorem nxt_one (r rcv sq ts : Int) : nxt r rcv sq ts = r ∨ nxt r rcv sq ts = ts ∧ bef ts r = false := by
  unfold nxt
  split
  · exact .inl rfl
  · split
    · rename_i h _; exact .inr ⟨rfl, Bool.eq_false_iff.mpr h⟩
    · exact .inl rfl

set_option maxHeartbeats 1000000 in
theorem prises_old (r rcv h1 p1 h2 p2 sq ak fl ts ec : Int) (sl : Value) (w : World) (f1 : bef (nxt r rcv sq ts) r = false) (f3 : (nxt (nxt r rcv sq ts) rcv sq ts == nxt r rcv sq ts) = true) (g1 : bef ts r = true) (g2 : (nxt r rcv sq ts == r) = true) :
    Calls Try.prog 6 #[.int .u32 r, .int .u32 rcv, .agg #[.int .u8 h1, .int .u16 p1, .int .u8 h2, .int .u16 p2, .int .u32 sq, .int .u32 ak, .int .i64 fl, .int .u32 ts, .int .u32 ec, sl]] w
      fun e w' => e = .returned (.bool true) ∧ Below w.heap.size w w' := by
  go_enter Try.func6, Try.ntmps6
  go_wp2_with (first
    | (go_at_call 21; ((with_reducible refine (pup_any _).mono ?_); rintro e w1 ⟨rfl, hb⟩; have H1 := Lib.hid (block_stays hb (Array.getElem?_push_size ..)); have H2 := Lib.hid (((Below.refl w.heap.size w).alloc (Nat.le_refl _) _).trans (hb.mono (by simp))); clear hb; obtain ⟨k0, k1, k2, k3, k4, k5, k6, k7, k8, k9, _, _⟩ := ten_mk H1.out H2.out))
    | (go_at_call 23; ((with_reducible refine (next_any _ _ _ _ _ _ _ _ _ _ _ _ _).mono ?_); rintro e w2 ⟨rfl, hb⟩; replace H1 := Lib.hid (block_stays hb H1.out); replace H2 := Lib.hid (H2.out.trans (hb.mono H2.out.size)); clear hb k0 k1 k2 k3 k4 k5 k6 k7 k8 k9; obtain ⟨k0, k1, k2, k3, k4, k5, k6, k7, k8, k9, _, _⟩ := ten_mk H1.out H2.out))
    | (go_at_call 22; ((with_reducible refine (old_any _ _ _).mono ?_); rintro e w' ⟨rfl, rfl⟩)))
  all_goals
    go_ret
    exact ⟨rfl, H2.out⟩

set_option maxHeartbeats 1000000 in
theorem prises_same (r rcv h1 p1 h2 p2 sq ak fl ts ec : Int) (sl : Value) (w : World) (f1 : bef (nxt r rcv sq ts) r = false) (f3 : (nxt (nxt r rcv sq ts) rcv sq ts == nxt r rcv sq ts) = true) (g1 : bef ts r = false) (g2 : (nxt r rcv sq ts == r) = true) :
    Calls Try.prog 6 #[.int .u32 r, .int .u32 rcv, .agg #[.int .u8 h1, .int .u16 p1, .int .u8 h2, .int .u16 p2, .int .u32 sq, .int .u32 ak, .int .i64 fl, .int .u32 ts, .int .u32 ec, sl]] w
      fun e w' => e = .returned (.bool true) ∧ Below w.heap.size w w' := by
  go_enter Try.func6, Try.ntmps6
  go_wp2_with (first
    | (go_at_call 21; ((with_reducible refine (pup_any _).mono ?_); rintro e w1 ⟨rfl, hb⟩; have H1 := Lib.hid (block_stays hb (Array.getElem?_push_size ..)); have H2 := Lib.hid (((Below.refl w.heap.size w).alloc (Nat.le_refl _) _).trans (hb.mono (by simp))); clear hb; obtain ⟨k0, k1, k2, k3, k4, k5, k6, k7, k8, k9, _, _⟩ := ten_mk H1.out H2.out))
    | (go_at_call 23; ((with_reducible refine (next_any _ _ _ _ _ _ _ _ _ _ _ _ _).mono ?_); rintro e w2 ⟨rfl, hb⟩; replace H1 := Lib.hid (block_stays hb H1.out); replace H2 := Lib.hid (H2.out.trans (hb.mono H2.out.size)); clear hb k0 k1 k2 k3 k4 k5 k6 k7 k8 k9; obtain ⟨k0, k1, k2, k3, k4, k5, k6, k7, k8, k9, _, _⟩ := ten_mk H1.out H2.out))
    | (go_at_call 22; ((with_reducible refine (old_any _ _ _).mono ?_); rintro e w' ⟨rfl, rfl⟩)))
  all_goals
    go_ret
    exact ⟨rfl, H2.out⟩

set_option maxHeartbeats 1000000 in
theorem prises_new (r rcv h1 p1 h2 p2 sq ak fl ts ec : Int) (sl : Value) (w : World) (f1 : bef (nxt r rcv sq ts) r = false) (f3 : (nxt (nxt r rcv sq ts) rcv sq ts == nxt r rcv sq ts) = true) (g1 : bef ts r = false) (g2 : (nxt r rcv sq ts == r) = false) (g3 : (nxt r rcv sq ts == ts) = true) :
    Calls Try.prog 6 #[.int .u32 r, .int .u32 rcv, .agg #[.int .u8 h1, .int .u16 p1, .int .u8 h2, .int .u16 p2, .int .u32 sq, .int .u32 ak, .int .i64 fl, .int .u32 ts, .int .u32 ec, sl]] w
      fun e w' => e = .returned (.bool true) ∧ Below w.heap.size w w' := by
  go_enter Try.func6, Try.ntmps6
  go_wp2_with (first
    | (go_at_call 21; ((with_reducible refine (pup_any _).mono ?_); rintro e w1 ⟨rfl, hb⟩; have H1 := Lib.hid (block_stays hb (Array.getElem?_push_size ..)); have H2 := Lib.hid (((Below.refl w.heap.size w).alloc (Nat.le_refl _) _).trans (hb.mono (by simp))); clear hb; obtain ⟨k0, k1, k2, k3, k4, k5, k6, k7, k8, k9, _, _⟩ := ten_mk H1.out H2.out))
    | (go_at_call 23; ((with_reducible refine (next_any _ _ _ _ _ _ _ _ _ _ _ _ _).mono ?_); rintro e w2 ⟨rfl, hb⟩; replace H1 := Lib.hid (block_stays hb H1.out); replace H2 := Lib.hid (H2.out.trans (hb.mono H2.out.size)); clear hb k0 k1 k2 k3 k4 k5 k6 k7 k8 k9; obtain ⟨k0, k1, k2, k3, k4, k5, k6, k7, k8, k9, _, _⟩ := ten_mk H1.out H2.out))
    | (go_at_call 22; ((with_reducible refine (old_any _ _ _).mono ?_); rintro e w' ⟨rfl, rfl⟩)))
  all_goals
    go_ret
    exact ⟨rfl, H2.out⟩

theorem prises_any (r rcv h1 p1 h2 p2 sq ak fl ts ec : Int) (sl : Value) (w : World) :
    Calls Try.prog 6 #[.int .u32 r, .int .u32 rcv, .agg #[.int .u8 h1, .int .u16 p1, .int .u8 h2, .int .u16 p2, .int .u32 sq, .int .u32 ak, .int .i64 fl, .int .u32 ts, .int .u32 ec, sl]] w
      fun e w' => e = .returned (.bool true) ∧ Below w.heap.size w w' := by
  have f1 := nxt_not r rcv sq ts
  have f3 := beq_iff_eq.2 (nxt_again r rcv sq ts)
  by_cases g1 : bef ts r = true
  · refine prises_old r rcv h1 p1 h2 p2 sq ak fl ts ec sl w f1 f3 g1 (beq_iff_eq.2 ?_)
    unfold nxt; rw [if_pos g1]
  · replace g1 := Bool.eq_false_iff.mpr g1
    by_cases g2 : nxt r rcv sq ts = r
    · exact prises_same r rcv h1 p1 h2 p2 sq ak fl ts ec sl w f1 f3 g1 (beq_iff_eq.2 g2)
    · refine prises_new r rcv h1 p1 h2 p2 sq ak fl ts ec sl w f1 f3 g1 (beq_eq_false_iff_ne.2 g2) (beq_iff_eq.2 ?_)
      rcases nxt_one r rcv sq ts with h | ⟨h, _⟩
      · exact absurd h g2
      · exact h

/-- A segment's shape. -/
def segSh : Sh := .agg [.agg [.int .u8, .int .u16], .agg [.int .u8, .int .u16], .int .u32, .int .u32, .int .i64, .int .u32, .int .u32, .slice 1 (.int .u8)]

theorem seg_cells {w : World} {cs : List Value} (h : segSh.Ok w cs) : ∃ (h1 p1 h2 p2 sq ak fl ts ec : Int) (sl : Value), cs = [.int .u8 h1, .int .u16 p1, .int .u8 h2, .int .u16 p2, .int .u32 sq, .int .u32 ak, .int .i64 fl, .int .u32 ts, .int .u32 ec, sl] ∧
    (Lit.int .u8 h1).wf = true ∧ (Lit.int .u16 p1).wf = true ∧ (Lit.int .u8 h2).wf = true ∧ (Lit.int .u16 p2).wf = true ∧ (Lit.int .u32 sq).wf = true ∧ (Lit.int .u32 ak).wf = true ∧ (Lit.int .i64 fl).wf = true ∧ (Lit.int .u32 ts).wf = true ∧ (Lit.int .u32 ec).wf = true ∧ (Sh.slice 1 (.int .u8)).Ok w [sl] := by
  simp only [segSh, Sh.Ok, Sh.OkL] at h
  obtain ⟨_, _, rfl, ⟨_, _, rfl, ⟨h1, rfl, a1⟩, _, _, rfl, ⟨p1, rfl, a2⟩, rfl⟩, _, _, rfl, ⟨_, _, rfl, ⟨h2, rfl, a3⟩, _, _, rfl, ⟨p2, rfl, a4⟩, rfl⟩, _, _, rfl, ⟨sq, rfl, a5⟩, _, _, rfl, ⟨ak, rfl, a6⟩, _, _, rfl, ⟨fl, rfl, a7⟩, _, _, rfl, ⟨ts, rfl, a8⟩, _, _, rfl, ⟨ec, rfl, a9⟩, sl, _, rfl, hs, rfl⟩ := h
  obtain ⟨s, rfl⟩ : ∃ s, sl = [s] := by
    rcases hs with rfl | ⟨a, l, c, rfl, _⟩
    · exact ⟨_, rfl⟩
    · exact ⟨_, rfl⟩
  exact ⟨h1, p1, h2, p2, sq, ak, fl, ts, ec, s, rfl, a1, a2, a3, a4, a5, a6, a7, a8, a9, hs⟩

theorem agg_of {cs : Array Value} {l : List Value} (h : cs.toList = l) : cs = l.toArray := by rw [← h]

theorem ptells_law (W : World) (v0 v1 v2 : Value) (o0 : Came Try.prog W 22 v0) (o1 : Came Try.prog W 22 v1) (o2 : Came Try.prog W 33 v2) :
    Calls Try.prog 5 #[v0, v1, v2] W fun e W' => e = .returned (.bool true) ∧ Below W.heap.size W W' := by
  obtain ⟨a, rfl, ha⟩ := o0.int Try.underlying22
  obtain ⟨b, rfl, hb⟩ := o1.int Try.underlying22
  obtain ⟨cs, rfl, hc⟩ := o2.agg segSh (by kernel_rfl) Try.underlying33
  obtain ⟨h1, p1, h2, p2, sq, ak, fl, ts, ec, sl, hcs, a1, a2, a3, a4, a5, a6, a7, a8, a9, hs⟩ := seg_cells hc
  rw [agg_of hcs]
  exact ptells_any a b h1 p1 h2 p2 sq ak fl ts ec sl W (Argin.wf_u32 ha) (Argin.wf_u32 hb) (Argin.wf_u32 a8) (Argin.wf_u32 a5)

theorem prises_law (W : World) (v0 v1 v2 : Value) (o0 : Came Try.prog W 22 v0) (o1 : Came Try.prog W 22 v1) (o2 : Came Try.prog W 33 v2) :
    Calls Try.prog 6 #[v0, v1, v2] W fun e W' => e = .returned (.bool true) ∧ Below W.heap.size W W' := by
  obtain ⟨a, rfl, ha⟩ := o0.int Try.underlying22
  obtain ⟨b, rfl, hb⟩ := o1.int Try.underlying22
  obtain ⟨cs, rfl, hc⟩ := o2.agg segSh (by kernel_rfl) Try.underlying33
  obtain ⟨h1, p1, h2, p2, sq, ak, fl, ts, ec, sl, hcs, a1, a2, a3, a4, a5, a6, a7, a8, a9, hs⟩ := seg_cells hc
  rw [agg_of hcs]
  exact prises_any a b h1 p1 h2 p2 sq ak fl ts ec sl W

end Go.Proofs.Ytbdgnaeldlgoaaa.Seq
