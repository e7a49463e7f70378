/- The rounds of layer 4, so many of them, and the reference's. Conditions: none. -/
import Derived.Test.YtdlhleegfmnjjaaSip
namespace Go.Proofs.Ytdlhleegfmnjjaa.Sip
open Go.RowKit Argin Save Win Bytes
set_option linter.unusedVariables false
set_option linter.unusedSimpArgs false

set_option maxRecDepth 100000 in
set_option maxHeartbeats 1000000 in
theorem ref_round (q : Quad) (w : World) : Calls Try.prog 44 #[qv q] w fun e w' => e = .returned (qv (round q)) ∧ Below w.heap.size w w' := by
  obtain ⟨a, b, c, d⟩ := q
  go_enter Try.func44, Try.ntmps44
  go_wp2_with fail
  refine (turn13 _ _).mono ?_
  rintro e w' ⟨rfl, n, rfl⟩
  go_wp2_with fail
  refine (turn32 _ _).mono ?_
  rintro e w' ⟨rfl, n, rfl⟩
  go_wp2_with fail
  refine (turn16 _ _).mono ?_
  rintro e w' ⟨rfl, n, rfl⟩
  go_wp2_with fail
  refine (turn21 _ _).mono ?_
  rintro e w' ⟨rfl, n, rfl⟩
  go_wp2_with fail
  refine (turn17 _ _).mono ?_
  rintro e w' ⟨rfl, n, rfl⟩
  go_wp2_with fail
  refine (turn32 _ _).mono ?_
  rintro e w' ⟨rfl, n, rfl⟩
  go_wp2_with fail
  refine bodyPost_ret (v := qv (round ⟨a, b, c, d⟩)) ?_ rfl ⟨rfl, ?_⟩
  · simp [results, Try.results44, go_sem]
    exact ⟨rfl, rfl, rfl, rfl⟩
  · repeat (first | exact Below.refl _ _ | refine Below.setCell ?_ (by simp) _ | refine below_drewN ?_ _ | refine Below.alloc ?_ (by simp) _)

def rounds (q : Quad) : Nat → Quad
  | 0 => q
  | n + 1 => rounds (round q) n
theorem rounds_succ (q : Quad) (n : Nat) : rounds q (n + 1) = round (rounds q n) := by
  induction n generalizing q with
  | zero => rfl
  | succ n ih => rw [rounds, ih]; rfl

set_option maxRecDepth 100000 in
set_option maxHeartbeats 1000000 in
theorem rounds_any (q : Quad) (n : Nat) (w : World) (hn : n ≤ 100) : Calls Try.prog 58 #[qv q, .int .i64 (n : Int)] w fun e w' => e = .returned (qv (rounds q n)) ∧ Below w.heap.size w w' := by
  have hz := rounds_succ q
  have HZ := Lib.hid hz
  clear hz
  go_enter Try.func58, Try.ntmps58
  go_wp2_with fail
  go_loopw [6] (fun sk wx => ∃ k : Nat, k ≤ n ∧ sk = .int .i64 k ∧ wx.heap[w.heap.size]? = some (.cells #[.int .u64 (rounds q k).a, .int .u64 (rounds q k).b, .int .u64 (rounds q k).c, .int .u64 (rounds q k).d] 66) ∧ wx.heap[w.heap.size + 1]? = some (.cells #[.int .u64 0, .int .u64 0, .int .u64 0, .int .u64 0] 66) ∧ Below w.heap.size w wx) (fun sk _ => n - (intOf sk).toNat)
  case atStart =>
    refine ⟨0, by omega, rfl, get_alloc_old _ (get_alloc _ _), ?_, ((Below.refl _ _).alloc (Nat.le_refl _) _).alloc (by simp) _⟩
    have := get_alloc (w.alloc (.cells #[.int .u64 q.a, .int .u64 q.b, .int .u64 q.c, .int .u64 q.d] 66)) (.cells #[.int .u64 0, .int .u64 0, .int .u64 0, .int .u64 0] 66)
    rw [World.size_alloc] at this
    exact this
  case round =>
    obtain ⟨k, hk, rfl, h0, h1, hb⟩ := hrel
    obtain ⟨c0, c1, c2, c3⟩ := c4 h0
    have H0 := Lib.hid h0
    have H1 := Lib.hid h1
    have HB := Lib.hid hb
    have hbs := hb.size
    clear h0 hb
    by_cases hlt : k < n
    · clear h1
      go_wp2_with fail
      refine (round_any (rounds q k) _).mono ?_
      rintro e w1 ⟨rfl, hb1⟩
      have h0 := block_stays hb1 H0.out
      have h1 := block_stays hb1 H1.out
      have f0 := free_get h0 0
      have f1 := free_get h0 1
      have f2 := free_get h0 2
      have f3 := free_get h0 3
      clear c0 c1 c2 c3
      obtain ⟨c0, c1, c2, c3⟩ := c4 h0
      have H0 := Lib.hid h0
      have H1 := Lib.hid h1
      have HB1 := Lib.hid (HB.out.trans (hb1.mono hbs))
      clear h0 h1 hb1
      go_wp2_with fail
      go_roundw
      case rel =>
        refine ⟨k + 1, by omega, by go_num, ?_, ?_, ?_⟩
        · rw [HZ.out]; simp [World.setCell, Array.getElem?_modify, H0.out]
        · simp [World.setCell, Array.getElem?_modify, H1.out]
        · repeat (first | exact HB1.out | refine Below.setCell ?_ (by exact Nat.le_refl _) _)
      case measure => simp [intOf]; omega
    · obtain rfl : k = n := by omega
      obtain ⟨r0, r1, r2, r3⟩ := c4 h1
      have f0 := free_get h1 0
      have f1 := free_get h1 1
      have f2 := free_get h1 2
      have f3 := free_get h1 3
      clear h1
      go_wp2_with fail
      refine bodyPost_ret (v := qv (rounds q k)) ?_ rfl ⟨rfl, ?_⟩
      · simp [results, Try.results58, go_sem, r0, r1, r2, r3]
      · repeat (first | exact HB.out | refine Below.setCell ?_ (by simp) _)
end Go.Proofs.Ytdlhleegfmnjjaa.Sip
