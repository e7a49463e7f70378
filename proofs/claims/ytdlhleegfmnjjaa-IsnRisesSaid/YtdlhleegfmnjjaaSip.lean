/- The rounds of layer 4 as they are called. Conditions: none. -/
import Derived.Test.YtdlhleegfmnjjaaProg
import Derived.Test.YtdlhleegfmnjjaaBytes
import Derived.Lib.MinMax
import Derived.WalkSpells
import Derived.Deep.QuietTactic
import Derived.BigQuiet
import Derived.StillTailTactics
import Derived.Deep.DeepCutAuto
import Derived.Deep.CutBlock
namespace Go.Proofs.Ytdlhleegfmnjjaa.Sip
open Go.RowKit Argin Save Win Bytes
set_option linter.unusedVariables false
set_option linter.unusedSimpArgs false

/-- A number turned: p is 2^n, q is 2^(64-n). -/
def rot (p q x : Int) : Int := bits .or .u64 (IntKind.u64.wrap (x * p)) (x / q)
def xr (a b : Int) : Int := bits .xor .u64 a b
def ad (a b : Int) : Int := IntKind.u64.wrap (a + b)

theorem rotl13 (x : Int) (w : World) : Calls Try.prog 60 #[.int .u64 x, .int .i64 13] w fun e w' => e = .returned (.int .u64 (rot 8192 2251799813685248 x)) ∧ w' = w := by
  have hb : bits .and .u64 13 63 = 13 := by decide
  go_enter Try.func60, Try.ntmps60
  go_wp2
  go_ret
  exact ⟨rfl, rfl⟩
theorem turn13 (x : Int) (w : World) : Calls Try.prog 61 #[.int .u64 x, .int .i64 13] w fun e w' => e = .returned (.int .u64 (rot 8192 2251799813685248 x)) ∧ Drew w w' := by
  go_enter Try.func61, Try.ntmps61
  go_wp2
  go_quiet (fail)
  go_wp2
  go_ret
  exact ⟨rfl, _, rfl⟩

theorem rotl16 (x : Int) (w : World) : Calls Try.prog 60 #[.int .u64 x, .int .i64 16] w fun e w' => e = .returned (.int .u64 (rot 65536 281474976710656 x)) ∧ w' = w := by
  have hb : bits .and .u64 16 63 = 16 := by decide
  go_enter Try.func60, Try.ntmps60
  go_wp2
  go_ret
  exact ⟨rfl, rfl⟩
theorem turn16 (x : Int) (w : World) : Calls Try.prog 61 #[.int .u64 x, .int .i64 16] w fun e w' => e = .returned (.int .u64 (rot 65536 281474976710656 x)) ∧ Drew w w' := by
  go_enter Try.func61, Try.ntmps61
  go_wp2
  go_quiet (fail)
  go_wp2
  go_ret
  exact ⟨rfl, _, rfl⟩

theorem rotl17 (x : Int) (w : World) : Calls Try.prog 60 #[.int .u64 x, .int .i64 17] w fun e w' => e = .returned (.int .u64 (rot 131072 140737488355328 x)) ∧ w' = w := by
  have hb : bits .and .u64 17 63 = 17 := by decide
  go_enter Try.func60, Try.ntmps60
  go_wp2
  go_ret
  exact ⟨rfl, rfl⟩
theorem turn17 (x : Int) (w : World) : Calls Try.prog 61 #[.int .u64 x, .int .i64 17] w fun e w' => e = .returned (.int .u64 (rot 131072 140737488355328 x)) ∧ Drew w w' := by
  go_enter Try.func61, Try.ntmps61
  go_wp2
  go_quiet (fail)
  go_wp2
  go_ret
  exact ⟨rfl, _, rfl⟩

theorem rotl21 (x : Int) (w : World) : Calls Try.prog 60 #[.int .u64 x, .int .i64 21] w fun e w' => e = .returned (.int .u64 (rot 2097152 8796093022208 x)) ∧ w' = w := by
  have hb : bits .and .u64 21 63 = 21 := by decide
  go_enter Try.func60, Try.ntmps60
  go_wp2
  go_ret
  exact ⟨rfl, rfl⟩
theorem turn21 (x : Int) (w : World) : Calls Try.prog 61 #[.int .u64 x, .int .i64 21] w fun e w' => e = .returned (.int .u64 (rot 2097152 8796093022208 x)) ∧ Drew w w' := by
  go_enter Try.func61, Try.ntmps61
  go_wp2
  go_quiet (fail)
  go_wp2
  go_ret
  exact ⟨rfl, _, rfl⟩

theorem rotl32 (x : Int) (w : World) : Calls Try.prog 60 #[.int .u64 x, .int .i64 32] w fun e w' => e = .returned (.int .u64 (rot 4294967296 4294967296 x)) ∧ w' = w := by
  have hb : bits .and .u64 32 63 = 32 := by decide
  go_enter Try.func60, Try.ntmps60
  go_wp2
  go_ret
  exact ⟨rfl, rfl⟩
theorem turn32 (x : Int) (w : World) : Calls Try.prog 61 #[.int .u64 x, .int .i64 32] w fun e w' => e = .returned (.int .u64 (rot 4294967296 4294967296 x)) ∧ Drew w w' := by
  go_enter Try.func61, Try.ntmps61
  go_wp2
  go_quiet (fail)
  go_wp2
  go_ret
  exact ⟨rfl, _, rfl⟩

/-- Four numbers. -/
structure Quad where
  a : Int
  b : Int
  c : Int
  d : Int
abbrev qv (q : Quad) : Value := .agg #[.int .u64 q.a, .int .u64 q.b, .int .u64 q.c, .int .u64 q.d]

def round (q : Quad) : Quad :=
  let a := ad q.a q.b
  let b := xr (rot 8192 2251799813685248 q.b) a
  let a := rot 4294967296 4294967296 a
  let c := ad q.c q.d
  let d := xr (rot 65536 281474976710656 q.d) c
  let a := ad a d
  let d := xr (rot 2097152 8796093022208 d) a
  let c := ad c b
  let b := xr (rot 131072 140737488355328 b) c
  let c := rot 4294967296 4294967296 c
  ⟨a, b, c, d⟩

theorem below_drew {B : Nat} {a w : World} (h : Below B a w) : Below B a w.drew := h.trans ⟨rfl, rfl, rfl, Nat.le_refl _, fun _ _ => rfl⟩
theorem c4 {w : World} {g : Nat} {x0 x1 x2 x3 : Value} {T : TypeId} (h : w.heap[g]? = some (.cells #[x0, x1, x2, x3] T)) : w.cell? ⟨g, 0, none⟩ = some x0 ∧ w.cell? ⟨g, 1, none⟩ = some x1 ∧ w.cell? ⟨g, 2, none⟩ = some x2 ∧ w.cell? ⟨g, 3, none⟩ = some x3 :=
  ⟨cell_get h 0, cell_get h 1, cell_get h 2, cell_get h 3⟩

set_option maxRecDepth 100000 in
set_option maxHeartbeats 4000000 in
theorem round_any (q : Quad) (w : World) : Calls Try.prog 43 #[qv q] w fun e w' => e = .returned (qv (round q)) ∧ Below w.heap.size w w' := by
  obtain ⟨a, b, c, d⟩ := q
  go_enter Try.func43, Try.ntmps43
  go_upto_region 2 with fail
  go_cut [] (fun wx => wx.heap[w.heap.size]? = some (.cells #[.int .u64 (ad a b), .int .u64 b, .int .u64 c, .int .u64 d] 66) ∧ wx.heap[w.heap.size + 1]? = some (.cells #[.int .u64 0, .int .u64 0, .int .u64 0, .int .u64 0] 66) ∧ Below w.heap.size w wx)
  case first =>
    go_wp2_with fail
    go_meet
    refine ⟨?_, ?_, ?_⟩
    · exact get_alloc_old _ (get_alloc _ _)
    · have := get_alloc (w.alloc (.cells #[.int .u64 (ad a b), .int .u64 b, .int .u64 c, .int .u64 d] 66)) (.cells #[.int .u64 0, .int .u64 0, .int .u64 0, .int .u64 0] 66); rw [World.size_alloc] at this; exact this
    · exact ((Below.refl _ _).alloc (Nat.le_refl _) _).alloc (by simp) _
  case rest =>
  obtain ⟨h0, h1, hb⟩ := hcut
  have H0 := Lib.hid h0
  have H1 := Lib.hid h1
  have HB := Lib.hid hb
  clear h0 h1 hb
  go_upto_region 3 with fail
  go_cut [] (fun wx => wx.heap[w.heap.size]? = some (.cells #[.int .u64 (ad a b), .int .u64 (xr (rot 8192 2251799813685248 b) (ad a b)), .int .u64 c, .int .u64 d] 66) ∧ wx.heap[w.heap.size + 1]? = some (.cells #[.int .u64 0, .int .u64 0, .int .u64 0, .int .u64 0] 66) ∧ Below w.heap.size w wx)
  case first =>
    obtain ⟨c0, c1, c2, c3⟩ := c4 H0.out
    have f0 := free_get H0.out 0
    have f1 := free_get H0.out 1
    have f2 := free_get H0.out 2
    have f3 := free_get H0.out 3
    refine wp_region_still_tail 8 (by kernel_rfl) (by kernel_rfl) ?_
    simp only [List.take_succ_cons, List.take_zero, List.drop_succ_cons, List.drop_zero]
    repeat (first | still_step | still_call (rotl13 _ _))
    refine wpStill_nil ?_
    change wpList _ _ _ _ _ (World.drew _)
    go_wp2_with fail
    go_meet
    refine ⟨?_, ?_, ?_⟩
    · simp [World.setCell, World.drew, Array.getElem?_modify, H0.out] <;> rfl
    · simp [World.setCell, World.drew, Array.getElem?_modify, H1.out]
    · repeat (first | exact HB.out | refine Below.setCell ?_ (by exact Nat.le_refl _) _ | refine below_drew ?_)
  case rest =>
  obtain ⟨h0, h1, hb⟩ := hcut
  have H0 := Lib.hid h0
  have H1 := Lib.hid h1
  have HB := Lib.hid hb
  clear h0 h1 hb
  go_upto_region 4 with fail
  go_cut [] (fun wx => wx.heap[w.heap.size]? = some (.cells #[.int .u64 (rot 4294967296 4294967296 (ad a b)), .int .u64 (xr (rot 8192 2251799813685248 b) (ad a b)), .int .u64 c, .int .u64 d] 66) ∧ wx.heap[w.heap.size + 1]? = some (.cells #[.int .u64 0, .int .u64 0, .int .u64 0, .int .u64 0] 66) ∧ Below w.heap.size w wx)
  case first =>
    obtain ⟨c0, c1, c2, c3⟩ := c4 H0.out
    have f0 := free_get H0.out 0
    have f1 := free_get H0.out 1
    have f2 := free_get H0.out 2
    have f3 := free_get H0.out 3
    go_wp2_with (go_at_call 60; refine (rotl32 _ _).mono ?_; rintro e w' ⟨rfl, rfl⟩)
    go_meet
    refine ⟨?_, ?_, ?_⟩
    · simp [World.setCell, World.drew, Array.getElem?_modify, H0.out] <;> rfl
    · simp [World.setCell, World.drew, Array.getElem?_modify, H1.out]
    · repeat (first | exact HB.out | refine Below.setCell ?_ (by exact Nat.le_refl _) _ | refine below_drew ?_)
  case rest =>
  obtain ⟨h0, h1, hb⟩ := hcut
  have H0 := Lib.hid h0
  have H1 := Lib.hid h1
  have HB := Lib.hid hb
  clear h0 h1 hb
  go_upto_region 5 with fail
  go_cut [] (fun wx => wx.heap[w.heap.size]? = some (.cells #[.int .u64 (rot 4294967296 4294967296 (ad a b)), .int .u64 (xr (rot 8192 2251799813685248 b) (ad a b)), .int .u64 (ad c d), .int .u64 d] 66) ∧ wx.heap[w.heap.size + 1]? = some (.cells #[.int .u64 0, .int .u64 0, .int .u64 0, .int .u64 0] 66) ∧ Below w.heap.size w wx)
  case first =>
    obtain ⟨c0, c1, c2, c3⟩ := c4 H0.out
    have f0 := free_get H0.out 0
    have f1 := free_get H0.out 1
    have f2 := free_get H0.out 2
    have f3 := free_get H0.out 3
    go_wp2_with (go_at_call 60; refine (rotl32 _ _).mono ?_; rintro e w' ⟨rfl, rfl⟩)
    go_meet
    refine ⟨?_, ?_, ?_⟩
    · simp [World.setCell, World.drew, Array.getElem?_modify, H0.out] <;> rfl
    · simp [World.setCell, World.drew, Array.getElem?_modify, H1.out]
    · repeat (first | exact HB.out | refine Below.setCell ?_ (by exact Nat.le_refl _) _ | refine below_drew ?_)
  case rest =>
  obtain ⟨h0, h1, hb⟩ := hcut
  have H0 := Lib.hid h0
  have H1 := Lib.hid h1
  have HB := Lib.hid hb
  clear h0 h1 hb
  go_upto_region 6 with fail
  go_cut [] (fun wx => wx.heap[w.heap.size]? = some (.cells #[.int .u64 (rot 4294967296 4294967296 (ad a b)), .int .u64 (xr (rot 8192 2251799813685248 b) (ad a b)), .int .u64 (ad c d), .int .u64 (xr (rot 65536 281474976710656 d) (ad c d))] 66) ∧ wx.heap[w.heap.size + 1]? = some (.cells #[.int .u64 0, .int .u64 0, .int .u64 0, .int .u64 0] 66) ∧ Below w.heap.size w wx)
  case first =>
    obtain ⟨c0, c1, c2, c3⟩ := c4 H0.out
    have f0 := free_get H0.out 0
    have f1 := free_get H0.out 1
    have f2 := free_get H0.out 2
    have f3 := free_get H0.out 3
    refine wp_region_still_tail 8 (by kernel_rfl) (by kernel_rfl) ?_
    simp only [List.take_succ_cons, List.take_zero, List.drop_succ_cons, List.drop_zero]
    repeat (first | still_step | still_call (rotl16 _ _))
    refine wpStill_nil ?_
    change wpList _ _ _ _ _ (World.drew _)
    go_wp2_with fail
    go_meet
    refine ⟨?_, ?_, ?_⟩
    · simp [World.setCell, World.drew, Array.getElem?_modify, H0.out] <;> rfl
    · simp [World.setCell, World.drew, Array.getElem?_modify, H1.out]
    · repeat (first | exact HB.out | refine Below.setCell ?_ (by exact Nat.le_refl _) _ | refine below_drew ?_)
  case rest =>
  obtain ⟨h0, h1, hb⟩ := hcut
  have H0 := Lib.hid h0
  have H1 := Lib.hid h1
  have HB := Lib.hid hb
  clear h0 h1 hb
  go_upto_region 7 with fail
  go_cut [] (fun wx => wx.heap[w.heap.size]? = some (.cells #[.int .u64 (ad (rot 4294967296 4294967296 (ad a b)) (xr (rot 65536 281474976710656 d) (ad c d))), .int .u64 (xr (rot 8192 2251799813685248 b) (ad a b)), .int .u64 (ad c d), .int .u64 (xr (rot 65536 281474976710656 d) (ad c d))] 66) ∧ wx.heap[w.heap.size + 1]? = some (.cells #[.int .u64 0, .int .u64 0, .int .u64 0, .int .u64 0] 66) ∧ Below w.heap.size w wx)
  case first =>
    obtain ⟨c0, c1, c2, c3⟩ := c4 H0.out
    have f0 := free_get H0.out 0
    have f1 := free_get H0.out 1
    have f2 := free_get H0.out 2
    have f3 := free_get H0.out 3
    go_wp2_with (go_at_call 60; refine (rotl32 _ _).mono ?_; rintro e w' ⟨rfl, rfl⟩)
    go_meet
    refine ⟨?_, ?_, ?_⟩
    · simp [World.setCell, World.drew, Array.getElem?_modify, H0.out] <;> rfl
    · simp [World.setCell, World.drew, Array.getElem?_modify, H1.out]
    · repeat (first | exact HB.out | refine Below.setCell ?_ (by exact Nat.le_refl _) _ | refine below_drew ?_)
  case rest =>
  obtain ⟨h0, h1, hb⟩ := hcut
  have H0 := Lib.hid h0
  have H1 := Lib.hid h1
  have HB := Lib.hid hb
  clear h0 h1 hb
  go_upto_region 8 with fail
  go_cut [] (fun wx => wx.heap[w.heap.size]? = some (.cells #[.int .u64 (ad (rot 4294967296 4294967296 (ad a b)) (xr (rot 65536 281474976710656 d) (ad c d))), .int .u64 (xr (rot 8192 2251799813685248 b) (ad a b)), .int .u64 (ad c d), .int .u64 (xr (rot 2097152 8796093022208 (xr (rot 65536 281474976710656 d) (ad c d))) (ad (rot 4294967296 4294967296 (ad a b)) (xr (rot 65536 281474976710656 d) (ad c d))))] 66) ∧ wx.heap[w.heap.size + 1]? = some (.cells #[.int .u64 0, .int .u64 0, .int .u64 0, .int .u64 0] 66) ∧ Below w.heap.size w wx)
  case first =>
    obtain ⟨c0, c1, c2, c3⟩ := c4 H0.out
    have f0 := free_get H0.out 0
    have f1 := free_get H0.out 1
    have f2 := free_get H0.out 2
    have f3 := free_get H0.out 3
    refine wp_region_still_tail 8 (by kernel_rfl) (by kernel_rfl) ?_
    simp only [List.take_succ_cons, List.take_zero, List.drop_succ_cons, List.drop_zero]
    repeat (first | still_step | still_call (rotl21 _ _))
    refine wpStill_nil ?_
    change wpList _ _ _ _ _ (World.drew _)
    go_wp2_with fail
    go_meet
    refine ⟨?_, ?_, ?_⟩
    · simp [World.setCell, World.drew, Array.getElem?_modify, H0.out] <;> rfl
    · simp [World.setCell, World.drew, Array.getElem?_modify, H1.out]
    · repeat (first | exact HB.out | refine Below.setCell ?_ (by exact Nat.le_refl _) _ | refine below_drew ?_)
  case rest =>
  obtain ⟨h0, h1, hb⟩ := hcut
  have H0 := Lib.hid h0
  have H1 := Lib.hid h1
  have HB := Lib.hid hb
  clear h0 h1 hb
  go_upto_region 9 with fail
  go_cut [] (fun wx => wx.heap[w.heap.size]? = some (.cells #[.int .u64 (ad (rot 4294967296 4294967296 (ad a b)) (xr (rot 65536 281474976710656 d) (ad c d))), .int .u64 (xr (rot 8192 2251799813685248 b) (ad a b)), .int .u64 (ad (ad c d) (xr (rot 8192 2251799813685248 b) (ad a b))), .int .u64 (xr (rot 2097152 8796093022208 (xr (rot 65536 281474976710656 d) (ad c d))) (ad (rot 4294967296 4294967296 (ad a b)) (xr (rot 65536 281474976710656 d) (ad c d))))] 66) ∧ wx.heap[w.heap.size + 1]? = some (.cells #[.int .u64 0, .int .u64 0, .int .u64 0, .int .u64 0] 66) ∧ Below w.heap.size w wx)
  case first =>
    obtain ⟨c0, c1, c2, c3⟩ := c4 H0.out
    have f0 := free_get H0.out 0
    have f1 := free_get H0.out 1
    have f2 := free_get H0.out 2
    have f3 := free_get H0.out 3
    go_wp2_with (go_at_call 60; refine (rotl32 _ _).mono ?_; rintro e w' ⟨rfl, rfl⟩)
    go_meet
    refine ⟨?_, ?_, ?_⟩
    · simp [World.setCell, World.drew, Array.getElem?_modify, H0.out] <;> rfl
    · simp [World.setCell, World.drew, Array.getElem?_modify, H1.out]
    · repeat (first | exact HB.out | refine Below.setCell ?_ (by exact Nat.le_refl _) _ | refine below_drew ?_)
  case rest =>
  obtain ⟨h0, h1, hb⟩ := hcut
  have H0 := Lib.hid h0
  have H1 := Lib.hid h1
  have HB := Lib.hid hb
  clear h0 h1 hb
  go_upto_region 10 with fail
  go_cut [] (fun wx => wx.heap[w.heap.size]? = some (.cells #[.int .u64 (ad (rot 4294967296 4294967296 (ad a b)) (xr (rot 65536 281474976710656 d) (ad c d))), .int .u64 (xr (rot 131072 140737488355328 (xr (rot 8192 2251799813685248 b) (ad a b))) (ad (ad c d) (xr (rot 8192 2251799813685248 b) (ad a b)))), .int .u64 (ad (ad c d) (xr (rot 8192 2251799813685248 b) (ad a b))), .int .u64 (xr (rot 2097152 8796093022208 (xr (rot 65536 281474976710656 d) (ad c d))) (ad (rot 4294967296 4294967296 (ad a b)) (xr (rot 65536 281474976710656 d) (ad c d))))] 66) ∧ wx.heap[w.heap.size + 1]? = some (.cells #[.int .u64 0, .int .u64 0, .int .u64 0, .int .u64 0] 66) ∧ Below w.heap.size w wx)
  case first =>
    obtain ⟨c0, c1, c2, c3⟩ := c4 H0.out
    have f0 := free_get H0.out 0
    have f1 := free_get H0.out 1
    have f2 := free_get H0.out 2
    have f3 := free_get H0.out 3
    refine wp_region_still_tail 8 (by kernel_rfl) (by kernel_rfl) ?_
    simp only [List.take_succ_cons, List.take_zero, List.drop_succ_cons, List.drop_zero]
    repeat (first | still_step | still_call (rotl17 _ _))
    refine wpStill_nil ?_
    change wpList _ _ _ _ _ (World.drew _)
    go_wp2_with fail
    go_meet
    refine ⟨?_, ?_, ?_⟩
    · simp [World.setCell, World.drew, Array.getElem?_modify, H0.out] <;> rfl
    · simp [World.setCell, World.drew, Array.getElem?_modify, H1.out]
    · repeat (first | exact HB.out | refine Below.setCell ?_ (by exact Nat.le_refl _) _ | refine below_drew ?_)
  case rest =>
  obtain ⟨h0, h1, hb⟩ := hcut
  have H0 := Lib.hid h0
  have H1 := Lib.hid h1
  have HB := Lib.hid hb
  clear h0 h1 hb
  go_upto_region 11 with fail
  go_cut [] (fun wx => wx.heap[w.heap.size]? = some (.cells #[.int .u64 (ad (rot 4294967296 4294967296 (ad a b)) (xr (rot 65536 281474976710656 d) (ad c d))), .int .u64 (xr (rot 131072 140737488355328 (xr (rot 8192 2251799813685248 b) (ad a b))) (ad (ad c d) (xr (rot 8192 2251799813685248 b) (ad a b)))), .int .u64 (rot 4294967296 4294967296 (ad (ad c d) (xr (rot 8192 2251799813685248 b) (ad a b)))), .int .u64 (xr (rot 2097152 8796093022208 (xr (rot 65536 281474976710656 d) (ad c d))) (ad (rot 4294967296 4294967296 (ad a b)) (xr (rot 65536 281474976710656 d) (ad c d))))] 66) ∧ wx.heap[w.heap.size + 1]? = some (.cells #[.int .u64 0, .int .u64 0, .int .u64 0, .int .u64 0] 66) ∧ Below w.heap.size w wx)
  case first =>
    obtain ⟨c0, c1, c2, c3⟩ := c4 H0.out
    have f0 := free_get H0.out 0
    have f1 := free_get H0.out 1
    have f2 := free_get H0.out 2
    have f3 := free_get H0.out 3
    go_wp2_with (go_at_call 60; refine (rotl32 _ _).mono ?_; rintro e w' ⟨rfl, rfl⟩)
    go_meet
    refine ⟨?_, ?_, ?_⟩
    · simp [World.setCell, World.drew, Array.getElem?_modify, H0.out] <;> rfl
    · simp [World.setCell, World.drew, Array.getElem?_modify, H1.out]
    · repeat (first | exact HB.out | refine Below.setCell ?_ (by exact Nat.le_refl _) _ | refine below_drew ?_)
  case rest =>
  obtain ⟨h0, h1, hb⟩ := hcut
  obtain ⟨c0, c1, c2, c3⟩ := c4 h0
  obtain ⟨r0, r1, r2, r3⟩ := c4 h1
  have f0 := free_get h1 0
  have f1 := free_get h1 1
  have f2 := free_get h1 2
  have f3 := free_get h1 3
  have HB := Lib.hid hb
  have H0 := Lib.hid h0
  have H1 := Lib.hid h1
  clear h0 h1 hb
  go_wp2_with fail
  refine bodyPost_ret (v := qv (round ⟨a, b, c, d⟩)) ?_ rfl ⟨rfl, ?_⟩
  · simp [results, Try.results43, go_sem, r0, r1, r2, r3]
    exact ⟨rfl, rfl, rfl, rfl⟩
  · repeat (first | exact HB.out | refine Below.setCell ?_ (by simp) _ | refine below_drew ?_)

end Go.Proofs.Ytdlhleegfmnjjaa.Sip
