/- The reference's number of bytes. Conditions: no more than 4000 bytes. -/
import Derived.Test.YtdlhleegfmnjjaaSipWords
namespace Go.Proofs.Ytdlhleegfmnjjaa.Sip
open Go.RowKit Argin Save Win Bytes
set_option linter.unusedVariables false
set_option linter.unusedSimpArgs false

set_option maxRecDepth 100000 in
set_option maxHeartbeats 4000000 in
theorem ref_of (k0 k1 : Int) (B : Nat) (oa : Option Addr) (cap : Nat) (l : List UInt8) (w : World) (h : Rd w B oa cap l) (hB : B ≤ w.heap.size) (hl : l.length ≤ 4000) :
    Calls Try.prog 42 #[.int .u64 k0, .int .u64 k1, .slice oa l.length cap] w fun e w' => e = .returned (.int .u64 (hash k0 k1 l)) ∧ Below w.heap.size w w' := by
  have HX := Lib.hid h
  have HBB := Lib.hid hB
  obtain ⟨Q, hQ⟩ : ∃ Q : Nat → Quad, Q = st (q0 k0 k1) l := ⟨_, rfl⟩
  have HQ0 := Lib.hid (show Q 0 = q0 k0 k1 from by rw [hQ]; rfl)
  have HQS := Lib.hid (show ∀ k, Q (k + 1) = stepQ (Q k) (wAt l k : Nat) from fun k => by rw [hQ]; rfl)
  have HRes := Lib.hid (show hash k0 k1 l = finQ (Q (l.length / 8 + 1)) from by rw [hQ]; rfl)
  clear h hQ hB
  go_enter Try.func42, Try.ntmps42
  go_wp2_with fail
  refine (words_any B _ _ _ _ (HX.out.below (((Below.refl w.heap.size w).alloc (Nat.le_refl _) _).mono HBB.out)) (by simp; have := HBB.out; omega) hl).mono ?_
  rintro e w1 ⟨v, rfl, hw, hb⟩
  obtain ⟨N, hN⟩ : ∃ N, N = l.length / 8 + 1 := ⟨_, rfl⟩
  rw [← hN] at hw HRes
  have HNE := Lib.hid hN
  have hN0 : 1 ≤ N ∧ N ≤ 501 := by omega
  have h0 := block_stays hb (get_alloc w _)
  have HB1 := Lib.hid (((Below.refl w.heap.size w).alloc (Nat.le_refl _) _).trans (hb.mono (by simp)))
  have HW := Lib.hid hw
  rcases hw.cells with hc | ⟨g, o, cp, rfl, hn1, hm1, hgb, hgl, hblk, hcell, _⟩
  · omega
  have hcells : ∀ j, j < N → w1.cell? ⟨g, o + j, none⟩ = some (.int .u64 (wAt l j : Nat)) := fun j hj => hcell j _ (wl_get l N j hj)
  have HC := Lib.hid hcells
  have H0 := Lib.hid h0
  simp only [World.size_alloc] at hgb
  clear hN h0 hb hw hcell hcells hblk
  go_wp2_with fail
  go_loopw [9] (fun s9 wr => ∃ k : Nat, k ≤ N ∧ s9 = .int .i64 k ∧ wr.heap[w.heap.size]? = some (.cells #[.int .u64 (Q k).a, .int .u64 (Q k).b, .int .u64 (Q k).c, .int .u64 (Q k).d] 66) ∧ Save (· = w.heap.size) w1 wr) (fun s9 _ => N - (intOf s9).toNat)
  case atStart => exact ⟨0, by omega, rfl, by rw [HQ0.out]; exact H0.out, Save.refl _ _⟩
  case round =>
    clear H0
    obtain ⟨k, hk, rfl, h0, hs⟩ := hrel
    have H0 := Lib.hid h0
    have HS := Lib.hid hs
    obtain ⟨c0, c1, c2, c3⟩ := c4 h0
    have f0 := free_get h0 0
    have f1 := free_get h0 1
    have f2 := free_get h0 2
    have f3 := free_get h0 3
    have hlt0 := lt_of_get h0
    clear h0 hs
    by_cases hlt : k < N
    · have cw : wr.cell? ⟨g, o + k, none⟩ = some (.int .u64 (wAt l k : Nat)) := by
        rw [World.cell?_of_block (w := w1) (HS.out.block g hgl (by omega))]; exact HC.out k hlt
      have hqs := HQS.out k
      generalize wAt l k = M at hqs cw
      have HQ := Lib.hid hqs
      clear hqs
      go_wp2_with fail
      refine wp_region_still_tail 8 (by kernel_rfl) (by kernel_rfl) ?_
      simp only [List.take_succ_cons, List.take_zero, List.drop_succ_cons, List.drop_zero]
      repeat still_step
      refine wpStill_nil ?_
      change wpList _ _ _ _ _ (World.drew _)
      go_upto_region 7 with fail
      go_cut [] (fun wx => wx.heap[w.heap.size]? = some (.cells #[.int .u64 (rounds ⟨(Q k).a, (Q k).b, (Q k).c, xr (Q k).d (M : Nat)⟩ 2).a, .int .u64 (rounds ⟨(Q k).a, (Q k).b, (Q k).c, xr (Q k).d (M : Nat)⟩ 2).b, .int .u64 (rounds ⟨(Q k).a, (Q k).b, (Q k).c, xr (Q k).d (M : Nat)⟩ 2).c, .int .u64 (rounds ⟨(Q k).a, (Q k).b, (Q k).c, xr (Q k).d (M : Nat)⟩ 2).d] 66) ∧ Save (· = w.heap.size) wr wx)
      case first =>
        go_wp2_with fail
        refine (ref_round ⟨(Q k).a, (Q k).b, (Q k).c, xr (Q k).d (M : Nat)⟩ _).mono ?_
        rintro e w5 ⟨rfl, hb5⟩
        go_wp2_with fail
        refine (ref_round _ _).mono ?_
        rintro e w6 ⟨rfl, hb6⟩
        have h5 : w5.heap[w.heap.size]? = some (.cells #[.int .u64 (Q k).a, .int .u64 (Q k).b, .int .u64 (Q k).c, .int .u64 (xr (Q k).d (M : Nat))] 66) := by
          refine block_stays hb5 ?_
          simp [World.setCell, World.drew, Array.getElem?_modify, H0.out, xr]
        have h6 := block_stays hb6 h5
        have f0 := free_get h6 0
        have f1 := free_get h6 1
        have f2 := free_get h6 2
        have f3 := free_get h6 3
        obtain ⟨d0, d1, d2, d3⟩ := c4 h6
        have HS6 := Lib.hid ((((Save.refl (· = w.heap.size) wr).set w.heap.size 3 rfl (.int .u64 (xr (Q k).d (M : Nat)))).drew).trans ((Save.of_below hb5).trans (Save.of_below hb6)))
        have H6 := Lib.hid h6
        clear h5 h6 hb5 hb6 c0 c1 c2 c3
        go_wp2_with fail
        go_meet
        refine ⟨?_, ?_⟩
        · simp [World.setCell, Array.getElem?_modify, H6.out]; exact ⟨rfl, rfl, rfl, rfl⟩
        · repeat (first | exact HS6.out | refine Save.set ?_ _ _ (by exact rfl) _)
      case rest =>
      obtain ⟨h7, hs7⟩ := hcut
      have hqe : Q (k + 1) = ⟨xr (rounds ⟨(Q k).a, (Q k).b, (Q k).c, xr (Q k).d (M : Nat)⟩ 2).a (M : Nat), (rounds ⟨(Q k).a, (Q k).b, (Q k).c, xr (Q k).d (M : Nat)⟩ 2).b, (rounds ⟨(Q k).a, (Q k).b, (Q k).c, xr (Q k).d (M : Nat)⟩ 2).c, (rounds ⟨(Q k).a, (Q k).b, (Q k).c, xr (Q k).d (M : Nat)⟩ 2).d⟩ := HQ.out
      have HQE := Lib.hid hqe
      have H7 := Lib.hid h7
      have HS7 := Lib.hid (HS.out.trans hs7)
      have cw7 := (World.cell?_of_block (a := ⟨g, o + k, none⟩) (hs7.block g (Nat.lt_of_lt_of_le hgl HS.out.size) (by omega))).trans cw
      clear hqe c0 c1 c2 c3 f0 f1 f2 f3 cw HQ
      obtain ⟨c0, c1, c2, c3⟩ := c4 h7
      have f0 := free_get h7 0
      have f1 := free_get h7 1
      have f2 := free_get h7 2
      have f3 := free_get h7 3
      clear h7 hs7
      generalize rounds ⟨(Q k).a, (Q k).b, (Q k).c, xr (Q k).d (M : Nat)⟩ 2 = R at HQE H7 c0 c1 c2 c3
      go_wp2_with fail
      refine wp_region_still_tail 8 (by kernel_rfl) (by kernel_rfl) ?_
      simp only [List.take_succ_cons, List.take_zero, List.drop_succ_cons, List.drop_zero]
      repeat still_step
      refine wpStill_nil ?_
      change wpList _ _ _ _ _ (World.drew _)
      go_wp2_with fail
      go_roundw
      case rel =>
        refine ⟨k + 1, by omega, by go_num, ?_, ?_⟩
        · rw [HQE.out]; simp [World.setCell, World.drew, Array.getElem?_modify, H7.out, xr]
        · repeat (first | exact HS7.out | refine Save.set ?_ _ _ (by exact rfl) _ | refine Save.drew ?_)
      case measure => simp [intOf]; omega
    · obtain rfl : k = N := by omega
      have hres : hash k0 k1 l = xr (xr (xr (rounds ⟨(Q k).a, (Q k).b, xr (Q k).c 255, (Q k).d⟩ 4).a (rounds ⟨(Q k).a, (Q k).b, xr (Q k).c 255, (Q k).d⟩ 4).b) (rounds ⟨(Q k).a, (Q k).b, xr (Q k).c 255, (Q k).d⟩ 4).c) (rounds ⟨(Q k).a, (Q k).b, xr (Q k).c 255, (Q k).d⟩ 4).d := HRes.out
      have HRes2 := Lib.hid hres
      clear hres
      go_wp2_with fail
      refine (ref_round ⟨(Q k).a, (Q k).b, xr (Q k).c 255, (Q k).d⟩ _).mono ?_
      rintro e w5 ⟨rfl, hb5⟩
      go_wp2_with fail
      refine (ref_round _ _).mono ?_
      rintro e w6 ⟨rfl, hb6⟩
      go_wp2_with fail
      refine (ref_round _ _).mono ?_
      rintro e w7 ⟨rfl, hb7⟩
      go_wp2_with fail
      refine (ref_round _ _).mono ?_
      rintro e w8 ⟨rfl, hb8⟩
      have h5 : w5.heap[w.heap.size]? = some (.cells #[.int .u64 (Q k).a, .int .u64 (Q k).b, .int .u64 (xr (Q k).c 255), .int .u64 (Q k).d] 66) := by
        refine block_stays hb5 ?_
        simp [World.setCell, Array.getElem?_modify, H0.out, xr]
      have h8 := block_stays hb8 (block_stays hb7 (block_stays hb6 h5))
      have HB8 := Lib.hid ((((HB1.out.trans (HS.out.below (B := w.heap.size) (fun j _ e => by omega) (by have := HB1.out.size; omega))).setCell (p := ⟨w.heap.size, 2, none⟩) (Nat.le_refl _) (.int .u64 (xr (Q k).c 255))).trans (hb5.mono (by simp [World.setCell]; omega))).trans ((hb6.mono (by have := hb5.size; simp [World.setCell] at this; omega)).trans ((hb7.mono (by have := hb5.size; have := hb6.size; simp [World.setCell] at *; omega)).trans (hb8.mono (by have := hb5.size; have := hb6.size; have := hb7.size; simp [World.setCell] at *; omega)))))
      clear c0 c1 c2 c3 f0 f1 f2 f3 hb5 hb6 hb7 hb8 h5
      obtain ⟨c0, c1, c2, c3⟩ := c4 h8
      have f0 := free_get h8 0
      have f1 := free_get h8 1
      have f2 := free_get h8 2
      have f3 := free_get h8 3
      clear h8
      have hr : round (round (round (round ⟨(Q k).a, (Q k).b, xr (Q k).c 255, (Q k).d⟩))) = rounds ⟨(Q k).a, (Q k).b, xr (Q k).c 255, (Q k).d⟩ 4 := rfl
      rw [hr]
      clear hr
      generalize rounds ⟨(Q k).a, (Q k).b, xr (Q k).c 255, (Q k).d⟩ 4 = R at HRes2 ⊢
      go_wp2_with fail
      go_ret
      refine ⟨ret_int (by rw [HRes2.out]; rfl), ?_⟩
      repeat (first | exact HB8.out | refine Below.setCell ?_ (by exact Nat.le_refl _) _)
end Go.Proofs.Ytdlhleegfmnjjaa.Sip
