/- The number of bytes (layer 4) as it is called. Conditions: no more than 4000 bytes. -/
import Derived.Test.YtdlhleegfmnjjaaSipWord
namespace Go.Proofs.Ytdlhleegfmnjjaa.Sip
open Go.RowKit Argin Save Win Bytes
set_option linter.unusedVariables false
set_option linter.unusedSimpArgs false

/-- Word k of bytes. -/
def wAt (l : List UInt8) (k : Nat) : Nat := if 8 * k + 8 ≤ l.length then wd ((l.drop (8 * k)).take 8) else wd (l.drop (8 * k)) + l.length % 256 * 72057594037927936
def stepQ (q : Quad) (m : Int) : Quad :=
  let r := rounds ⟨q.a, q.b, q.c, xr q.d m⟩ 2
  ⟨xr r.a m, r.b, r.c, r.d⟩
def st (q : Quad) (l : List UInt8) : Nat → Quad
  | 0 => q
  | k + 1 => stepQ (st q l k) (wAt l k : Nat)
def q0 (k0 k1 : Int) : Quad := ⟨xr k0 8317987319222330741, xr k1 7237128888997146477, xr k0 7816392313619706465, xr k1 8387220255154660723⟩
def finQ (q : Quad) : Int :=
  let r := rounds ⟨q.a, q.b, xr q.c 255, q.d⟩ 4
  xr (xr (xr r.a r.b) r.c) r.d
def hash (k0 k1 : Int) (l : List UInt8) : Int := finQ (st (q0 k0 k1) l (l.length / 8 + 1))

theorem infoB8 : (Try.prog.info? 5).map (fun i => (i.zero, i.size, i.bytes)) = some (some (.int .u8 0), 1, 1) := by kernel_rfl

def lenS : Value → Nat
  | .slice _ n _ => n
  | _ => 0
def flagS : Value → Nat
  | .bool true => 0
  | _ => 1

theorem or_end (m len : Nat) (hm : m < 2 ^ 56) : bits .or .u64 (m : Int) (IntKind.u64.wrap ((len : Int) * 72057594037927936)) = ((m + len % 256 * 72057594037927936 : Nat) : Int) := by
  have h := or_word m (len % 256) 7 (by omega) (by omega) (by omega)
  have e : IntKind.u64.wrap ((len : Int) * 72057594037927936) = IntKind.u64.wrap (((len % 256 : Nat) : Int) * 2 ^ (8 * 7)) := by
    rw [u64_wrap, u64_wrap]
    have : (2 : Int) ^ (8 * 7) = 72057594037927936 := by decide
    rw [this]
    omega
  rw [e, h]

set_option maxRecDepth 100000 in
set_option maxHeartbeats 2000000 in
theorem of_any (k0 k1 : Int) (B : Nat) (oa : Option Addr) (cap : Nat) (l : List UInt8) (w : World) (h : Rd w B oa cap l) (hB : B ≤ w.heap.size) (hl : l.length ≤ 4000) :
    Calls Try.prog 41 #[.int .u64 k0, .int .u64 k1, .slice oa l.length cap] w fun e w' => e = .returned (.int .u64 (hash k0 k1 l)) ∧ Below w.heap.size w w' := by
  have HX := Lib.hid h
  have HBB := Lib.hid hB
  obtain ⟨Q, hQ⟩ : ∃ Q : Nat → Quad, Q = st (q0 k0 k1) l := ⟨_, rfl⟩
  have HQ0 := Lib.hid (show Q 0 = q0 k0 k1 from by rw [hQ]; rfl)
  have HQS := Lib.hid (show ∀ k, Q (k + 1) = stepQ (Q k) (wAt l k : Nat) from fun k => by rw [hQ]; rfl)
  have HRes := Lib.hid (show hash k0 k1 l = finQ (Q (l.length / 8 + 1)) from by rw [hQ]; rfl)
  clear h hQ hB
  go_enter Try.func41, Try.ntmps41
  go_wp2_with fail
  go_loopw [2, 9] (fun s2 s9 wr => ∃ (k n c : Nat) (A : Option Addr) (dn : Bool), s2 = .slice A n c ∧ s9 = .bool dn ∧ (dn = true → k = l.length / 8 + 1) ∧ (dn = false → k ≤ l.length / 8 ∧ n = l.length - 8 * k ∧ Rd w B A c (l.drop (8 * k))) ∧
      wr.heap[w.heap.size]? = some (.cells #[.int .u64 (Q k).a, .int .u64 (Q k).b, .int .u64 (Q k).c, .int .u64 (Q k).d] 66) ∧ Below w.heap.size w wr) (fun s2 s9 _ => lenS s2 + flagS s9)
  case atStart =>
    refine ⟨0, l.length, cap, oa, false, rfl, rfl, (fun e => by cases e), (fun _ => ⟨by omega, by omega, HX.out⟩), ?_, (Below.refl _ _).alloc (Nat.le_refl _) _⟩
    rw [HQ0.out]
    exact get_alloc _ _
  case round =>
    obtain ⟨k, n, c, A, dn, rfl, rfl, hd1, hd0, h0, hb⟩ := hrel
    have H0 := Lib.hid h0
    have HB := Lib.hid hb
    have hbs := hb.size
    obtain ⟨c0, c1, c2, c3⟩ := c4 h0
    have f0 := free_get h0 0
    have f1 := free_get h0 1
    have f2 := free_get h0 2
    have f3 := free_get h0 3
    clear h0 hb
    cases dn
    · obtain ⟨hk, hn, hrd⟩ := hd0 rfl
      have hrl : (l.drop (8 * k)).length = n := by rw [List.length_drop, hn]
      have HRL := Lib.hid hrl
      have hnc : n ≤ c := by have := hrd.1; omega
      have hcm : c ≤ 9223372036854775807 := by have := hrd.2.1; unfold maxLen at this; omega
      have HRd := Lib.hid hrd
      obtain ⟨i0, hi, hz0, hz1, hz2⟩ := info_parts infoB8
      clear hd0 hd1 hrd
      by_cases hlast : 8 * k + 8 ≤ l.length
      · have hn8 : 8 ≤ n := by omega
        have HN := Lib.hid hn
        clear hn
        have HLast := Lib.hid hlast
        have hmin : min (n : Int) 8 = 8 := by omega
        have hrw := HRd.out.cut (k := 0) (n := 8) (by rw [hrl]; omega) (by omega)
        rw [cutA_zero, List.drop_zero, Nat.sub_zero] at hrw
        have hwl : ((l.drop (8 * k)).take 8).length = 8 := by rw [List.length_take, hrl]; omega
        have hcut := fun w : World => run_cut_hi (P := Try.prog) w (oa := A) (n := n) (cap := c) Try.underlying40 hi (show (0 : Int) ≤ 8 by omega) (show (8 : Int) ≤ (c : Int) by omega)
        rw [hz1, cutA_zero] at hcut
        have hcut2 := fun w : World => run_cut_lo (P := Try.prog) w (oa := A) (n := n) (cap := c) Try.underlying40 hi (show (0 : Int) ≤ 8 by omega) (show (8 : Int) ≤ (n : Int) by omega)
        rw [hz1, show (8 : Int).toNat = 8 from rfl] at hcut2
        rw [show (8 : Int).toNat = 8 from rfl] at hcut
        have hword := word_any _ _ _ _ wr (hrw.below (HB.out.mono HBB.out)) (by rw [hwl]; omega)
        rw [hwl] at hword
        have hM : wAt l k = wd ((l.drop (8 * k)).take 8) := if_pos hlast
        rw [← hM] at hword
        clear hM
        have HW := Lib.hid hword
        have hqs := HQS.out k
        generalize wAt l k = M at hqs HW 
        have HQ := Lib.hid hqs
        have h2 := fun w : World => rounds_any ⟨(Q k).a, (Q k).b, (Q k).c, xr (Q k).d (M : Nat)⟩ 2 w (by omega)
        rw [show ((2 : Nat) : Int) = 2 from rfl] at h2
        have H2 := Lib.hid h2
        have HA := Lib.hid (show True from trivial)
        clear hword hqs h2 hrw hwl HA
        go_wp2_with fail
        refine HW.out.mono ?_
        rintro e w' ⟨rfl, rfl⟩
        go_wp2_with fail
        refine (H2.out _).mono ?_
        rintro e w5 ⟨rfl, hb5⟩
        have h0 : w5.heap[w.heap.size]? = some (.cells #[.int .u64 (Q k).a, .int .u64 (Q k).b, .int .u64 (Q k).c, .int .u64 (xr (Q k).d (M : Nat))] 66) := by
          refine block_stays hb5 ?_
          simp [World.setCell, Array.getElem?_modify, H0.out, xr]
        have HB5 := Lib.hid ((HB.out.setCell (p := ⟨w.heap.size, 3, none⟩) (Nat.le_refl _) (.int .u64 (xr (Q k).d (M : Nat)))).trans (hb5.mono (by simp [World.setCell]; exact hbs)))
        have HRR := Lib.hid HQ.out
        have hqe : Q (k + 1) = ⟨xr (rounds ⟨(Q k).a, (Q k).b, (Q k).c, xr (Q k).d (M : Nat)⟩ 2).a (M : Nat), (rounds ⟨(Q k).a, (Q k).b, (Q k).c, xr (Q k).d (M : Nat)⟩ 2).b, (rounds ⟨(Q k).a, (Q k).b, (Q k).c, xr (Q k).d (M : Nat)⟩ 2).c, (rounds ⟨(Q k).a, (Q k).b, (Q k).c, xr (Q k).d (M : Nat)⟩ 2).d⟩ := HQ.out
        have HQE := Lib.hid hqe
        clear hqe
        clear c0 c1 c2 c3 f0 f1 f2 f3 hb5 HRR H2 HQ
        obtain ⟨c0, c1, c2, c3⟩ := c4 h0
        have f0 := free_get h0 0
        have f1 := free_get h0 1
        have f2 := free_get h0 2
        have f3 := free_get h0 3
        have H5 := Lib.hid h0
        clear h0
        generalize rounds ⟨(Q k).a, (Q k).b, (Q k).c, xr (Q k).d (M : Nat)⟩ 2 = R at HQE ⊢
        go_wp2_with fail
        go_roundw
        case rel =>
          refine ⟨k + 1, n - 8, c - 8, cutA 1 A c 8, false, rfl, rfl, (fun e => by cases e), (fun _ => ⟨by omega, by have := HN.out; omega, ?_⟩), ?_, ?_⟩
          · have := HRd.out.cut (k := 8) (n := (l.drop (8 * k)).length) (Nat.le_refl _) (by rw [HRL.out]; omega); rw [List.take_length, List.drop_drop] at this; exact this
          · rw [HQE.out]; simp [World.setCell, Array.getElem?_modify, H5.out, xr]
          · repeat (first | exact HB5.out | refine Below.setCell ?_ (by exact Nat.le_refl _) _)
        case measure => first | (simp [lenS, flagS]; done) | (simp [lenS, flagS]; omega)
      · have hn8 : n < 8 := by omega
        have hke : k + 1 = l.length / 8 + 1 := by omega
        have HKE := Lib.hid hke
        have HN := Lib.hid hn
        clear hn hke
        have hmin : min (n : Int) 8 = n := by omega
        have hrw := HRd.out.cut (k := 0) (n := n) (by rw [hrl]; omega) (by omega)
        rw [cutA_zero, List.drop_zero, Nat.sub_zero] at hrw
        have hwl : ((l.drop (8 * k)).take n).length = n := by rw [List.length_take, hrl]; omega
        have hcut := fun w : World => run_cut_hi (P := Try.prog) w (oa := A) (n := n) (cap := c) Try.underlying40 hi (show (0 : Int) ≤ n by omega) (show (n : Int) ≤ (c : Int) by omega)
        rw [hz1, cutA_zero] at hcut
        have hcut2 := fun w : World => run_cut_lo (P := Try.prog) w (oa := A) (n := n) (cap := c) Try.underlying40 hi (show (0 : Int) ≤ n by omega) (show (n : Int) ≤ (n : Int) by omega)
        rw [hz1, show (n : Int).toNat = n from rfl] at hcut2
        rw [show (n : Int).toNat = n from rfl] at hcut
        have hword := word_any _ _ _ _ wr (hrw.below (HB.out.mono HBB.out)) (by rw [hwl]; omega)
        rw [hwl] at hword
        have hM : wAt l k = wd ((l.drop (8 * k)).take n) + l.length % 256 * 72057594037927936 := by
          rw [List.take_of_length_le (by rw [hrl]; omega)]
          exact if_neg hlast
        have hlt := wd_lt ((l.drop (8 * k)).take n)
        rw [hwl] at hlt
        have hlt2 : wd ((l.drop (8 * k)).take n) < 2 ^ 56 := Nat.lt_of_lt_of_le hlt (Nat.pow_le_pow_right (by omega) (by omega))
        have hor := or_end _ l.length hlt2
        rw [← hM] at hor
        have HOR := Lib.hid hor
        clear hlt hlt2 hM
        have hor := HOR.out
        generalize wd ((l.drop (8 * k)).take n) = m0 at hor hword HOR
        have HW := Lib.hid hword
        have hqs := HQS.out k
        generalize wAt l k = M at hqs HW hor HOR
        have HQ := Lib.hid hqs
        have h2 := fun w : World => rounds_any ⟨(Q k).a, (Q k).b, (Q k).c, xr (Q k).d (M : Nat)⟩ 2 w (by omega)
        rw [show ((2 : Nat) : Int) = 2 from rfl] at h2
        have H2 := Lib.hid h2
        have HA := Lib.hid (show True from trivial)
        clear hword hqs h2 hrw hwl HA
        go_wp2_with fail
        refine HW.out.mono ?_
        rintro e w' ⟨rfl, rfl⟩
        go_wp2_with fail
        refine (H2.out _).mono ?_
        rintro e w5 ⟨rfl, hb5⟩
        have h0 : w5.heap[w.heap.size]? = some (.cells #[.int .u64 (Q k).a, .int .u64 (Q k).b, .int .u64 (Q k).c, .int .u64 (xr (Q k).d (M : Nat))] 66) := by
          refine block_stays hb5 ?_
          simp [World.setCell, Array.getElem?_modify, H0.out, xr]
        have HB5 := Lib.hid ((HB.out.setCell (p := ⟨w.heap.size, 3, none⟩) (Nat.le_refl _) (.int .u64 (xr (Q k).d (M : Nat)))).trans (hb5.mono (by simp [World.setCell]; exact hbs)))
        have HRR := Lib.hid HQ.out
        have hqe : Q (k + 1) = ⟨xr (rounds ⟨(Q k).a, (Q k).b, (Q k).c, xr (Q k).d (M : Nat)⟩ 2).a (M : Nat), (rounds ⟨(Q k).a, (Q k).b, (Q k).c, xr (Q k).d (M : Nat)⟩ 2).b, (rounds ⟨(Q k).a, (Q k).b, (Q k).c, xr (Q k).d (M : Nat)⟩ 2).c, (rounds ⟨(Q k).a, (Q k).b, (Q k).c, xr (Q k).d (M : Nat)⟩ 2).d⟩ := HQ.out
        have HQE := Lib.hid hqe
        clear hqe
        clear c0 c1 c2 c3 f0 f1 f2 f3 hb5 HRR H2 HQ
        obtain ⟨c0, c1, c2, c3⟩ := c4 h0
        have f0 := free_get h0 0
        have f1 := free_get h0 1
        have f2 := free_get h0 2
        have f3 := free_get h0 3
        have H5 := Lib.hid h0
        clear h0
        generalize rounds ⟨(Q k).a, (Q k).b, (Q k).c, xr (Q k).d (M : Nat)⟩ 2 = R at HQE ⊢
        go_wp2_with fail
        go_roundw
        case rel =>
          refine ⟨k + 1, _, _, _, true, rfl, rfl, (fun _ => HKE.out), (fun e => by cases e), ?_, ?_⟩
          · rw [HQE.out]; simp [World.setCell, Array.getElem?_modify, H5.out, xr]
          · repeat (first | exact HB5.out | refine Below.setCell ?_ (by exact Nat.le_refl _) _)
        case measure => first | (simp [lenS, flagS]; done) | (simp [lenS, flagS]; omega)
    · obtain rfl := hd1 rfl
      clear hd0 hd1
      have h4 := fun w : World => rounds_any ⟨(Q (l.length / 8 + 1)).a, (Q (l.length / 8 + 1)).b, xr (Q (l.length / 8 + 1)).c 255, (Q (l.length / 8 + 1)).d⟩ 4 w (by omega)
      rw [show ((4 : Nat) : Int) = 4 from rfl] at h4
      have H4 := Lib.hid h4
      have hres : hash k0 k1 l = xr (xr (xr (rounds ⟨(Q (l.length / 8 + 1)).a, (Q (l.length / 8 + 1)).b, xr (Q (l.length / 8 + 1)).c 255, (Q (l.length / 8 + 1)).d⟩ 4).a (rounds ⟨(Q (l.length / 8 + 1)).a, (Q (l.length / 8 + 1)).b, xr (Q (l.length / 8 + 1)).c 255, (Q (l.length / 8 + 1)).d⟩ 4).b) (rounds ⟨(Q (l.length / 8 + 1)).a, (Q (l.length / 8 + 1)).b, xr (Q (l.length / 8 + 1)).c 255, (Q (l.length / 8 + 1)).d⟩ 4).c) (rounds ⟨(Q (l.length / 8 + 1)).a, (Q (l.length / 8 + 1)).b, xr (Q (l.length / 8 + 1)).c 255, (Q (l.length / 8 + 1)).d⟩ 4).d := HRes.out
      have HRes2 := Lib.hid hres
      clear h4 hres
      go_wp2_with fail
      refine (H4.out _).mono ?_
      rintro e w5 ⟨rfl, hb5⟩
      have h0 : w5.heap[w.heap.size]? = some (.cells #[.int .u64 (Q (l.length / 8 + 1)).a, .int .u64 (Q (l.length / 8 + 1)).b, .int .u64 (xr (Q (l.length / 8 + 1)).c 255), .int .u64 (Q (l.length / 8 + 1)).d] 66) := by
        refine block_stays hb5 ?_
        simp [World.setCell, Array.getElem?_modify, H0.out, xr]
      have HB5 := Lib.hid ((HB.out.setCell (p := ⟨w.heap.size, 2, none⟩) (Nat.le_refl _) (.int .u64 (xr (Q (l.length / 8 + 1)).c 255))).trans (hb5.mono (by simp [World.setCell]; exact hbs)))
      clear c0 c1 c2 c3 f0 f1 f2 f3 hb5
      obtain ⟨c0, c1, c2, c3⟩ := c4 h0
      have f0 := free_get h0 0
      have f1 := free_get h0 1
      have f2 := free_get h0 2
      have f3 := free_get h0 3
      have H5 := Lib.hid h0
      clear h0
      generalize rounds ⟨(Q (l.length / 8 + 1)).a, (Q (l.length / 8 + 1)).b, xr (Q (l.length / 8 + 1)).c 255, (Q (l.length / 8 + 1)).d⟩ 4 = R at HRes2 ⊢
      go_wp2_with fail
      go_ret
      refine ⟨ret_int (by rw [HRes2.out]; rfl), ?_⟩
      repeat (first | exact HB5.out | refine Below.setCell ?_ (by exact Nat.le_refl _) _)
end Go.Proofs.Ytdlhleegfmnjjaa.Sip
