/- The reference's words of bytes, and their number. Conditions: no more than 4000 bytes. -/
import Derived.Test.YtdlhleegfmnjjaaSipOf
namespace Go.Proofs.Ytdlhleegfmnjjaa.Sip
open Go.RowKit Argin Save Win Bytes
set_option linter.unusedVariables false
set_option linter.unusedSimpArgs false

theorem infoU8 : (Try.prog.info? 23).map (fun i => (i.zero, i.size, i.bytes)) = some (some (.int .u64 0), 1, 8) := by kernel_rfl
def wl (l : List UInt8) (n : Nat) : List Value := (List.range n).map fun k => Value.int .u64 (wAt l k : Nat)
theorem wl_len (l : List UInt8) (n : Nat) : (wl l n).length = n := by simp [wl]
theorem wl_succ (l : List UInt8) (n : Nat) : wl l (n + 1) = wl l n ++ [Value.int .u64 (wAt l n : Nat)] := by simp [wl, List.range_succ]
theorem wl_get (l : List UInt8) (n k : Nat) (h : k < n) : (wl l n)[k]? = some (Value.int .u64 (wAt l k : Nat)) := by simp [wl, h]

theorem part_lt (l : List UInt8) (f e : Nat) (he : 1 ≤ e) (he8 : e ≤ 8) : wd ((l.drop (f + e)).take (8 - e)) < 72057594037927936 := by
  have h := wd_lt ((l.drop (f + e)).take (8 - e))
  have hl : ((l.drop (f + e)).take (8 - e)).length ≤ 7 := by rw [List.length_take]; omega
  have : (2 : Nat) ^ (8 * ((l.drop (f + e)).take (8 - e)).length) ≤ 2 ^ 56 := Nat.pow_le_pow_right (by omega) (by omega)
  have h56 : (2 : Nat) ^ 56 = 72057594037927936 := by decide
  omega
theorem part_step (l : List UInt8) (f e : Nat) (he : e < 8) (h : f + e < l.length) : wd ((l.drop (f + e)).take (8 - e)) = 256 * wd ((l.drop (f + (e + 1))).take (8 - (e + 1))) + (l[f + e]).toNat := by
  rw [List.drop_eq_getElem_cons h, show 8 - e = (8 - (e + 1)) + 1 from by omega, List.take_succ_cons, wd, Nat.add_comm]
  rfl
theorem part_none (l : List UInt8) (f e : Nat) (h : l.length ≤ f + e) : wd ((l.drop (f + e)).take (8 - e)) = 0 := by
  rw [List.drop_eq_nil_of_le h, List.take_nil]; rfl

set_option maxRecDepth 100000 in
set_option maxHeartbeats 4000000 in
theorem words_any (B : Nat) (oa : Option Addr) (cap : Nat) (l : List UInt8) (w : World) (h : Rd w B oa cap l) (hB : B ≤ w.heap.size) (hl : l.length ≤ 4000) :
    Calls Try.prog 59 #[.slice oa l.length cap] w fun e w' => ∃ v, e = .returned v ∧ Win w' w.heap.size 23 1 v (l.length / 8 + 1) (wl l (l.length / 8 + 1)) ∧ Below w.heap.size w w' := by
  have HX := Lib.hid h
  have HBB := Lib.hid hB
  obtain ⟨i0, hi, hz0, hz1, hz2⟩ := info_parts infoU8
  clear h hB
  go_enter Try.func59, Try.ntmps59
  go_wp2_with fail
  go_loopw [3, 4] (fun s3 s4 wr => ∃ k : Nat, k ≤ l.length / 8 + 1 ∧ s4 = .int .i64 ((8 * k : Nat) : Int) ∧ Win wr w.heap.size 23 1 s3 k (wl l k) ∧ Below w.heap.size w wr) (fun _ s4 _ => l.length + 8 - (intOf s4).toNat)
  case atStart => exact ⟨0, by omega, rfl, Win.nil _ _ _ _, Below.refl _ _⟩
  case round =>
    obtain ⟨k, hk, rfl, hw, hb⟩ := hrel
    have HW := Lib.hid hw
    have HB := Lib.hid hb
    have hbs := hb.size
    clear hw hb
    obtain ⟨f, hf⟩ : ∃ f : Nat, f = 8 * k := ⟨_, rfl⟩
    rw [← hf]
    have HF := Lib.hid hf
    by_cases hlt : f ≤ l.length
    · have hk2 : k ≤ l.length / 8 := by omega
      clear hf
      go_wp2_with fail
      go_loop [5, 6] (fun s5 s6 => ∃ e : Nat, e ≤ 8 ∧ s6 = .int .i64 ((e : Int) - 1) ∧ s5 = .int .u64 (wd ((l.drop (f + e)).take (8 - e)) : Nat)) (fun _ s6 => (intOf s6 + 1).toNat)
      case atStart => exact ⟨8, by omega, rfl, rfl⟩
      case round =>
        obtain ⟨e, he, rfl, rfl⟩ := hrel
        by_cases he0 : 1 ≤ e
        · obtain ⟨e, rfl⟩ : ∃ d, e = d + 1 := ⟨e - 1, by omega⟩
          have hpl := part_lt l f (e + 1) he0 he
          have hee : (((e + 1 : Nat) : Int) - 1) = e := by omega
          rw [hee]
          by_cases hin : f + e < l.length
          · have hps := part_step l f e (by omega) hin
            obtain ⟨b, o, rfl, hbB, hc⟩ := HX.out.cell hin
            have hc' : wr.cell? ⟨b, o + (f + e), none⟩ = some (.int .u8 (l[f + e]).toNat) := by rw [HB.out.cell (p := ⟨b, o + (f + e), none⟩) (Nat.lt_of_lt_of_le hbB HBB.out)]; exact hc
            have hcl := (l[f + e]).toNat_lt
            generalize (l[f + e]).toNat = c at hps hc' hcl
            generalize wd ((l.drop (f + (e + 1))).take (8 - (e + 1))) = m at hps hpl ⊢
            have HPS := Lib.hid hps
            clear hps hc hee
            go_wp2_with fail
            go_round
            case rel => exact ⟨e, by omega, rfl, by rw [HPS.out]; go_num⟩
            case measure => first | (simp [intOf]; done) | (simp [intOf]; omega)
          · have hpn := part_none l f e (by omega)
            have hpn1 := part_none l f (e + 1) (by omega)
            rw [hpn1]
            have HPN := Lib.hid hpn
            clear hpn hpn1 hee hpl
            go_wp2_with fail
            go_round
            case rel => exact ⟨e, by omega, rfl, by rw [HPN.out]; rfl⟩
            case measure => first | (simp [intOf]; done) | (simp [intOf]; omega)
        · obtain rfl : e = 0 := by omega
          rw [Nat.add_zero, Nat.sub_zero, show (((0 : Nat) : Int) - 1) = -1 from rfl]
          clear he0 he
          have hwk : ∀ M : Nat, True := fun _ => trivial
          clear hwk
          by_cases hend : l.length < f + 8
          · have hM : wAt l k = wd ((l.drop f).take 8) + l.length % 256 * 72057594037927936 := by
              unfold wAt
              rw [← HF.out, if_neg (by omega), List.take_of_length_le (by rw [List.length_drop]; omega)]
            have hpl : wd ((l.drop f).take 8) < 72057594037927936 := by
              have h := wd_lt ((l.drop f).take 8)
              have hl : ((l.drop f).take 8).length ≤ 7 := by rw [List.length_take, List.length_drop]; omega
              have : (2 : Nat) ^ (8 * ((l.drop f).take 8).length) ≤ 2 ^ 56 := Nat.pow_le_pow_right (by omega) (by omega)
              have h56 : (2 : Nat) ^ 56 = 72057594037927936 := by decide
              omega
            generalize wd ((l.drop f).take 8) = m at hM hpl ⊢
            have hmod : l.length % 256 < 256 := Nat.mod_lt _ (by omega)
            have hsucc := wl_succ l k
            have hE : (m : Int) + (l.length : Int) % 256 * 72057594037927936 = ((wAt l k : Nat) : Int) := by rw [hM]; omega
            generalize wAt l k = M at hsucc hE
            clear hM
            have HSC := Lib.hid hsucc
            have hkm : k + 1 ≤ maxLen := by unfold maxLen; omega
            clear hsucc
            go_wp2_with (at_builtin; refine wpList_win rfl (.tmp 46) (.tmp 48) 22 22 rfl 23 i0 (.int .u64 0) 1 8 Try.underlying22 hi hz0 hz1 hz2 rfl (base := w.heap.size) rfl (HW.out.alloc _) 1 [.int .u64 (M : Nat)] (Src.ofSlice _ Try.underlying22 _ 1 1 [.int .u64 (M : Nat)] (by simp) (news_one _ _ _) (by intro u hu; simp only [List.mem_singleton] at hu; subst hu; rfl)) hkm (by omega) (by simp; omega) ?_)
            intro v' w6 hw6 hs6 hb6
            have HW6 := Lib.hid hw6
            have HB6 := Lib.hid ((HB.out.alloc hbs (.cells #[.int .u64 (M : Nat)] 23)).trans (hs6.below (B := w.heap.size) (fun j _ e => (HW.out.alloc (.cells #[.int .u64 (M : Nat)] 23)).blk_ge e |>.1) (by simp; omega)))
            clear hw6 hs6 hb6
            go_wp2_with fail
            go_roundw
            case rel => exact ⟨k + 1, by omega, by rw [HF.out]; go_num, by rw [HSC.out]; exact HW6.out, HB6.out⟩
            case measure => simp [intOf]; omega
          · have hM : wAt l k = wd ((l.drop f).take 8) := by
              unfold wAt
              rw [← HF.out, if_pos (by omega)]
            rw [← hM]
            clear hM
            have hsucc := wl_succ l k
            generalize wAt l k = M at hsucc ⊢
            have HSC := Lib.hid hsucc
            have hkm : k + 1 ≤ maxLen := by unfold maxLen; omega
            clear hsucc
            go_wp2_with (at_builtin; refine wpList_win rfl (.tmp 46) (.tmp 48) 22 22 rfl 23 i0 (.int .u64 0) 1 8 Try.underlying22 hi hz0 hz1 hz2 rfl (base := w.heap.size) rfl (HW.out.alloc _) 1 [.int .u64 (M : Nat)] (Src.ofSlice _ Try.underlying22 _ 1 1 [.int .u64 (M : Nat)] (by simp) (news_one _ _ _) (by intro u hu; simp only [List.mem_singleton] at hu; subst hu; rfl)) hkm (by omega) (by simp; omega) ?_)
            intro v' w6 hw6 hs6 hb6
            have HW6 := Lib.hid hw6
            have HB6 := Lib.hid ((HB.out.alloc hbs (.cells #[.int .u64 (M : Nat)] 23)).trans (hs6.below (B := w.heap.size) (fun j _ e => (HW.out.alloc (.cells #[.int .u64 (M : Nat)] 23)).blk_ge e |>.1) (by simp; omega)))
            clear hw6 hs6 hb6
            go_wp2_with fail
            go_roundw
            case rel => exact ⟨k + 1, by omega, by rw [HF.out]; go_num, by rw [HSC.out]; exact HW6.out, HB6.out⟩
            case measure => simp [intOf]; omega
    · have hke : k = l.length / 8 + 1 := by omega
      have HKE := Lib.hid hke
      clear hf hke
      obtain ⟨oa', cap', hv, _⟩ := HW.out.is
      go_wp2_with fail
      go_ret
      exact ⟨_, rfl, by rw [← HKE.out]; exact HW.out, HB.out⟩
end Go.Proofs.Ytdlhleegfmnjjaa.Sip
