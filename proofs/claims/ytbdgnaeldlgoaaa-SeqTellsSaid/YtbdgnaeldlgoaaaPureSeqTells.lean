/- SeqTells: the program's Before, Gap and In are the document's, at all numbers. Conditions: none. -/
import Derived.Test.YtbdgnaeldlgoaaaPSeqTellsx1
namespace Go.Proofs.Ytbdgnaeldlgoaaa.Pure
open Go.RowKit Go.Proofs.Ytbdgnaeldlgoaaa.PSeqTells Go.Proofs.YtbdgnaeldlgoaaaW.PrintWords Go.Proofs.YtbdgnaeldlgoaaaW.PrintLast

theorem wf_u32 {a : Int} (h : (Lit.int .u32 a).wf = true) : 0 ≤ a ∧ a < 4294967296 := by
  have h' : (decide (0 ≤ a) && decide (a ≤ 4294967295)) = true := h
  simp only [Bool.and_eq_true, decide_eq_true_eq] at h'
  omega

theorem wf_i64 {a : Int} (h : (Lit.int .i64 a).wf = true) : -9223372036854775808 ≤ a ∧ a < 9223372036854775808 := by
  have h' : (decide (-9223372036854775808 ≤ a) && decide (a ≤ 9223372036854775807)) = true := h
  simp only [Bool.and_eq_true, decide_eq_true_eq] at h'
  omega

theorem u64_wrap (a : Int) : IntKind.u64.wrap a = a % 18446744073709551616 := by
  have h : IntKind.u64.wrap a = (if (false && decide (a % (2 ^ 64 : Int) ≥ (2 ^ 63 : Int))) = true then a % (2 ^ 64 : Int) - (2 ^ 64 : Int) else a % (2 ^ 64 : Int)) := rfl
  rw [h]; simp

theorem gap_same {a b : Int} (ha : 0 ≤ a ∧ a < 4294967296) (hb : 0 ≤ b ∧ b < 4294967296) : jorumref01_Gap.f a b = some (wrap32 ((b - a) % 4294967296)) := by
  unfold jorumref01_Gap.f wrap64 wrap32
  repeat' split
  all_goals (congr 1; omega)

theorem SeqTells : jorumlaw01_SeqTells.Pure := by
  intro a b n ha hb hn
  have ha := wf_u32 ha
  have hb := wf_u32 hb
  have hn := wf_i64 hn
  have hup : jorumlaw01_up.f = some true := by kernel_rfl
  have hg : seq_Gap.f a b = jorumref01_Gap.f a b := by
    rw [gap_same ha hb]; unfold seq_Gap.f wrap64 wrap32; congr 1; omega
  have hbf : seq_Before.f a b = jorumref01_Before.f a b := by
    unfold jorumref01_Before.f; rw [gap_same ha hb]; rfl
  have hin : seq_In.f a b n = jorumref01_In.f a b n := by
    unfold seq_In.f jorumref01_In.f
    rw [u64_wrap]
    unfold wrap64
    repeat' split
    all_goals (congr 1; first | (rw [decide_eq_decide]; omega) | (symm; rw [decide_eq_false_iff_not]; omega))
  unfold jorumlaw01_SeqTells.f
  rw [hup, hg, hbf, hin]
  unfold jorumref01_Before.f
  rw [gap_same ha hb]
  unfold jorumref01_In.f
  split <;> simp

end Go.Proofs.Ytbdgnaeldlgoaaa.Pure
