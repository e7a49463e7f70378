/- Four numbers that came in. Conditions: none. -/
import Derived.Test.YtdlhleegfmnjjaaSip
namespace Go.Proofs.Ytdlhleegfmnjjaa.Sip
open Go.RowKit Argin Save Win Bytes

theorem quad_of {W : World} {v : Value} (o : Came Try.prog W 66 v) : ∃ q, v = qv q ∧ (0 ≤ q.a ∧ q.a < 18446744073709551616) ∧ (0 ≤ q.b ∧ q.b < 18446744073709551616) ∧ (0 ≤ q.c ∧ q.c < 18446744073709551616) ∧ (0 ≤ q.d ∧ q.d < 18446744073709551616) := by
  have h1 := o.one (.arr 4 1 (.int .u64)) (by kernel_rfl)
  obtain ⟨H, enc, d, ps, b0, h, ho⟩ := o
  obtain ⟨cs, rfl, hsz⟩ : ∃ cs : Array Value, v = .agg cs ∧ cs.size = 4 := by
    simp only [Value.okWide, Try.underlying66] at ho
    obtain ⟨cs, rfl, hs, _⟩ := ho
    exact ⟨cs, rfl, hs.trans (by kernel_rfl)⟩
  have h1 : (Sh.arr 4 1 (.int .u64)).Ok W cs.toList := h1
  obtain ⟨xs⟩ := cs
  match xs, hsz with
  | [x0, x1, x2, x3], _ =>
    unfold Sh.Ok at h1
    have e0 := h1 0 (by omega)
    have e1 := h1 1 (by omega)
    have e2 := h1 2 (by omega)
    have e3 := h1 3 (by omega)
    unfold Sh.Ok at e0 e1 e2 e3
    obtain ⟨a, ea, wa⟩ := e0
    obtain ⟨b, eb, wb⟩ := e1
    obtain ⟨c, ec, wc⟩ := e2
    obtain ⟨d, ed, wd⟩ := e3
    simp at ea eb ec ed
    subst ea eb ec ed
    exact ⟨⟨a, b, c, d⟩, rfl, Argin.wf_u64 wa, Argin.wf_u64 wb, Argin.wf_u64 wc, Argin.wf_u64 wd⟩
end Go.Proofs.Ytdlhleegfmnjjaa.Sip
