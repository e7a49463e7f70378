/- The elements of a slice that came in: plain lemmas over any program. -/
import Derived.Test.YtdlhleegfmnjjaaArgin
import Derived.Test.YtdlhleegfmnjjaaSave
namespace Go.Proofs.Ytdlhleegfmnjjaa.Open
open Go.RowKit Argin Save

/-- A slice of n-cell elements: where each element's cells lie. -/
theorem slice_elems {w : World} {n : Nat} {e : Sh} {v : Value} (hn : 0 < n) (h : (Sh.slice n e).Ok w [v]) : ∃ (oa : Option Addr) (len cap : Nat), v = .slice oa len cap ∧ len ≤ cap ∧ cap ≤ maxLen ∧
    ∀ i, i < len → ∃ b o cs, oa = some ⟨b, o, none⟩ ∧ b < w.heap.size ∧ cs.length = n ∧ (∀ j x, cs[j]? = some x → w.cell? ⟨b, o + i * n + j, none⟩ = some x) ∧ e.Ok w cs := by
  obtain ⟨oa, len, cap, rfl, hl, hm, hsp, hi⟩ := slice_row h
  refine ⟨oa, len, cap, rfl, hl, hm, fun i hi' => ?_⟩
  obtain ⟨a, cs, rfl, hc, he⟩ := hi i hi'
  obtain ⟨_, hlen, hat⟩ := World.cells?_some hc
  rcases hsp with h0 | ⟨b, o, h0 | h0⟩
  · omega
  · cases h0
    have hcell : ∀ j x, cs[j]? = some x → w.cell? ⟨b, o + i * n + j, none⟩ = some x := by
      intro j x hj
      have hjn : j < n := by
        have := (List.getElem?_eq_some_iff.1 hj).1
        omega
      have e2 : (⟨b, o + i * n + j, none⟩ : Addr) = ((⟨b, o, none⟩ : Addr).add (i * n)).add j := by
        unfold Addr.add
        by_cases h1 : i * n = 0 <;> by_cases h2 : j = 0 <;> simp [h1, h2]
      rw [e2, hat j hjn, hj]
    refine ⟨b, o, cs, rfl, ?_, hlen, hcell, he⟩
    have := hcell 0 (cs[0]'(by omega)) (List.getElem?_eq_getElem (by omega))
    by_cases hb : b < w.heap.size
    · exact hb
    · simp only [World.cell?] at this
      rw [Array.getElem?_eq_none (by omega)] at this
      cases this
  · omega

theorem cell_lt {w : World} {a : Addr} {v : Value} (h : w.cell? a = some v) : a.block < w.heap.size := by
  by_cases hb : a.block < w.heap.size
  · exact hb
  · simp only [World.cell?] at h
    rw [Array.getElem?_eq_none (by omega)] at h
    cases h
end Go.Proofs.Ytdlhleegfmnjjaa.Open
