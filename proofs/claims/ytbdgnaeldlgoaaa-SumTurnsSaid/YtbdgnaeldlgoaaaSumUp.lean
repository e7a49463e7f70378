/- The document's example of layer 2, and bytes as a string. Conditions: none. -/
import Derived.Test.YtbdgnaeldlgoaaaSumPut2
import Derived.Laws.BytesString
namespace Go.Proofs.Ytbdgnaeldlgoaaa.Sum
open Go.RowKit Argin Save
set_option linter.unusedVariables false
set_option linter.unusedSimpArgs false

theorem lit_bytes (l : List Int) (w : World) (t : TypeId) (h : ∀ i, i < l.length → 0 ≤ l.getD i 0 ∧ l.getD i 0 < 256) : Bytes (w.alloc (.cells (l.map (Value.int .u8)).toArray t)) (some ⟨w.heap.size, 0, none⟩) l.length (fun i => l.getD i 0) := by
  intro i hi
  refine ⟨h i hi, w.heap.size, 0, rfl, by simp, ?_⟩
  rw [Nat.zero_add, cell_get (get_alloc w _)]
  simp [List.getD, List.getElem?_eq_getElem hi]

def f4 (i : Nat) : Int := [0, 1, 242, 3].getD i 0
def f1 (i : Nat) : Int := [1].getD i 0
theorem b4 (w : World) : Bytes (w.alloc (.cells #[.int .u8 0, .int .u8 1, .int .u8 242, .int .u8 3] 5)) (some ⟨w.heap.size, 0, none⟩) 4 f4 := lit_bytes [0, 1, 242, 3] w 5 (by decide)
theorem b1 (w : World) : Bytes (w.alloc (.cells #[.int .u8 1] 5)) (some ⟨w.heap.size, 0, none⟩) 1 f1 := lit_bytes [1] w 5 (by decide)
abbrev o4 : Obj := .cells #[.int .u8 0, .int .u8 1, .int .u8 242, .int .u8 3] 5
theorem b1' (w : World) : Bytes ((w.alloc (.cells #[.int .u8 0, .int .u8 1, .int .u8 242, .int .u8 3] 5)).alloc (.cells #[.int .u8 1] 5)) (some ⟨w.heap.size + 1, 0, none⟩) 1 f1 := by
  have h := b1 (w.alloc (.cells #[.int .u8 0, .int .u8 1, .int .u8 242, .int .u8 3] 5))
  rwa [show (w.alloc (.cells #[.int .u8 0, .int .u8 1, .int .u8 242, .int .u8 3] 5)).heap.size = w.heap.size + 1 from by simp] at h
theorem p2 : padn 1 + 2 = 4 := rfl
theorem s4 : (sumOf f4 4 == 3579) = true := by decide
theorem r0 : right (fun _ => 0) 0 = false := by decide
theorem p1 : ∀ i, i < 4 → 0 ≤ putf f1 1 i ∧ putf f1 1 i < 256 := by decide

theorem up_any (w : World) : Calls Try.prog 25 #[] w fun e w' => e = .returned (.bool true) ∧ Below w.heap.size w w' := by
  have e4 := s4
  have er := r0
  go_enter Try.func25, Try.ntmps25
  go_wp2_with fail
  refine (of_any _ 4 4 f4 _ (by omega) (b4 w)).mono ?_
  rintro e w' ⟨rfl, rfl⟩
  go_wp2_with fail
  refine (right_any none 0 0 (fun _ => 0) _ (by omega) (fun i hi => by omega)).mono ?_
  rintro e w' ⟨rfl, rfl⟩
  go_wp2_with fail
  refine (put_any _ 1 1 f1 _ (by omega) (by decide) (b1' w)).mono ?_
  rintro e w1 ⟨v, rfl, ho, hb⟩
  rw [p2] at ho
  obtain ⟨o, c, rfl, _⟩ := own_bytes (n := 4) ho p1
  have HB := Lib.hid hb
  clear hb ho
  go_wp2_with fail
  go_ret
  refine ⟨rfl, ?_⟩
  have h1 := (Below.refl w.heap.size w).alloc (Nat.le_refl _) (.cells #[.int .u8 0, .int .u8 1, .int .u8 242, .int .u8 3] 5)
  have h2 := h1.alloc (by simp) (.cells #[.int .u8 1] 5)
  exact h2.trans (HB.out.mono (by simp; omega))

/-- Bytes as a string. -/
def bstr (f : Nat → Int) (n : Nat) : ByteArray := ((List.range n).map f).foldl (fun r x => r.push (UInt8.ofNat x.toNat)) ByteArray.empty

theorem run_loadCells_map (w : World) (a : Addr) (n : Nat) (f : Nat → Int) (h : ∀ j, j < n → w.cell? (a.add j) = some (.int .u8 (f j))) : (loadCells a n).run Try.prog w = .ok (((List.range n).map f).map (Value.int .u8)).toArray w := by
  rw [run_loadCells w a n (fun j => .int .u8 (f j)) h, List.map_map]; rfl

theorem load_bytes (w : World) (a : Addr) (n : Nat) (f : Nat → Int) (h : Bytes w (some a) n f) : (loadCells a n).run Try.prog w = .ok (((List.range n).map f).map (Value.int .u8)).toArray w := by
  refine run_loadCells_map w a n f ?_
  intro j hj
  obtain ⟨_, b, p, ha, _, hc⟩ := h j hj
  cases ha
  have e : (⟨b, p, none⟩ : Addr).add j = ⟨b, p + j, none⟩ := by
    unfold Addr.add; split
    · rename_i h0; subst h0; rfl
    · rfl
  rw [e]; exact hc

/-- 'string(b)'. -/
theorem conv_any (w : World) (a : Addr) (n cap : Nat) (f : Nat → Int) (h : Bytes w (some a) n f) : (convert 31 9 (.slice (some a) n cap)).run Try.prog w = .ok (.string (bstr f n)) w := by
  rw [run_convert_bytes_string w 31 9 5 (some a) n cap Try.underlying31 Try.underlying5 Try.underlying9, run_bytesToString w a n cap ((List.range n).map f) (load_bytes w a n f h)]; rfl
theorem conv_none (w : World) (cap : Nat) (f : Nat → Int) : (convert 31 9 (.slice none 0 cap)).run Try.prog w = .ok (.string (bstr f 0)) w := by
  rw [run_convert_bytes_string w 31 9 5 none 0 cap Try.underlying31 Try.underlying5 Try.underlying9]; rfl

theorem own_some {w : World} {base : Nat} {v : Value} {n : Nat} {f : Nat → Int} (h : w.ownsRow base 5 1 v n (bts f n)) (hn : 0 < n) (hf : ∀ i, i < n → 0 ≤ f i ∧ f i < 256) : ∃ g cap, v = .slice (some ⟨g, 0, none⟩) n cap ∧ base ≤ g ∧ Bytes w (some ⟨g, 0, none⟩) n f := by
  obtain ⟨oa, cap, rfl, hB⟩ := own_bytes h hf
  obtain ⟨_, b, o, rfl, _⟩ := hB 0 hn
  obtain ⟨h1, ⟨h2, _⟩ | ⟨g, c, cur, h2, hg, _⟩⟩ := h
  · cases h2
  · cases h2; exact ⟨_, _, rfl, hg, hB⟩

theorem Bytes.below {w w' : World} {oa : Option Addr} {n : Nat} {f : Nat → Int} (h : Bytes w oa n f) (hb : Below w.heap.size w w') : Bytes w' oa n f := by
  intro i hi
  obtain ⟨hf, b, o, ha, hlt, hc⟩ := h i hi
  exact ⟨hf, b, o, ha, Nat.lt_of_lt_of_le hlt hb.size, by rw [hb.cell hlt]; exact hc⟩

theorem putf_range (f : Nat → Int) (len : Nat) (h : ∀ i, i < len → 0 ≤ f i ∧ f i < 256) : ∀ i, 0 ≤ putf f len i ∧ putf f len i < 256 := by
  intro i
  have hr := sum_range (padf f len) (padn len)
  unfold putf
  split
  · exact h i (by assumption)
  · split
    · omega
    · split <;> omega

end Go.Proofs.Ytbdgnaeldlgoaaa.Sum
