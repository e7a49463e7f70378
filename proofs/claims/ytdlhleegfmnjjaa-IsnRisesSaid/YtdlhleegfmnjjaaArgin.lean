/- What an argument that came in looks like, by the shape of its type: plain lemmas over any program. -/
import Derived.ChangeArms
import Derived.ChangeSame
import Derived.Carry
import Derived.WideShapes
import Derived.OpenShut
import Derived.WalkKit
namespace Go.Proofs.Ytdlhleegfmnjjaa.Argin
open Go.ChangeShapes Go.WideShapes Go.RowKit

/-- A type's shape. -/
inductive Sh where
  | int (k : IntKind)
  | float (k : FloatKind)
  | bool
  | string
  | slice (n : Nat) (e : Sh)
  | arr (m n : Nat) (e : Sh)
  | agg (fs : List Sh)

mutual
def Sh.cells : Sh → Nat
  | .int _ => 1
  | .float _ => 1
  | .bool => 1
  | .string => 1
  | .slice _ _ => 1
  | .arr m n _ => m * n
  | .agg fs => Sh.cellsL fs
def Sh.cellsL : List Sh → Nat
  | [] => 0
  | s :: ss => s.cells + Sh.cellsL ss
end

mutual
/-- What the cells of that shape are. -/
def Sh.Ok (w : World) : Sh → List Value → Prop
  | .int k, cs => ∃ n, cs = [.int k n] ∧ (Lit.int k n).wf = true
  | .float k, cs => ∃ b, cs = [.float k b] ∧ (Lit.float k b).wf = true
  | .bool, cs => ∃ b, cs = [.bool b]
  | .string, cs => ∃ s : ByteArray, cs = [.string s] ∧ s.size ≤ maxLen
  | .slice n e, cs => cs = [.slice none 0 0] ∨ ∃ (a : Addr) (len cap : Nat), cs = [.slice (some a) len cap] ∧ len ≤ cap ∧ cap ≤ maxLen ∧ ∀ i, i < len → ∃ cs', w.cells? 0 (a.add (i * n)) n = some cs' ∧ e.Ok w cs'
  | .arr m n e, cs => ∀ i, i < m → e.Ok w ((cs.drop (i * n)).take n)
  | .agg fs, cs => Sh.OkL w fs cs
def Sh.OkL (w : World) : List Sh → List Value → Prop
  | [], cs => cs = []
  | s :: ss, cs => ∃ a b, cs = a ++ b ∧ s.Ok w a ∧ Sh.OkL w ss b
end

mutual
def Sh.fits (P : Program) : Sh → TypeId → Bool
  | .int k, t => match P.underlying t with | some (.int k') => decide (k' = k) && decide (P.cellsOf t = 1) | _ => false
  | .float k, t => match P.underlying t with | some (.float k') => decide (k' = k) && decide (P.cellsOf t = 1) | _ => false
  | .bool, t => match P.underlying t with | some .bool => decide (P.cellsOf t = 1) | _ => false
  | .string, t => match P.underlying t with | some .string => decide (P.cellsOf t = 1) | _ => false
  | .slice n e, t => match P.underlying t with | some (.slice u) => e.fits P u && decide (P.cellsOf u = n) && decide (P.cellsOf t = 1) | _ => false
  | .arr m n e, t => match P.underlying t with | some (.array m' u) => decide (m' = m) && e.fits P u && decide (P.cellsOf u = n) && decide (P.cellsOf t = m * n) | _ => false
  | .agg fs, t => match P.underlying t with | some (.struct l) => Sh.fitsL P fs l.toList 0 && decide (P.cellsOf t = Sh.cellsL fs) | _ => false
def Sh.fitsL (P : Program) : List Sh → List Field → Nat → Bool
  | [], [], _ => true
  | s :: ss, f :: fs, o => decide (f.offset = o) && s.fits P f.type && decide (P.cellsOf f.type = s.cells) && Sh.fitsL P ss fs (o + s.cells)
  | _, _, _ => false
end

section
variable {H : Type} {enc : TypeId × Value → H} {P : Program} {w : World} {spare : Nat → Bool} {held : Bool}

theorem mapM_get {α β : Type} {f : α → Option β} : ∀ {l : List α} {xs : List β}, l.mapM f = some xs → ∀ x ∈ l, ∃ y, f x = some y := by
  intro l
  induction l with
  | nil => intro xs _ x hx; cases hx
  | cons a l ih =>
    intro xs h x hx
    rw [List.mapM_cons] at h
    cases ha : f a with
    | none => rw [ha] at h; cases h
    | some y =>
      cases hl : l.mapM f with
      | none => rw [ha, hl] at h; cases h
      | some ys =>
        rcases List.mem_cons.1 hx with rfl | hx
        · exact ⟨y, ha⟩
        · exact ih hl x hx

mutual
theorem Sh.ok_of : ∀ (s : Sh) (t : TypeId) (fuel : Nat) (cs : List Value) (x : DataW H × List MemPlace), s.fits P t = true → DataW.trod enc P w 0 spare held fuel t cs = some x → s.Ok w cs
  | .int k, t, fuel, cs, x, hf, h => by
    unfold Sh.fits at hf
    split at hf
    · rename_i k' hu
      simp only [Bool.and_eq_true, decide_eq_true_eq] at hf
      obtain ⟨rfl, _⟩ := hf
      obtain ⟨n, hc, _, hw⟩ := DataW.trod_int hu h
      unfold Sh.Ok
      exact ⟨n, hc, hw⟩
    · cases hf
  | .float k, t, fuel, cs, x, hf, h => by
    unfold Sh.fits at hf
    split at hf
    · rename_i k' hu
      simp only [Bool.and_eq_true, decide_eq_true_eq] at hf
      obtain ⟨rfl, _⟩ := hf
      cases fuel with
      | zero => simp [DataW.trod] at h
      | succ m =>
        unfold DataW.trod at h
        rw [hu] at h
        unfold Sh.Ok
        split at h <;> simp_all
    · cases hf
  | .bool, t, fuel, cs, x, hf, h => by
    unfold Sh.fits at hf
    split at hf
    · rename_i hu
      obtain ⟨b, hc, _⟩ := DataW.trod_bool hu h
      unfold Sh.Ok
      exact ⟨b, hc⟩
    · cases hf
  | .string, t, fuel, cs, x, hf, h => by
    unfold Sh.fits at hf
    split at hf
    · rename_i hu
      obtain ⟨s, hc, _, hs⟩ := DataW.trod_string hu h
      unfold Sh.Ok
      exact ⟨s, hc, hs⟩
    · cases hf
  | .slice n e, t, fuel, cs, x, hf, h => by
    unfold Sh.fits at hf
    split at hf
    · rename_i u hu
      simp only [Bool.and_eq_true, decide_eq_true_eq] at hf
      obtain ⟨⟨hf, hn⟩, _⟩ := hf
      unfold Sh.Ok
      rcases DataW.trod_slice hu h with ⟨h0, _⟩ | ⟨a, len, cap, elems, rest, m, _, hc, _, _, hl, hm, hlen, hel, _, _⟩
      · exact .inl h0
      · refine .inr ⟨a, len, cap, hc, hl, hm, fun i hi => ?_⟩
        have hi' := hel i hi
        rw [hn] at hi'
        rw [List.getElem?_eq_getElem (by omega)] at hi'
        obtain ⟨cs', h1, h2⟩ := Option.bind_eq_some_iff.1 hi'
        exact ⟨cs', h1, Sh.ok_of e u m cs' _ hf h2⟩
    · cases hf
  | .arr m n e, t, fuel, cs, x, hf, h => by
    unfold Sh.fits at hf
    split at hf
    · rename_i m' u hu
      simp only [Bool.and_eq_true, decide_eq_true_eq] at hf
      obtain ⟨⟨⟨rfl, hf⟩, hn⟩, _⟩ := hf
      unfold Sh.Ok
      cases fuel with
      | zero => simp [DataW.trod] at h
      | succ q =>
        unfold DataW.trod at h
        rw [hu] at h
        simp only at h
        split at h
        · rw [Option.map_eq_some_iff] at h
          obtain ⟨xs, hx, _⟩ := h
          intro i hi
          obtain ⟨y, hy⟩ := mapM_get hx i (by simpa using hi)
          rw [hn] at hy
          exact Sh.ok_of e u q _ _ hf hy
        · cases h
    · cases hf
  | .agg fs, t, fuel, cs, x, hf, h => by
    unfold Sh.fits at hf
    split at hf
    · rename_i l hu
      simp only [Bool.and_eq_true, decide_eq_true_eq] at hf
      obtain ⟨hf, hC⟩ := hf
      unfold Sh.Ok
      cases fuel with
      | zero => simp [DataW.trod] at h
      | succ q =>
        unfold DataW.trod at h
        rw [hu] at h
        simp only at h
        split at h
        · rename_i hlen
          rw [Option.map_eq_some_iff] at h
          obtain ⟨xs, hx, _⟩ := h
          have := Sh.okL_of fs l.toList 0 q cs hf (by omega) (fun f hfm => mapM_get hx f hfm)
          simpa using this
        · cases h
    · cases hf
theorem Sh.okL_of : ∀ (ss : List Sh) (fs : List Field) (o fuel : Nat) (cs : List Value), Sh.fitsL P ss fs o = true → cs.length = o + Sh.cellsL ss → (∀ f ∈ fs, ∃ x : DataW H × List MemPlace, DataW.trod enc P w 0 spare held fuel f.type ((cs.drop f.offset).take (P.cellsOf f.type)) = some x) → Sh.OkL w ss (cs.drop o)
  | [], fs, o, fuel, cs, hf, hl, h => by
    unfold Sh.OkL
    unfold Sh.cellsL at hl
    exact List.drop_eq_nil_of_le (by omega)
  | s :: ss, [], o, fuel, cs, hf, hl, h => by unfold Sh.fitsL at hf; cases hf
  | s :: ss, f :: fs, o, fuel, cs, hf, hl, h => by
    unfold Sh.fitsL at hf
    simp only [Bool.and_eq_true, decide_eq_true_eq] at hf
    obtain ⟨⟨⟨ho, hs⟩, hn⟩, hr⟩ := hf
    obtain ⟨x, hx⟩ := h f (by simp)
    rw [ho, hn] at hx
    unfold Sh.cellsL at hl
    unfold Sh.OkL
    refine ⟨(cs.drop o).take s.cells, cs.drop (o + s.cells), ?_, Sh.ok_of s f.type fuel _ x hs hx, Sh.okL_of ss fs (o + s.cells) fuel cs hr (by omega) (fun g hg => h g (by simp [hg]))⟩
    rw [← List.drop_drop, List.take_append_drop]
end

/-- A whole argument: what its shape is. -/
theorem opened {t : TypeId} {v : Value} {d : DataW H} {ps : List MemPlace} (s : Sh) (hf : s.fits P t = true) (h : DataW.Trod enc P w 0 spare held t v d ps) : s.Ok w v.cells.toList :=
  let ⟨fuel, hx⟩ := h
  s.ok_of t fuel _ _ hf hx

theorem opened_int {r : Reach} {b0 : Nat} {t : TypeId} {k : IntKind} {v : Value} {d : DataW H} {ps : List MemPlace} (ht : P.underlying t = some (.int k)) (ho : Value.okWide P w r b0 t v) (h : DataW.Trod enc P w 0 spare held t v d ps) : ∃ n, v = .int k n ∧ (Lit.int k n).wf = true :=
  let ⟨n, h1, _, _, h2⟩ := open_int ht ho h
  ⟨n, h1, h2⟩

theorem opened_bool {r : Reach} {b0 : Nat} {t : TypeId} {v : Value} (ht : P.underlying t = some .bool) (ho : Value.okWide P w r b0 t v) : ∃ n, v = .bool n := okWide_bool ht ho

theorem opened_agg {r : Reach} {b0 : Nat} {t : TypeId} {l : Array Field} {v : Value} {d : DataW H} {ps : List MemPlace} (s : Sh) (hf : s.fits P t = true) (ht : P.underlying t = some (.struct l)) (ho : Value.okWide P w r b0 t v) (h : DataW.Trod enc P w 0 spare held t v d ps) : ∃ cs, v = .agg cs ∧ s.Ok w cs.toList := by
  obtain ⟨cs, rfl, _⟩ := okWide_struct ht ho
  exact ⟨cs, rfl, opened s hf h⟩

theorem opened_slice {r : Reach} {b0 : Nat} {t e : TypeId} {v : Value} {d : DataW H} {ps : List MemPlace} (s : Sh) (hf : s.fits P t = true) (ht : P.underlying t = some (.slice e)) (ho : Value.okWide P w r b0 t v) (h : DataW.Trod enc P w 0 spare held t v d ps) : s.Ok w [v] := by
  have hv : v.cells.toList = [v] := by
    simp only [Value.okWide, ht, Cell.okWide] at ho
    cases v <;> simp_all [Cell.ok, Value.cells]
  have := opened s hf h
  rwa [hv] at this

/-- Behind the call each argument reads as it did. -/
theorem stay {t : TypeId} (hl : laidOutB P = true) (hr : P.readableRec t = true) (hrow : t < P.types.size) {W W' : World} {v : Value} {d : DataW H} {ps : List MemPlace}
    (h : DataW.Trod enc P W 0 (fun _ => true) true t v d ps) (hb : Below W.heap.size W W') : DataW.Trod enc P W' 0 (fun b => decide (b < W.heap.size)) true t v d ps :=
  Below.trod hl hr hrow h hb (by obtain ⟨n, hn⟩ := h; exact DataW.trod_lt n _ _ _ hn)
end

/-- An argument that came in. -/
def Came (P : Program) (W : World) (t : TypeId) (v : Value) : Prop := ∃ (H : Type) (enc : TypeId × Value → H) (d : DataW H) (ps : List MemPlace) (b0 : Nat), DataW.Trod enc P W 0 (fun _ => true) true t v d ps ∧ Value.okWide P W .any b0 t v

section
variable {P : Program} {W : World} {t : TypeId} {v : Value}
theorem Came.int {k : IntKind} (h : Came P W t v) (ht : P.underlying t = some (.int k)) : ∃ n, v = .int k n ∧ (Lit.int k n).wf = true := by
  obtain ⟨H, enc, d, ps, b0, h, o⟩ := h
  exact opened_int ht o h
theorem Came.bool (h : Came P W t v) (ht : P.underlying t = some .bool) : ∃ n, v = .bool n := by
  obtain ⟨H, enc, d, ps, b0, h, o⟩ := h
  exact opened_bool ht o
theorem Came.agg {l : Array Field} (h : Came P W t v) (s : Sh) (hf : s.fits P t = true) (ht : P.underlying t = some (.struct l)) : ∃ cs, v = .agg cs ∧ s.Ok W cs.toList := by
  obtain ⟨H, enc, d, ps, b0, h, o⟩ := h
  exact opened_agg s hf ht o h
theorem Came.slice {e : TypeId} (h : Came P W t v) (s : Sh) (hf : s.fits P t = true) (ht : P.underlying t = some (.slice e)) : s.Ok W [v] := by
  obtain ⟨H, enc, d, ps, b0, h, o⟩ := h
  exact opened_slice s hf ht o h
theorem Came.one (h : Came P W t v) (s : Sh) (hf : s.fits P t = true) : s.Ok W v.cells.toList := by
  obtain ⟨H, enc, d, ps, b0, h, o⟩ := h
  exact opened s hf h
end

/-- A row of n-cell elements: where it lies, and each element's cells. -/
theorem slice_row {w : World} {n : Nat} {e : Sh} {v : Value} (h : (Sh.slice n e).Ok w [v]) : ∃ (oa : Option Addr) (len cap : Nat), v = .slice oa len cap ∧ len ≤ cap ∧ cap ≤ maxLen ∧ (len = 0 ∨ ∃ b o, oa = some ⟨b, o, none⟩ ∨ n = 0) ∧
    ∀ i, i < len → ∃ a cs, oa = some a ∧ w.cells? 0 (a.add (i * n)) n = some cs ∧ e.Ok w cs := by
  unfold Sh.Ok at h
  rcases h with h | ⟨a, len, cap, h, hl, hm, hi⟩
  · simp only [List.cons.injEq, and_true] at h
    exact ⟨none, 0, 0, h, Nat.le_refl _, Nat.zero_le _, .inl rfl, fun i hi => absurd hi (Nat.not_lt_zero _)⟩
  · simp only [List.cons.injEq, and_true] at h
    refine ⟨some a, len, cap, h, hl, hm, ?_, fun i hi' => ?_⟩
    · by_cases h0 : len = 0
      · exact .inl h0
      · obtain ⟨cs, hc, _⟩ := hi 0 (by omega)
        obtain ⟨_, _, hat⟩ := World.cells?_some hc
        by_cases hn : n = 0
        · exact .inr ⟨0, 0, .inr hn⟩
        · have := hat 0 (by omega)
          obtain ⟨b, o, sp⟩ := a
          cases sp with
          | none => exact .inr ⟨b, o, .inl rfl⟩
          | some x =>
            exfalso
            have hl' : cs.length = n := by obtain ⟨_, h2, _⟩ := World.cells?_some hc; exact h2
            rw [List.getElem?_eq_getElem (by omega)] at this
            simp only [World.cell?, Addr.add] at this
            split at this <;> simp at this
    · obtain ⟨cs, hc, he⟩ := hi i hi'
      exact ⟨a, cs, rfl, hc, he⟩

/-- A slice of whole numbers: its cells. -/
theorem slice_ints {w : World} {k : IntKind} {v : Value} (h : (Sh.slice 1 (.int k)).Ok w [v]) : ∃ (oa : Option Addr) (len cap : Nat) (rs : Nat → Int), v = .slice oa len cap ∧ len ≤ cap ∧ cap ≤ maxLen ∧
    ∀ i, i < len → (Lit.int k (rs i)).wf = true ∧ ∃ b o, oa = some ⟨b, o, none⟩ ∧ b < w.heap.size ∧ w.cell? ⟨b, o + i, none⟩ = some (.int k (rs i)) := by
  obtain ⟨oa, len, cap, rfl, hl, hm, hsp, hi⟩ := slice_row h
  have key : ∀ i, i < len → ∃ r : Int, (Lit.int k r).wf = true ∧ ∃ b o, oa = some ⟨b, o, none⟩ ∧ b < w.heap.size ∧ w.cell? ⟨b, o + i, none⟩ = some (.int k r) := by
    intro i hi'
    obtain ⟨a, cs, rfl, hc, he⟩ := hi i hi'
    unfold Sh.Ok at he
    obtain ⟨r, rfl, hw⟩ := he
    obtain ⟨_, _, hat⟩ := World.cells?_some hc
    have hc0 := hat 0 (by omega)
    rcases hsp with h0 | ⟨b, o, h0 | h0⟩
    · omega
    · cases h0
      have e : w.cell? ⟨b, o + i, none⟩ = some (.int k r) := by
        have e2 : (⟨b, o + i, none⟩ : Addr) = ((⟨b, o, none⟩ : Addr).add (i * 1)).add 0 := by simp [Addr.add]
        rw [e2, hc0]; rfl
      refine ⟨r, hw, b, o, rfl, ?_, e⟩
      by_cases hb : b < w.heap.size
      · exact hb
      · simp only [World.cell?] at e
        rw [Array.getElem?_eq_none (by omega)] at e
        cases e
    · omega
  refine ⟨oa, len, cap, fun i => if h : i < len then (key i h).choose else 0, rfl, hl, hm, fun i hi' => ?_⟩
  simp only [hi', dif_pos]
  exact (key i hi').choose_spec

/-- A cell's number. -/
def intAt (w : World) (a : Addr) : Int := match w.cell? a with | some (.int _ n) => n | _ => 0
theorem intAt_of {w : World} {a : Addr} {k : IntKind} {n : Int} (h : w.cell? a = some (.int k n)) : intAt w a = n := by unfold intAt; rw [h]

theorem wf_u8 {a : Int} (h : (Lit.int .u8 a).wf = true) : 0 ≤ a ∧ a < 256 := by
  have h' : (decide (0 ≤ a) && decide (a ≤ 255)) = true := h
  simp only [Bool.and_eq_true, decide_eq_true_eq] at h'
  omega
theorem wf_u16 {a : Int} (h : (Lit.int .u16 a).wf = true) : 0 ≤ a ∧ a < 65536 := by
  have h' : (decide (0 ≤ a) && decide (a ≤ 65535)) = true := h
  simp only [Bool.and_eq_true, decide_eq_true_eq] at h'
  omega
theorem wf_u32 {a : Int} (h : (Lit.int .u32 a).wf = true) : 0 ≤ a ∧ a < 4294967296 := by
  have h' : (decide (0 ≤ a) && decide (a ≤ 4294967295)) = true := h
  simp only [Bool.and_eq_true, decide_eq_true_eq] at h'
  omega
theorem wf_u64 {a : Int} (h : (Lit.int .u64 a).wf = true) : 0 ≤ a ∧ a < 18446744073709551616 := by
  have h' : (decide (0 ≤ a) && decide (a ≤ 18446744073709551615)) = true := h
  simp only [Bool.and_eq_true, decide_eq_true_eq] at h'
  omega
theorem wf_i64 {a : Int} (h : (Lit.int .i64 a).wf = true) : -9223372036854775808 ≤ a ∧ a < 9223372036854775808 := by
  have h' : (decide (-9223372036854775808 ≤ a) && decide (a ≤ 9223372036854775807)) = true := h
  simp only [Bool.and_eq_true, decide_eq_true_eq] at h'
  omega

theorem u64_wrap (a : Int) : IntKind.u64.wrap a = a % 18446744073709551616 := by
  have h : IntKind.u64.wrap a = (if (false && decide (a % (2 ^ 64 : Int) ≥ (2 ^ 63 : Int))) = true then a % (2 ^ 64 : Int) - (2 ^ 64 : Int) else a % (2 ^ 64 : Int)) := rfl
  rw [h]; simp
theorem u32_wrap (a : Int) : IntKind.u32.wrap a = a % 4294967296 := by
  have h : IntKind.u32.wrap a = (if (false && decide (a % (2 ^ 32 : Int) ≥ (2 ^ 31 : Int))) = true then a % (2 ^ 32 : Int) - (2 ^ 32 : Int) else a % (2 ^ 32 : Int)) := rfl
  rw [h]; simp
theorem u16_wrap (a : Int) : IntKind.u16.wrap a = a % 65536 := by
  have h : IntKind.u16.wrap a = (if (false && decide (a % (2 ^ 16 : Int) ≥ (2 ^ 15 : Int))) = true then a % (2 ^ 16 : Int) - (2 ^ 16 : Int) else a % (2 ^ 16 : Int)) := rfl
  rw [h]; simp
theorem u8_wrap (a : Int) : IntKind.u8.wrap a = a % 256 := by
  have h : IntKind.u8.wrap a = (if (false && decide (a % (2 ^ 8 : Int) ≥ (2 ^ 7 : Int))) = true then a % (2 ^ 8 : Int) - (2 ^ 8 : Int) else a % (2 ^ 8 : Int)) := rfl
  rw [h]; simp
theorem i64_in (a : Int) (h : -9223372036854775808 ≤ a ∧ a < 9223372036854775808) : IntKind.i64.wrap a = a := by
  have e : IntKind.i64.wrap a = (if (true && decide (a % (2 ^ 64 : Int) ≥ (2 ^ 63 : Int))) = true then a % (2 ^ 64 : Int) - (2 ^ 64 : Int) else a % (2 ^ 64 : Int)) := rfl
  rw [e]
  simp only [Bool.true_and, decide_eq_true_eq]
  split <;> omega

theorem ret_bool {a b : Bool} (h : a = b) : Ending.returned (.bool a) = Ending.returned (.bool b) := by rw [h]
theorem ret_int {k : IntKind} {a b : Int} (h : a = b) : Ending.returned (.int k a) = Ending.returned (.int k b) := by rw [h]

end Go.Proofs.Ytdlhleegfmnjjaa.Argin
