/- Bytes in memory: what is read, cut, told as a string. Plain laws over any program. -/
import Derived.Test.YtdlhleegfmnjjaaWin
import Derived.Test.YtdlhleegfmnjjaaOpen
import Derived.Laws.BytesArg
import Derived.Lib.ConvBytes
import Derived.ShutString
namespace Go.Proofs.Ytdlhleegfmnjjaa.Bytes
open Go.RowKit Argin Save Win
set_option linter.unusedVariables false
set_option linter.unusedSimpArgs false

/-- Bytes as cells. -/
def bv (l : List UInt8) : List Value := l.map fun b => Value.int .u8 b.toNat
theorem bv_len (l : List UInt8) : (bv l).length = l.length := by simp [bv]
theorem bv_app (a b : List UInt8) : bv (a ++ b) = bv a ++ bv b := by simp [bv]
theorem bv_take (a : List UInt8) (n : Nat) : bv (a.take n) = (bv a).take n := by simp [bv, List.map_take]
theorem bv_drop (a : List UInt8) (n : Nat) : bv (a.drop n) = (bv a).drop n := by simp [bv, List.map_drop]
theorem bv_get (l : List UInt8) (i : Nat) : (bv l)[i]? = (l[i]?).map fun b => Value.int .u8 b.toNat := by simp [bv]
theorem bv_one (l : List UInt8) : ∀ u ∈ bv l, u.oneCell' = true := by
  intro u hu
  obtain ⟨_, _, rfl⟩ := List.mem_map.1 hu
  rfl

/-- Bytes that may be read. -/
def Rd (w : World) (B : Nat) (oa : Option Addr) (cap : Nat) (l : List UInt8) : Prop :=
  l.length ≤ cap ∧ cap ≤ maxLen ∧ (l = [] ∨ ∃ b o, oa = some ⟨b, o, none⟩ ∧ b < B ∧ ∀ (i : Nat) (u : UInt8), l[i]? = some u → w.cell? ⟨b, o + i, none⟩ = some (.int .u8 u.toNat))

section
variable {w w' : World} {B : Nat} {oa : Option Addr} {cap : Nat} {l : List UInt8}
theorem Rd.below (h : Rd w B oa cap l) (hb : Below B w w') : Rd w' B oa cap l := by
  refine ⟨h.1, h.2.1, ?_⟩
  rcases h.2.2 with h | ⟨b, o, rfl, hB, hc⟩
  · exact .inl h
  · exact .inr ⟨b, o, rfl, hB, fun i u hu => by rw [hb.cell (p := ⟨b, o + i, none⟩) hB]; exact hc i u hu⟩
theorem Rd.mono (h : Rd w B oa cap l) {B' : Nat} (hb : B ≤ B') : Rd w B' oa cap l := by
  refine ⟨h.1, h.2.1, ?_⟩
  rcases h.2.2 with h | ⟨b, o, rfl, hB, hc⟩
  · exact .inl h
  · exact .inr ⟨b, o, rfl, Nat.lt_of_lt_of_le hB hb, hc⟩
theorem Rd.save {S : Nat → Prop} (h : Rd w B oa cap l) (hs : Save S w w') (hS : ∀ k, k < B → ¬ S k) (hB : B ≤ w.heap.size) : Rd w' B oa cap l :=
  h.below (hs.below (fun k _ hk => Nat.le_of_not_lt fun hlt => hS k hlt hk) hB)
theorem Rd.drewN (h : Rd w B oa cap l) (k : Nat) : Rd (w.drewN k) B oa cap l := h
theorem Rd.drew (h : Rd w B oa cap l) : Rd w.drew B oa cap l := h
theorem Rd.empty (w : World) (B : Nat) (oa : Option Addr) {cap : Nat} (hc : cap ≤ maxLen) : Rd w B oa cap [] := ⟨Nat.zero_le _, hc, .inl rfl⟩
theorem Rd.cell (h : Rd w B oa cap l) {i : Nat} (hi : i < l.length) : ∃ b o, oa = some ⟨b, o, none⟩ ∧ b < B ∧ w.cell? ⟨b, o + i, none⟩ = some (.int .u8 (l[i]).toNat) := by
  rcases h.2.2 with rfl | ⟨b, o, rfl, hB, hc⟩
  · simp at hi
  · exact ⟨b, o, rfl, hB, hc i _ (List.getElem?_eq_getElem hi)⟩

/-- Where a part begins. -/
def cutA (size : Nat) (oa : Option Addr) (cap k : Nat) : Option Addr := if cap = k then oa else oa.map (·.add (k * size))

theorem Rd.cut (h : Rd w B oa cap l) {k n : Nat} (hn : n ≤ l.length) (hk : k ≤ n) : Rd w B (cutA 1 oa cap k) (cap - k) ((l.take n).drop k) := by
  obtain ⟨h1, h2, h3⟩ := h
  refine ⟨by rw [List.length_drop, List.length_take]; omega, by omega, ?_⟩
  rcases h3 with rfl | ⟨b, o, rfl, hB, hc⟩
  · simp
  · by_cases hck : cap = k
    · left; apply List.eq_nil_of_length_eq_zero; rw [List.length_drop, List.length_take]; omega
    · right
      refine ⟨b, o + k, ?_, hB, fun i u hu => ?_⟩
      · rw [cutA, if_neg hck]; simp only [Option.map_some, Addr.add, Nat.mul_one]; by_cases e : k = 0 <;> simp [e]
      · rw [List.getElem?_drop, List.getElem?_take] at hu
        split at hu
        · rw [Nat.add_assoc]; exact hc _ _ hu
        · cases hu

/-- What a window holds may be read. -/
theorem Rd.of_win {base : Nat} {T : TypeId} (h : Win w base T 1 (.slice oa l.length cap) l.length (bv l)) : Rd w w.heap.size oa cap l := by
  have hi := h.is
  obtain ⟨oa', cap', hv, h1, h2, _⟩ := hi
  simp only [Value.slice.injEq] at hv
  obtain ⟨rfl, _, rfl⟩ := hv
  refine ⟨h1, h2, ?_⟩
  rcases h.cells with h0 | ⟨g, o, c, hv, _, _, _, hg, _, hc, _⟩
  · exact .inl (List.eq_nil_of_length_eq_zero (by omega))
  · simp only [Value.slice.injEq] at hv
    obtain ⟨rfl, _, rfl⟩ := hv
    exact .inr ⟨g, o, rfl, hg, fun i u hu => hc i _ (by rw [bv_get, hu]; rfl)⟩

/-- What a window holds, and where its room is. -/
theorem Rd.win (h : Rd w B oa cap l) : l = [] ∨ ∃ a, oa = some a ∧ ∀ (j : Nat) (u : Value), (bv l)[j]? = some u → w.cell? (a.add j) = some u := by
  rcases h.2.2 with h | ⟨b, o, rfl, hB, hc⟩
  · exact .inl h
  · refine .inr ⟨_, rfl, fun j u hu => ?_⟩
    rw [bv_get, Option.map_eq_some_iff] at hu
    obtain ⟨x, hx, rfl⟩ := hu
    have : (⟨b, o, none⟩ : Addr).add j = ⟨b, o + j, none⟩ := by
      unfold Addr.add; by_cases e : j = 0 <;> simp [e]
    rw [this]; exact hc j x hx

theorem Rd.src {P : Program} {tx e : TypeId} (hk : P.underlying tx = some (.slice e)) (h : Rd w B oa cap l) : Src P 1 tx (.slice oa l.length cap) l.length (bv l) w := by
  rcases h.win with rfl | ⟨a, rfl, hc⟩
  · cases oa with
    | none => exact Src.ofNil w hk cap
    | some a => exact Src.ofSlice w hk a 0 cap [] (by simp) (by simp) (by simp)
  · exact Src.ofSlice w hk a _ cap (bv l) (by simp [bv_len]) hc (bv_one l)
end

theorem byteCells_bv (l : List UInt8) : byteCells ⟨l.toArray⟩ = bv l := by simp [byteCells, bv]

/-- Bytes as a string. -/
def str (l : List UInt8) : ByteArray := ⟨l.toArray⟩
theorem str_size (l : List UInt8) : (str l).size = l.length := by simp [str, ByteArray.size]
theorem str_app (a b : List UInt8) : str a ++ str b = str (a ++ b) := by unfold str; exact ByteArray.mk_append_mk a b
theorem str_cut (a : List UInt8) (l h : Nat) : (str a).extract l h = str ((a.take h).drop l) := by
  apply ByteArray.ext
  simp [str, ByteArray.data_extract, List.drop_take]
theorem str_toList (l : List UInt8) : (str l).toList = l := by
  unfold str
  exact Go.ByteArray.toList_mk l

/-- Whole numbers of bytes, as bytes. -/
def ofNums (f : Nat → Int) (n : Nat) : List UInt8 := (List.range n).map fun i => UInt8.ofNat (f i).toNat
theorem ofNums_len (f : Nat → Int) (n : Nat) : (ofNums f n).length = n := by simp [ofNums]
theorem ofNums_get (f : Nat → Int) (n i : Nat) (h : i < n) : (ofNums f n)[i]? = some (UInt8.ofNat (f i).toNat) := by simp [ofNums, h]
theorem toNat_of (a : Int) (h : 0 ≤ a ∧ a < 256) : ((UInt8.ofNat a.toNat).toNat : Int) = a := by
  rw [UInt8.toNat_ofNat']; omega

/-- Bytes that came in. -/
theorem rd_of {w : World} {v : Value} (h : (Sh.slice 1 (.int .u8)).Ok w [v]) : ∃ (oa : Option Addr) (cap : Nat) (l : List UInt8), v = .slice oa l.length cap ∧ Rd w w.heap.size oa cap l := by
  obtain ⟨oa, len, cap, rs, rfl, hl, hc, hi⟩ := slice_ints h
  refine ⟨oa, cap, ofNums rs len, by rw [ofNums_len], by rw [ofNums_len]; exact hl, hc, ?_⟩
  by_cases h0 : len = 0
  · left; subst h0; rfl
  · right
    obtain ⟨_, b, o, rfl, hB, _⟩ := hi 0 (by omega)
    refine ⟨b, o, rfl, hB, fun i u hu => ?_⟩
    have hil : i < len := by
      have := (List.getElem?_eq_some_iff.1 hu).1
      rwa [ofNums_len] at this
    obtain ⟨hw, b', o', e, _, hcell⟩ := hi i hil
    simp only [Option.some.injEq, Addr.mk.injEq, and_true] at e
    obtain ⟨rfl, rfl⟩ := e
    rw [ofNums_get _ _ _ hil, Option.some.injEq] at hu
    subst hu
    rw [toNat_of _ (Argin.wf_u8 hw)]
    exact hcell

section
variable {P : Program}
theorem run_str (w : World) {src dst e : TypeId} (hs : P.underlying src = some (.slice e)) (he : P.underlying e = some (.int .u8)) (hd : P.underlying dst = some .string) {B : Nat} {oa : Option Addr} {cap : Nat} {l : List UInt8} (h : Rd w B oa cap l) :
    (convert src dst (.slice oa l.length cap)).run P w = .ok (.string (str l)) w := by
  have e1 : strOfNums (l.map fun b => (b.toNat : Int)) = str l := by
    unfold strOfNums str
    congr 2
    rw [List.map_map]
    conv => rhs; rw [← List.map_id l]
    apply List.map_congr_left
    intro b _
    simp
  rcases h.2.2 with rfl | ⟨b, o, rfl, hB, hc⟩
  · cases oa with
    | none => exact run_convert_bytes_nil w src e hs he 0 cap dst hd
    | some a =>
      rw [run_convert_bytes_string w src dst e _ _ cap hs he hd]
      rw [List.length_nil, run_bytesToString w a 0 cap [] (by simp [loadCells, loadCellsFrom])]
      rfl
  · rw [run_convert_bytes_arg w src e hs he b o l.length cap (l.map fun b => (b.toNat : Int)) (by simp) (fun i hi => by
      rw [hc i _ (List.getElem?_eq_getElem hi)]
      simp [List.getD, hi]) dst hd, e1]

theorem wpList_conv {ops : Array Oper} {rest : List Oper} {o : Oper} {a : Act} {Q : Exit → Act → World → Prop} {w w' : World} (hgd : o.guard = none) (x : Operand) (src dst : TypeId) (ho : o.op = .convert src dst x) {v u : Value} (hv : a.eval x = v)
    (hrun : (convert src dst v).run P w = .ok u w') (hK : wpList P ops Q rest (a.put o.dst u) w') : wpList P ops Q (o :: rest) a w := by
  refine wpList_plain hgd fun K hK' => ?_
  unfold Oper.wp
  simp [execOp, ho, hv, hrun, Result.andThen]
  exact hK' _ _ hK

/-- A slice is cut. -/
theorem run_cut (w : World) {t e : TypeId} {i : TypeInfo} (ht : P.underlying t = some (.slice e)) (hi : P.info? e = some i) {oa : Option Addr} {n cap : Nat} {lo hi' : Int} (h0 : 0 ≤ lo) (h1 : lo ≤ hi') (h2 : hi' ≤ cap) (h3 : cap ≤ 9223372036854775807) :
    (Instr.slice t (.slice oa n cap) (some (.int .i64 lo)) (some (.int .i64 hi')) none).run P w = .ok (.slice (cutA i.size oa cap lo.toNat) (hi'.toNat - lo.toNat) (cap - lo.toNat)) w := by
  have e1 : lo ≤ (hi'.toNat : Int) := by omega
  have e2 : 0 ≤ hi' := by omega
  simp [Instr.slice, Instr.sliceBounds, Instr.sliceBound, run_underlying ht, asIntOf, sizeOf, typeInfo, hi, h0, e1, h2, e2, cutA]
  intro h
  exact absurd h (by omega)
theorem run_cut_lo (w : World) {t e : TypeId} {i : TypeInfo} (ht : P.underlying t = some (.slice e)) (hi : P.info? e = some i) {oa : Option Addr} {n cap : Nat} {lo : Int} (h0 : 0 ≤ lo) (h1 : lo ≤ n) :
    (Instr.slice t (.slice oa n cap) (some (.int .i64 lo)) none none).run P w = .ok (.slice (cutA i.size oa cap lo.toNat) (n - lo.toNat) (cap - lo.toNat)) w := by
  simp [Instr.slice, Instr.sliceBounds, Instr.sliceBound, run_underlying ht, asIntOf, sizeOf, typeInfo, hi, h0, h1, cutA]
theorem run_cut_hi (w : World) {t e : TypeId} {i : TypeInfo} (ht : P.underlying t = some (.slice e)) (hi : P.info? e = some i) {oa : Option Addr} {n cap : Nat} {hi' : Int} (h0 : 0 ≤ hi') (h2 : hi' ≤ cap) :
    (Instr.slice t (.slice oa n cap) none (some (.int .i64 hi')) none).run P w = .ok (.slice (cutA i.size oa cap 0) hi'.toNat cap) w := by
  simp [Instr.slice, Instr.sliceBounds, Instr.sliceBound, run_underlying ht, asIntOf, sizeOf, typeInfo, hi, h0, h2, cutA]
theorem run_cut_str_lo (w : World) {t : TypeId} (ht : P.underlying t = some .string) (l : List UInt8) {lo : Int} (h0 : 0 ≤ lo) (h1 : lo ≤ l.length) :
    (Instr.slice t (.string (str l)) (some (.int .i64 lo)) none none).run P w = .ok (.string (str (l.drop lo.toNat))) w := by
  have e : (str l).extract lo.toNat l.length = str (l.drop lo.toNat) := by rw [str_cut, List.take_length]
  simp [Instr.slice, Instr.sliceBounds, Instr.sliceBound, run_underlying ht, asIntOf, h0, str_size, h1, e]
theorem run_cut_str_hi (w : World) {t : TypeId} (ht : P.underlying t = some .string) (l : List UInt8) {hi : Int} (h0 : 0 ≤ hi) (h1 : hi ≤ l.length) :
    (Instr.slice t (.string (str l)) none (some (.int .i64 hi)) none).run P w = .ok (.string (str (l.take hi.toNat))) w := by
  have e : (str l).extract 0 hi.toNat = str (l.take hi.toNat) := by rw [str_cut, List.drop_zero]
  simp [Instr.slice, Instr.sliceBounds, Instr.sliceBound, run_underlying ht, asIntOf, h0, str_size, h1, e]
theorem cutA_zero (size : Nat) (oa : Option Addr) (cap : Nat) : cutA size oa cap 0 = oa := by
  unfold cutA
  split
  · rfl
  · cases oa <;> simp [Addr.add]
end
theorem news_block {w : World} {g : Nat} {xs : List Value} {T : TypeId} {fr : Nat × Nat} (h : w.heap[g]? = some (.cells xs.toArray T fr)) : ∀ (j : Nat) (u : Value), xs[j]? = some u → w.cell? ((⟨g, 0, none⟩ : Addr).add j) = some u := by
  intro j u hj
  have e : (⟨g, 0, none⟩ : Addr).add j = ⟨g, j, none⟩ := by unfold Addr.add; by_cases e : j = 0 <;> simp [e]
  rw [e, cell_get h]
  simpa using hj

/-- The world behind '[]byte(s)'. -/
theorem below_bytes (w : World) (e : TypeId) (s : ByteArray) : Below w.heap.size w (Lib.bytesWorld w e s) := by
  have h := fun j hj => Lib.bytesWorld_at_old w e s j hj
  have hz := Lib.bytesWorld_size w e s
  refine ⟨?_, ?_, ?_, by omega, h⟩ <;> (unfold Lib.bytesWorld World.freeze; split <;> rfl)
theorem rd_bytes (w : World) (e : TypeId) (l : List UInt8) (hl : l.length ≤ maxLen) : Rd (Lib.bytesWorld w e (str l)) (w.heap.size + 1) (some ⟨w.heap.size, 0, none⟩) (grownCap w l.length 0 e) l := by
  refine ⟨grownCap_ge _ _ _ _, grownCap_le_maxLen _ _ _ _ hl, .inr ⟨_, _, rfl, by omega, fun i u hu => ?_⟩⟩
  have hi : i < l.length := (List.getElem?_eq_some_iff.1 hu).1
  rw [Nat.zero_add, Lib.bytesWorld_cell w e (str l) i (by rw [str_size]; exact hi)]
  have : (str l).data.toList = l := rfl
  rw [this, List.getD, hu]
  rfl
theorem run_bytes {P : Program} (w : World) {src dst e : TypeId} (hs : P.underlying src = some .string) (hd : P.underlying dst = some (.slice e)) (he : P.underlying e = some (.int .u8)) (l : List UInt8) :
    (convert src dst (.string (str l))).run P w = .ok (.slice (some ⟨w.heap.size, 0, none⟩) l.length (grownCap w l.length 0 e)) (Lib.bytesWorld w e (str l)) := by
  have := Lib.run_convert_string_bytes (P := P) w src dst e (str l) hs hd he
  rwa [str_size] at this
theorem str_of (s : ByteArray) : ∃ l, s = str l ∧ l.length = s.size := ⟨s.data.toList, rfl, Array.length_toList⟩

theorem win_cut {w : World} {base : Nat} {T : TypeId} {oa : Option Addr} {cap : Nat} {l : List UInt8} (h : Win w base T 1 (.slice oa l.length cap) l.length (bv l)) {k n : Nat} (hn : n ≤ l.length) (hk : k ≤ n) :
    Win w base T 1 (.slice (cutA 1 oa cap k) ((l.take n).drop k).length (cap - k)) ((l.take n).drop k).length (bv ((l.take n).drop k)) := by
  have := h.cut hk hn
  have e : ((l.take n).drop k).length = n - k := by rw [List.length_drop, List.length_take]; omega
  rw [e]
  unfold cutv at this
  rw [Nat.mul_one, Nat.mul_one] at this
  rw [bv_drop, bv_take, List.drop_take]
  unfold cutA
  rw [Nat.mul_one]
  exact this
theorem blk_cut {oa : Option Addr} {n m cap k j : Nat} (h : blk (.slice (cutA 1 oa cap k) m (cap - k)) = some j) : blk (.slice oa n cap) = some j := by
  cases hc : cap - k with
  | zero => rw [hc] at h; cases hq : cutA 1 oa cap k <;> rw [hq] at h <;> simp [blk] at h
  | succ c =>
    rw [hc, cutA, if_neg (by omega)] at h
    cases oa with
    | none => simp [blk] at h
    | some a =>
      obtain ⟨cc, rfl⟩ : ∃ cc, cap = cc + 1 := ⟨cap - 1, by omega⟩
      simp only [Option.map_some, blk] at h ⊢
      rw [← h]
      unfold Addr.add
      split <;> rfl
end Go.Proofs.Ytdlhleegfmnjjaa.Bytes
