/- A slice that owns its row as a window: append, cells, cutting. Plain laws over any program. -/
import Derived.Test.YtdlhleegfmnjjaaSave
import Derived.Deep.AppendSrc
import Derived.Deep.RegionLaw
import Derived.Laws.IdiomCopy
import Derived.Laws.AppendOwn
namespace Go.Proofs.Ytdlhleegfmnjjaa.Win
open Go.RowKit Argin Save
set_option linter.unusedVariables false
set_option linter.unusedSimpArgs false

/-- Cells set one behind the other. -/
def setL : Array Value → Nat → List Value → Array Value
  | cur, _, [] => cur
  | cur, o, v :: r => setL (cur.setIfInBounds o v) (o + 1) r

theorem setL_size : ∀ (vs : List Value) (cur : Array Value) (o : Nat), (setL cur o vs).size = cur.size
  | [], _, _ => rfl
  | v :: r, cur, o => by rw [setL, setL_size r]; simp

theorem setL_get : ∀ (vs : List Value) (cur : Array Value) (o j : Nat), o + vs.length ≤ cur.size → (setL cur o vs)[j]? = if o ≤ j ∧ j < o + vs.length then vs[j - o]? else cur[j]?
  | [], cur, o, j, _ => by rw [setL, if_neg (by simp)]
  | v :: r, cur, o, j, h => by
    simp only [List.length_cons] at h
    rw [setL, setL_get r _ _ _ (by simp; omega)]
    by_cases h1 : o + 1 ≤ j ∧ j < o + 1 + r.length
    · rw [if_pos h1, if_pos (by simp; omega), show j - o = (j - (o + 1)) + 1 from by omega, List.getElem?_cons_succ]
    · rw [if_neg h1, Array.getElem?_setIfInBounds]
      by_cases h2 : o = j
      · subst h2; rw [if_pos rfl, if_pos (by omega), if_pos (by simp), Nat.sub_self]; rfl
      · rw [if_neg h2, if_neg (by simp; omega)]

theorem heap_setCells : ∀ (vs : List Value) (g o : Nat) (w : World) (cur : Array Value) (T : TypeId) (fr : Nat × Nat), w.heap[g]? = some (.cells cur T fr) → (w.setCells g o vs).heap[g]? = some (.cells (setL cur o vs) T fr)
  | [], _, _, _, _, _, _, h => h
  | v :: r, g, o, w, cur, T, fr, h => by rw [World.setCells, setL]; exact heap_setCells r g (o + 1) _ _ T fr (get_set v h)

theorem save_setCells : ∀ (vs : List Value) (g o : Nat) (w : World), Save (· = g) w (w.setCells g o vs)
  | [], _, _, _ => Save.refl _ _
  | v :: r, g, o, w => ((Save.refl (· = g) w).set g o rfl v).trans (save_setCells r g (o + 1) _)

/-- The block that a slice's room lies in. -/
def blk : Value → Option Nat
  | .slice (some a) _ (_ + 1) => some a.block
  | _ => none

structure Win (w : World) (base : Nat) (T : TypeId) (size : Nat) (v : Value) (n : Nat) (xs : List Value) : Prop where
  len : xs.length = n * size
  is : ∃ oa cap, v = .slice oa n cap ∧ n ≤ cap ∧ cap ≤ maxLen ∧ (cap = 0 ∨ ∃ g o cur, oa = some ⟨g, o, none⟩ ∧ base ≤ g ∧ w.heap[g]? = some (.cells cur T (0, 0)) ∧ o + cap * size ≤ cur.size ∧ (cur.toList.drop o).take (n * size) = xs)

section
variable {w w' : World} {base : Nat} {T : TypeId} {size : Nat} {v : Value} {n : Nat} {xs : List Value}

theorem Win.nil (w : World) (base : Nat) (T : TypeId) (size : Nat) : Win w base T size (.slice none 0 0) 0 [] := ⟨by simp, none, 0, rfl, Nat.le_refl _, by simp [maxLen], .inl rfl⟩

theorem Win.empty (w : World) (base : Nat) (T : TypeId) (size : Nat) (oa : Option Addr) : Win w base T size (.slice oa 0 0) 0 [] := ⟨by simp, oa, 0, rfl, Nat.le_refl _, by simp [maxLen], .inl rfl⟩

theorem Win.le (h : Win w base T size v n xs) : n ≤ maxLen := by
  obtain ⟨_, oa, cap, rfl, h1, h2, _⟩ := h
  omega

theorem Win.blk_ge (h : Win w base T size v n xs) {k : Nat} (hk : blk v = some k) : base ≤ k ∧ k < w.heap.size := by
  obtain ⟨_, oa, cap, rfl, h1, h2, h3 | ⟨g, o, cur, rfl, hb, hg, _⟩⟩ := h
  · subst h3; cases oa <;> simp [blk] at hk
  · cases cap with
    | zero => simp [blk] at hk
    | succ c => simp [blk] at hk; subst hk; exact ⟨hb, lt_of_get hg⟩

theorem Win.save {S : Nat → Prop} (h : Win w base T size v n xs) (hs : Save S w w') (hS : ∀ k, blk v = some k → ¬ S k) : Win w' base T size v n xs := by
  obtain ⟨h0, oa, cap, rfl, h1, h2, h3⟩ := h
  refine ⟨h0, oa, cap, rfl, h1, h2, ?_⟩
  rcases h3 with h3 | ⟨g, o, cur, rfl, hb, hg, r⟩
  · exact .inl h3
  · cases cap with
    | zero => exact .inl rfl
    | succ c => exact .inr ⟨g, o, cur, rfl, hb, hs.stays hg (hS g rfl), r⟩

theorem Win.below (h : Win w base T size v n xs) (hs : Below w.heap.size w w') : Win w' base T size v n xs :=
  h.save (S := fun _ => False) (Save.of_below hs) (fun _ _ => id)

theorem Win.drewN (h : Win w base T size v n xs) (k : Nat) : Win (w.drewN k) base T size v n xs := ⟨h.len, h.is⟩
theorem Win.drew (h : Win w base T size v n xs) : Win w.drew base T size v n xs := ⟨h.len, h.is⟩
theorem Win.alloc (h : Win w base T size v n xs) (o : Obj) : Win (w.alloc o) base T size v n xs := h.below ((Below.refl _ _).alloc (Nat.le_refl _) _)

/-- Where the cells lie. -/
theorem Win.cells (h : Win w base T size v n xs) : (n = 0 ∨ size = 0) ∨ ∃ g o cap, v = .slice (some ⟨g, o, none⟩) n cap ∧ n ≤ cap ∧ cap ≤ maxLen ∧ base ≤ g ∧ g < w.heap.size ∧ blk v = some g ∧ (∀ j u, xs[j]? = some u → w.cell? ⟨g, o + j, none⟩ = some u) ∧ (∀ j, w.frozen? ⟨g, j, none⟩ = false) := by
  obtain ⟨h0, oa, cap, rfl, h1, h2, h3⟩ := h
  by_cases hn : n = 0 ∨ size = 0
  · exact .inl hn
  · rcases h3 with h3 | ⟨g, o, cur, rfl, hb, hg, hsz, hx⟩
    · omega
    · refine .inr ⟨g, o, cap, rfl, h1, h2, hb, lt_of_get hg, ?_, fun j u hj => ?_, fun j => free_get hg j⟩
      · cases cap with
        | zero => omega
        | succ c => rfl
      · rw [cell_get hg]
        rw [← hx, List.getElem?_take] at hj
        split at hj
        · rw [List.getElem?_drop] at hj; simpa using hj
        · cases hj

theorem Win.adds (h : Win w base T size v n xs) {oa : Option Addr} {cap : Nat} (hv : v = .slice oa n cap) (hn : 0 < n) (hsz : 0 < size) : ∃ a, oa = some a ∧ ∀ j u, xs[j]? = some u → w.cell? (a.add j) = some u := by
  rcases h.cells with h | ⟨g, o, c, rfl, _, _, _, _, _, hc, _⟩
  · omega
  · simp only [Value.slice.injEq] at hv
    obtain ⟨rfl, _, rfl⟩ := hv
    refine ⟨_, rfl, fun j u hj => ?_⟩
    have : (⟨g, o, none⟩ : Addr).add j = ⟨g, o + j, none⟩ := by
      unfold Addr.add; by_cases e : j = 0 <;> simp [e]
    rw [this]; exact hc j u hj

/-- A part of a slice, as Go cuts it. -/
def cutv (size : Nat) (oa : Option Addr) (cap l h : Nat) : Value := .slice (if cap = l then oa else oa.map (·.add (l * size))) (h - l) (cap - l)

theorem Win.cut {oa : Option Addr} {cap : Nat} (h : Win w base T size (.slice oa n cap) n xs) {l k : Nat} (hl : l ≤ k) (hk : k ≤ n) : Win w base T size (cutv size oa cap l k) (k - l) ((xs.drop (l * size)).take ((k - l) * size)) := by
  obtain ⟨h0, oa', cap', hv, h1, h2, h3⟩ := h
  simp only [Value.slice.injEq] at hv
  obtain ⟨rfl, _, rfl⟩ := hv
  have hms : (k - l) * size ≤ n * size - l * size := by rw [← Nat.sub_mul]; exact Nat.mul_le_mul_right _ (by omega)
  refine ⟨by rw [List.length_take, List.length_drop, h0]; omega, _, _, rfl, by omega, by omega, ?_⟩
  by_cases hcl : cap = l
  · exact .inl (by omega)
  rw [if_neg hcl]
  rcases h3 with h3 | ⟨g, o, cur, rfl, hb, hg, hsz, hx⟩
  · exact .inl (by omega)
  · have hcs : cap * size = l * size + (cap - l) * size := by rw [← Nat.add_mul]; congr 1; omega
    refine .inr ⟨g, o + l * size, cur, ?_, hb, hg, by omega, ?_⟩
    · simp only [Option.map_some, Addr.add]; by_cases e : l * size = 0 <;> simp [e]
    · rw [← hx, ← List.drop_drop, List.drop_take, List.take_take]
      congr 1
      omega
end

section
variable {P : Program}
/-- append: what a window becomes. -/
theorem run_win (t tx ty e : TypeId) (i : TypeInfo) (z : Value) (size bytes : Nat) (ht : P.underlying t = some (.slice e)) (hi : P.info? e = some i) (hz : i.zero = some z) (hsize : i.size = size) (hby : i.bytes = bytes) (hzs : z.cells.size = size)
    {w : World} {base : Nat} {v : Value} {n : Nat} {xs : List Value} (h : Win w base e size v n xs) (x : Value) (m : Nat) (news : List Value) (hs : Src P size tx x m news w)
    (h63 : n + m ≤ maxLen) (hbytes : (n + m) * bytes ≤ 140737488355328) (hbase : base ≤ w.heap.size) :
    ∃ v' w', (Builtin.append_ #[t, tx] ty #[v, x]).run P w = .ok v' w' ∧ Win w' base e size v' (n + m) (xs ++ news) ∧ Save (fun k => blk v = some k) w w' ∧ (blk v' = blk v ∨ ∃ g, blk v' = some g ∧ w.heap.size ≤ g) := by
  subst hsize
  subst hby
  obtain ⟨h0, oa, cap, rfl, h1, h2, h3⟩ := h
  have hml : n + m ≤ 9223372036854775807 := by unfold maxLen at h63; omega
  have hlen : (xs ++ news).length = (n + m) * i.size := by rw [List.length_append, h0, hs.newsLen, Nat.add_mul]
  by_cases hroom : n + m ≤ cap
  · by_cases hc0 : cap = 0
    · have hn : n = 0 := by omega
      have hm : m = 0 := by omega
      subst hc0 hn hm
      have hxs : xs = [] := List.eq_nil_of_length_eq_zero (by rw [h0]; simp)
      have hnw : news = [] := List.eq_nil_of_length_eq_zero (by rw [hs.newsLen]; simp)
      subst hxs hnw
      refine ⟨.slice oa 0 0, w, ?_, ⟨by simp, oa, 0, rfl, Nat.le_refl _, by simp [maxLen], .inl rfl⟩, Save.refl _ _, .inl rfl⟩
      have h5 := hs.cells
      rcases hs.kind with ⟨e', hk⟩ | hk <;> cases oa <;> simp [Builtin.append_, run_underlying ht, run_underlying hk, sizeOf, typeInfo, hi, hs.len, h5, storeCells]
    · rcases h3 with h3 | ⟨g, o, cur, rfl, hb, hg, hsz, hx⟩
      · exact absurd h3 hc0
      · have hnm : n * i.size + news.length ≤ cap * i.size := by rw [hs.newsLen, ← Nat.add_mul]; exact Nat.mul_le_mul_right _ hroom
        have hr := run_append_room_src (P := P) w t tx ty e i ht hi g o n cap x m news hs hroom
          (fun j hj => by rw [cell_get hg, Array.getElem?_eq_getElem (by omega)]; rfl) (fun j hj => free_get hg _)
        refine ⟨_, _, hr, ⟨hlen, _, cap, rfl, hroom, h2, .inr ⟨g, o, _, rfl, hb, heap_setCells _ _ _ _ _ _ _ hg, by rw [setL_size]; exact hsz, ?_⟩⟩, (save_setCells news g _ w).mono (fun k hk e => ?_), ?_⟩
        · apply List.ext_getElem?
          intro j
          rw [List.getElem?_take, List.getElem?_drop]
          by_cases hj : j < (n + m) * i.size
          · rw [if_pos hj, Array.getElem?_toList, setL_get _ _ _ _ (by omega)]
            rw [Nat.add_mul, ← hs.newsLen] at hj
            by_cases hj2 : j < n * i.size
            · rw [if_neg (by omega), List.getElem?_append_left (by omega), ← hx, List.getElem?_take, if_pos hj2, List.getElem?_drop, Array.getElem?_toList]
            · rw [if_pos (by omega), List.getElem?_append_right (by omega), h0]
              congr 1; omega
          · rw [if_neg hj, List.getElem?_eq_none (by omega)]
        · cases cap with
          | zero => omega
          | succ c => subst e; rfl
        · left
          cases cap with
          | zero => omega
          | succ c => rfl
  · have hold : (Builtin.firstCells i.size n (.slice oa n cap)).run P w.drew = .ok xs.toArray w.drew := by
      by_cases hn : n = 0 ∨ i.size = 0
      · have hxs : xs = [] := List.eq_nil_of_length_eq_zero (by rw [h0]; rcases hn with hn | hn <;> simp [hn])
        subst hxs
        cases oa with
        | none => rcases hn with hn | hn <;> simp [Builtin.firstCells, hn, loadCells, loadCellsFrom]
        | some a => rcases hn with hn | hn <;> simp [Builtin.firstCells, hn, loadCells, loadCellsFrom]
      · have hW : Win w base e i.size (.slice oa n cap) n xs := ⟨h0, oa, cap, rfl, h1, h2, h3⟩
        obtain ⟨a, rfl, hc⟩ := hW.adds rfl (by omega) (by omega)
        exact run_firstCells_some (P := P) w.drew i.size n a n cap xs h0 (by simpa using hc)
    have hr := run_append_grow_src (P := P) w t tx ty e i z ht hi hz oa n cap xs hold x m news hs (by omega) (by omega) (growslice_fits (by omega) hbytes)
    have hge := grownCap_ge w (n + m) cap e
    have hcm : grownCap w (n + m) cap e ≤ maxLen := grownCap_le_maxLen w (n + m) cap e h63
    refine ⟨_, _, hr, ⟨hlen, _, _, rfl, hge, hcm, .inr ⟨w.heap.size, 0, _, rfl, hbase, get_alloc w.drew _, ?_, ?_⟩⟩, (Save.refl _ _).drew.alloc _, .inr ⟨w.heap.size, ?_, Nat.le_refl _⟩⟩
    · simp only [Array.size_append, List.size_toArray, size_zeroCells, hzs, hlen, ← Nat.add_mul]
      rw [Nat.zero_add]
      exact Nat.mul_le_mul_right _ (by omega)
    · rw [List.drop_zero, ← hlen, Array.toList_append]
      exact List.take_left
    · have : 0 < grownCap w (n + m) cap e := by omega
      cases hq : grownCap w (n + m) cap e with
      | zero => omega
      | succ c => rfl

theorem wpList_win {ops : Array Oper} {rest : List Oper} {o : Oper} {a : Act} {Q : Exit → Act → World → Prop} (hgd : o.guard = none) (s x : Operand) (t tx : TypeId)
    (ho : o.op = .call { callee := .builtin .append, args := #[s, x], argTypes := #[t, tx] })
    (e : TypeId) (i : TypeInfo) (z : Value) (size bytes : Nat) (ht : P.underlying t = some (.slice e)) (hi : P.info? e = some i) (hz : i.zero = some z) (hsize : i.size = size) (hby : i.bytes = bytes) (hzs : z.cells.size = size)
    {w : World} {base : Nat} {v : Value} {n : Nat} {xs : List Value} (hv : a.eval s = v) (h : Win w base e size v n xs) (m : Nat) (news : List Value) (hs : Src P size tx (a.eval x) m news w)
    (h63 : n + m ≤ maxLen) (hbytes : (n + m) * bytes ≤ 140737488355328) (hbase : base ≤ w.heap.size)
    (hK : ∀ v' w', Win w' base e size v' (n + m) (xs ++ news) → Save (fun k => blk v = some k) w w' → (blk v' = blk v ∨ ∃ g, blk v' = some g ∧ w.heap.size ≤ g) → wpList P ops Q rest (a.put o.dst v') w') : wpList P ops Q (o :: rest) a w := by
  refine wpList_plain hgd fun K hK' => ?_
  obtain ⟨v', w', hrun, h1, h2, h3⟩ := run_win (P := P) t tx o.type e i z size bytes ht hi hz hsize hby hzs h (a.eval x) m news hs h63 hbytes hbase
  unfold Oper.wp
  simp [execOp, ho, resolve, invoke, builtin, hv, hrun, Result.andThen]
  exact hK' _ _ (hK v' w' h1 h2 h3)

theorem step_win {ops : Array Oper} {o : Oper} {a : Act} {w : World} {K : Act → World → Prop} {Q : Exit → Act → World → Prop} {E : Prop}
    (hg : o.guard = none) (s x : Operand) (t tx : TypeId) (hop : o.op = Op.call { callee := Callee.builtin Builtin.append, args := #[s, x], argTypes := #[t, tx] })
    (e : TypeId) (i : TypeInfo) (z : Value) (size bytes : Nat) (ht : P.underlying t = some (.slice e)) (hi : P.info? e = some i) (hz : i.zero = some z) (hsize : i.size = size) (hby : i.bytes = bytes) (hzs : z.cells.size = size)
    {base : Nat} (v : Value) (n : Nat) (xs : List Value) (hv : a.eval s = v) (h : Win w base e size v n xs) (u : Value) (hu : a.eval x = u) (m : Nat) (news : List Value) (hs : Src P size tx u m news w)
    (h63 : n + m ≤ maxLen) (hbytes : (n + m) * bytes ≤ 140737488355328) (hbase : base ≤ w.heap.size)
    (hK : ∀ v' w', Win w' base e size v' (n + m) (xs ++ news) → Save (fun k => blk v = some k) w w' → (blk v' = blk v ∨ ∃ g, blk v' = some g ∧ w.heap.size ≤ g) → K (a.put o.dst v') w') :
    if Region.wanted o (yielded ops a.tmps) = true then Oper.wp P o a w K Q else E := by
  have hw : Region.wanted o (yielded ops a.tmps) = true := by simp [Region.wanted, hg]
  rw [if_pos hw]
  obtain ⟨v', w', hrun, h1, h2, h3⟩ := run_win (P := P) t tx o.type e i z size bytes ht hi hz hsize hby hzs h u m news hs h63 hbytes hbase
  unfold Oper.wp
  simp [execOp, hop, resolve, invoke, builtin, hv, hu, hrun, Result.andThen]
  exact hK _ _ h1 h2 h3
end
end Go.Proofs.Ytdlhleegfmnjjaa.Win
