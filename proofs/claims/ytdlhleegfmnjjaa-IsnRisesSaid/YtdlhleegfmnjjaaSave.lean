/- Worlds that differ in a few blocks alone, and blocks of a few cells: plain lemmas over any program. -/
import Derived.Test.YtdlhleegfmnjjaaArgin
import Derived.LaidEql
import Derived.Lib.Hide
import Derived.Deep.Draws
import Derived.OwnWalk
import Derived.Laws.OwnMore
namespace Go.Proofs.Ytdlhleegfmnjjaa.Save
open Go.RowKit

/-- w' is as w was, but for blocks of which S tells, and new ones. -/
structure Save (S : Nat → Prop) (w w' : World) : Prop where
  os : w'.os = w.os
  tape : w'.tape = w.tape
  output : w'.output = w.output
  size : w.heap.size ≤ w'.heap.size
  block : ∀ k, k < w.heap.size → ¬ S k → w'.heap[k]? = w.heap[k]?

section
variable {S S' : Nat → Prop} {w w' w'' : World}
theorem Save.refl (S : Nat → Prop) (w : World) : Save S w w := ⟨rfl, rfl, rfl, Nat.le_refl _, fun _ _ _ => rfl⟩
theorem Save.trans (h : Save S w w') (k : Save S w' w'') : Save S w w'' :=
  ⟨k.os.trans h.os, k.tape.trans h.tape, k.output.trans h.output, Nat.le_trans h.size k.size, fun i hi hs => (k.block i (Nat.lt_of_lt_of_le hi h.size) hs).trans (h.block i hi hs)⟩
theorem Save.mono (h : Save S w w') (hs : ∀ k, k < w.heap.size → S k → S' k) : Save S' w w' := ⟨h.os, h.tape, h.output, h.size, fun i hi hn => h.block i hi (fun e => hn (hs i hi e))⟩
theorem Save.drew (h : Save S w w') : Save S w w'.drew := ⟨h.os, h.tape, h.output, h.size, h.block⟩
theorem Save.of_below (h : Below w.heap.size w w') : Save S w w' := ⟨h.os, h.tape, h.output, h.size, fun i hi _ => h.block i hi⟩
theorem Save.below {B : Nat} (h : Save S w w') (hs : ∀ k, k < w.heap.size → S k → B ≤ k) (hB : B ≤ w.heap.size) : Below B w w' :=
  ⟨h.os, h.tape, h.output, h.size, fun i hi => h.block i (Nat.lt_of_lt_of_le hi hB) (fun e => by have := hs i (Nat.lt_of_lt_of_le hi hB) e; omega)⟩
theorem Save.drewN (h : Save S w w') (n : Nat) : Save S w (w'.drewN n) := ⟨h.os, h.tape, h.output, h.size, h.block⟩
theorem Save.alloc (h : Save S w w') (o : Obj) : Save S w (w'.alloc o) :=
  h.trans ⟨rfl, rfl, rfl, by simp, fun k hk _ => Below.heap_alloc _ _ _ hk⟩
theorem Save.setCell (h : Save S w w') {p : Addr} (hp : p.block < w.heap.size → S p.block) (u : Value) : Save S w (w'.setCell p u) :=
  ⟨h.os, h.tape, h.output, by simp [World.setCell]; exact h.size, fun k hk hs => by
    rw [Below.heap_setCell _ _ _ _ (fun e => hs (by rw [e]; exact hp (by omega)))]; exact h.block k hk hs⟩
theorem Save.set (h : Save S w w') (b i : Nat) (hs : S b) (u : Value) : Save S w (w'.setCell ⟨b, i, none⟩ u) := h.setCell (p := ⟨b, i, none⟩) (fun _ => hs) u
theorem Save.stays {b : Nat} {o : Obj} (h : Save S w w') (hb : w.heap[b]? = some o) (hs : ¬ S b) : w'.heap[b]? = some o := by
  rw [h.block b (Array.getElem?_eq_some_iff.1 hb).1 hs]; exact hb
theorem Save.lt {b : Nat} {o : Obj} (h : Save S w w') (hb : w.heap[b]? = some o) : b < w'.heap.size :=
  Nat.lt_of_lt_of_le (Array.getElem?_eq_some_iff.1 hb).1 h.size
end

theorem Save.of_grown {S : Nat → Prop} {w w' : World} {row : Option Nat} (hg : w.grownBy w' row) (hr : ∀ k, row = some k → S k) : Save S w w' :=
  ⟨hg.os, hg.tape, hg.output, hg.size, fun k hk hs => hg.block k hk (fun e => hs (hr k e.symm))⟩
theorem owns_save {S : Nat → Prop} {w w' : World} {base : Nat} {e : TypeId} {size : Nat} {v : Value} {n : Nat} {xs : List Value} (h : w.ownsRow base e size v n xs) (hs : Save S w w') (hS : ∀ k, S k → k < base ∨ w.heap.size ≤ k) : w'.ownsRow base e size v n xs := by
  obtain ⟨h1, h2⟩ := h
  refine ⟨h1, ?_⟩
  rcases h2 with h2 | ⟨g, cap, cur, hv, hg, hh, r⟩
  · exact .inl h2
  · refine .inr ⟨g, cap, cur, hv, hg, ?_, r⟩
    have hlt := (Array.getElem?_eq_some_iff.1 hh).1
    rw [hs.block g hlt (fun hk => by have := hS g hk; omega)]
    exact hh

theorem news_one (w : World) (u : Value) (t : TypeId) : ∀ (j : Nat) (x : Value), [u][j]? = some x → (w.alloc (.cells #[u] t)).cell? ((⟨w.heap.size, 0, none⟩ : Addr).add j) = some x := by
  intro j x h
  cases j with
  | zero =>
    simp only [List.getElem?_cons_zero, Option.some.injEq] at h
    subst h
    have e : (⟨w.heap.size, 0, none⟩ : Addr).add 0 = ⟨w.heap.size, 0, none⟩ := rfl
    rw [e, World.cell?]
    rw [show (w.alloc (.cells #[u] t)).heap[w.heap.size]? = some (.cells #[u] t) from Array.getElem?_push_size ..]
    rfl
  | succ j => simp at h

theorem news_two (w : World) (u v : Value) (t : TypeId) : ∀ (j : Nat) (x : Value), [u, v][j]? = some x → (w.alloc (.cells #[u, v] t)).cell? ((⟨w.heap.size, 0, none⟩ : Addr).add j) = some x := by
  intro j x h
  have hh : (w.alloc (.cells #[u, v] t)).heap[w.heap.size]? = some (.cells #[u, v] t) := Array.getElem?_push_size ..
  match j with
  | 0 =>
    simp only [List.getElem?_cons_zero, Option.some.injEq] at h
    subst h
    show (w.alloc (.cells #[u, v] t)).cell? ⟨w.heap.size, 0, none⟩ = _
    rw [World.cell?]; rw [hh]; rfl
  | 1 =>
    simp only [List.getElem?_cons_succ, List.getElem?_cons_zero, Option.some.injEq] at h
    subst h
    show (w.alloc (.cells #[u, v] t)).cell? ⟨w.heap.size, 1, none⟩ = _
    rw [World.cell?]; rw [hh]; rfl
  | j + 2 => simp at h

/-- A world in which only orders were drawn. -/
def Drew (w w' : World) : Prop := ∃ n, w.drewN n = w'
theorem Drew.refl (w : World) : Drew w w := ⟨0, rfl⟩
theorem Drew.two (w : World) (n m : Nat) : Drew w ((w.drewN n).drewN m) := ⟨n + m, by simp [World.drewN, Nat.add_assoc]⟩

theorem lt_of_get {w : World} {b : Nat} {o : Obj} (hb : w.heap[b]? = some o) : b < w.heap.size := (Array.getElem?_eq_some_iff.1 hb).1
theorem get_alloc (w : World) (o : Obj) : (w.alloc o).heap[w.heap.size]? = some o := Array.getElem?_push_size ..
theorem get_drewN {w : World} {b : Nat} {o : Obj} {n : Nat} (hb : w.heap[b]? = some o) : (w.drewN n).heap[b]? = some o := hb
theorem below_drewN {B : Nat} {a w : World} (h : Below B a w) (n : Nat) : Below B a (w.drewN n) := h.trans ⟨rfl, rfl, rfl, Nat.le_refl _, fun _ _ => rfl⟩
theorem cell_alloc_old {w : World} {a : Addr} {v : Value} (o' : Obj) (h : w.cell? a = some v) : (w.alloc o').cell? a = some v := by
  have hlt : a.block < w.heap.size := by
    by_cases hb : a.block < w.heap.size
    · exact hb
    · simp only [World.cell?] at h
      rw [Array.getElem?_eq_none (by omega)] at h
      cases h
  rw [World.cell?_of_block (w := w) (Below.heap_alloc _ _ _ hlt)]; exact h
theorem get_alloc_old {w : World} {b : Nat} {o : Obj} (o' : Obj) (hb : w.heap[b]? = some o) : (w.alloc o').heap[b]? = some o := by
  rw [Below.heap_alloc _ _ _ (lt_of_get hb)]; exact hb
theorem block_stays {w w' : World} {b : Nat} {o : Obj} (hb : Below w.heap.size w w') (h : w.heap[b]? = some o) : w'.heap[b]? = some o := by
  rw [hb.block b (lt_of_get h)]; exact h
theorem get_set {w : World} {b i : Nat} {cs : Array Value} {t : TypeId} {fr : Nat × Nat} (v : Value) (hb : w.heap[b]? = some (.cells cs t fr)) : (w.setCell ⟨b, i, none⟩ v).heap[b]? = some (.cells (cs.setIfInBounds i v) t fr) := by
  simp [World.setCell, Array.getElem?_modify, hb]
theorem get_set_other {w : World} {b : Nat} {p : Addr} {o : Obj} (v : Value) (hb : w.heap[b]? = some o) (hne : b ≠ p.block) : (w.setCell p v).heap[b]? = some o := by
  rw [Below.heap_setCell _ _ _ _ hne]; exact hb
theorem cell_get {w : World} {b : Nat} {cs : Array Value} {t : TypeId} {fr : Nat × Nat} (hb : w.heap[b]? = some (.cells cs t fr)) (i : Nat) : w.cell? ⟨b, i, none⟩ = cs[i]? := by
  simp [World.cell?, hb]
theorem free_get {w : World} {b : Nat} {cs : Array Value} {t : TypeId} (hb : w.heap[b]? = some (.cells cs t)) (i : Nat) : w.frozen? ⟨b, i, none⟩ = false := by
  simp [World.frozen?, hb]

section
variable {P : Program} (w : World)
theorem run_equalIn_code (d : Nat) {ti tn : TypeId} {ms : Array (String × TypeId)} {i : TypeInfo} {k : IntKind} (a b : Int)
    (hi : P.underlying ti = some (.interface ms)) (hn : P.underlying tn = some (.int k)) (hinfo : P.info? tn = some i) (hcomp : i.comparable = true) :
    (Op.equalIn (d + 2) ti (.iface tn (.int k a)) (.iface tn (.int k b))).run P w = .ok (a == b) w := by
  simp [Op.equalIn, run_underlying hi, run_underlying hn, typeInfo, hinfo, hcomp]
theorem run_equalIn_slice_none (d : Nat) {t e : TypeId} (a : Option Addr) (l c : Nat) (h : P.underlying t = some (.slice e)) : (Op.equalIn (d + 1) t (.slice a l c) (.slice none 0 0)).run P w = .ok a.isNone w := by
  cases a <;> simp [Op.equalIn, run_underlying h]
/-- A slice against nil. -/
theorem run_eql_slice_none {t e : TypeId} (a : Option Addr) (l c : Nat) (h : P.underlying t = some (.slice e)) : (binOp .eql t (.slice a l c) (.slice none 0 0)).run P w = .ok (.bool a.isNone) w := by
  simp only [binOp]
  simp [Op.equal, Op.maxDepth, run_equalIn_slice_none w 9999 a l c h]
/-- Two errors of one type over an integer: as the numbers are. -/
theorem run_eql_code {ti tn : TypeId} {ms : Array (String × TypeId)} {i : TypeInfo} {k : IntKind} (a b : Int)
    (hi : P.underlying ti = some (.interface ms)) (hn : P.underlying tn = some (.int k)) (hinfo : P.info? tn = some i) (hcomp : i.comparable = true) :
    (binOp .eql ti (.iface tn (.int k a)) (.iface tn (.int k b))).run P w = .ok (.bool (a == b)) w := by
  simp only [binOp]
  simp [Op.equal, Op.maxDepth, run_equalIn_code w 9998 a b hi hn hinfo hcomp]
theorem run_neq_code {ti tn : TypeId} {ms : Array (String × TypeId)} {i : TypeInfo} {k : IntKind} (a b : Int)
    (hi : P.underlying ti = some (.interface ms)) (hn : P.underlying tn = some (.int k)) (hinfo : P.info? tn = some i) (hcomp : i.comparable = true) :
    (binOp .neq ti (.iface tn (.int k a)) (.iface tn (.int k b))).run P w = .ok (.bool (a != b)) w := by
  simp only [binOp]
  simp [Op.equal, Op.maxDepth, run_equalIn_code w 9998 a b hi hn hinfo hcomp, bne]
/-- No error against one. -/
theorem run_equalIn_nil_code (d : Nat) {ti tn : TypeId} {ms : Array (String × TypeId)} {v : Value} (hi : P.underlying ti = some (.interface ms)) :
    (Op.equalIn (d + 1) ti .nilIface (.iface tn v)).run P w = .ok false w := by
  simp [Op.equalIn, run_underlying hi]
theorem run_eql_nil_code {ti tn : TypeId} {ms : Array (String × TypeId)} {v : Value} (hi : P.underlying ti = some (.interface ms)) :
    (binOp .eql ti .nilIface (.iface tn v)).run P w = .ok (.bool false) w := by
  simp only [binOp]
  simp [Op.equal, Op.maxDepth, run_equalIn_nil_code w 9999 hi]
theorem run_neq_nil_code {ti tn : TypeId} {ms : Array (String × TypeId)} {v : Value} (hi : P.underlying ti = some (.interface ms)) :
    (binOp .neq ti .nilIface (.iface tn v)).run P w = .ok (.bool true) w := by
  simp only [binOp]
  simp [Op.equal, Op.maxDepth, run_equalIn_nil_code w 9999 hi]
end

end Go.Proofs.Ytdlhleegfmnjjaa.Save
