/- The functions of layer 7 (deadlines) as they are called. Conditions: the numbers' kinds. -/
import Derived.Test.YtkijhdkeaddchaaProg
import Derived.Test.YtkijhdkeaddchaaSave
import Derived.Maps.OwnSet
import Derived.Maps.OwnOps
import Derived.Maps.Views
import Derived.WalkSpells
import Derived.Lib.MinMax
namespace Go.Proofs.Ytkijhdkeaddchaa.Timer
open Go.RowKit Go.Maps Argin Save
set_option linter.unusedVariables false
set_option linter.unusedSimpArgs false

theorem keyed : Keyed Try.prog 3 := int_keyed Try.underlying3
theorem zeroU (w : World) : (zeroValue 32).run Try.prog w = .ok (.int .u64 0) w := by kernel_rfl

abbrev kl (k : Int) : Lit := .int .i64 k
def KIn (k : Int) : Prop := -9223372036854775808 ≤ k ∧ k < 9223372036854775808
def VIn (v : Int) : Prop := 0 ≤ v ∧ v < 18446744073709551616
theorem kl_wf {k : Int} (h : KIn k) : (kl k).wf = true := by
  have hmin : IntKind.i64.min = -9223372036854775808 := rfl
  have hmax : IntKind.i64.max = 9223372036854775807 := rfl
  unfold KIn at h
  simp only [kl, Lit.wf, Bool.and_eq_true, decide_eq_true_eq]; omega
theorem v_wf {v : Int} (h : VIn v) : (Lit.int .u64 v).wf = true := by
  have hmin : IntKind.u64.min = 0 := rfl
  have hmax : IntKind.u64.max = 18446744073709551615 := rfl
  unfold VIn at h
  simp only [Lit.wf, Bool.and_eq_true, decide_eq_true_eq]; omega
theorem kl_ne {a b : Int} (h : a ≠ b) : kl a ≠ kl b := by intro e; cases e; exact h rfl

def more (o : Option Int) (c : Nat) : Nat := if o.isSome then c else c + 1
def less (o : Option Int) (c : Nat) : Nat := if o.isSome then c - 1 else c
/-- What a map of deadlines holds. -/
structure Holds (D : DataW Unit) (f : Int → Option Int) (c : Nat) : Prop where
  tidy : Tidy D
  has : ∀ k, Maps.has D (kl k) = (f k).isSome
  at' : ∀ k v, f k = some v → D.atKey (kl k) (.lit (.int .u64 0)) = .lit (.int .u64 v)
  size : Maps.size D = c

def put (f : Int → Option Int) (k : Int) (v : Option Int) : Int → Option Int := fun x => if x = k then v else f x
theorem put_same (f : Int → Option Int) (k : Int) (v : Option Int) : put f k v k = v := if_pos rfl
theorem put_other (f : Int → Option Int) {k x : Int} (v : Option Int) (h : x ≠ k) : put f k v x = f x := if_neg h

theorem Holds.empty : Holds (.map []) (fun _ => none) 0 := ⟨tidy_empty, fun k => rfl, (fun k v h => by cases h), rfl⟩
theorem Holds.put {D : DataW Unit} {f : Int → Option Int} {c : Nat} (h : Holds D f c) {k : Int} (hk : WideAt.IsKeyLit (kl k)) (v : Int) : Holds (D.put (kl k) (.lit (.int .u64 v))) (Timer.put f k (some v)) (more (f k) c) := by
  refine ⟨h.tidy.put hk _, fun x => ?_, fun x u hx => ?_, ?_⟩
  · by_cases e : x = k
    · subst e; rw [put_same, has_put_same h.tidy.isMap hk]; rfl
    · rw [put_other _ _ e, has_put_other (kl_ne e)]; exact h.has x
  · by_cases e : x = k
    · subst e; rw [put_same] at hx; cases hx; exact atKey_put_same h.tidy.isMap hk _ _
    · rw [put_other _ _ e] at hx; rw [atKey_put_other (kl_ne e)]; exact h.at' x u hx
  · rw [size_put h.tidy, h.has, h.size]; rfl
theorem Holds.del {D : DataW Unit} {f : Int → Option Int} {c : Nat} (h : Holds D f c) (k : Int) : Holds (D.del (kl k)) (Timer.put f k none) (less (f k) c) := by
  refine ⟨h.tidy.del _, fun x => ?_, fun x u hx => ?_, ?_⟩
  · by_cases e : x = k
    · subst e; rw [put_same, has_del_same]; rfl
    · rw [put_other _ _ e, has_del_other (kl_ne e)]; exact h.has x
  · by_cases e : x = k
    · subst e; rw [put_same] at hx; cases hx
    · rw [put_other _ _ e] at hx; rw [atKey_del_other (kl_ne e)]; exact h.at' x u hx
  · have := size_del h.tidy (k := kl k)
    rw [h.has, h.size] at this
    unfold less
    by_cases e : (f k).isSome = true
    · rw [if_pos e] at this ⊢; omega
    · rw [if_neg e] at this ⊢; omega

/-- Deadlines in memory: pointer p, map b, of at most n entries. -/
def Qu (w : World) (p b n : Nat) (f : Int → Option Int) (c : Nat) : Prop :=
  w.heap[p]? = some (.cells #[.map (some b)] 140) ∧ p ≠ b ∧ ∃ D, w.ownsMap Try.prog 3 (plainElem Try.prog 32) b n D ∧ Holds D f c

theorem new_any (w : World) : Calls Try.prog 26 #[] w fun e w' => ∃ p b, e = .returned (.pointer (some ⟨p, 0, none⟩)) ∧ Qu w' p b 0 (fun _ => none) 0 ∧ w.heap.size ≤ p ∧ w.heap.size ≤ b ∧ Below w.heap.size w w' := by
  have hmm := @run_makeMap Try.prog
  go_enter Try.func26, Try.ntmps26
  go_wp2
  go_ret
  refine ⟨_, w.heap.size, rfl, ⟨?_, by simp, .map [], ?_, Holds.empty⟩, by simp, Nat.le_refl _, ((Below.refl _ _).alloc (Nat.le_refl _) _).alloc (by simp) _⟩
  · have := get_alloc (w.alloc (.map #[] 0)) (.cells #[.map (some w.heap.size)] 140)
    simpa using this
  · exact (World.ownsMap_made w Try.prog 3 (plainElem Try.prog 32)).alloc _

theorem len_any (p b n c : Nat) (f : Int → Option Int) (w : World) (h : Qu w p b n f c) :
    Calls Try.prog 28 #[.pointer (some ⟨p, 0, none⟩)] w fun e w' => e = .returned (.int .i64 c) ∧ w = w' := by
  obtain ⟨hp, hpb, D, hd, hh⟩ := h
  have HPB := Lib.hid hpb
  have k0 := cell_get hp 0
  have HD := Lib.hid hd
  have HC := Lib.hid hh.size
  clear hp hpb hd hh
  go_enter Try.func28, Try.ntmps28
  go_wp2_with (at_len; refine wpList_len_own _ rfl _ 138 rfl 3 32 Try.underlying138 _ b n D rfl HD.out ?_)
  go_ret
  exact ⟨ret_int (by rw [HC.out]), rfl⟩

theorem at_any (p b n c : Nat) (f : Int → Option Int) (k : Int) (w : World) (h : Qu w p b n f c) (hk : KIn k) :
    Calls Try.prog 29 #[.pointer (some ⟨p, 0, none⟩), .int .i64 k] w fun e w' => e = .returned (.tuple #[.int .u64 ((f k).getD 0), .bool (f k).isSome]) ∧ w = w' := by
  obtain ⟨hp, hpb, D, hd, hh⟩ := h
  have HPB := Lib.hid hpb
  have k0 := cell_get hp 0
  have HD := Lib.hid hd
  have HH := Lib.hid hh
  have HK := Lib.hid (keyOf_int_mk (P := Try.prog) Try.underlying3 (kl_wf hk))
  clear hp hpb hd hh
  go_enter Try.func29, Try.ntmps29
  go_wp2_with (at_lookup; refine wpList_lookup_own_ok_int _ rfl _ _ 138 rfl 3 32 .u64 keyed Try.underlying138 Try.underlying32 (zeroU _) b n D rfl HD.out _ _ rfl HK.out ?_; intro v hat hwv; have HA := Lib.hid hat; clear hat hwv)
  go_ret2
  refine ⟨?_, rfl⟩
  rw [HH.out.has]
  cases hf : f k with
  | none =>
    have := atKey_of_not_has (D := D) (k := kl k) (by rw [HH.out.has, hf]; rfl) (.lit (.int .u64 0))
    rw [HA.out] at this
    cases this
    rfl
  | some u =>
    have := HH.out.at' k u hf
    rw [HA.out] at this
    cases this
    rfl

theorem keyLit' (k : Int) : WideAt.IsKeyLit (kl k) := trivial
theorem keyLit (k : Int) (h : KIn k) : WideAt.IsKeyLit (kl k) := by
  trivial

set_option maxRecDepth 100000 in
theorem arm_any (p b n c : Nat) (f : Int → Option Int) (k v : Int) (w : World) (h : Qu w p b n f c) (hk : KIn k) (hv : VIn v) (hn : n < 1000) :
    Calls Try.prog 27 #[.pointer (some ⟨p, 0, none⟩), .int .i64 k, .int .u64 v] w fun e w' => e = .returned (.tuple #[]) ∧ Qu w' p b (n + 1) (put f k (some v)) (more (f k) c) ∧ Save (· = b) w w' := by
  obtain ⟨hp, hpb, D, hd, hh⟩ := h
  have HPB := Lib.hid hpb
  have k0 := cell_get hp 0
  have HP := Lib.hid hp
  have HD := Lib.hid hd
  have HH := Lib.hid hh
  have HK := Lib.hid (keyOf_int_mk (P := Try.prog) Try.underlying3 (kl_wf hk))
  have HKL := Lib.hid (keyLit k hk)
  have HN := Lib.hid (show n < maxLen by unfold maxLen; omega)
  have HV := Lib.hid (plainElem_int (H := Unit) (P := Try.prog) Try.underlying32 (v_wf hv))
  clear hp hpb hd hh
  go_enter Try.func27, Try.ntmps27
  go_wp2_with (at_mapUpdate; refine wpList_mapUpdate_in _ rfl _ _ _ 138 rfl 3 32 keyed Try.underlying138 _ b n D rfl HD.out HN.out _ _ _ rfl rfl HK.out _ [] HV.out ?_; intro w1 hown1 hturn1; have HO := Lib.hid hown1; have HT := Lib.hid hturn1; clear hown1 hturn1)
  go_end0
  refine ⟨rfl, ⟨?_, HPB.out, _, HO.out, HH.out.put HKL.out v⟩, Save.of_grown HT.out.grown (fun k e => by cases e; rfl)⟩
  rw [HT.out.grown.block p (lt_of_get HP.out) (by simp; exact HPB.out)]
  exact HP.out
set_option maxRecDepth 100000 in
theorem cancel_any (p b n c : Nat) (f : Int → Option Int) (k : Int) (w : World) (h : Qu w p b n f c) (hk : KIn k) :
    Calls Try.prog 32 #[.pointer (some ⟨p, 0, none⟩), .int .i64 k] w fun e w' => e = .returned (.bool (f k).isSome) ∧ Qu w' p b n (put f k none) (less (f k) c) ∧ Save (fun x => x = b ∨ w.heap.size ≤ x) w w' := by
  obtain ⟨hp, hpb, D, hd, hh⟩ := h
  have HPB := Lib.hid hpb
  have k0 := cell_get hp 0
  have HP := Lib.hid hp
  have HD := Lib.hid hd
  have HH := Lib.hid hh
  have HK := Lib.hid (keyOf_int_mk (P := Try.prog) Try.underlying3 (kl_wf hk))
  clear hp hpb hd hh
  go_enter Try.func32, Try.ntmps32
  go_wp2_with (first
    | (at_lookup; refine wpList_lookup_own_ok_int _ rfl _ _ 138 rfl 3 32 .u64 keyed Try.underlying138 Try.underlying32 (zeroU _) b n D rfl HD.out _ _ rfl HK.out ?_; intro v hat hwv; clear hat hwv)
    | (at_delete; refine wpList_delete_own _ rfl _ _ 138 3 rfl 32 keyed Try.underlying138 _ b n D rfl HD.out _ _ rfl HK.out ?_; intro w1 hown1 hturn1; have HO := Lib.hid hown1; have HT := Lib.hid hturn1; clear hown1 hturn1))
  go_ret
  refine ⟨ret_bool (HH.out.has k), ⟨?_, HPB.out, _, HO.out, HH.out.del k⟩, Save.of_grown HT.out.grown (fun k e => by cases e; exact .inl rfl)⟩
  rw [HT.out.grown.block p (lt_of_get HP.out) (by simp; exact HPB.out)]
  exact HP.out

/-- The least of those that are due: by deadline, then by identity. -/
def Least (f : Int → Option Int) (now : Int) (S : Int → Prop) (k v : Int) : Prop := S k ∧ f k = some v ∧ v ≤ now ∧ ∀ k' v', S k' → f k' = some v' → v' ≤ now → v < v' ∨ (v = v' ∧ k ≤ k')
theorem Least.one {f : Int → Option Int} {now : Int} {S : Int → Prop} {k v k' v' : Int} (h : Least f now S k v) (h' : Least f now S k' v') : k = k' ∧ v = v' := by
  obtain ⟨a, b, c, d⟩ := h
  obtain ⟨a', b', c', d'⟩ := h'
  have := d k' v' a' b' c'
  have := d' k v a b c
  omega
end Go.Proofs.Ytkijhdkeaddchaa.Timer
