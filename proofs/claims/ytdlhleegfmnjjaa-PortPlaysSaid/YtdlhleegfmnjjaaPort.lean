/- The functions of layer 12 (ports) as they are called. Conditions: the numbers' kinds. -/
import Derived.Test.YtdlhleegfmnjjaaProg
import Derived.Test.YtdlhleegfmnjjaaSave
import Derived.Lib.MinMax
import Derived.WalkSpells
import Derived.Deep.QuietTactic
import Derived.BigQuiet
import Derived.StillTailTactics
import Derived.BigRegion
import Derived.Deep.DeepCutAuto
import Derived.Deep.CutBlock
namespace Go.Proofs.Ytdlhleegfmnjjaa.Port
open Go.RowKit Argin Save
set_option linter.unusedVariables false
set_option linter.unusedSimpArgs false

/-- Ports in memory. -/
abbrev Pt (low many nx : Int) : Obj := .cells #[.int .i64 low, .int .i64 many, .int .i64 nx] 86

theorem pt_cells {w : World} {b : Nat} {l m n : Int} (h : w.heap[b]? = some (Pt l m n)) :
    (w.cell? ⟨b, 0, none⟩ = some (.int .i64 l) ∧ w.cell? ⟨b, 1, none⟩ = some (.int .i64 m) ∧ w.cell? ⟨b, 2, none⟩ = some (.int .i64 n)) ∧ w.frozen? ⟨b, 2, none⟩ = false :=
  ⟨⟨cell_get h 0, cell_get h 1, cell_get h 2⟩, free_get h 2⟩

abbrev code (n : Int) : Value := .iface 38 (.int .i64 n)

def Bad (l m : Int) : Prop := l < 1 ∨ 65535 < l ∨ m < 1 ∨ 64 < m ∨ 65536 < l + m

theorem new_no (l m : Int) (w : World) (hl : -9223372036854775808 ≤ l ∧ l < 9223372036854775808) (hm : -9223372036854775808 ≤ m ∧ m < 9223372036854775808) (h : Bad l m) :
    Calls Try.prog 28 #[.int .i64 l, .int .i64 m] w fun e w' => e = .returned (.tuple #[.pointer none, code 1]) ∧ w = w' := by
  unfold Bad at h
  by_cases c0 : l < 1
  rotate_left
  by_cases c1 : 65535 < l
  rotate_left
  by_cases c2 : m < 1
  rotate_left
  by_cases c3 : 64 < m
  rotate_left
  have c4 : 65536 < l + m := by omega
  all_goals
    clear h
    go_enter Try.func28, Try.ntmps28
    go_wp2
    go_ret2
    exact ⟨rfl, rfl⟩

theorem new_ok (l m : Int) (w : World) (h : ¬ Bad l m) :
    Calls Try.prog 28 #[.int .i64 l, .int .i64 m] w fun e w' => e = .returned (.tuple #[.pointer (some ⟨w.heap.size, 0, none⟩), .nilIface]) ∧ w'.heap[w.heap.size]? = some (Pt l m 0) ∧ Below w.heap.size w w' := by
  unfold Bad at h
  have h0 : ¬ l < 1 := by omega
  have h1 : ¬ 65535 < l := by omega
  have h2 : ¬ m < 1 := by omega
  have h3 : ¬ 64 < m := by omega
  have h4 : ¬ 65536 < l + m := by omega
  clear h
  go_enter Try.func28, Try.ntmps28
  go_wp2
  go_ret2
  exact ⟨rfl, get_alloc _ _, (Below.refl _ _).alloc (Nat.le_refl _) _⟩

/-- The turns of so many ports: the first that is free, and where the next turn begins. -/
def turns (fr : Int → Bool) (low many : Int) : Nat → Int → Option Int × Int
  | 0, nx => (none, nx)
  | k + 1, nx => if fr (low + nx) = true then (some (low + nx), (nx + 1) % many) else turns fr low many k ((nx + 1) % many)

def told : Option Int → Value
  | none => .tuple #[.int .u16 0, code 6]
  | some x => .tuple #[.int .u16 x, .nilIface]

section
variable {P : Program} (w : World)
theorem run_equalIn_nilFunc (d : Nat) {t : TypeId} {a b c} (h : P.underlying t = some (.func a b c)) : (Op.equalIn (d + 1) t .nilFunc .nilFunc).run P w = .ok true w := by simp [Op.equalIn, run_underlying h]
theorem run_equalIn_func_nil (d : Nat) {t : TypeId} {a b c} {f : Fn} {x y : Array Value} (h : P.underlying t = some (.func a b c)) : (Op.equalIn (d + 1) t (.func f x y) .nilFunc).run P w = .ok false w := by simp [Op.equalIn, run_underlying h]
theorem run_eql_nilFunc {t : TypeId} {a b c} (h : P.underlying t = some (.func a b c)) : (binOp .eql t .nilFunc .nilFunc).run P w = .ok (.bool true) w := by
  simp only [binOp]
  simp [Op.equal, Op.maxDepth, run_equalIn_nilFunc w 9999 h]
theorem run_eql_func_nil {t : TypeId} {a b c} {f : Fn} {x y : Array Value} (h : P.underlying t = some (.func a b c)) : (binOp .eql t (.func f x y) .nilFunc).run P w = .ok (.bool false) w := by
  simp only [binOp]
  simp [Op.equal, Op.maxDepth, run_equalIn_func_nil w 9999 h]
end

theorem next_nil (a : Value) (w : World) :
    Calls Try.prog 30 #[a, .nilFunc] w fun e w' => e = .returned (.tuple #[.int .u16 0, code 1]) ∧ w = w' := by
  have he := fun (w : World) => run_eql_nilFunc (P := Try.prog) w Try.underlying51
  go_enter Try.func30, Try.ntmps30
  go_wp2
  go_ret2
  exact ⟨rfl, rfl⟩

set_option maxHeartbeats 1000000 in
theorem next_any (b fn : Nat) (cs : Array Value) (l m nx : Int) (fr : Int → Bool) (w : World) (h : w.heap[b]? = some (Pt l m nx)) (hb : 1 ≤ l ∧ 1 ≤ m ∧ m ≤ 64 ∧ l + m ≤ 65536) (hn : 0 ≤ nx ∧ nx < m)
    (hcf : ∀ (args : Array Value) (w : World), Sem.run Try.prog (callFunc fn args) w = .ok (.enter fn args) w)
    (hf : ∀ (x : Int) (w1 : World), 0 ≤ x → x < 65536 → Save (· = b) w w1 → Calls Try.prog fn (#[.int .u16 x] ++ cs) w1 fun e w' => e = .returned (.bool (fr x)) ∧ Drew w1 w') :
    Calls Try.prog 30 #[.pointer (some ⟨b, 0, none⟩), .func (.func fn) #[] cs] w fun e w' => e = .returned (told (turns fr l m m.toNat nx).1) ∧ w'.heap[b]? = some (Pt l m (turns fr l m m.toNat nx).2) ∧ Save (· = b) w w' := by
  obtain ⟨⟨k0, k1, k2⟩, f2⟩ := pt_cells h
  have H := Lib.hid h
  have HF := Lib.hid hf
  have he := fun (w : World) (f : Fn) (x y : Array Value) => run_eql_func_nil (P := Try.prog) w (f := f) (x := x) (y := y) Try.underlying51
  clear h hf
  go_enter Try.func30, Try.ntmps30
  go_wp2_with fail
  go_loopw [14] (fun sk wx => ∃ (k : Nat) (n : Int), k ≤ m.toNat ∧ sk = .int .i64 k ∧ 0 ≤ n ∧ n < m ∧ turns fr l m m.toNat nx = turns fr l m (m.toNat - k) n ∧ wx.heap[b]? = some (Pt l m n) ∧ Save (· = b) w wx) (fun k _ => m.toNat - (intOf k).toNat)
  case atStart => exact ⟨0, nx, by omega, rfl, hn.1, hn.2, rfl, H.out, Save.refl _ _⟩
  case round =>
    obtain ⟨k, n, hk, rfl, hn0, hn1, ht, hh, hs⟩ := hrel
    clear k0 k1 k2 f2
    obtain ⟨⟨k0, k1, k2⟩, f2⟩ := pt_cells hh
    have HH := Lib.hid hh
    have HS := Lib.hid hs
    have HT := Lib.hid ht
    clear hh hs ht
    by_cases hlt : (k : Int) < m
    · go_wp2_with fail
      go_quiet (fail)
      go_wp2_with fail
      have HH' := Lib.hid (get_drewN (n := nq) HH.out)
      have HS' := Lib.hid (HS.out.drewN nq)
      clear k0 k1 k2 f2 HH HS
      generalize World.drewN wr nq = wq at HH' HS' ⊢
      obtain ⟨⟨k0, k1, k2⟩, f2⟩ := pt_cells HH'.out
      have m0 : ¬ m = 0 := by omega
      have hw1 : IntKind.i64.wrap (n + 1) = n + 1 := Argin.i64_in _ (by omega)
      have hw2 : (n + 1).tmod m = (n + 1) % m := Int.tmod_eq_emod_of_nonneg (by omega)
      go_still_tail 13, (by kernel_rfl)
      clear m0 hw1 hw2
      go_wp2_with fail
      have hx : 0 ≤ (n + 1) % m ∧ (n + 1) % m < m := ⟨Int.emod_nonneg _ (by omega), Int.emod_lt_of_pos _ (by omega)⟩
      refine (HF.out (l + n) _ (by omega) (by omega) (HS'.out.set b 2 rfl _).drew).mono ?_
      rintro e w2 ⟨rfl, nd, rfl⟩
      have hh2 := get_drewN (n := nd) (get_set (i := 2) (.int .i64 ((n + 1) % m)) HH'.out)
      have HH2 := Lib.hid (show ((wq.setCell ⟨b, 2, none⟩ (.int .i64 ((n + 1) % m))).drew.drewN nd).heap[b]? = some (Pt l m ((n + 1) % m)) from hh2)
      have HS2 := Lib.hid (HS'.out.set b 2 rfl (.int .i64 ((n + 1) % m)))
      clear hh2
      have hk1 : m.toNat - k = m.toNat - (k + 1) + 1 := by omega
      have ht := HT.out
      rw [hk1, turns] at ht
      cases hq : fr (l + n)
      · rw [if_neg (by simp [hq])] at ht
        have HT2 := Lib.hid ht
        clear ht hk1
        go_wp2_with fail
        go_roundw
        case rel => exact ⟨k + 1, _, by omega, by go_num, hx.1, hx.2, HT2.out, HH2.out, HS2.out.drewN _⟩
        case measure => simp [intOf]; omega
      · rw [if_pos hq] at ht
        have HT2 := Lib.hid ht
        clear ht hk1
        go_wp2_with fail
        go_ret2
        rw [HT2.out]
        exact ⟨rfl, HH2.out, HS2.out.drewN _⟩
    · have ht := HT.out
      rw [show m.toNat - k = 0 from by omega, turns] at ht
      have HT2 := Lib.hid ht
      clear ht
      go_wp2_with fail
      go_ret2
      rw [HT2.out]
      exact ⟨rfl, HH.out, HS.out⟩

end Go.Proofs.Ytdlhleegfmnjjaa.Port
