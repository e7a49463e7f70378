/- The functions of layer 12's laws as they are called. Conditions: the numbers' kinds. -/
import Derived.Test.YtdlhleegfmnjjaaPort
import Derived.WideLaws
namespace Go.Proofs.Ytdlhleegfmnjjaa.Port
open Go.RowKit Argin Save
set_option linter.unusedVariables false
set_option linter.unusedSimpArgs false

theorem code_info : ∃ i, Try.prog.info? 38 = some i ∧ i.comparable = true := ⟨_, rfl, by kernel_rfl⟩

theorem hcf0 (args : Array Value) (w : World) : Sem.run Try.prog (callFunc 53 args) w = .ok (.enter 53 args) w := by simp [callFunc, Try.func53]; rfl
theorem say0 (x : Int) (w : World) : Calls Try.prog 53 #[.int .u16 x] w fun e w' => e = .returned (.bool true) ∧ Drew w w' := by
  go_enter Try.func53, Try.ntmps53
  go_wp2
  go_ret
  exact ⟨rfl, Drew.refl _⟩

theorem hcf1 (args : Array Value) (w : World) : Sem.run Try.prog (callFunc 54 args) w = .ok (.enter 54 args) w := by simp [callFunc, Try.func54]; rfl
theorem say1 (x : Int) (w : World) : Calls Try.prog 54 #[.int .u16 x] w fun e w' => e = .returned (.bool false) ∧ Drew w w' := by
  go_enter Try.func54, Try.ntmps54
  go_wp2
  go_ret
  exact ⟨rfl, Drew.refl _⟩

theorem hcf2 (args : Array Value) (w : World) : Sem.run Try.prog (callFunc 55 args) w = .ok (.enter 55 args) w := by simp [callFunc, Try.func55]; rfl
theorem say2 (x : Int) (w : World) : Calls Try.prog 55 #[.int .u16 x] w fun e w' => e = .returned (.bool true) ∧ Drew w w' := by
  go_enter Try.func55, Try.ntmps55
  go_wp2
  go_ret
  exact ⟨rfl, Drew.refl _⟩

theorem hcf3 (args : Array Value) (w : World) : Sem.run Try.prog (callFunc 31 args) w = .ok (.enter 31 args) w := by simp [callFunc, Try.func31]; rfl
theorem say3 (x : Int) (w : World) : Calls Try.prog 31 #[.int .u16 x] w fun e w' => e = .returned (.bool true) ∧ Drew w w' := by
  go_enter Try.func31, Try.ntmps31
  go_wp2
  go_ret
  exact ⟨rfl, Drew.refl _⟩

theorem hcf4 (args : Array Value) (w : World) : Sem.run Try.prog (callFunc 32 args) w = .ok (.enter 32 args) w := by simp [callFunc, Try.func32]; rfl
theorem say4 (x l o : Int) (b c : Nat) (w : World) (hb : w.cell? ⟨b, 0, none⟩ = some (.int .i64 l)) (hc : w.cell? ⟨c, 0, none⟩ = some (.int .i64 o)) (hx : 0 ≤ x ∧ x < 65536) (hl : 0 ≤ l ∧ l ≤ 65536) (ho : 0 ≤ o ∧ o ≤ 65536) :
    Calls Try.prog 32 #[.int .u16 x, .pointer (some ⟨b, 0, none⟩), .pointer (some ⟨c, 0, none⟩)] w fun e w' => e = .returned (.bool (x == l + o)) ∧ Drew w w' := by
  go_enter Try.func32, Try.ntmps32
  go_wp2
  go_ret
  exact ⟨rfl, Drew.refl _⟩

set_option maxHeartbeats 1000000 in
theorem up_any (w : World) : Calls Try.prog 27 #[] w fun e w' => e = .returned (.bool true) ∧ Below w.heap.size w w' := by
  obtain ⟨ic, hic, hcc⟩ := code_info
  have hr := fun (w : World) (a b : Int) => run_eql_code (P := Try.prog) w a b Try.underlying31 Try.underlying38 hic hcc
  have t0 : turns (fun _ => true) 10 2 (2 : Int).toNat 0 = (some 10, 1) := by rfl
  have t1 : turns (fun _ => false) 10 2 (2 : Int).toNat 1 = (none, 1) := by rfl
  have t2 : turns (fun _ => true) 10 2 (2 : Int).toNat 1 = (some 11, 0) := by rfl
  have T0 := Lib.hid t0
  have T1 := Lib.hid t1
  have T2 := Lib.hid t2
  clear t0 t1 t2
  go_enter Try.func27, Try.ntmps27
  go_wp2_with fail
  refine (new_ok 10 2 _ (by unfold Bad; omega)).mono ?_
  rintro e w1 ⟨rfl, hl, hb⟩
  have HL := Lib.hid hl
  have HB := Lib.hid hb
  clear hl hb
  go_wp2_with fail
  refine (new_no 0 1 _ (by omega) (by omega) (by unfold Bad; omega)).mono ?_
  rintro e w2 ⟨rfl, rfl⟩
  go_wp2_with fail
  refine (next_any _ _ _ _ _ _ (fun _ => true) _ HL.out (by omega) (by omega) hcf0 (fun x w1 _ _ _ => by rw [Array.append_empty]; exact say0 x w1)).mono ?_
  rintro e w3 ⟨rfl, hl, hs⟩
  rw [T0.out] at hl ⊢
  have HL2 := Lib.hid hl
  have HB2 := Lib.hid (HB.out.trans (hs.below (fun k _ e => by omega) HB.out.size))
  clear hl hs HL HB T0
  simp only [told]
  go_wp2_with fail
  refine (next_any _ _ _ _ _ _ (fun _ => false) _ HL2.out (by omega) (by omega) hcf1 (fun x w1 _ _ _ => by rw [Array.append_empty]; exact say1 x w1)).mono ?_
  rintro e w4 ⟨rfl, hl, hs⟩
  rw [T1.out] at hl ⊢
  have HL3 := Lib.hid hl
  have HB3 := Lib.hid (HB2.out.trans (hs.below (fun k _ e => by omega) HB2.out.size))
  clear hl hs HL2 HB2 T1
  simp only [told]
  go_wp2_with fail
  refine (next_any _ _ _ _ _ _ (fun _ => true) _ HL3.out (by omega) (by omega) hcf2 (fun x w1 _ _ _ => by rw [Array.append_empty]; exact say2 x w1)).mono ?_
  rintro e w5 ⟨rfl, hl, hs⟩
  rw [T2.out] at hl ⊢
  have HL4 := Lib.hid hl
  have HB4 := Lib.hid (HB3.out.trans (hs.below (fun k _ e => by omega) HB3.out.size))
  clear hl hs HL3 HB3 T2
  simp only [told]
  go_wp2_with fail
  refine (next_nil _ _).mono ?_
  rintro e w6 ⟨rfl, rfl⟩
  go_wp2_with fail
  go_ret
  exact ⟨rfl, HB4.out⟩

end Go.Proofs.Ytdlhleegfmnjjaa.Port
