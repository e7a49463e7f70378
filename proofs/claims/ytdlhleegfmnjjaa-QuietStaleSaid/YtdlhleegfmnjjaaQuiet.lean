/- The functions of layer 18 (lives of a host) as they are called. Conditions: the numbers' kinds, and that the life's count doesn't wrap. -/
import Derived.Test.YtdlhleegfmnjjaaProg
import Derived.Test.YtdlhleegfmnjjaaSave
import Derived.Lib.MinMax
import Derived.WalkSpells
namespace Go.Proofs.Ytdlhleegfmnjjaa.Quiet
open Go.RowKit Argin Save
set_option linter.unusedVariables false

/-- A life in memory: its number, msl, the end of its quiet time. -/
abbrev L (n m u : Int) : Obj := .cells #[.int .i64 n, .int .u64 m, .int .u64 u] 82

theorem l_cells {w : World} {b : Nat} {n m u : Int} (h : w.heap[b]? = some (L n m u)) : (w.cell? ⟨b, 0, none⟩ = some (.int .i64 n) ∧ w.cell? ⟨b, 1, none⟩ = some (.int .u64 m) ∧ w.cell? ⟨b, 2, none⟩ = some (.int .u64 u)) ∧ w.frozen? ⟨b, 0, none⟩ = false ∧ w.frozen? ⟨b, 2, none⟩ = false :=
  ⟨⟨cell_get h 0, cell_get h 1, cell_get h 2⟩, free_get h 0, free_get h 2⟩

theorem new_any (m : Int) (w : World) (hm : -9223372036854775808 ≤ m ∧ m < 9223372036854775808) :
    Calls Try.prog 16 #[.int .i64 m] w fun e w' => e = .returned (.pointer (some ⟨w.heap.size, 0, none⟩)) ∧ w'.heap[w.heap.size]? = some (L 0 (max m 0) 0) ∧ Below w.heap.size w w' := by
  go_enter Try.func16, Try.ntmps16
  go_wp2
  go_ret
  exact ⟨rfl, get_alloc _ _, (Below.refl _ _).alloc (Nat.le_refl _) _⟩

theorem number_any (b : Nat) (n m u : Int) (w : World) (h : w.heap[b]? = some (L n m u)) :
    Calls Try.prog 17 #[.pointer (some ⟨b, 0, none⟩)] w fun e w' => e = .returned (.int .i64 n) ∧ w = w' := by
  obtain ⟨⟨k0, k1, k2⟩, f0, f2⟩ := l_cells h
  clear h
  go_enter Try.func17, Try.ntmps17
  go_wp2
  go_ret
  exact ⟨rfl, rfl⟩

def isQuiet (n u now : Int) : Bool := decide (0 < n ∧ now < u)
theorem quiet_any (b : Nat) (n m u now : Int) (w : World) (h : w.heap[b]? = some (L n m u)) :
    Calls Try.prog 18 #[.pointer (some ⟨b, 0, none⟩), .int .u64 now] w fun e w' => e = .returned (.bool (isQuiet n u now)) ∧ w = w' := by
  obtain ⟨⟨k0, k1, k2⟩, f0, f2⟩ := l_cells h
  clear h
  by_cases hn : 0 < n
  · go_enter Try.func18, Try.ntmps18
    go_wp2
    go_ret
    exact ⟨ret_bool (by unfold isQuiet; rw [decide_eq_decide]; omega), rfl⟩
  · go_enter Try.func18, Try.ntmps18
    go_wp2
    go_ret
    exact ⟨ret_bool (by unfold isQuiet; symm; rw [decide_eq_false_iff_not]; omega), rfl⟩

def handle (n id : Int) : Int := if id < 1 ∨ 65536 ≤ id then 0 else n * 65536 + id
theorem handle_any (b : Nat) (n m u id : Int) (w : World) (h : w.heap[b]? = some (L n m u)) (hn : 0 ≤ n ∧ n ≤ 1000000) :
    Calls Try.prog 19 #[.pointer (some ⟨b, 0, none⟩), .int .i64 id] w fun e w' => e = .returned (.int .i64 (handle n id)) ∧ w = w' := by
  obtain ⟨⟨k0, k1, k2⟩, f0, f2⟩ := l_cells h
  clear h
  by_cases h1 : id < 1
  · go_enter Try.func19, Try.ntmps19
    go_wp2
    go_ret
    exact ⟨ret_int (by unfold handle; rw [if_pos (.inl h1)]), rfl⟩
  · by_cases h2 : 65536 ≤ id
    · go_enter Try.func19, Try.ntmps19
      go_wp2
      go_ret
      exact ⟨ret_int (by unfold handle; rw [if_pos (.inr h2)]), rfl⟩
    · go_enter Try.func19, Try.ntmps19
      go_wp2
      go_ret
      exact ⟨ret_int (by unfold handle; rw [if_neg (by omega)]), rfl⟩

theorem restart_any (b : Nat) (n m u now : Int) (w : World) (h : w.heap[b]? = some (L n m u)) (hn : 0 ≤ n ∧ n ≤ 1000000) (hm : 0 ≤ m ∧ m ≤ 1000000) (hu : 0 ≤ now ∧ now ≤ 1000000000000) :
    Calls Try.prog 22 #[.pointer (some ⟨b, 0, none⟩), .int .u64 now] w fun e w' => e = .returned (.tuple #[]) ∧ w'.heap[b]? = some (L (n + 1) m (now + 2 * m)) ∧ Save (· = b) w w' := by
  obtain ⟨⟨k0, k1, k2⟩, f0, f2⟩ := l_cells h
  have H := Lib.hid h
  clear h
  go_enter Try.func22, Try.ntmps22
  go_wp2
  go_end0
  exact ⟨rfl, get_set _ (get_set _ H.out), ((Save.refl (· = b) _).set b 0 rfl _).set b 2 rfl _⟩

/-- A handle's identity, and an error's number. -/
def bad (n h : Int) : Int := if h < 1 ∨ h % 65536 = 0 ∨ h / 65536 > n then 1 else if h / 65536 < n then 11 else 0
def idOf (n h : Int) : Int := if bad n h = 0 then h % 65536 else 0
def err (k : Int) : Value := if k = 0 then .nilIface else .iface 38 (.int .i64 k)

theorem id_any (b : Nat) (n m u h : Int) (w : World) (hl : w.heap[b]? = some (L n m u)) (hh : -9223372036854775808 ≤ h ∧ h < 9223372036854775808) :
    Calls Try.prog 20 #[.pointer (some ⟨b, 0, none⟩), .int .i64 h] w fun e w' => e = .returned (.tuple #[.int .i64 (idOf n h), err (bad n h)]) ∧ w = w' := by
  obtain ⟨⟨k0, k1, k2⟩, f0, f2⟩ := l_cells hl
  clear hl
  by_cases h1 : h < 1
  · have g := Lib.hid (show bad n h = 1 from by unfold bad; rw [if_pos (.inl h1)])
    go_enter Try.func20, Try.ntmps20
    go_wp2
    go_ret2
    exact ⟨by simp [idOf, err, g.out], rfl⟩
  · by_cases h2 : h % 65536 = 0
    · have g := Lib.hid (show bad n h = 1 from by unfold bad; rw [if_pos (.inr (.inl h2))])
      have h2 : (h % 65536 == 0) = true := beq_iff_eq.2 h2
      go_enter Try.func20, Try.ntmps20
      go_wp2
      go_ret2
      exact ⟨by simp [idOf, err, g.out], rfl⟩
    · by_cases h3 : h / 65536 > n
      · have g := Lib.hid (show bad n h = 1 from by unfold bad; rw [if_pos (.inr (.inr h3))])
        have h2 : (h % 65536 == 0) = false := beq_eq_false_iff_ne.2 h2
        go_enter Try.func20, Try.ntmps20
        go_wp2
        go_ret2
        exact ⟨by simp [idOf, err, g.out], rfl⟩
      · by_cases h4 : h / 65536 < n
        · have g := Lib.hid (show bad n h = 11 from by unfold bad; rw [if_neg (by omega), if_pos h4])
          have h2 : (h % 65536 == 0) = false := beq_eq_false_iff_ne.2 h2
          go_enter Try.func20, Try.ntmps20
          go_wp2
          go_ret2
          exact ⟨by simp [idOf, err, g.out], rfl⟩
        · have g := Lib.hid (show bad n h = 0 from by unfold bad; rw [if_neg (by omega), if_neg h4])
          have h2 : (h % 65536 == 0) = false := beq_eq_false_iff_ne.2 h2
          go_enter Try.func20, Try.ntmps20
          go_wp2
          go_ret2
          exact ⟨by simp [idOf, err, g.out], rfl⟩

theorem code_info : ∃ i, Try.prog.info? 38 = some i ∧ i.comparable = true := ⟨_, rfl, by kernel_rfl⟩

/-- The number of an error that is one of api's. -/
theorem code_any (k : Int) (w : World) (hk : 0 ≤ k ∧ k ≤ 14) : Calls Try.prog 21 #[err k] w fun e w' => e = .returned (.int .i64 k) ∧ w = w' := by
  obtain ⟨i, hi, hc⟩ := code_info
  by_cases h0 : k = 0
  · subst h0
    have he : err 0 = .nilIface := rfl
    rw [he]
    go_enter Try.func21, Try.ntmps21
    go_wp2
    go_ret
    exact ⟨rfl, rfl⟩
  · have he : err k = .iface 38 (.int .i64 k) := by unfold err; rw [if_neg h0]
    rw [he]
    have hr := fun (w : World) (a b : Int) => run_eql_code (P := Try.prog) w a b Try.underlying31 Try.underlying38 hi hc
    clear he
    go_enter Try.func21, Try.ntmps21
    go_wp2
    go_loop [3] (fun n => ∃ m : Int, 1 ≤ m ∧ m ≤ k ∧ n = .int .i64 m) (fun n => (14 - intOf n).toNat)
    case atStart => exact ⟨1, by omega, by omega, rfl⟩
    case round =>
      obtain ⟨m, hm1, hm2, rfl⟩ := hrel
      by_cases hm : m = k
      · have hb : (k == m) = true := beq_iff_eq.2 hm.symm
        go_wp2
        go_ret
        exact ⟨rfl, rfl⟩
      · have hb : (k == m) = false := beq_eq_false_iff_ne.2 (fun e => hm e.symm)
        go_wp2
        go_round
        case rel => exact ⟨m + 1, by omega, by omega, rfl⟩
        case measure => simp [intOf]; omega

end Go.Proofs.Ytdlhleegfmnjjaa.Quiet
