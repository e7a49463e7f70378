/- Bytes with their sum behind (layer 2): the program's and the document's. Conditions: no more than 2^40 bytes. -/
import Derived.Test.YtbdgnaeldlgoaaaSum
import Derived.Laws.AppendOwnNone
namespace Go.Proofs.Ytbdgnaeldlgoaaa.Sum
open Go.RowKit Argin Save
set_option linter.unusedVariables false
set_option linter.unusedSimpArgs false

theorem info5 : (Try.prog.info? 5).map (fun i => (i.zero, i.size, i.bytes)) = some (some (.int .u8 0), 1, 1) := by kernel_rfl

/-- The values of the first n numbers. -/
def bts (f : Nat → Int) (n : Nat) : List Value := (List.range n).map fun (i : Nat) => Value.int .u8 (f i)
theorem bts_len (f : Nat → Int) (n : Nat) : (bts f n).length = n := by simp [bts]
theorem bts_get (f : Nat → Int) (n i : Nat) (h : i < n) : (bts f n)[i]? = some (.int .u8 (f i)) := by simp [bts, h]
theorem bts_succ (f : Nat → Int) (n : Nat) : bts f (n + 1) = bts f n ++ [.int .u8 (f n)] := by simp [bts, List.range_succ]

/-- A row of one's own, as bytes in memory. -/
theorem own_bytes {w : World} {base : Nat} {v : Value} {n : Nat} {f : Nat → Int} (h : w.ownsRow base 5 1 v n (bts f n)) (hf : ∀ i, i < n → 0 ≤ f i ∧ f i < 256) : ∃ oa cap, v = .slice oa n cap ∧ Bytes w oa n f := by
  obtain ⟨h1, ⟨rfl, rfl⟩ | ⟨g, cap, cur, rfl, hg, hh, hk, hc, hsz, hx⟩⟩ := h
  · exact ⟨none, 0, rfl, fun i hi => absurd hi (Nat.not_lt_zero _)⟩
  · refine ⟨some ⟨g, 0, none⟩, cap, rfl, fun i hi => ⟨hf i hi, g, 0, rfl, lt_of_get hh, ?_⟩⟩
    rw [Nat.zero_add, cell_get hh]
    have := bts_get f n i hi
    rw [← hx, List.getElem?_take_of_lt (by omega)] at this
    simpa using this

theorem bytes_news {w : World} {a : Addr} {len : Nat} {f : Nat → Int} (h : Bytes w (some a) len f) (o : Obj) : ∀ (j : Nat) (u : Value), (bts f len)[j]? = some u → (w.alloc o).cell? (a.add j) = some u := by
  intro j u hu
  have hj : j < len := by
    have := (List.getElem?_eq_some_iff.1 hu).1
    rwa [bts_len] at this
  rw [bts_get f len j hj] at hu
  obtain ⟨_, b, p, ha, _, hc⟩ := h j hj
  cases ha
  cases hu
  have e : (⟨b, p, none⟩ : Addr).add j = ⟨b, p + j, none⟩ := by
    unfold Addr.add; split
    · rename_i h0; subst h0; rfl
    · rfl
  rw [e]
  exact cell_alloc_old o hc

theorem clone_some (a : Addr) (len cap : Nat) (f : Nat → Int) (w : World) (hl : len ≤ 1000000000000) (hB : Bytes w (some a) len f) :
    Calls Try.prog 51 #[.slice (some a) len cap] w fun e w' => ∃ v, e = .returned v ∧ w'.ownsRow w.heap.size 5 1 v len (bts f len) ∧ Below w.heap.size w w' := by
  obtain ⟨i0, hi, hz0, hz1, hz2⟩ := info_parts info5
  have HB := Lib.hid hB
  clear hB
  have hnil := fun (w : World) (a : Option Addr) (l c : Nat) => run_eql_slice_none (P := Try.prog) w a l c Try.underlying31
  go_enter Try.func51, Try.ntmps51
  go_wp2_with (at_builtin; go_loud (refine wpList_append_own _ rfl _ _ 31 rfl w.heap.size 5 i0 (.int .u8 0) 1 1 Try.underlying31 hi hz0 hz1 hz2 rfl (by decide) _ _ _ rfl (World.ownsRow_made w #[] 0 (Nat.le_refl _) (by decide) rfl) a len cap (bts f len) rfl (by simp [bts_len]) ?c1 ?c2 ?c3 ?c4 ?c5 ?_))
  case c1 => exact bytes_news HB.out _
  case c2 => intro u hu; simp only [bts, List.mem_map] at hu; obtain ⟨_, _, rfl⟩ := hu; rfl
  case c3 => unfold maxLen; omega
  case c4 => omega
  case c5 => simp
  intro v' w1 ho hg _
  have HO := Lib.hid ho
  have H1 := Lib.hid (((Below.refl w.heap.size w).alloc (Nat.le_refl _) (.cells #[] 5)).grown hg (by simp) (fun k e => by simp [Value.ownBlock] at e; omega))
  clear ho hg
  go_wp2_with fail
  go_ret
  exact ⟨v', rfl, by have := HO.out; simpa using this, H1.out⟩

theorem clone_none (len cap : Nat) (f : Nat → Int) (w : World) (hB : Bytes w none len f) : Calls Try.prog 51 #[.slice none len cap] w fun e w' => ∃ v, e = .returned v ∧ w'.ownsRow w.heap.size 5 1 v len (bts f len) ∧ Below w.heap.size w w' := by
  obtain rfl : len = 0 := by
    by_cases h : len = 0
    · exact h
    · obtain ⟨_, b, o, h, _⟩ := hB 0 (by omega); cases h
  clear hB
  have hnil := fun (w : World) (a : Option Addr) (l c : Nat) => run_eql_slice_none (P := Try.prog) w a l c Try.underlying31
  go_enter Try.func51, Try.ntmps51
  go_wp2_with fail
  go_ret
  exact ⟨_, rfl, World.ownsRow_nil _ _ _ _, Below.refl _ _⟩

theorem clone_any (oa : Option Addr) (len cap : Nat) (f : Nat → Int) (w : World) (hl : len ≤ 1000000000000) (hB : Bytes w oa len f) :
    Calls Try.prog 51 #[.slice oa len cap] w fun e w' => ∃ v, e = .returned v ∧ w'.ownsRow w.heap.size 5 1 v len (bts f len) ∧ Below w.heap.size w w' := by
  cases oa with
  | none => exact clone_none len cap f w hB
  | some a => exact clone_some a len cap f w hl hB

/-- The bytes with their sum behind. -/
def padf (f : Nat → Int) (len : Nat) (i : Nat) : Int := if i < len then f i else 0
def padn (len : Nat) : Nat := len + len % 2
def putf (f : Nat → Int) (len : Nat) (i : Nat) : Int := if i < len then f i else if i < padn len then 0 else if i = padn len then sumOf (padf f len) (padn len) / 256 else sumOf (padf f len) (padn len) % 256

theorem bts_congr {f g : Nat → Int} {n : Nat} (h : ∀ i, i < n → f i = g i) : bts f n = bts g n := by
  unfold bts
  apply List.map_congr_left
  intro i hi
  rw [h i (by simpa using hi)]

theorem pad_even (f : Nat → Int) (len : Nat) (h : len % 2 = 0) : padn len = len ∧ bts (padf f len) (padn len) = bts f len := by
  have e : padn len = len := by unfold padn; omega
  refine ⟨e, ?_⟩
  rw [e]; exact bts_congr fun i hi => by unfold padf; rw [if_pos hi]
theorem pad_odd (f : Nat → Int) (len : Nat) (h : len % 2 = 1) : padn len = len + 1 ∧ bts (padf f len) (padn len) = bts f len ++ [.int .u8 0] := by
  have e : padn len = len + 1 := by unfold padn; omega
  refine ⟨e, ?_⟩
  rw [e, bts_succ]
  rw [show padf f len len = 0 from by unfold padf; rw [if_neg (by omega)]]
  congr 1
  exact bts_congr fun i hi => by unfold padf; rw [if_pos hi]
theorem put_is (f : Nat → Int) (len : Nat) : bts (putf f len) (padn len + 2) = bts (padf f len) (padn len) ++ [.int .u8 (sumOf (padf f len) (padn len) / 256), .int .u8 (sumOf (padf f len) (padn len) % 256)] := by
  rw [bts_succ, bts_succ, List.append_assoc]
  have hp : len ≤ padn len := by unfold padn; omega
  rw [show putf f len (padn len) = sumOf (padf f len) (padn len) / 256 from by unfold putf; rw [if_neg (by omega), if_neg (by omega), if_pos rfl]]
  rw [show putf f len (padn len + 1) = sumOf (padf f len) (padn len) % 256 from by unfold putf; rw [if_neg (by omega), if_neg (by omega), if_neg (by omega)]]
  congr 1
  refine bts_congr fun i hi => ?_
  unfold putf padf
  by_cases h : i < len
  · rw [if_pos h, if_pos h]
  · rw [if_neg h, if_neg h, if_pos hi]
theorem padf_range {f : Nat → Int} {len : Nat} (h : ∀ i, i < len → 0 ≤ f i ∧ f i < 256) : ∀ i, 0 ≤ padf f len i ∧ padf f len i < 256 := by
  intro i; unfold padf; split
  · exact h i (by assumption)
  · omega
theorem sum_range (f : Nat → Int) (n : Nat) : 0 ≤ sumOf f n ∧ sumOf f n < 65536 := by
  have := fd_range (tot f n); unfold sumOf; omega

set_option maxHeartbeats 1000000 in
theorem put_any (oa : Option Addr) (len cap : Nat) (f : Nat → Int) (w : World) (hl : len ≤ 100000000000) (hf : ∀ i, i < len → 0 ≤ f i ∧ f i < 256) (hB : Bytes w oa len f) :
    Calls Try.prog 28 #[.slice oa len cap] w fun e w' => ∃ v, e = .returned v ∧ w'.ownsRow w.heap.size 5 1 v (padn len + 2) (bts (putf f len) (padn len + 2)) ∧ Below w.heap.size w w' := by
  obtain ⟨i0, hi, hz0, hz1, hz2⟩ := info_parts info5
  have HB := Lib.hid hB
  have HF := Lib.hid hf
  clear hB hf
  go_enter Try.func28, Try.ntmps28
  go_wp2_with fail
  refine (clone_any oa len cap f _ (by omega) HB.out).mono ?_
  rintro e w1 ⟨v1, rfl, ho, hb⟩
  obtain ⟨o1, c1, rfl, hB1⟩ := own_bytes ho HF.out
  have HO1 := Lib.hid ho
  have H1 := Lib.hid hb
  clear ho hb hB1
  have hs1 := H1.out.size
  go_upto_if 10 with fail
  go_cut [3] (fun s3 wx => wx.ownsRow w.heap.size 5 1 s3 (padn len) (bts (padf f len) (padn len)) ∧ Below w.heap.size w wx)
  case first =>
    by_cases hp : len % 2 = 0
    · obtain ⟨e1, e2⟩ := pad_even f len hp
      have E1 := Lib.hid e1
      have E2 := Lib.hid e2
      clear e1 e2
      have hp' : ((len : Int) % 2 == 1) = false := beq_eq_false_iff_ne.2 (by omega)
      go_wp2_with fail
      go_meet
      exact ⟨by rw [E2.out, E1.out]; exact HO1.out, H1.out⟩
    · obtain ⟨e1, e2⟩ := pad_odd f len (by omega)
      have E1 := Lib.hid e1
      have E2 := Lib.hid e2
      clear e1 e2
      have hp' : ((len : Int) % 2 == 1) = true := beq_iff_eq.2 (by omega)
      go_wp2_with (at_builtin; refine wpList_append_own _ rfl _ _ 31 rfl w.heap.size 5 i0 (.int .u8 0) 1 1 Try.underlying31 hi hz0 hz1 hz2 rfl (by decide) _ _ _ rfl (HO1.out.alloc _) ⟨w1.heap.size, 0, none⟩ 1 1 [.int .u8 0] rfl rfl ?c1 ?c2 ?c3 ?c4 ?c5 ?_)
      case c1 => exact news_one _ _ _
      case c2 => intro u hu; simp only [List.mem_singleton] at hu; subst hu; rfl
      case c3 => unfold maxLen; omega
      case c4 => omega
      case c5 => simp; omega
      intro v' w2 ho hg _
      have HO2 := Lib.hid ho
      have H2 := Lib.hid ((H1.out.alloc hs1 (.cells #[.int .u8 0] 5)).grown hg (by simp; omega) (fun k e => (HO1.out.lt k e).1))
      clear ho hg
      go_wp2_with fail
      go_meet
      exact ⟨by rw [E2.out, E1.out]; exact HO2.out, H2.out⟩
  case rest =>
  obtain ⟨ho, hb⟩ := hcut
  obtain ⟨o2, c2, rfl, hB2⟩ := own_bytes ho (fun i _ => padf_range HF.out i)
  have HO2 := Lib.hid ho
  have H2 := Lib.hid hb
  have HB2 := Lib.hid hB2
  clear ho hb hB2
  have hs2 := H2.out.size
  have hr := sum_range (padf f len) (padn len)
  have hpn : padn len ≤ len + 1 := by unfold padn; omega
  go_wp2_with fail
  refine (of_any _ _ _ _ _ (by omega) HB2.out).mono ?_
  rintro e w' ⟨rfl, rfl⟩
  go_wp2_with (at_builtin; refine wpList_append_own _ rfl _ _ 31 rfl w.heap.size 5 i0 (.int .u8 0) 1 1 Try.underlying31 hi hz0 hz1 hz2 rfl (by decide) _ _ _ rfl (HO2.out.alloc _) ⟨wc.heap.size, 0, none⟩ 2 2 [.int .u8 (sumOf (padf f len) (padn len) / 256), .int .u8 (sumOf (padf f len) (padn len) % 256)] rfl rfl ?c1 ?c2 ?c3 ?c4 ?c5 ?_)
  case c1 => exact news_two _ _ _ _
  case c2 => intro u hu; simp only [List.mem_cons, List.mem_nil_iff, or_false] at hu; rcases hu with rfl | rfl <;> rfl
  case c3 => unfold maxLen; omega
  case c4 => omega
  case c5 => simp; omega
  intro v' w3 ho hg _
  have HO3 := Lib.hid ho
  have H3 := Lib.hid ((H2.out.alloc hs2 (.cells #[.int .u8 (sumOf (padf f len) (padn len) / 256), .int .u8 (sumOf (padf f len) (padn len) % 256)] 5)).grown hg (by simp; omega) (fun k e => (HO2.out.lt k e).1))
  clear ho hg
  go_wp2_with fail
  go_ret
  exact ⟨v', rfl, by rw [put_is]; exact HO3.out, H3.out⟩

end Go.Proofs.Ytbdgnaeldlgoaaa.Sum
