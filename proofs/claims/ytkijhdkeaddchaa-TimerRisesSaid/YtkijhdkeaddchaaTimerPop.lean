/- The first deadline that is due is taken (layer 7). Conditions: the numbers' kinds. -/
import Derived.Test.YtkijhdkeaddchaaTimer
import Derived.Maps.RangeWalk
namespace Go.Proofs.Ytkijhdkeaddchaa.Timer
open Go.RowKit Go.Maps Argin Save
set_option linter.unusedVariables false
set_option linter.unusedSimpArgs false

def Scan (f : Int → Option Int) (now : Int) (S : Int → Prop) (k v : Int) (met : Bool) : Prop :=
  if met = true then Least f now S k v else k = 0 ∧ v = 0 ∧ ∀ k' v', S k' → f k' = some v' → now < v'

theorem Scan.take {f : Int → Option Int} {now : Int} {S S' : Int → Prop} {k v x c : Int} {met : Bool} (h : Scan f now S k v met) (hS : ∀ y, S' y ↔ S y ∨ y = x) (hx : f x = some c) (hc : c ≤ now)
    (hb : met = true → c < v ∨ (c = v ∧ x < k)) : Scan f now S' x c true := by
  unfold Scan at h ⊢
  rw [if_pos rfl]
  refine ⟨(hS x).2 (.inr rfl), hx, hc, fun k' v' hk' hv' hn' => ?_⟩
  rcases (hS k').1 hk' with hk' | rfl
  · cases met
    · rw [if_neg (by simp)] at h
      have := h.2.2 k' v' hk' hv'
      omega
    · rw [if_pos rfl] at h
      have h1 := h.2.2.2 k' v' hk' hv' hn'
      have h2 := hb rfl
      omega
  · rw [hx] at hv'; cases hv'; right; exact ⟨rfl, Int.le_refl _⟩
theorem Scan.skip {f : Int → Option Int} {now : Int} {S S' : Int → Prop} {k v x c : Int} {met : Bool} (h : Scan f now S k v met) (hS : ∀ y, S' y ↔ S y ∨ y = x) (hx : f x = some c)
    (hb : now < c ∨ (met = true ∧ (v < c ∨ (c = v ∧ k ≤ x)))) : Scan f now S' k v met := by
  unfold Scan at h ⊢
  cases met
  · rw [if_neg (by simp)] at h ⊢
    refine ⟨h.1, h.2.1, fun k' v' hk' hv' => ?_⟩
    rcases (hS k').1 hk' with hk' | rfl
    · exact h.2.2 k' v' hk' hv'
    · rw [hx] at hv'; cases hv'
      rcases hb with hb | hb
      · exact hb
      · cases hb.1
  · rw [if_pos rfl] at h ⊢
    refine ⟨(hS k).2 (.inl h.1), h.2.1, h.2.2.1, fun k' v' hk' hv' hn' => ?_⟩
    rcases (hS k').1 hk' with hk' | rfl
    · exact h.2.2.2 k' v' hk' hv' hn'
    · rw [hx] at hv'; cases hv'
      rcases hb with hb | hb <;> omega

theorem Holds.val {D : DataW Unit} {f : Int → Option Int} {c : Nat} (h : Holds D f c) {x u : Int} (hat : ∀ zd, D.atKey (kl x) zd = .lit (.int .u64 u)) : f x = some u := by
  have h1 := has_true_of_atKey hat
  rw [h.has] at h1
  obtain ⟨v, hv⟩ := Option.isSome_iff_exists.1 h1
  have h2 := h.at' x v hv
  rw [hat] at h2
  cases h2
  exact hv

theorem i64_of {x : Int} (h : (Lit.int .i64 x).wf = true) : KIn x := Argin.wf_i64 h
theorem left_step (left : Lit → Bool) (x : Int) (hx : KIn x) (y : Int) : (KIn y ∧ (left (kl y) && !(kl y).sameKey (kl x)) = false) ↔ (KIn y ∧ left (kl y) = false) ∨ y = x := by
  have hs : (kl y).sameKey (kl x) = decide (y = x) := by
    by_cases e : y = x
    · subst e; rw [decide_eq_true rfl]; exact WideAt.sameKey_self (keyLit' y)
    · rw [decide_eq_false e]; exact sameKey_ne (kl_ne e)
  rw [hs]
  by_cases e : y = x
  · subst e; simp [hx]
  · simp [e]

/-- What is popped. -/
def Popped (f : Int → Option Int) (now : Int) (p b n c : Nat) (w : World) (e : Ending) (w' : World) : Prop :=
  ∃ (k v : Int) (met : Bool), Scan f now KIn k v met ∧ e = .returned (.tuple #[.int .i64 k, .bool met]) ∧ Qu w' p b n (if met = true then put f k none else f) (if met = true then less (f k) c else c) ∧ Save (fun x => x = b ∨ w.heap.size ≤ x) w w'

set_option maxRecDepth 100000 in
set_option maxHeartbeats 2000000 in
theorem pop_any (p b n c : Nat) (f : Int → Option Int) (now : Int) (w : World) (h : Qu w p b n f c) :
    Calls Try.prog 30 #[.pointer (some ⟨p, 0, none⟩), .int .u64 now] w (Popped f now p b n c w) := by
  obtain ⟨hp, hpb, D, hd, hh⟩ := h
  have HPB := Lib.hid hpb
  have k0 := cell_get hp 0
  have HP := Lib.hid hp
  have HD := Lib.hid hd
  have HH := Lib.hid hh
  have hbl := hd.lt
  have hpl := lt_of_get hp
  clear hp hpb hd hh
  go_enter Try.func30, Try.ntmps30
  go_wp2_with (first
    | (at_range; refine wpList_range_own _ rfl _ 138 rfl 3 32 keyed Try.underlying138 _ b n D rfl HD.out ?_; intro w0 hrg0 hg0 hs0; have HR0 := Lib.hid hrg0; have HG0 := Lib.hid hg0; clear hrg0 hg0 hs0)
    | go_in)
  go_frame
  go_loopw [6, 7, 8] (fun s6 s7 s8 wr => ∃ (left : Lit → Bool) (cnt : Nat) (k v : Int) (met : Bool), s6 = .int .i64 k ∧ s7 = .int .u64 v ∧ s8 = .bool met ∧ Scan f now (fun y => KIn y ∧ left (kl y) = false) k v met ∧ wr.ranges Try.prog 3 (plainElem Try.prog 32) b w.heap.size n D left cnt ∧ w.grownBy wr (some b))
    (fun _ _ _ wr => wr.rangeLeft b w.heap.size)
  case atStart =>
    refine ⟨_, _, 0, 0, false, rfl, rfl, rfl, ?_, HR0.out, HG0.out.but _⟩
    unfold Scan
    rw [if_neg (by simp)]
    refine ⟨rfl, rfl, fun k' v' hk' hv' => ?_⟩
    have := hk'.2
    rw [HH.out.has, hv'] at this
    cases this
  case round =>
    obtain ⟨left, cnt, k, v, met, rfl, rfl, rfl, hsc, hrg, hgw⟩ := hrel
    have HSC := Lib.hid hsc
    have HRG := Lib.hid hrg
    have HGW := Lib.hid hgw
    clear hsc hrg hgw HR0 HG0
    go_wp2_with (first
      | (at_next; refine wpList_next_ranges_ii _ rfl _ rfl 3 32 .i64 .u64 keyed Try.underlying3 Try.underlying32 b w.heap.size n _ _ _ rfl HRG.out ?_ ?_)
      | go_in)
    · intro _ hl0
      have hs : Scan f now KIn k v met := by
        have : (fun y => KIn y ∧ left (kl y) = false) = KIn := by funext y; simp [hl0]
        rw [← this]; exact HSC.out
      have HS := Lib.hid hs
      have kp : wr.cell? ⟨p, 0, none⟩ = some (.map (some b)) := by
        rw [World.cell?_of_block (w := w) (HGW.out.block p hpl (by simp; exact HPB.out))]; exact cell_get HP.out 0
      have hown := Lib.hid HRG.out.owns
      have HKK := Lib.hid (show met = true → KIn k from fun e => by have h := HS.out; unfold Scan at h; rw [if_pos e] at h; exact h.1)
      clear hl0 hs k0
      cases met
      · go_wp2_with fail
        go_ret2
        refine ⟨k, v, false, HS.out, rfl, ⟨?_, HPB.out, D, hown.out, HH.out⟩, Save.of_grown HGW.out (fun j e => by cases e; exact .inl rfl)⟩
        rw [HGW.out.block p hpl (by simp; exact HPB.out)]
        exact HP.out
      · have HK := Lib.hid (keyOf_int_mk (P := Try.prog) Try.underlying3 (kl_wf (HKK.out rfl)))
        go_wp2_with (at_delete; refine wpList_delete_own _ rfl _ _ 138 3 rfl 32 keyed Try.underlying138 _ b n D rfl hown.out _ _ rfl HK.out ?_; intro w1 hown1 hturn1; have HO := Lib.hid hown1; have HT := Lib.hid hturn1; clear hown1 hturn1)
        go_ret2
        have hgw1 := HGW.out.andThen HT.out.grown (fun j e => by cases e; exact .inr rfl)
        refine ⟨k, v, true, HS.out, rfl, ⟨?_, HPB.out, _, HO.out, HH.out.del k⟩, Save.of_grown hgw1 (fun j e => by cases e; exact .inl rfl)⟩
        rw [hgw1.block p hpl (by simp; exact HPB.out)]
        exact HP.out
    · intro x u w1 cnt1 hwx hwc hlx hat hrg1 hlt hg1 hs1 hen
      have hv := HH.out.val hat
      have HR1 := Lib.hid hrg1
      have HG1 := Lib.hid (HGW.out.andThen hg1 (fun j e => by cases e; exact .inl (Nat.le_refl _)))
      clear hat hrg1 hg1 hs1 hlx k0
      by_cases hc : u ≤ now
      · have E0 := decide_eq_true hc
        cases met
        · have hsc2 := HSC.out.take (left_step left x (i64_of hwx)) hv hc (fun e => by cases e)
          have HSC2 := Lib.hid hsc2
          clear hsc2
          go_wp2_with fail
          go_roundw
          case rel => exact ⟨_, _, _, _, _, rfl, rfl, rfl, HSC2.out, HR1.out, HG1.out⟩
          case measure => rw [HR1.out.left_eq, HRG.out.left_eq]; exact hlt
        · by_cases h1 : u < v
          · have E1 := decide_eq_true h1
            have hsc2 := HSC.out.take (left_step left x (i64_of hwx)) hv hc (fun _ => .inl h1)
            have HSC2 := Lib.hid hsc2
            clear hsc2
            go_wp2_with fail
            go_roundw
            case rel => exact ⟨_, _, _, _, _, rfl, rfl, rfl, HSC2.out, HR1.out, HG1.out⟩
            case measure => rw [HR1.out.left_eq, HRG.out.left_eq]; exact hlt
          · have E1 := decide_eq_false h1
            by_cases h2 : u = v
            · have E2 : (u == v) = true := beq_iff_eq.2 h2
              by_cases h3 : x < k
              · have E3 := decide_eq_true h3
                have hsc2 := HSC.out.take (left_step left x (i64_of hwx)) hv hc (fun _ => .inr ⟨h2, h3⟩)
                have HSC2 := Lib.hid hsc2
                clear hsc2 h2
                go_wp2_with fail
                go_roundw
                case rel => exact ⟨_, _, _, _, _, rfl, rfl, rfl, HSC2.out, HR1.out, HG1.out⟩
                case measure => rw [HR1.out.left_eq, HRG.out.left_eq]; exact hlt
              · have E3 := decide_eq_false h3
                have hsc2 := HSC.out.skip (left_step left x (i64_of hwx)) hv (.inr ⟨rfl, .inr ⟨h2, by omega⟩⟩)
                have HSC2 := Lib.hid hsc2
                clear hsc2 h2
                go_wp2_with fail
                go_roundw
                case rel => exact ⟨_, _, _, _, _, rfl, rfl, rfl, HSC2.out, HR1.out, HG1.out⟩
                case measure => rw [HR1.out.left_eq, HRG.out.left_eq]; exact hlt
            · have E2 : (u == v) = false := beq_eq_false_iff_ne.2 h2
              have hsc2 := HSC.out.skip (left_step left x (i64_of hwx)) hv (.inr ⟨rfl, .inl (by omega)⟩)
              have HSC2 := Lib.hid hsc2
              clear hsc2 h2
              go_wp2_with fail
              go_roundw
              case rel => exact ⟨_, _, _, _, _, rfl, rfl, rfl, HSC2.out, HR1.out, HG1.out⟩
              case measure => rw [HR1.out.left_eq, HRG.out.left_eq]; exact hlt
      · have E0 := decide_eq_false hc
        have hsc2 := HSC.out.skip (left_step left x (i64_of hwx)) hv (.inl (by omega))
        have HSC2 := Lib.hid hsc2
        clear hsc2
        go_wp2_with fail
        go_roundw
        case rel => exact ⟨_, _, _, _, _, rfl, rfl, rfl, HSC2.out, HR1.out, HG1.out⟩
        case measure => rw [HR1.out.left_eq, HRG.out.left_eq]; exact hlt
end Go.Proofs.Ytkijhdkeaddchaa.Timer
