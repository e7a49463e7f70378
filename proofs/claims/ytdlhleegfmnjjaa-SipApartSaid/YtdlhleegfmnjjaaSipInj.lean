/- Rounds of unlike four numbers are unlike: plain facts on numbers. -/
import Derived.Test.YtdlhleegfmnjjaaSip
import Derived.Laws.Bits64
import Derived.Laws.Bits64b
namespace Go.Proofs.Ytdlhleegfmnjjaa.Sip
open Go.RowKit Argin Save Win Bytes

def In (x : Int) : Prop := 0 ≤ x ∧ x < 18446744073709551616
theorem ad_in (a b : Int) : In (ad a b) := by unfold ad In; rw [u64_wrap]; omega
theorem ad_inj {a a' b : Int} (ha : In a) (ha' : In a') (h : ad a b = ad a' b) : a = a' := by
  unfold ad at h; unfold In at ha ha'; rw [u64_wrap, u64_wrap] at h; omega
theorem ad_inj' {a b b' : Int} (hb : In b) (hb' : In b') (h : ad a b = ad a b') : b = b' := by
  unfold ad at h; unfold In at hb hb'; rw [u64_wrap, u64_wrap] at h; omega
theorem xr_nat {a b : Int} (ha : In a) (hb : In b) : xr a b = ((a.toNat ^^^ b.toNat : Nat) : Int) := by
  unfold In at ha hb
  have := bits_xor_u64_nat a.toNat b.toNat (by omega) (by omega)
  rwa [show (a.toNat : Int) = a from by omega, show (b.toNat : Int) = b from by omega] at this
theorem xr_in {a b : Int} (ha : In a) (hb : In b) : In (xr a b) := by
  rw [xr_nat ha hb]
  unfold In at *
  have := Nat.xor_lt_two_pow (n := 64) (x := a.toNat) (y := b.toNat) (by omega) (by omega)
  omega
theorem xr_inj {a a' b : Int} (ha : In a) (ha' : In a') (hb : In b) (h : xr a b = xr a' b) : a = a' := by
  rw [xr_nat ha hb, xr_nat ha' hb] at h
  have h2 : a.toNat ^^^ b.toNat = a'.toNat ^^^ b.toNat := by omega
  have h3 : a.toNat ^^^ b.toNat ^^^ b.toNat = a'.toNat ^^^ b.toNat ^^^ b.toNat := by rw [h2]
  rw [Nat.xor_assoc, Nat.xor_assoc, Nat.xor_self, Nat.xor_zero, Nat.xor_zero] at h3
  unfold In at ha ha'; omega
theorem rot_eq (n : Nat) (hn : n ≤ 64) {x : Int} (hx : In x) : rot (2 ^ n) (2 ^ (64 - n)) x = x % 2 ^ (64 - n) * 2 ^ n + x / 2 ^ (64 - n) := by
  unfold In at hx
  obtain ⟨m, rfl⟩ : ∃ m : Nat, x = m := ⟨x.toNat, by omega⟩
  have hpq : (2 : Nat) ^ (64 - n) * 2 ^ n = 18446744073709551616 := by
    rw [← Nat.pow_add, show 64 - n + n = 64 from by omega]
  have hp : 0 < (2 : Nat) ^ n := Nat.pow_pos (by omega)
  have hq : 0 < (2 : Nat) ^ (64 - n) := Nat.pow_pos (by omega)
  have e1 : IntKind.u64.wrap ((m : Int) * 2 ^ n) = ((m % 2 ^ (64 - n) * 2 ^ n : Nat) : Int) := by
    rw [u64_wrap]
    have : ((m : Int) * 2 ^ n) = ((m * 2 ^ n : Nat) : Int) := by simp
    rw [this, show (18446744073709551616 : Int) = ((18446744073709551616 : Nat) : Int) from rfl, ← Int.natCast_emod, ← hpq, Nat.mul_mod_mul_right]
  have e2 : (m : Int) / 2 ^ (64 - n) = ((m / 2 ^ (64 - n) : Nat) : Int) := by simp
  have hlt : m / 2 ^ (64 - n) < 2 ^ n := by rw [Nat.div_lt_iff_lt_mul hq, Nat.mul_comm, hpq]; omega
  have h1 : m % 2 ^ (64 - n) * 2 ^ n < 18446744073709551616 := by
    rw [← hpq]; exact Nat.mul_lt_mul_of_pos_right (Nat.mod_lt _ hq) hp
  have h2 : m / 2 ^ (64 - n) < 18446744073709551616 := Nat.lt_of_le_of_lt (Nat.div_le_self _ _) (by omega)
  unfold rot
  rw [e1, e2, bits_or_u64_nat _ _ h1 h2, ← Nat.shiftLeft_eq, ← Nat.shiftLeft_add_eq_or_of_lt hlt, Nat.shiftLeft_eq]
  simp
theorem rot_inj (p q : Int) (n : Nat) (hn : n ≤ 64) (hp : p = 2 ^ n) (hq : q = 2 ^ (64 - n)) {x y : Int} (hx : In x) (hy : In y) (h : rot p q x = rot p q y) : x = y := by
  subst hp hq
  rw [rot_eq n hn hx, rot_eq n hn hy] at h
  unfold In at hx hy
  have hpq : (2 : Int) ^ (64 - n) * 2 ^ n = 18446744073709551616 := by
    rw [← Int.pow_add, show 64 - n + n = 64 from by omega]; rfl
  have hp : (0 : Int) < 2 ^ n := Int.pow_pos (by omega)
  have hq : (0 : Int) < 2 ^ (64 - n) := Int.pow_pos (by omega)
  have hx1 : x / 2 ^ (64 - n) < 2 ^ n := Int.ediv_lt_of_lt_mul hq (by rw [Int.mul_comm, hpq]; omega)
  have hy1 : y / 2 ^ (64 - n) < 2 ^ n := Int.ediv_lt_of_lt_mul hq (by rw [Int.mul_comm, hpq]; omega)
  have hx0 : 0 ≤ x / 2 ^ (64 - n) := Int.ediv_nonneg hx.1 (by omega)
  have hy0 : 0 ≤ y / 2 ^ (64 - n) := Int.ediv_nonneg hy.1 (by omega)
  generalize (2 : Int) ^ n = p at *
  have a1 : (x % 2 ^ (64 - n) * p + x / 2 ^ (64 - n)) % p = x / 2 ^ (64 - n) := by rw [Int.add_comm, Int.add_mul_emod_self_right, Int.emod_eq_of_lt hx0 hx1]
  have a2 : (y % 2 ^ (64 - n) * p + y / 2 ^ (64 - n)) % p = y / 2 ^ (64 - n) := by rw [Int.add_comm, Int.add_mul_emod_self_right, Int.emod_eq_of_lt hy0 hy1]
  have e1 : x / 2 ^ (64 - n) = y / 2 ^ (64 - n) := by rw [← a1, ← a2, h]
  have e2 : x % 2 ^ (64 - n) = y % 2 ^ (64 - n) := by
    rw [e1] at h
    exact Int.eq_of_mul_eq_mul_right (show p ≠ 0 by omega) ((Int.add_left_inj _).1 h)
  rw [← Int.mul_ediv_add_emod x (2 ^ (64 - n)), ← Int.mul_ediv_add_emod y (2 ^ (64 - n)), e1, e2]
theorem rot_in (p q : Int) (n : Nat) (hn : n ≤ 64) (hp : p = 2 ^ n) (hq : q = 2 ^ (64 - n)) {x : Int} (hx : In x) : In (rot p q x) := by
  subst hp hq
  rw [rot_eq n hn hx]
  unfold In at *
  have hpq : (2 : Int) ^ (64 - n) * 2 ^ n = 18446744073709551616 := by
    rw [← Int.pow_add, show 64 - n + n = 64 from by omega]; rfl
  have hp : (0 : Int) < 2 ^ n := Int.pow_pos (by omega)
  have hq : (0 : Int) < 2 ^ (64 - n) := Int.pow_pos (by omega)
  have hx1 : x / 2 ^ (64 - n) < 2 ^ n := Int.ediv_lt_of_lt_mul hq (by rw [Int.mul_comm, hpq]; omega)
  have hx0 : 0 ≤ x / 2 ^ (64 - n) := Int.ediv_nonneg hx.1 (by omega)
  have hm0 := Int.emod_nonneg x (show (2 : Int) ^ (64 - n) ≠ 0 by omega)
  have hm1 := Int.emod_lt_of_pos x hq
  have h1 : x % 2 ^ (64 - n) * 2 ^ n ≤ (2 ^ (64 - n) - 1) * 2 ^ n := Int.mul_le_mul_of_nonneg_right (by omega) (by omega)
  rw [Int.sub_mul, hpq, Int.one_mul] at h1
  have h0 := Int.mul_nonneg hm0 (show (0 : Int) ≤ 2 ^ n by omega)
  omega

def InQ (q : Quad) : Prop := In q.a ∧ In q.b ∧ In q.c ∧ In q.d
theorem round_inj {p q : Quad} (hp : InQ p) (hq : InQ q) (h : round p = round q) : p = q := by
  obtain ⟨a, b, c, d⟩ := p
  obtain ⟨a', b', c', d'⟩ := q
  obtain ⟨ha, hb, hc, hd⟩ := hp
  obtain ⟨ha', hb', hc', hd'⟩ := hq
  simp only at ha hb hc hd ha' hb' hc' hd'
  unfold round at h
  simp only [Quad.mk.injEq] at h
  obtain ⟨h1, h2, h3, h4⟩ := h
  have R13 := fun {x : Int} (hx : In x) => rot_in 8192 2251799813685248 13 (by omega) (by decide) (by decide) hx
  have R32 := fun {x : Int} (hx : In x) => rot_in 4294967296 4294967296 32 (by omega) (by decide) (by decide) hx
  have R16 := fun {x : Int} (hx : In x) => rot_in 65536 281474976710656 16 (by omega) (by decide) (by decide) hx
  have R21 := fun {x : Int} (hx : In x) => rot_in 2097152 8796093022208 21 (by omega) (by decide) (by decide) hx
  have R17 := fun {x : Int} (hx : In x) => rot_in 131072 140737488355328 17 (by omega) (by decide) (by decide) hx
  have J13 := fun {x y : Int} (hx : In x) (hy : In y) => rot_inj 8192 2251799813685248 13 (by omega) (by decide) (by decide) hx hy
  have J32 := fun {x y : Int} (hx : In x) (hy : In y) => rot_inj 4294967296 4294967296 32 (by omega) (by decide) (by decide) hx hy
  have J16 := fun {x y : Int} (hx : In x) (hy : In y) => rot_inj 65536 281474976710656 16 (by omega) (by decide) (by decide) hx hy
  have J21 := fun {x y : Int} (hx : In x) (hy : In y) => rot_inj 2097152 8796093022208 21 (by omega) (by decide) (by decide) hx hy
  have J17 := fun {x y : Int} (hx : In x) (hy : In y) => rot_inj 131072 140737488355328 17 (by omega) (by decide) (by decide) hx hy
  have I1 := xr_in (R13 hb) (ad_in a b)
  have I1' := xr_in (R13 hb') (ad_in a' b')
  have I2 := xr_in (R16 hd) (ad_in c d)
  have I2' := xr_in (R16 hd') (ad_in c' d')
  generalize hA : ad a b = A at *
  generalize hA' : ad a' b' = A' at *
  generalize hC : ad c d = C at *
  generalize hC' : ad c' d' = C' at *
  have IA : In A := by rw [← hA]; exact ad_in _ _
  have IA' : In A' := by rw [← hA']; exact ad_in _ _
  have IC : In C := by rw [← hC]; exact ad_in _ _
  have IC' : In C' := by rw [← hC']; exact ad_in _ _
  generalize hB : xr (rot 8192 2251799813685248 b) A = B at *
  generalize hB' : xr (rot 8192 2251799813685248 b') A' = B' at *
  generalize hD : xr (rot 65536 281474976710656 d) C = D at *
  generalize hD' : xr (rot 65536 281474976710656 d') C' = D' at *
  have k3 := J32 (ad_in C B) (ad_in C' B') h3
  rw [k3] at h2
  have kb := J17 I1 I1' (xr_inj (R17 I1) (R17 I1') (ad_in _ _) h2)
  subst kb
  have kc := ad_inj IC IC' k3
  subst kc
  rw [h1] at h4
  have kd := J21 I2 I2' (xr_inj (R21 I2) (R21 I2') (ad_in _ _) h4)
  subst kd
  have ka := J32 IA IA' (ad_inj (R32 IA) (R32 IA') h1)
  subst ka
  have e1 := J13 hb hb' (xr_inj (R13 hb) (R13 hb') IA (hB.trans hB'.symm))
  subst e1
  have e2 := J16 hd hd' (xr_inj (R16 hd) (R16 hd') IC (hD.trans hD'.symm))
  subst e2
  have e3 := ad_inj ha ha' (hA.trans hA'.symm)
  have e4 := ad_inj hc hc' (hC.trans hC'.symm)
  rw [e3, e4]
end Go.Proofs.Ytdlhleegfmnjjaa.Sip
