/- Four numbers held against four numbers. Plain laws over any program. -/
import Derived.Test.YtdlhleegfmnjjaaSip
import Derived.Laws.StructEq
namespace Go.Proofs.Ytdlhleegfmnjjaa.Sip
open Go.RowKit Argin Save Win Bytes
set_option linter.unusedSimpArgs false
set_option linter.unusedVariables false
section
variable {P : Program} (w : World)
theorem run_equalIn_u64 (d : Nat) {e : TypeId} (he : P.underlying e = some (.int .u64)) (a b : Int) : (Op.equalIn (d + 1) e (.int .u64 a) (.int .u64 b)).run P w = .ok (a == b) w := by
  simp [Op.equalIn, run_underlying he]
set_option maxHeartbeats 4000000 in
theorem run_equalIn_quad (d : Nat) {t e : TypeId} {i : TypeInfo} (ht : P.underlying t = some (.array 4 e)) (he : P.underlying e = some (.int .u64)) (hi : P.info? e = some i) (hs : i.size = 1) (hz : i.zero = some (.int .u64 0)) (a b : Quad) :
    (Op.equalIn (d + 2) t (qv a) (qv b)).run P w = .ok (a.a == b.a && a.b == b.b && a.c == b.c && a.d == b.d) w := by
  have h := fun x y => run_equalIn_u64 (P := P) w d he x y
  unfold Op.equalIn
  obtain ⟨a0, a1, a2, a3⟩ := a
  obtain ⟨b0, b1, b2, b3⟩ := b
  by_cases h0 : a0 = b0 <;> by_cases h1 : a1 = b1 <;> by_cases h2 : a2 = b2 <;> by_cases h3 : a3 = b3 <;>
    simp [run_underlying ht, run_underlying he, sizeOf, typeInfo, hi, hs, part, isAgg, List.range', h, h0, h1, h2, h3]
end
end Go.Proofs.Ytdlhleegfmnjjaa.Sip
