/-
  No cell of these rows narrows 'for every input' (looked for: loops, veiled, ifaces, maps, wideKeys, modest, calm, conditions, laid).
  DERIVED. THE GIVEN ROWS OF THIS SEAT. 11 by the template 'for every input the law returns true; each argument reads behind the call as it read before'; 0 by the template 'total and deterministic' (their statements: YtbdgnaeldlgoaaaTotals.lean).
  GIVEN WITH THE SEED: the statements are not yours to turn. If you find one false, say at which input.
  Laid BY PROGRAM, IN A SANDBOX (cutbox-rows.mjs): the forced cells as the released guide's own fill.sh prints them over the translation f56dc7666a9166e3… (all of the seat's roots in one cut). By AI agents, Wed Nov 11 2026. No macro, syntax, notation, axiom, sorry.
-/
import Derived.Test.YtbdgnaeldlgoaaaChecked
import GoSem.Claim
import GoSem.ClaimJoined
import GoSem.ClaimMapViews
import Derived.JoinedTies
import Derived.KernelRfl
namespace Go.Proofs.Ytbdgnaeldlgoaaa
/- THE CELL 'sum', in the pinned program and in every row, IS THE sha256 OF THE DUMP (.gsa) THAT YtbdgnaeldlgoaaaProg.lean LOADS. Nothing in Lean hashes anything: it is a label: what it is worth is what the hold of that sum in a sandbox is worth. -/
noncomputable def Try.pinned : Pinned := { name := "ytbdgnaeldlgoaaa", sum := "f56dc7666a9166e361912d7a61322290e42a19c287a37a8fff67c3b4ad629566", checked := Try.checked }
namespace Rows
def none {H : Type} : Left H := { results := [], args := [] }

/-- 'jorumlaw01.SeqTells': WHATEVER THE INPUT: true; the input reads as it did. -/
def seqTellsSpec : ChangeSpec := { name := "seqTells", fn := fun _ => fun
  | [d1, d2, d3] => { results := [.lit (.bool true)], args := [d1, d2, d3] }
  | _ => none }
def seqTellsRow : OpenClaim := { program := "ytbdgnaeldlgoaaa", sum := "f56dc7666a9166e361912d7a61322290e42a19c287a37a8fff67c3b4ad629566", func := "jorum/jorumlaw01.SeqTells", spec := "seqTells", apart := false }
def SeqTellsSaid : Prop := seqTellsRow.holds Try.pinned (OpenSpec.ofChange seqTellsSpec)

/-- ITS FALSE NEIGHBOUR: 'it returns false'. Refute it at one input. -/
def seqTellsWrong : ChangeSpec := { name := "seqTells", fn := fun _ => fun
  | [d1, d2, d3] => { results := [.lit (.bool false)], args := [d1, d2, d3] }
  | _ => none }
def SeqTellsWrongFalsely : Prop := seqTellsRow.holds Try.pinned (OpenSpec.ofChange seqTellsWrong)

/-- 'jorumlaw01.SeqMoves': WHATEVER THE INPUT: true; the input reads as it did. -/
def seqMovesSpec : ChangeSpec := { name := "seqMoves", fn := fun _ => fun
  | [d1, d2, d3, d4] => { results := [.lit (.bool true)], args := [d1, d2, d3, d4] }
  | _ => none }
def seqMovesRow : OpenClaim := { program := "ytbdgnaeldlgoaaa", sum := "f56dc7666a9166e361912d7a61322290e42a19c287a37a8fff67c3b4ad629566", func := "jorum/jorumlaw01.SeqMoves", spec := "seqMoves", apart := false }
def SeqMovesSaid : Prop := seqMovesRow.holds Try.pinned (OpenSpec.ofChange seqMovesSpec)

/-- ITS FALSE NEIGHBOUR: 'it returns false'. Refute it at one input. -/
def seqMovesWrong : ChangeSpec := { name := "seqMoves", fn := fun _ => fun
  | [d1, d2, d3, d4] => { results := [.lit (.bool false)], args := [d1, d2, d3, d4] }
  | _ => none }
def SeqMovesWrongFalsely : Prop := seqMovesRow.holds Try.pinned (OpenSpec.ofChange seqMovesWrong)

/-- 'jorumlaw10.PawsTells': WHATEVER THE INPUT: true; the input reads as it did. -/
def pawsTellsSpec : ChangeSpec := { name := "pawsTells", fn := fun _ => fun
  | [d1, d2, d3] => { results := [.lit (.bool true)], args := [d1, d2, d3] }
  | _ => none }
def pawsTellsRow : OpenClaim := { program := "ytbdgnaeldlgoaaa", sum := "f56dc7666a9166e361912d7a61322290e42a19c287a37a8fff67c3b4ad629566", func := "jorum/jorumlaw10.PawsTells", spec := "pawsTells", apart := false }
def PawsTellsSaid : Prop := pawsTellsRow.holds Try.pinned (OpenSpec.ofChange pawsTellsSpec)

/-- ITS FALSE NEIGHBOUR: 'it returns false'. Refute it at one input. -/
def pawsTellsWrong : ChangeSpec := { name := "pawsTells", fn := fun _ => fun
  | [d1, d2, d3] => { results := [.lit (.bool false)], args := [d1, d2, d3] }
  | _ => none }
def PawsTellsWrongFalsely : Prop := pawsTellsRow.holds Try.pinned (OpenSpec.ofChange pawsTellsWrong)

/-- 'jorumlaw10.PawsRises': WHATEVER THE INPUT: true; the input reads as it did. -/
def pawsRisesSpec : ChangeSpec := { name := "pawsRises", fn := fun _ => fun
  | [d1, d2, d3] => { results := [.lit (.bool true)], args := [d1, d2, d3] }
  | _ => none }
def pawsRisesRow : OpenClaim := { program := "ytbdgnaeldlgoaaa", sum := "f56dc7666a9166e361912d7a61322290e42a19c287a37a8fff67c3b4ad629566", func := "jorum/jorumlaw10.PawsRises", spec := "pawsRises", apart := false }
def PawsRisesSaid : Prop := pawsRisesRow.holds Try.pinned (OpenSpec.ofChange pawsRisesSpec)

/-- ITS FALSE NEIGHBOUR: 'it returns false'. Refute it at one input. -/
def pawsRisesWrong : ChangeSpec := { name := "pawsRises", fn := fun _ => fun
  | [d1, d2, d3] => { results := [.lit (.bool false)], args := [d1, d2, d3] }
  | _ => none }
def PawsRisesWrongFalsely : Prop := pawsRisesRow.holds Try.pinned (OpenSpec.ofChange pawsRisesWrong)

/-- 'jorumlaw02.SumTells': WHATEVER THE INPUT: true; the input reads as it did. -/
def sumTellsSpec : ChangeSpec := { name := "sumTells", fn := fun _ => fun
  | [d] => { results := [.lit (.bool true)], args := [d] }
  | _ => none }
def sumTellsRow : OpenClaim := { program := "ytbdgnaeldlgoaaa", sum := "f56dc7666a9166e361912d7a61322290e42a19c287a37a8fff67c3b4ad629566", func := "jorum/jorumlaw02.SumTells", spec := "sumTells", apart := false }
def SumTellsSaid : Prop := sumTellsRow.holds Try.pinned (OpenSpec.ofChange sumTellsSpec)

/-- ITS FALSE NEIGHBOUR: 'it returns false'. Refute it at one input. -/
def sumTellsWrong : ChangeSpec := { name := "sumTells", fn := fun _ => fun
  | [d] => { results := [.lit (.bool false)], args := [d] }
  | _ => none }
def SumTellsWrongFalsely : Prop := sumTellsRow.holds Try.pinned (OpenSpec.ofChange sumTellsWrong)

/-- 'jorumlaw02.SumTurns': WHATEVER THE INPUT: true; the input reads as it did. -/
def sumTurnsSpec : ChangeSpec := { name := "sumTurns", fn := fun _ => fun
  | [d1, d2] => { results := [.lit (.bool true)], args := [d1, d2] }
  | _ => none }
def sumTurnsRow : OpenClaim := { program := "ytbdgnaeldlgoaaa", sum := "f56dc7666a9166e361912d7a61322290e42a19c287a37a8fff67c3b4ad629566", func := "jorum/jorumlaw02.SumTurns", spec := "sumTurns", apart := false }
def SumTurnsSaid : Prop := sumTurnsRow.holds Try.pinned (OpenSpec.ofChange sumTurnsSpec)

/-- ITS FALSE NEIGHBOUR: 'it returns false'. Refute it at one input. -/
def sumTurnsWrong : ChangeSpec := { name := "sumTurns", fn := fun _ => fun
  | [d1, d2] => { results := [.lit (.bool false)], args := [d1, d2] }
  | _ => none }
def SumTurnsWrongFalsely : Prop := sumTurnsRow.holds Try.pinned (OpenSpec.ofChange sumTurnsWrong)

/-- 'jorumlaw03.SegGets': WHATEVER THE INPUT: true; the input reads as it did. -/
def segGetsSpec : ChangeSpec := { name := "segGets", fn := fun _ => fun
  | [d] => { results := [.lit (.bool true)], args := [d] }
  | _ => none }
def segGetsRow : OpenClaim := { program := "ytbdgnaeldlgoaaa", sum := "f56dc7666a9166e361912d7a61322290e42a19c287a37a8fff67c3b4ad629566", func := "jorum/jorumlaw03.SegGets", spec := "segGets", recurses := true, apart := false }
def SegGetsSaid : Prop := segGetsRow.holds Try.pinned (OpenSpec.ofChange segGetsSpec)

/-- ITS FALSE NEIGHBOUR: 'it returns false'. Refute it at one input. -/
def segGetsWrong : ChangeSpec := { name := "segGets", fn := fun _ => fun
  | [d] => { results := [.lit (.bool false)], args := [d] }
  | _ => none }
def SegGetsWrongFalsely : Prop := segGetsRow.holds Try.pinned (OpenSpec.ofChange segGetsWrong)

/-- 'jorumlaw03.SegTells': WHATEVER THE INPUT: true; the input reads as it did. -/
def segTellsSpec : ChangeSpec := { name := "segTells", fn := fun _ => fun
  | [d1, d2] => { results := [.lit (.bool true)], args := [d1, d2] }
  | _ => none }
def segTellsRow : OpenClaim := { program := "ytbdgnaeldlgoaaa", sum := "f56dc7666a9166e361912d7a61322290e42a19c287a37a8fff67c3b4ad629566", func := "jorum/jorumlaw03.SegTells", spec := "segTells", recurses := true, apart := false }
def SegTellsSaid : Prop := segTellsRow.holds Try.pinned (OpenSpec.ofChange segTellsSpec)

/-- ITS FALSE NEIGHBOUR: 'it returns false'. Refute it at one input. -/
def segTellsWrong : ChangeSpec := { name := "segTells", fn := fun _ => fun
  | [d1, d2] => { results := [.lit (.bool false)], args := [d1, d2] }
  | _ => none }
def SegTellsWrongFalsely : Prop := segTellsRow.holds Try.pinned (OpenSpec.ofChange segTellsWrong)

/-- 'jorumlaw03.SegBack': WHATEVER THE INPUT: true; the input reads as it did. -/
def segBackSpec : ChangeSpec := { name := "segBack", fn := fun _ => fun
  | [d1, d2, d3] => { results := [.lit (.bool true)], args := [d1, d2, d3] }
  | _ => none }
def segBackRow : OpenClaim := { program := "ytbdgnaeldlgoaaa", sum := "f56dc7666a9166e361912d7a61322290e42a19c287a37a8fff67c3b4ad629566", func := "jorum/jorumlaw03.SegBack", spec := "segBack", apart := false }
def SegBackSaid : Prop := segBackRow.holds Try.pinned (OpenSpec.ofChange segBackSpec)

/-- ITS FALSE NEIGHBOUR: 'it returns false'. Refute it at one input. -/
def segBackWrong : ChangeSpec := { name := "segBack", fn := fun _ => fun
  | [d1, d2, d3] => { results := [.lit (.bool false)], args := [d1, d2, d3] }
  | _ => none }
def SegBackWrongFalsely : Prop := segBackRow.holds Try.pinned (OpenSpec.ofChange segBackWrong)

/-- 'jorumlaw13.StateEnds': WHATEVER THE INPUT: true; the input reads as it did. -/
def stateEndsSpec : ChangeSpec := { name := "stateEnds", fn := fun _ => fun
  | [d1, d2] => { results := [.lit (.bool true)], args := [d1, d2] }
  | _ => none }
def stateEndsRow : OpenClaim := { program := "ytbdgnaeldlgoaaa", sum := "f56dc7666a9166e361912d7a61322290e42a19c287a37a8fff67c3b4ad629566", func := "jorum/jorumlaw13.StateEnds", spec := "stateEnds", apart := false }
def StateEndsSaid : Prop := stateEndsRow.holds Try.pinned (OpenSpec.ofChange stateEndsSpec)

/-- ITS FALSE NEIGHBOUR: 'it returns false'. Refute it at one input. -/
def stateEndsWrong : ChangeSpec := { name := "stateEnds", fn := fun _ => fun
  | [d1, d2] => { results := [.lit (.bool false)], args := [d1, d2] }
  | _ => none }
def StateEndsWrongFalsely : Prop := stateEndsRow.holds Try.pinned (OpenSpec.ofChange stateEndsWrong)

/-- 'jorumlaw13.StateTells': WHATEVER THE INPUT: true; the input reads as it did. -/
def stateTellsSpec : ChangeSpec := { name := "stateTells", fn := fun _ => fun
  | [d1, d2] => { results := [.lit (.bool true)], args := [d1, d2] }
  | _ => none }
def stateTellsRow : OpenClaim := { program := "ytbdgnaeldlgoaaa", sum := "f56dc7666a9166e361912d7a61322290e42a19c287a37a8fff67c3b4ad629566", func := "jorum/jorumlaw13.StateTells", spec := "stateTells", apart := false }
def StateTellsSaid : Prop := stateTellsRow.holds Try.pinned (OpenSpec.ofChange stateTellsSpec)

/-- ITS FALSE NEIGHBOUR: 'it returns false'. Refute it at one input. -/
def stateTellsWrong : ChangeSpec := { name := "stateTells", fn := fun _ => fun
  | [d1, d2] => { results := [.lit (.bool false)], args := [d1, d2] }
  | _ => none }
def StateTellsWrongFalsely : Prop := stateTellsRow.holds Try.pinned (OpenSpec.ofChange stateTellsWrong)

/- THE SECOND FORM. 'bulk': how many values and letters a reading holds, each counted each time it is reached (what is shared counts as often as it is met; a slice's spare places count too). A statement '..UptoSaid' is the law's where the arguments, and the package variables that the reading takes, are together of bulk at most 1048576: NARROWER than '..Said'. Prove '..Said' where nothing that the law and all that it calls make is longer than what came in: it says more and counts as full. Else prove '..UptoSaid'. A law counts once. -/
mutual
def uptoBulk {H : Type} : DataW H → Nat
  | .lit (.string bytes) => bytes.length + 1
  | .lit _ => 1
  | .nil => 1
  | .ptr d => uptoBulk d + 1
  | .slice elems spare => uptoBulkAll elems + uptoBulkAll spare + 1
  | .agg parts => uptoBulkAll parts + 1
  | .iface _ d => uptoBulk d + 1
  | .map entries => uptoBulkEntries entries + 1
  | .held _ => 1
def uptoBulkAll {H : Type} : List (DataW H) → Nat
  | [] => 0
  | d :: r => uptoBulk d + uptoBulkAll r
def uptoBulkEntries {H : Type} : List (Lit × DataW H) → Nat
  | [] => 0
  | x :: r => uptoBulkEntry x + uptoBulkEntries r
def uptoBulkEntry {H : Type} : Lit × DataW H → Nat
  | (.string bytes, d) => bytes.length + uptoBulk d + 1
  | (_, d) => uptoBulk d + 1
 end
def uptoSmall : (H : Type) → List (DataW H) → Bool := fun _ ds => decide (uptoBulkAll ds ≤ 1048576)
def OpenSpec.upto (s : _root_.Go.ChangeSpec) : _root_.Go.OpenSpec := { _root_.Go.OpenSpec.ofChange s with cond := some uptoSmall }

/-- 'jorumlaw01.SeqTells', WHERE WHAT IT READS IS OF BULK AT MOST 1048576: true; the input reads as it did. -/
def seqTellsUptoRow : OpenClaim := { program := "ytbdgnaeldlgoaaa", sum := "f56dc7666a9166e361912d7a61322290e42a19c287a37a8fff67c3b4ad629566", func := "jorum/jorumlaw01.SeqTells", spec := "seqTells", apart := false, narrowed := true }
def SeqTellsUptoSaid : Prop := seqTellsUptoRow.holds Try.pinned (OpenSpec.upto seqTellsSpec)

/-- 'jorumlaw01.SeqMoves', WHERE WHAT IT READS IS OF BULK AT MOST 1048576: true; the input reads as it did. -/
def seqMovesUptoRow : OpenClaim := { program := "ytbdgnaeldlgoaaa", sum := "f56dc7666a9166e361912d7a61322290e42a19c287a37a8fff67c3b4ad629566", func := "jorum/jorumlaw01.SeqMoves", spec := "seqMoves", apart := false, narrowed := true }
def SeqMovesUptoSaid : Prop := seqMovesUptoRow.holds Try.pinned (OpenSpec.upto seqMovesSpec)

/-- 'jorumlaw10.PawsTells', WHERE WHAT IT READS IS OF BULK AT MOST 1048576: true; the input reads as it did. -/
def pawsTellsUptoRow : OpenClaim := { program := "ytbdgnaeldlgoaaa", sum := "f56dc7666a9166e361912d7a61322290e42a19c287a37a8fff67c3b4ad629566", func := "jorum/jorumlaw10.PawsTells", spec := "pawsTells", apart := false, narrowed := true }
def PawsTellsUptoSaid : Prop := pawsTellsUptoRow.holds Try.pinned (OpenSpec.upto pawsTellsSpec)

/-- 'jorumlaw10.PawsRises', WHERE WHAT IT READS IS OF BULK AT MOST 1048576: true; the input reads as it did. -/
def pawsRisesUptoRow : OpenClaim := { program := "ytbdgnaeldlgoaaa", sum := "f56dc7666a9166e361912d7a61322290e42a19c287a37a8fff67c3b4ad629566", func := "jorum/jorumlaw10.PawsRises", spec := "pawsRises", apart := false, narrowed := true }
def PawsRisesUptoSaid : Prop := pawsRisesUptoRow.holds Try.pinned (OpenSpec.upto pawsRisesSpec)

/-- 'jorumlaw02.SumTells', WHERE WHAT IT READS IS OF BULK AT MOST 1048576: true; the input reads as it did. -/
def sumTellsUptoRow : OpenClaim := { program := "ytbdgnaeldlgoaaa", sum := "f56dc7666a9166e361912d7a61322290e42a19c287a37a8fff67c3b4ad629566", func := "jorum/jorumlaw02.SumTells", spec := "sumTells", apart := false, narrowed := true }
def SumTellsUptoSaid : Prop := sumTellsUptoRow.holds Try.pinned (OpenSpec.upto sumTellsSpec)

/-- 'jorumlaw02.SumTurns', WHERE WHAT IT READS IS OF BULK AT MOST 1048576: true; the input reads as it did. -/
def sumTurnsUptoRow : OpenClaim := { program := "ytbdgnaeldlgoaaa", sum := "f56dc7666a9166e361912d7a61322290e42a19c287a37a8fff67c3b4ad629566", func := "jorum/jorumlaw02.SumTurns", spec := "sumTurns", apart := false, narrowed := true }
def SumTurnsUptoSaid : Prop := sumTurnsUptoRow.holds Try.pinned (OpenSpec.upto sumTurnsSpec)

/-- 'jorumlaw03.SegGets', WHERE WHAT IT READS IS OF BULK AT MOST 1048576: true; the input reads as it did. -/
def segGetsUptoRow : OpenClaim := { program := "ytbdgnaeldlgoaaa", sum := "f56dc7666a9166e361912d7a61322290e42a19c287a37a8fff67c3b4ad629566", func := "jorum/jorumlaw03.SegGets", spec := "segGets", recurses := true, apart := false, narrowed := true }
def SegGetsUptoSaid : Prop := segGetsUptoRow.holds Try.pinned (OpenSpec.upto segGetsSpec)

/-- 'jorumlaw03.SegTells', WHERE WHAT IT READS IS OF BULK AT MOST 1048576: true; the input reads as it did. -/
def segTellsUptoRow : OpenClaim := { program := "ytbdgnaeldlgoaaa", sum := "f56dc7666a9166e361912d7a61322290e42a19c287a37a8fff67c3b4ad629566", func := "jorum/jorumlaw03.SegTells", spec := "segTells", recurses := true, apart := false, narrowed := true }
def SegTellsUptoSaid : Prop := segTellsUptoRow.holds Try.pinned (OpenSpec.upto segTellsSpec)

/-- 'jorumlaw03.SegBack', WHERE WHAT IT READS IS OF BULK AT MOST 1048576: true; the input reads as it did. -/
def segBackUptoRow : OpenClaim := { program := "ytbdgnaeldlgoaaa", sum := "f56dc7666a9166e361912d7a61322290e42a19c287a37a8fff67c3b4ad629566", func := "jorum/jorumlaw03.SegBack", spec := "segBack", apart := false, narrowed := true }
def SegBackUptoSaid : Prop := segBackUptoRow.holds Try.pinned (OpenSpec.upto segBackSpec)

/-- 'jorumlaw13.StateEnds', WHERE WHAT IT READS IS OF BULK AT MOST 1048576: true; the input reads as it did. -/
def stateEndsUptoRow : OpenClaim := { program := "ytbdgnaeldlgoaaa", sum := "f56dc7666a9166e361912d7a61322290e42a19c287a37a8fff67c3b4ad629566", func := "jorum/jorumlaw13.StateEnds", spec := "stateEnds", apart := false, narrowed := true }
def StateEndsUptoSaid : Prop := stateEndsUptoRow.holds Try.pinned (OpenSpec.upto stateEndsSpec)

/-- 'jorumlaw13.StateTells', WHERE WHAT IT READS IS OF BULK AT MOST 1048576: true; the input reads as it did. -/
def stateTellsUptoRow : OpenClaim := { program := "ytbdgnaeldlgoaaa", sum := "f56dc7666a9166e361912d7a61322290e42a19c287a37a8fff67c3b4ad629566", func := "jorum/jorumlaw13.StateTells", spec := "stateTells", apart := false, narrowed := true }
def StateTellsUptoSaid : Prop := stateTellsUptoRow.holds Try.pinned (OpenSpec.upto stateTellsSpec)

end Rows
end Go.Proofs.Ytbdgnaeldlgoaaa
