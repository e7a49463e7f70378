/-
  No cell of these rows narrows 'for every input' (looked for: loops, veiled, ifaces, maps, wideKeys, modest, calm, conditions, laid).
  DERIVED. THE GIVEN ROWS OF THIS SEAT. 12 by the template 'for every input the law returns true; each argument reads behind the call as it read before'; 0 by the template 'total and deterministic' (their statements: YtkijhdkeaddchaaTotals.lean).
  GIVEN WITH THE SEED: the statements are not yours to turn. If you find one false, say at which input.
  Laid BY PROGRAM, IN A SANDBOX (cutbox-rows.mjs): the forced cells as the released guide's own fill.sh prints them over the translation d6f92411523bba0c… (all of the seat's roots in one cut). By AI agents, Wed Nov 11 2026. No macro, syntax, notation, axiom, sorry.
-/
import Derived.Test.YtkijhdkeaddchaaChecked
import GoSem.Claim
import GoSem.ClaimJoined
import GoSem.ClaimMapViews
import Derived.JoinedTies
import Derived.KernelRfl
namespace Go.Proofs.Ytkijhdkeaddchaa
/- THE CELL 'sum', in the pinned program and in every row, IS THE sha256 OF THE DUMP (.gsa) THAT YtkijhdkeaddchaaProg.lean LOADS. Nothing in Lean hashes anything: it is a label: what it is worth is what the hold of that sum in a sandbox is worth. -/
noncomputable def Try.pinned : Pinned := { name := "ytkijhdkeaddchaa", sum := "d6f92411523bba0c75f1801e3a2b3c0d63f0080aac4d35708cb07af6b45ee054", checked := Try.checked }
namespace Rows
def none {H : Type} : Left H := { results := [], args := [] }

/-- 'jorumlaw15.LingerPlays': WHATEVER THE INPUT: true; the input reads as it did. -/
def lingerPlaysSpec : ChangeSpec := { name := "lingerPlays", fn := fun _ => fun
  | [d] => { results := [.lit (.bool true)], args := [d] }
  | _ => none }
def lingerPlaysRow : OpenClaim := { program := "ytkijhdkeaddchaa", sum := "d6f92411523bba0c75f1801e3a2b3c0d63f0080aac4d35708cb07af6b45ee054", func := "jorum/jorumlaw15.LingerPlays", spec := "lingerPlays", plainKeys := false, apart := false }
def LingerPlaysSaid : Prop := lingerPlaysRow.holds Try.pinned (OpenSpec.ofChange lingerPlaysSpec)

/-- ITS FALSE NEIGHBOUR: 'it returns false'. Refute it at one input. -/
def lingerPlaysWrong : ChangeSpec := { name := "lingerPlays", fn := fun _ => fun
  | [d] => { results := [.lit (.bool false)], args := [d] }
  | _ => none }
def LingerPlaysWrongFalsely : Prop := lingerPlaysRow.holds Try.pinned (OpenSpec.ofChange lingerPlaysWrong)

/-- 'jorumlaw15.LingerAnswers': WHATEVER THE INPUT: true; the input reads as it did. -/
def lingerAnswersSpec : ChangeSpec := { name := "lingerAnswers", fn := fun _ => fun
  | [d1, d2, d3, d4, d5] => { results := [.lit (.bool true)], args := [d1, d2, d3, d4, d5] }
  | _ => none }
def lingerAnswersRow : OpenClaim := { program := "ytkijhdkeaddchaa", sum := "d6f92411523bba0c75f1801e3a2b3c0d63f0080aac4d35708cb07af6b45ee054", func := "jorum/jorumlaw15.LingerAnswers", spec := "lingerAnswers", plainKeys := false, apart := false }
def LingerAnswersSaid : Prop := lingerAnswersRow.holds Try.pinned (OpenSpec.ofChange lingerAnswersSpec)

/-- ITS FALSE NEIGHBOUR: 'it returns false'. Refute it at one input. -/
def lingerAnswersWrong : ChangeSpec := { name := "lingerAnswers", fn := fun _ => fun
  | [d1, d2, d3, d4, d5] => { results := [.lit (.bool false)], args := [d1, d2, d3, d4, d5] }
  | _ => none }
def LingerAnswersWrongFalsely : Prop := lingerAnswersRow.holds Try.pinned (OpenSpec.ofChange lingerAnswersWrong)

/-- 'jorumlaw07.TimerRises': WHATEVER THE INPUT: true; the input reads as it did. -/
def timerRisesSpec : ChangeSpec := { name := "timerRises", fn := fun _ => fun
  | [d1, d2, d3, d4, d5] => { results := [.lit (.bool true)], args := [d1, d2, d3, d4, d5] }
  | _ => none }
def timerRisesRow : OpenClaim := { program := "ytkijhdkeaddchaa", sum := "d6f92411523bba0c75f1801e3a2b3c0d63f0080aac4d35708cb07af6b45ee054", func := "jorum/jorumlaw07.TimerRises", spec := "timerRises", plainKeys := false, apart := false }
def TimerRisesSaid : Prop := timerRisesRow.holds Try.pinned (OpenSpec.ofChange timerRisesSpec)

/-- ITS FALSE NEIGHBOUR: 'it returns false'. Refute it at one input. -/
def timerRisesWrong : ChangeSpec := { name := "timerRises", fn := fun _ => fun
  | [d1, d2, d3, d4, d5] => { results := [.lit (.bool false)], args := [d1, d2, d3, d4, d5] }
  | _ => none }
def TimerRisesWrongFalsely : Prop := timerRisesRow.holds Try.pinned (OpenSpec.ofChange timerRisesWrong)

/-- 'jorumlaw07.TimerPlays': WHATEVER THE INPUT: true; the input reads as it did. -/
def timerPlaysSpec : ChangeSpec := { name := "timerPlays", fn := fun _ => fun
  | [d1, d2, d3, d4] => { results := [.lit (.bool true)], args := [d1, d2, d3, d4] }
  | _ => none }
def timerPlaysRow : OpenClaim := { program := "ytkijhdkeaddchaa", sum := "d6f92411523bba0c75f1801e3a2b3c0d63f0080aac4d35708cb07af6b45ee054", func := "jorum/jorumlaw07.TimerPlays", spec := "timerPlays", plainKeys := false, apart := false }
def TimerPlaysSaid : Prop := timerPlaysRow.holds Try.pinned (OpenSpec.ofChange timerPlaysSpec)

/-- ITS FALSE NEIGHBOUR: 'it returns false'. Refute it at one input. -/
def timerPlaysWrong : ChangeSpec := { name := "timerPlays", fn := fun _ => fun
  | [d1, d2, d3, d4] => { results := [.lit (.bool false)], args := [d1, d2, d3, d4] }
  | _ => none }
def TimerPlaysWrongFalsely : Prop := timerPlaysRow.holds Try.pinned (OpenSpec.ofChange timerPlaysWrong)

/-- 'jorumlaw09.RbufPlays': WHATEVER THE INPUT: true; the input reads as it did. -/
def rbufPlaysSpec : ChangeSpec := { name := "rbufPlays", fn := fun _ => fun
  | [d1, d2] => { results := [.lit (.bool true)], args := [d1, d2] }
  | _ => none }
def rbufPlaysRow : OpenClaim := { program := "ytkijhdkeaddchaa", sum := "d6f92411523bba0c75f1801e3a2b3c0d63f0080aac4d35708cb07af6b45ee054", func := "jorum/jorumlaw09.RbufPlays", spec := "rbufPlays", plainKeys := false, apart := false }
def RbufPlaysSaid : Prop := rbufPlaysRow.holds Try.pinned (OpenSpec.ofChange rbufPlaysSpec)

/-- ITS FALSE NEIGHBOUR: 'it returns false'. Refute it at one input. -/
def rbufPlaysWrong : ChangeSpec := { name := "rbufPlays", fn := fun _ => fun
  | [d1, d2] => { results := [.lit (.bool false)], args := [d1, d2] }
  | _ => none }
def RbufPlaysWrongFalsely : Prop := rbufPlaysRow.holds Try.pinned (OpenSpec.ofChange rbufPlaysWrong)

/-- 'jorumlaw09.RbufFront': WHATEVER THE INPUT: true; the input reads as it did. -/
def rbufFrontSpec : ChangeSpec := { name := "rbufFront", fn := fun _ => fun
  | [d1, d2, d3, d4] => { results := [.lit (.bool true)], args := [d1, d2, d3, d4] }
  | _ => none }
def rbufFrontRow : OpenClaim := { program := "ytkijhdkeaddchaa", sum := "d6f92411523bba0c75f1801e3a2b3c0d63f0080aac4d35708cb07af6b45ee054", func := "jorum/jorumlaw09.RbufFront", spec := "rbufFront", plainKeys := false, apart := false }
def RbufFrontSaid : Prop := rbufFrontRow.holds Try.pinned (OpenSpec.ofChange rbufFrontSpec)

/-- ITS FALSE NEIGHBOUR: 'it returns false'. Refute it at one input. -/
def rbufFrontWrong : ChangeSpec := { name := "rbufFront", fn := fun _ => fun
  | [d1, d2, d3, d4] => { results := [.lit (.bool false)], args := [d1, d2, d3, d4] }
  | _ => none }
def RbufFrontWrongFalsely : Prop := rbufFrontRow.holds Try.pinned (OpenSpec.ofChange rbufFrontWrong)

/-- 'jorumlaw16.TablePlays': WHATEVER THE INPUT: true; the input reads as it did. -/
def tablePlaysSpec : ChangeSpec := { name := "tablePlays", fn := fun _ => fun
  | [d1, d2, d3] => { results := [.lit (.bool true)], args := [d1, d2, d3] }
  | _ => none }
def tablePlaysRow : OpenClaim := { program := "ytkijhdkeaddchaa", sum := "d6f92411523bba0c75f1801e3a2b3c0d63f0080aac4d35708cb07af6b45ee054", func := "jorum/jorumlaw16.TablePlays", spec := "tablePlays", unfollowed := true, recurses := true, plainKeys := false, apart := false }
def TablePlaysSaid : Prop := tablePlaysRow.holds Try.pinned (OpenSpec.ofChange tablePlaysSpec)

/-- ITS FALSE NEIGHBOUR: 'it returns false'. Refute it at one input. -/
def tablePlaysWrong : ChangeSpec := { name := "tablePlays", fn := fun _ => fun
  | [d1, d2, d3] => { results := [.lit (.bool false)], args := [d1, d2, d3] }
  | _ => none }
def TablePlaysWrongFalsely : Prop := tablePlaysRow.holds Try.pinned (OpenSpec.ofChange tablePlaysWrong)

/-- 'jorumlaw16.TableOne': WHATEVER THE INPUT: true; the input reads as it did. -/
def tableOneSpec : ChangeSpec := { name := "tableOne", fn := fun _ => fun
  | [d1, d2] => { results := [.lit (.bool true)], args := [d1, d2] }
  | _ => none }
def tableOneRow : OpenClaim := { program := "ytkijhdkeaddchaa", sum := "d6f92411523bba0c75f1801e3a2b3c0d63f0080aac4d35708cb07af6b45ee054", func := "jorum/jorumlaw16.TableOne", spec := "tableOne", unfollowed := true, recurses := true, plainKeys := false, apart := false }
def TableOneSaid : Prop := tableOneRow.holds Try.pinned (OpenSpec.ofChange tableOneSpec)

/-- ITS FALSE NEIGHBOUR: 'it returns false'. Refute it at one input. -/
def tableOneWrong : ChangeSpec := { name := "tableOne", fn := fun _ => fun
  | [d1, d2] => { results := [.lit (.bool false)], args := [d1, d2] }
  | _ => none }
def TableOneWrongFalsely : Prop := tableOneRow.holds Try.pinned (OpenSpec.ofChange tableOneWrong)

/-- 'jorumlaw06.RttTells': WHATEVER THE INPUT: true; the input reads as it did. -/
def rttTellsSpec : ChangeSpec := { name := "rttTells", fn := fun _ => fun
  | [d1, d2, d3, d4, d5, d6] => { results := [.lit (.bool true)], args := [d1, d2, d3, d4, d5, d6] }
  | _ => none }
def rttTellsRow : OpenClaim := { program := "ytkijhdkeaddchaa", sum := "d6f92411523bba0c75f1801e3a2b3c0d63f0080aac4d35708cb07af6b45ee054", func := "jorum/jorumlaw06.RttTells", spec := "rttTells", inPlace := ["math.Float64bits", "math.Float64frombits"], plainKeys := false, apart := false }
def RttTellsSaid : Prop := rttTellsRow.holds Try.pinned (OpenSpec.ofChange rttTellsSpec)

/-- ITS FALSE NEIGHBOUR: 'it returns false'. Refute it at one input. -/
def rttTellsWrong : ChangeSpec := { name := "rttTells", fn := fun _ => fun
  | [d1, d2, d3, d4, d5, d6] => { results := [.lit (.bool false)], args := [d1, d2, d3, d4, d5, d6] }
  | _ => none }
def RttTellsWrongFalsely : Prop := rttTellsRow.holds Try.pinned (OpenSpec.ofChange rttTellsWrong)

/-- 'jorumlaw06.RttBounds': WHATEVER THE INPUT: true; the input reads as it did. -/
def rttBoundsSpec : ChangeSpec := { name := "rttBounds", fn := fun _ => fun
  | [d1, d2, d3, d4] => { results := [.lit (.bool true)], args := [d1, d2, d3, d4] }
  | _ => none }
def rttBoundsRow : OpenClaim := { program := "ytkijhdkeaddchaa", sum := "d6f92411523bba0c75f1801e3a2b3c0d63f0080aac4d35708cb07af6b45ee054", func := "jorum/jorumlaw06.RttBounds", spec := "rttBounds", inPlace := ["math.Float64bits", "math.Float64frombits"], plainKeys := false, apart := false }
def RttBoundsSaid : Prop := rttBoundsRow.holds Try.pinned (OpenSpec.ofChange rttBoundsSpec)

/-- ITS FALSE NEIGHBOUR: 'it returns false'. Refute it at one input. -/
def rttBoundsWrong : ChangeSpec := { name := "rttBounds", fn := fun _ => fun
  | [d1, d2, d3, d4] => { results := [.lit (.bool false)], args := [d1, d2, d3, d4] }
  | _ => none }
def RttBoundsWrongFalsely : Prop := rttBoundsRow.holds Try.pinned (OpenSpec.ofChange rttBoundsWrong)

/-- 'jorumlaw17.ListenFew': WHATEVER THE INPUT: true; the input reads as it did. -/
def listenFewSpec : ChangeSpec := { name := "listenFew", fn := fun _ => fun
  | [d1, d2, d3] => { results := [.lit (.bool true)], args := [d1, d2, d3] }
  | _ => none }
def listenFewRow : OpenClaim := { program := "ytkijhdkeaddchaa", sum := "d6f92411523bba0c75f1801e3a2b3c0d63f0080aac4d35708cb07af6b45ee054", func := "jorum/jorumlaw17.ListenFew", spec := "listenFew", unfollowed := true, recurses := true, plainKeys := false, apart := false }
def ListenFewSaid : Prop := listenFewRow.holds Try.pinned (OpenSpec.ofChange listenFewSpec)

/-- ITS FALSE NEIGHBOUR: 'it returns false'. Refute it at one input. -/
def listenFewWrong : ChangeSpec := { name := "listenFew", fn := fun _ => fun
  | [d1, d2, d3] => { results := [.lit (.bool false)], args := [d1, d2, d3] }
  | _ => none }
def ListenFewWrongFalsely : Prop := listenFewRow.holds Try.pinned (OpenSpec.ofChange listenFewWrong)

/-- 'jorumlaw17.ListenPlays': WHATEVER THE INPUT: true; the input reads as it did. -/
def listenPlaysSpec : ChangeSpec := { name := "listenPlays", fn := fun _ => fun
  | [d1, d2] => { results := [.lit (.bool true)], args := [d1, d2] }
  | _ => none }
def listenPlaysRow : OpenClaim := { program := "ytkijhdkeaddchaa", sum := "d6f92411523bba0c75f1801e3a2b3c0d63f0080aac4d35708cb07af6b45ee054", func := "jorum/jorumlaw17.ListenPlays", spec := "listenPlays", unfollowed := true, recurses := true, plainKeys := false, apart := false }
def ListenPlaysSaid : Prop := listenPlaysRow.holds Try.pinned (OpenSpec.ofChange listenPlaysSpec)

/-- ITS FALSE NEIGHBOUR: 'it returns false'. Refute it at one input. -/
def listenPlaysWrong : ChangeSpec := { name := "listenPlays", fn := fun _ => fun
  | [d1, d2] => { results := [.lit (.bool false)], args := [d1, d2] }
  | _ => none }
def ListenPlaysWrongFalsely : Prop := listenPlaysRow.holds Try.pinned (OpenSpec.ofChange listenPlaysWrong)

/- THE SECOND FORM. 'bulk': how many values and letters a reading holds, each counted each time it is reached (what is shared counts as often as it is met; a slice's spare places count too). A statement '..UptoSaid' is the law's where the arguments, and the package variables that the reading takes, are together of bulk at most 1048576: NARROWER than '..Said'. Prove '..Said' where nothing that the law and all that it calls make is longer than what came in: it says more and counts as full. Else prove '..UptoSaid'. A law counts once. -/
mutual
def uptoBulk {H : Type} : DataW H → Nat
  | .lit (.string bytes) => bytes.length + 1
  | .lit _ => 1
  | .nil => 1
  | .ptr d => uptoBulk d + 1
  | .slice elems spare => uptoBulkAll elems + uptoBulkAll spare + 1
  | .agg parts => uptoBulkAll parts + 1
  | .iface _ d => uptoBulk d + 1
  | .map entries => uptoBulkEntries entries + 1
  | .held _ => 1
def uptoBulkAll {H : Type} : List (DataW H) → Nat
  | [] => 0
  | d :: r => uptoBulk d + uptoBulkAll r
def uptoBulkEntries {H : Type} : List (Lit × DataW H) → Nat
  | [] => 0
  | x :: r => uptoBulkEntry x + uptoBulkEntries r
def uptoBulkEntry {H : Type} : Lit × DataW H → Nat
  | (.string bytes, d) => bytes.length + uptoBulk d + 1
  | (_, d) => uptoBulk d + 1
 end
def uptoSmall : (H : Type) → List (DataW H) → Bool := fun _ ds => decide (uptoBulkAll ds ≤ 1048576)
def OpenSpec.upto (s : _root_.Go.ChangeSpec) : _root_.Go.OpenSpec := { _root_.Go.OpenSpec.ofChange s with cond := some uptoSmall }

/-- 'jorumlaw15.LingerPlays', WHERE WHAT IT READS IS OF BULK AT MOST 1048576: true; the input reads as it did. -/
def lingerPlaysUptoRow : OpenClaim := { program := "ytkijhdkeaddchaa", sum := "d6f92411523bba0c75f1801e3a2b3c0d63f0080aac4d35708cb07af6b45ee054", func := "jorum/jorumlaw15.LingerPlays", spec := "lingerPlays", plainKeys := false, apart := false, narrowed := true }
def LingerPlaysUptoSaid : Prop := lingerPlaysUptoRow.holds Try.pinned (OpenSpec.upto lingerPlaysSpec)

/-- 'jorumlaw15.LingerAnswers', WHERE WHAT IT READS IS OF BULK AT MOST 1048576: true; the input reads as it did. -/
def lingerAnswersUptoRow : OpenClaim := { program := "ytkijhdkeaddchaa", sum := "d6f92411523bba0c75f1801e3a2b3c0d63f0080aac4d35708cb07af6b45ee054", func := "jorum/jorumlaw15.LingerAnswers", spec := "lingerAnswers", plainKeys := false, apart := false, narrowed := true }
def LingerAnswersUptoSaid : Prop := lingerAnswersUptoRow.holds Try.pinned (OpenSpec.upto lingerAnswersSpec)

/-- 'jorumlaw07.TimerRises', WHERE WHAT IT READS IS OF BULK AT MOST 1048576: true; the input reads as it did. -/
def timerRisesUptoRow : OpenClaim := { program := "ytkijhdkeaddchaa", sum := "d6f92411523bba0c75f1801e3a2b3c0d63f0080aac4d35708cb07af6b45ee054", func := "jorum/jorumlaw07.TimerRises", spec := "timerRises", plainKeys := false, apart := false, narrowed := true }
def TimerRisesUptoSaid : Prop := timerRisesUptoRow.holds Try.pinned (OpenSpec.upto timerRisesSpec)

/-- 'jorumlaw07.TimerPlays', WHERE WHAT IT READS IS OF BULK AT MOST 1048576: true; the input reads as it did. -/
def timerPlaysUptoRow : OpenClaim := { program := "ytkijhdkeaddchaa", sum := "d6f92411523bba0c75f1801e3a2b3c0d63f0080aac4d35708cb07af6b45ee054", func := "jorum/jorumlaw07.TimerPlays", spec := "timerPlays", plainKeys := false, apart := false, narrowed := true }
def TimerPlaysUptoSaid : Prop := timerPlaysUptoRow.holds Try.pinned (OpenSpec.upto timerPlaysSpec)

/-- 'jorumlaw09.RbufPlays', WHERE WHAT IT READS IS OF BULK AT MOST 1048576: true; the input reads as it did. -/
def rbufPlaysUptoRow : OpenClaim := { program := "ytkijhdkeaddchaa", sum := "d6f92411523bba0c75f1801e3a2b3c0d63f0080aac4d35708cb07af6b45ee054", func := "jorum/jorumlaw09.RbufPlays", spec := "rbufPlays", plainKeys := false, apart := false, narrowed := true }
def RbufPlaysUptoSaid : Prop := rbufPlaysUptoRow.holds Try.pinned (OpenSpec.upto rbufPlaysSpec)

/-- 'jorumlaw09.RbufFront', WHERE WHAT IT READS IS OF BULK AT MOST 1048576: true; the input reads as it did. -/
def rbufFrontUptoRow : OpenClaim := { program := "ytkijhdkeaddchaa", sum := "d6f92411523bba0c75f1801e3a2b3c0d63f0080aac4d35708cb07af6b45ee054", func := "jorum/jorumlaw09.RbufFront", spec := "rbufFront", plainKeys := false, apart := false, narrowed := true }
def RbufFrontUptoSaid : Prop := rbufFrontUptoRow.holds Try.pinned (OpenSpec.upto rbufFrontSpec)

/-- 'jorumlaw16.TablePlays', WHERE WHAT IT READS IS OF BULK AT MOST 1048576: true; the input reads as it did. -/
def tablePlaysUptoRow : OpenClaim := { program := "ytkijhdkeaddchaa", sum := "d6f92411523bba0c75f1801e3a2b3c0d63f0080aac4d35708cb07af6b45ee054", func := "jorum/jorumlaw16.TablePlays", spec := "tablePlays", unfollowed := true, recurses := true, plainKeys := false, apart := false, narrowed := true }
def TablePlaysUptoSaid : Prop := tablePlaysUptoRow.holds Try.pinned (OpenSpec.upto tablePlaysSpec)

/-- 'jorumlaw16.TableOne', WHERE WHAT IT READS IS OF BULK AT MOST 1048576: true; the input reads as it did. -/
def tableOneUptoRow : OpenClaim := { program := "ytkijhdkeaddchaa", sum := "d6f92411523bba0c75f1801e3a2b3c0d63f0080aac4d35708cb07af6b45ee054", func := "jorum/jorumlaw16.TableOne", spec := "tableOne", unfollowed := true, recurses := true, plainKeys := false, apart := false, narrowed := true }
def TableOneUptoSaid : Prop := tableOneUptoRow.holds Try.pinned (OpenSpec.upto tableOneSpec)

/-- 'jorumlaw06.RttTells', WHERE WHAT IT READS IS OF BULK AT MOST 1048576: true; the input reads as it did. -/
def rttTellsUptoRow : OpenClaim := { program := "ytkijhdkeaddchaa", sum := "d6f92411523bba0c75f1801e3a2b3c0d63f0080aac4d35708cb07af6b45ee054", func := "jorum/jorumlaw06.RttTells", spec := "rttTells", inPlace := ["math.Float64bits", "math.Float64frombits"], plainKeys := false, apart := false, narrowed := true }
def RttTellsUptoSaid : Prop := rttTellsUptoRow.holds Try.pinned (OpenSpec.upto rttTellsSpec)

/-- 'jorumlaw06.RttBounds', WHERE WHAT IT READS IS OF BULK AT MOST 1048576: true; the input reads as it did. -/
def rttBoundsUptoRow : OpenClaim := { program := "ytkijhdkeaddchaa", sum := "d6f92411523bba0c75f1801e3a2b3c0d63f0080aac4d35708cb07af6b45ee054", func := "jorum/jorumlaw06.RttBounds", spec := "rttBounds", inPlace := ["math.Float64bits", "math.Float64frombits"], plainKeys := false, apart := false, narrowed := true }
def RttBoundsUptoSaid : Prop := rttBoundsUptoRow.holds Try.pinned (OpenSpec.upto rttBoundsSpec)

/-- 'jorumlaw17.ListenFew', WHERE WHAT IT READS IS OF BULK AT MOST 1048576: true; the input reads as it did. -/
def listenFewUptoRow : OpenClaim := { program := "ytkijhdkeaddchaa", sum := "d6f92411523bba0c75f1801e3a2b3c0d63f0080aac4d35708cb07af6b45ee054", func := "jorum/jorumlaw17.ListenFew", spec := "listenFew", unfollowed := true, recurses := true, plainKeys := false, apart := false, narrowed := true }
def ListenFewUptoSaid : Prop := listenFewUptoRow.holds Try.pinned (OpenSpec.upto listenFewSpec)

/-- 'jorumlaw17.ListenPlays', WHERE WHAT IT READS IS OF BULK AT MOST 1048576: true; the input reads as it did. -/
def listenPlaysUptoRow : OpenClaim := { program := "ytkijhdkeaddchaa", sum := "d6f92411523bba0c75f1801e3a2b3c0d63f0080aac4d35708cb07af6b45ee054", func := "jorum/jorumlaw17.ListenPlays", spec := "listenPlays", unfollowed := true, recurses := true, plainKeys := false, apart := false, narrowed := true }
def ListenPlaysUptoSaid : Prop := listenPlaysUptoRow.holds Try.pinned (OpenSpec.upto listenPlaysSpec)

end Rows
end Go.Proofs.Ytkijhdkeaddchaa
