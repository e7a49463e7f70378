/-
  No cell of these rows narrows 'for every input' (looked for: loops, veiled, ifaces, maps, wideKeys, modest, calm, conditions, laid).
  DERIVED. THE GIVEN ROWS OF THIS SEAT. 12 by the template 'for every input the law returns true; each argument reads behind the call as it read before'; 0 by the template 'total and deterministic' (their statements: YtdlhleegfmnjjaaTotals.lean).
  GIVEN WITH THE SEED: the statements are not yours to turn. If you find one false, say at which input.
  Laid BY PROGRAM, IN A SANDBOX (cutbox-rows.mjs): the forced cells as the released guide's own fill.sh prints them over the translation 5eb196601de26d8a… (all of the seat's roots in one cut). By AI agents, Wed Nov 11 2026. No macro, syntax, notation, axiom, sorry.
-/
import Derived.Test.YtdlhleegfmnjjaaChecked
import GoSem.Claim
import GoSem.ClaimJoined
import GoSem.ClaimMapViews
import Derived.JoinedTies
import Derived.KernelRfl
namespace Go.Proofs.Ytdlhleegfmnjjaa
/- THE CELL 'sum', in the pinned program and in every row, IS THE sha256 OF THE DUMP (.gsa) THAT YtdlhleegfmnjjaaProg.lean LOADS. Nothing in Lean hashes anything: it is a label: what it is worth is what the hold of that sum in a sandbox is worth. -/
noncomputable def Try.pinned : Pinned := { name := "ytdlhleegfmnjjaa", sum := "5eb196601de26d8ab31586a549b26d0f3f41212f44e864e76c67d9eb98ceceb5", checked := Try.checked }
namespace Rows
def none {H : Type} : Left H := { results := [], args := [] }

/-- 'jorumlaw18.QuietPlays': WHATEVER THE INPUT: true; the input reads as it did. -/
def quietPlaysSpec : ChangeSpec := { name := "quietPlays", fn := fun _ => fun
  | [d1, d2, d3, d4, d5] => { results := [.lit (.bool true)], args := [d1, d2, d3, d4, d5] }
  | _ => none }
def quietPlaysRow : OpenClaim := { program := "ytdlhleegfmnjjaa", sum := "5eb196601de26d8ab31586a549b26d0f3f41212f44e864e76c67d9eb98ceceb5", func := "jorum/jorumlaw18.QuietPlays", spec := "quietPlays", apart := false }
def QuietPlaysSaid : Prop := quietPlaysRow.holds Try.pinned (OpenSpec.ofChange quietPlaysSpec)

/-- ITS FALSE NEIGHBOUR: 'it returns false'. Refute it at one input. -/
def quietPlaysWrong : ChangeSpec := { name := "quietPlays", fn := fun _ => fun
  | [d1, d2, d3, d4, d5] => { results := [.lit (.bool false)], args := [d1, d2, d3, d4, d5] }
  | _ => none }
def QuietPlaysWrongFalsely : Prop := quietPlaysRow.holds Try.pinned (OpenSpec.ofChange quietPlaysWrong)

/-- 'jorumlaw18.QuietStale': WHATEVER THE INPUT: true; the input reads as it did. -/
def quietStaleSpec : ChangeSpec := { name := "quietStale", fn := fun _ => fun
  | [d1, d2, d3] => { results := [.lit (.bool true)], args := [d1, d2, d3] }
  | _ => none }
def quietStaleRow : OpenClaim := { program := "ytdlhleegfmnjjaa", sum := "5eb196601de26d8ab31586a549b26d0f3f41212f44e864e76c67d9eb98ceceb5", func := "jorum/jorumlaw18.QuietStale", spec := "quietStale", apart := false }
def QuietStaleSaid : Prop := quietStaleRow.holds Try.pinned (OpenSpec.ofChange quietStaleSpec)

/-- ITS FALSE NEIGHBOUR: 'it returns false'. Refute it at one input. -/
def quietStaleWrong : ChangeSpec := { name := "quietStale", fn := fun _ => fun
  | [d1, d2, d3] => { results := [.lit (.bool false)], args := [d1, d2, d3] }
  | _ => none }
def QuietStaleWrongFalsely : Prop := quietStaleRow.holds Try.pinned (OpenSpec.ofChange quietStaleWrong)

/-- 'jorumlaw11.ChalPlays': WHATEVER THE INPUT: true; the input reads as it did. -/
def chalPlaysSpec : ChangeSpec := { name := "chalPlays", fn := fun _ => fun
  | [d1, d2, d3, d4, d5] => { results := [.lit (.bool true)], args := [d1, d2, d3, d4, d5] }
  | _ => none }
def chalPlaysRow : OpenClaim := { program := "ytdlhleegfmnjjaa", sum := "5eb196601de26d8ab31586a549b26d0f3f41212f44e864e76c67d9eb98ceceb5", func := "jorum/jorumlaw11.ChalPlays", spec := "chalPlays", apart := false }
def ChalPlaysSaid : Prop := chalPlaysRow.holds Try.pinned (OpenSpec.ofChange chalPlaysSpec)

/-- ITS FALSE NEIGHBOUR: 'it returns false'. Refute it at one input. -/
def chalPlaysWrong : ChangeSpec := { name := "chalPlays", fn := fun _ => fun
  | [d1, d2, d3, d4, d5] => { results := [.lit (.bool false)], args := [d1, d2, d3, d4, d5] }
  | _ => none }
def ChalPlaysWrongFalsely : Prop := chalPlaysRow.holds Try.pinned (OpenSpec.ofChange chalPlaysWrong)

/-- 'jorumlaw11.ChalFew': WHATEVER THE INPUT: true; the input reads as it did. -/
def chalFewSpec : ChangeSpec := { name := "chalFew", fn := fun _ => fun
  | [d1, d2, d3] => { results := [.lit (.bool true)], args := [d1, d2, d3] }
  | _ => none }
def chalFewRow : OpenClaim := { program := "ytdlhleegfmnjjaa", sum := "5eb196601de26d8ab31586a549b26d0f3f41212f44e864e76c67d9eb98ceceb5", func := "jorum/jorumlaw11.ChalFew", spec := "chalFew", apart := false }
def ChalFewSaid : Prop := chalFewRow.holds Try.pinned (OpenSpec.ofChange chalFewSpec)

/-- ITS FALSE NEIGHBOUR: 'it returns false'. Refute it at one input. -/
def chalFewWrong : ChangeSpec := { name := "chalFew", fn := fun _ => fun
  | [d1, d2, d3] => { results := [.lit (.bool false)], args := [d1, d2, d3] }
  | _ => none }
def ChalFewWrongFalsely : Prop := chalFewRow.holds Try.pinned (OpenSpec.ofChange chalFewWrong)

/-- 'jorumlaw12.PortPlays': WHATEVER THE INPUT: true; the input reads as it did. -/
def portPlaysSpec : ChangeSpec := { name := "portPlays", fn := fun _ => fun
  | [d1, d2, d3] => { results := [.lit (.bool true)], args := [d1, d2, d3] }
  | _ => none }
def portPlaysRow : OpenClaim := { program := "ytdlhleegfmnjjaa", sum := "5eb196601de26d8ab31586a549b26d0f3f41212f44e864e76c67d9eb98ceceb5", func := "jorum/jorumlaw12.PortPlays", spec := "portPlays", unfollowed := true, recurses := true, apart := false }
def PortPlaysSaid : Prop := portPlaysRow.holds Try.pinned (OpenSpec.ofChange portPlaysSpec)

/-- ITS FALSE NEIGHBOUR: 'it returns false'. Refute it at one input. -/
def portPlaysWrong : ChangeSpec := { name := "portPlays", fn := fun _ => fun
  | [d1, d2, d3] => { results := [.lit (.bool false)], args := [d1, d2, d3] }
  | _ => none }
def PortPlaysWrongFalsely : Prop := portPlaysRow.holds Try.pinned (OpenSpec.ofChange portPlaysWrong)

/-- 'jorumlaw12.PortTurns': WHATEVER THE INPUT: true; the input reads as it did. -/
def portTurnsSpec : ChangeSpec := { name := "portTurns", fn := fun _ => fun
  | [d1, d2, d3] => { results := [.lit (.bool true)], args := [d1, d2, d3] }
  | _ => none }
def portTurnsRow : OpenClaim := { program := "ytdlhleegfmnjjaa", sum := "5eb196601de26d8ab31586a549b26d0f3f41212f44e864e76c67d9eb98ceceb5", func := "jorum/jorumlaw12.PortTurns", spec := "portTurns", unfollowed := true, recurses := true, apart := false }
def PortTurnsSaid : Prop := portTurnsRow.holds Try.pinned (OpenSpec.ofChange portTurnsSpec)

/-- ITS FALSE NEIGHBOUR: 'it returns false'. Refute it at one input. -/
def portTurnsWrong : ChangeSpec := { name := "portTurns", fn := fun _ => fun
  | [d1, d2, d3] => { results := [.lit (.bool false)], args := [d1, d2, d3] }
  | _ => none }
def PortTurnsWrongFalsely : Prop := portTurnsRow.holds Try.pinned (OpenSpec.ofChange portTurnsWrong)

/-- 'jorumlaw08.SbufPlays': WHATEVER THE INPUT: true; the input reads as it did. -/
def sbufPlaysSpec : ChangeSpec := { name := "sbufPlays", fn := fun _ => fun
  | [d] => { results := [.lit (.bool true)], args := [d] }
  | _ => none }
def sbufPlaysRow : OpenClaim := { program := "ytdlhleegfmnjjaa", sum := "5eb196601de26d8ab31586a549b26d0f3f41212f44e864e76c67d9eb98ceceb5", func := "jorum/jorumlaw08.SbufPlays", spec := "sbufPlays", apart := false }
def SbufPlaysSaid : Prop := sbufPlaysRow.holds Try.pinned (OpenSpec.ofChange sbufPlaysSpec)

/-- ITS FALSE NEIGHBOUR: 'it returns false'. Refute it at one input. -/
def sbufPlaysWrong : ChangeSpec := { name := "sbufPlays", fn := fun _ => fun
  | [d] => { results := [.lit (.bool false)], args := [d] }
  | _ => none }
def SbufPlaysWrongFalsely : Prop := sbufPlaysRow.holds Try.pinned (OpenSpec.ofChange sbufPlaysWrong)

/-- 'jorumlaw08.SbufOrder': WHATEVER THE INPUT: true; the input reads as it did. -/
def sbufOrderSpec : ChangeSpec := { name := "sbufOrder", fn := fun _ => fun
  | [d1, d2] => { results := [.lit (.bool true)], args := [d1, d2] }
  | _ => none }
def sbufOrderRow : OpenClaim := { program := "ytdlhleegfmnjjaa", sum := "5eb196601de26d8ab31586a549b26d0f3f41212f44e864e76c67d9eb98ceceb5", func := "jorum/jorumlaw08.SbufOrder", spec := "sbufOrder", apart := false }
def SbufOrderSaid : Prop := sbufOrderRow.holds Try.pinned (OpenSpec.ofChange sbufOrderSpec)

/-- ITS FALSE NEIGHBOUR: 'it returns false'. Refute it at one input. -/
def sbufOrderWrong : ChangeSpec := { name := "sbufOrder", fn := fun _ => fun
  | [d1, d2] => { results := [.lit (.bool false)], args := [d1, d2] }
  | _ => none }
def SbufOrderWrongFalsely : Prop := sbufOrderRow.holds Try.pinned (OpenSpec.ofChange sbufOrderWrong)

/-- 'jorumlaw04.SipTells': WHATEVER THE INPUT: true; the input reads as it did. -/
def sipTellsSpec : ChangeSpec := { name := "sipTells", fn := fun _ => fun
  | [d1, d2, d3, d4] => { results := [.lit (.bool true)], args := [d1, d2, d3, d4] }
  | _ => none }
def sipTellsRow : OpenClaim := { program := "ytdlhleegfmnjjaa", sum := "5eb196601de26d8ab31586a549b26d0f3f41212f44e864e76c67d9eb98ceceb5", func := "jorum/jorumlaw04.SipTells", spec := "sipTells", unfollowed := true, recurses := true, apart := false }
def SipTellsSaid : Prop := sipTellsRow.holds Try.pinned (OpenSpec.ofChange sipTellsSpec)

/-- ITS FALSE NEIGHBOUR: 'it returns false'. Refute it at one input. -/
def sipTellsWrong : ChangeSpec := { name := "sipTells", fn := fun _ => fun
  | [d1, d2, d3, d4] => { results := [.lit (.bool false)], args := [d1, d2, d3, d4] }
  | _ => none }
def SipTellsWrongFalsely : Prop := sipTellsRow.holds Try.pinned (OpenSpec.ofChange sipTellsWrong)

/-- 'jorumlaw04.SipApart': WHATEVER THE INPUT: true; the input reads as it did. -/
def sipApartSpec : ChangeSpec := { name := "sipApart", fn := fun _ => fun
  | [d1, d2] => { results := [.lit (.bool true)], args := [d1, d2] }
  | _ => none }
def sipApartRow : OpenClaim := { program := "ytdlhleegfmnjjaa", sum := "5eb196601de26d8ab31586a549b26d0f3f41212f44e864e76c67d9eb98ceceb5", func := "jorum/jorumlaw04.SipApart", spec := "sipApart", unfollowed := true, recurses := true, apart := false }
def SipApartSaid : Prop := sipApartRow.holds Try.pinned (OpenSpec.ofChange sipApartSpec)

/-- ITS FALSE NEIGHBOUR: 'it returns false'. Refute it at one input. -/
def sipApartWrong : ChangeSpec := { name := "sipApart", fn := fun _ => fun
  | [d1, d2] => { results := [.lit (.bool false)], args := [d1, d2] }
  | _ => none }
def SipApartWrongFalsely : Prop := sipApartRow.holds Try.pinned (OpenSpec.ofChange sipApartWrong)

/-- 'jorumlaw05.IsnTells': WHATEVER THE INPUT: true; the input reads as it did. -/
def isnTellsSpec : ChangeSpec := { name := "isnTells", fn := fun _ => fun
  | [d1, d2, d3, d4] => { results := [.lit (.bool true)], args := [d1, d2, d3, d4] }
  | _ => none }
def isnTellsRow : OpenClaim := { program := "ytdlhleegfmnjjaa", sum := "5eb196601de26d8ab31586a549b26d0f3f41212f44e864e76c67d9eb98ceceb5", func := "jorum/jorumlaw05.IsnTells", spec := "isnTells", unfollowed := true, recurses := true, apart := false }
def IsnTellsSaid : Prop := isnTellsRow.holds Try.pinned (OpenSpec.ofChange isnTellsSpec)

/-- ITS FALSE NEIGHBOUR: 'it returns false'. Refute it at one input. -/
def isnTellsWrong : ChangeSpec := { name := "isnTells", fn := fun _ => fun
  | [d1, d2, d3, d4] => { results := [.lit (.bool false)], args := [d1, d2, d3, d4] }
  | _ => none }
def IsnTellsWrongFalsely : Prop := isnTellsRow.holds Try.pinned (OpenSpec.ofChange isnTellsWrong)

/-- 'jorumlaw05.IsnRises': WHATEVER THE INPUT: true; the input reads as it did. -/
def isnRisesSpec : ChangeSpec := { name := "isnRises", fn := fun _ => fun
  | [d1, d2, d3, d4, d5] => { results := [.lit (.bool true)], args := [d1, d2, d3, d4, d5] }
  | _ => none }
def isnRisesRow : OpenClaim := { program := "ytdlhleegfmnjjaa", sum := "5eb196601de26d8ab31586a549b26d0f3f41212f44e864e76c67d9eb98ceceb5", func := "jorum/jorumlaw05.IsnRises", spec := "isnRises", unfollowed := true, recurses := true, apart := false }
def IsnRisesSaid : Prop := isnRisesRow.holds Try.pinned (OpenSpec.ofChange isnRisesSpec)

/-- ITS FALSE NEIGHBOUR: 'it returns false'. Refute it at one input. -/
def isnRisesWrong : ChangeSpec := { name := "isnRises", fn := fun _ => fun
  | [d1, d2, d3, d4, d5] => { results := [.lit (.bool false)], args := [d1, d2, d3, d4, d5] }
  | _ => none }
def IsnRisesWrongFalsely : Prop := isnRisesRow.holds Try.pinned (OpenSpec.ofChange isnRisesWrong)

/- THE SECOND FORM. 'bulk': how many values and letters a reading holds, each counted each time it is reached (what is shared counts as often as it is met; a slice's spare places count too). A statement '..UptoSaid' is the law's where the arguments, and the package variables that the reading takes, are together of bulk at most 1048576: NARROWER than '..Said'. Prove '..Said' where nothing that the law and all that it calls make is longer than what came in: it says more and counts as full. Else prove '..UptoSaid'. A law counts once. -/
mutual
def uptoBulk {H : Type} : DataW H → Nat
  | .lit (.string bytes) => bytes.length + 1
  | .lit _ => 1
  | .nil => 1
  | .ptr d => uptoBulk d + 1
  | .slice elems spare => uptoBulkAll elems + uptoBulkAll spare + 1
  | .agg parts => uptoBulkAll parts + 1
  | .iface _ d => uptoBulk d + 1
  | .map entries => uptoBulkEntries entries + 1
  | .held _ => 1
def uptoBulkAll {H : Type} : List (DataW H) → Nat
  | [] => 0
  | d :: r => uptoBulk d + uptoBulkAll r
def uptoBulkEntries {H : Type} : List (Lit × DataW H) → Nat
  | [] => 0
  | x :: r => uptoBulkEntry x + uptoBulkEntries r
def uptoBulkEntry {H : Type} : Lit × DataW H → Nat
  | (.string bytes, d) => bytes.length + uptoBulk d + 1
  | (_, d) => uptoBulk d + 1
 end
def uptoSmall : (H : Type) → List (DataW H) → Bool := fun _ ds => decide (uptoBulkAll ds ≤ 1048576)
def OpenSpec.upto (s : _root_.Go.ChangeSpec) : _root_.Go.OpenSpec := { _root_.Go.OpenSpec.ofChange s with cond := some uptoSmall }

/-- 'jorumlaw18.QuietPlays', WHERE WHAT IT READS IS OF BULK AT MOST 1048576: true; the input reads as it did. -/
def quietPlaysUptoRow : OpenClaim := { program := "ytdlhleegfmnjjaa", sum := "5eb196601de26d8ab31586a549b26d0f3f41212f44e864e76c67d9eb98ceceb5", func := "jorum/jorumlaw18.QuietPlays", spec := "quietPlays", apart := false, narrowed := true }
def QuietPlaysUptoSaid : Prop := quietPlaysUptoRow.holds Try.pinned (OpenSpec.upto quietPlaysSpec)

/-- 'jorumlaw18.QuietStale', WHERE WHAT IT READS IS OF BULK AT MOST 1048576: true; the input reads as it did. -/
def quietStaleUptoRow : OpenClaim := { program := "ytdlhleegfmnjjaa", sum := "5eb196601de26d8ab31586a549b26d0f3f41212f44e864e76c67d9eb98ceceb5", func := "jorum/jorumlaw18.QuietStale", spec := "quietStale", apart := false, narrowed := true }
def QuietStaleUptoSaid : Prop := quietStaleUptoRow.holds Try.pinned (OpenSpec.upto quietStaleSpec)

/-- 'jorumlaw11.ChalPlays', WHERE WHAT IT READS IS OF BULK AT MOST 1048576: true; the input reads as it did. -/
def chalPlaysUptoRow : OpenClaim := { program := "ytdlhleegfmnjjaa", sum := "5eb196601de26d8ab31586a549b26d0f3f41212f44e864e76c67d9eb98ceceb5", func := "jorum/jorumlaw11.ChalPlays", spec := "chalPlays", apart := false, narrowed := true }
def ChalPlaysUptoSaid : Prop := chalPlaysUptoRow.holds Try.pinned (OpenSpec.upto chalPlaysSpec)

/-- 'jorumlaw11.ChalFew', WHERE WHAT IT READS IS OF BULK AT MOST 1048576: true; the input reads as it did. -/
def chalFewUptoRow : OpenClaim := { program := "ytdlhleegfmnjjaa", sum := "5eb196601de26d8ab31586a549b26d0f3f41212f44e864e76c67d9eb98ceceb5", func := "jorum/jorumlaw11.ChalFew", spec := "chalFew", apart := false, narrowed := true }
def ChalFewUptoSaid : Prop := chalFewUptoRow.holds Try.pinned (OpenSpec.upto chalFewSpec)

/-- 'jorumlaw12.PortPlays', WHERE WHAT IT READS IS OF BULK AT MOST 1048576: true; the input reads as it did. -/
def portPlaysUptoRow : OpenClaim := { program := "ytdlhleegfmnjjaa", sum := "5eb196601de26d8ab31586a549b26d0f3f41212f44e864e76c67d9eb98ceceb5", func := "jorum/jorumlaw12.PortPlays", spec := "portPlays", unfollowed := true, recurses := true, apart := false, narrowed := true }
def PortPlaysUptoSaid : Prop := portPlaysUptoRow.holds Try.pinned (OpenSpec.upto portPlaysSpec)

/-- 'jorumlaw12.PortTurns', WHERE WHAT IT READS IS OF BULK AT MOST 1048576: true; the input reads as it did. -/
def portTurnsUptoRow : OpenClaim := { program := "ytdlhleegfmnjjaa", sum := "5eb196601de26d8ab31586a549b26d0f3f41212f44e864e76c67d9eb98ceceb5", func := "jorum/jorumlaw12.PortTurns", spec := "portTurns", unfollowed := true, recurses := true, apart := false, narrowed := true }
def PortTurnsUptoSaid : Prop := portTurnsUptoRow.holds Try.pinned (OpenSpec.upto portTurnsSpec)

/-- 'jorumlaw08.SbufPlays', WHERE WHAT IT READS IS OF BULK AT MOST 1048576: true; the input reads as it did. -/
def sbufPlaysUptoRow : OpenClaim := { program := "ytdlhleegfmnjjaa", sum := "5eb196601de26d8ab31586a549b26d0f3f41212f44e864e76c67d9eb98ceceb5", func := "jorum/jorumlaw08.SbufPlays", spec := "sbufPlays", apart := false, narrowed := true }
def SbufPlaysUptoSaid : Prop := sbufPlaysUptoRow.holds Try.pinned (OpenSpec.upto sbufPlaysSpec)

/-- 'jorumlaw08.SbufOrder', WHERE WHAT IT READS IS OF BULK AT MOST 1048576: true; the input reads as it did. -/
def sbufOrderUptoRow : OpenClaim := { program := "ytdlhleegfmnjjaa", sum := "5eb196601de26d8ab31586a549b26d0f3f41212f44e864e76c67d9eb98ceceb5", func := "jorum/jorumlaw08.SbufOrder", spec := "sbufOrder", apart := false, narrowed := true }
def SbufOrderUptoSaid : Prop := sbufOrderUptoRow.holds Try.pinned (OpenSpec.upto sbufOrderSpec)

/-- 'jorumlaw04.SipTells', WHERE WHAT IT READS IS OF BULK AT MOST 1048576: true; the input reads as it did. -/
def sipTellsUptoRow : OpenClaim := { program := "ytdlhleegfmnjjaa", sum := "5eb196601de26d8ab31586a549b26d0f3f41212f44e864e76c67d9eb98ceceb5", func := "jorum/jorumlaw04.SipTells", spec := "sipTells", unfollowed := true, recurses := true, apart := false, narrowed := true }
def SipTellsUptoSaid : Prop := sipTellsUptoRow.holds Try.pinned (OpenSpec.upto sipTellsSpec)

/-- 'jorumlaw04.SipApart', WHERE WHAT IT READS IS OF BULK AT MOST 1048576: true; the input reads as it did. -/
def sipApartUptoRow : OpenClaim := { program := "ytdlhleegfmnjjaa", sum := "5eb196601de26d8ab31586a549b26d0f3f41212f44e864e76c67d9eb98ceceb5", func := "jorum/jorumlaw04.SipApart", spec := "sipApart", unfollowed := true, recurses := true, apart := false, narrowed := true }
def SipApartUptoSaid : Prop := sipApartUptoRow.holds Try.pinned (OpenSpec.upto sipApartSpec)

/-- 'jorumlaw05.IsnTells', WHERE WHAT IT READS IS OF BULK AT MOST 1048576: true; the input reads as it did. -/
def isnTellsUptoRow : OpenClaim := { program := "ytdlhleegfmnjjaa", sum := "5eb196601de26d8ab31586a549b26d0f3f41212f44e864e76c67d9eb98ceceb5", func := "jorum/jorumlaw05.IsnTells", spec := "isnTells", unfollowed := true, recurses := true, apart := false, narrowed := true }
def IsnTellsUptoSaid : Prop := isnTellsUptoRow.holds Try.pinned (OpenSpec.upto isnTellsSpec)

/-- 'jorumlaw05.IsnRises', WHERE WHAT IT READS IS OF BULK AT MOST 1048576: true; the input reads as it did. -/
def isnRisesUptoRow : OpenClaim := { program := "ytdlhleegfmnjjaa", sum := "5eb196601de26d8ab31586a549b26d0f3f41212f44e864e76c67d9eb98ceceb5", func := "jorum/jorumlaw05.IsnRises", spec := "isnRises", unfollowed := true, recurses := true, apart := false, narrowed := true }
def IsnRisesUptoSaid : Prop := isnRisesUptoRow.holds Try.pinned (OpenSpec.upto isnRisesSpec)

end Rows
end Go.Proofs.Ytdlhleegfmnjjaa
