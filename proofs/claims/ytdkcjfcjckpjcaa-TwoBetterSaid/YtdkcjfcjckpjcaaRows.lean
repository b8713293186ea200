/-
  No cell of these rows narrows 'for every input' (looked for: loops, veiled, ifaces, maps, wideKeys, modest, calm, conditions, laid).
  DERIVED. THE GIVEN ROWS OF THIS SEAT. 13 by the template 'for every input the law returns true; each argument reads behind the call as it read before'; 0 by the template 'total and deterministic' (their statements: YtdkcjfcjckpjcaaTotals.lean).
  GIVEN WITH THE SEED: the statements are not yours to turn. If you find one false, say at which input.
  Laid BY PROGRAM, IN A SANDBOX (cutbox-rows.mjs): the forced cells as the released guide's own fill.sh prints them over the translation 3f076c3170d8c40f… (all of the seat's roots in one cut). By AI agents, Wed Nov 11 2026. No macro, syntax, notation, axiom, sorry.
-/
import Derived.Test.YtdkcjfcjckpjcaaChecked
import GoSem.Claim
import GoSem.ClaimJoined
import GoSem.ClaimMapViews
import Derived.JoinedTies
import Derived.KernelRfl
namespace Go.Proofs.Ytdkcjfcjckpjcaa
/- THE CELL 'sum', in the pinned program and in every row, IS THE sha256 OF THE DUMP (.gsa) THAT YtdkcjfcjckpjcaaProg.lean LOADS. Nothing in Lean hashes anything: it is a label: what it is worth is what the hold of that sum in a sandbox is worth. -/
noncomputable def Try.pinned : Pinned := { name := "ytdkcjfcjckpjcaa", sum := "3f076c3170d8c40f0a87c3db416221590e680ef4495129f3c29fa629748eb5c6", checked := Try.checked }
namespace Rows
def none {H : Type} : Left H := { results := [], args := [] }

/-- 'cloakroomlaw18.ConnGrows': WHATEVER THE INPUT: true; the input reads as it did. -/
def connGrowsSpec : ChangeSpec := { name := "connGrows", fn := fun _ => fun
  | [d] => { results := [.lit (.bool true)], args := [d] }
  | _ => none }
def connGrowsRow : OpenClaim := { program := "ytdkcjfcjckpjcaa", sum := "3f076c3170d8c40f0a87c3db416221590e680ef4495129f3c29fa629748eb5c6", func := "cloakroom/cloakroomlaw18.ConnGrows", spec := "connGrows", apart := false }
def ConnGrowsSaid : Prop := connGrowsRow.holds Try.pinned (OpenSpec.ofChange connGrowsSpec)

/-- ITS FALSE NEIGHBOUR: 'it returns false'. Refute it at one input. -/
def connGrowsWrong : ChangeSpec := { name := "connGrows", fn := fun _ => fun
  | [d] => { results := [.lit (.bool false)], args := [d] }
  | _ => none }
def ConnGrowsWrongFalsely : Prop := connGrowsRow.holds Try.pinned (OpenSpec.ofChange connGrowsWrong)

/-- 'cloakroomlaw16.StackPlays': WHATEVER THE INPUT: true; the input reads as it did. -/
def stackPlaysSpec : ChangeSpec := { name := "stackPlays", fn := fun _ => fun
  | [d1, d2] => { results := [.lit (.bool true)], args := [d1, d2] }
  | _ => none }
def stackPlaysRow : OpenClaim := { program := "ytdkcjfcjckpjcaa", sum := "3f076c3170d8c40f0a87c3db416221590e680ef4495129f3c29fa629748eb5c6", func := "cloakroom/cloakroomlaw16.StackPlays", spec := "stackPlays", apart := false }
def StackPlaysSaid : Prop := stackPlaysRow.holds Try.pinned (OpenSpec.ofChange stackPlaysSpec)

/-- ITS FALSE NEIGHBOUR: 'it returns false'. Refute it at one input. -/
def stackPlaysWrong : ChangeSpec := { name := "stackPlays", fn := fun _ => fun
  | [d1, d2] => { results := [.lit (.bool false)], args := [d1, d2] }
  | _ => none }
def StackPlaysWrongFalsely : Prop := stackPlaysRow.holds Try.pinned (OpenSpec.ofChange stackPlaysWrong)

/-- 'cloakroomlaw16.StackOnce': WHATEVER THE INPUT: true; the input reads as it did. -/
def stackOnceSpec : ChangeSpec := { name := "stackOnce", fn := fun _ => fun
  | [d1, d2] => { results := [.lit (.bool true)], args := [d1, d2] }
  | _ => none }
def stackOnceRow : OpenClaim := { program := "ytdkcjfcjckpjcaa", sum := "3f076c3170d8c40f0a87c3db416221590e680ef4495129f3c29fa629748eb5c6", func := "cloakroom/cloakroomlaw16.StackOnce", spec := "stackOnce", apart := false }
def StackOnceSaid : Prop := stackOnceRow.holds Try.pinned (OpenSpec.ofChange stackOnceSpec)

/-- ITS FALSE NEIGHBOUR: 'it returns false'. Refute it at one input. -/
def stackOnceWrong : ChangeSpec := { name := "stackOnce", fn := fun _ => fun
  | [d1, d2] => { results := [.lit (.bool false)], args := [d1, d2] }
  | _ => none }
def StackOnceWrongFalsely : Prop := stackOnceRow.holds Try.pinned (OpenSpec.ofChange stackOnceWrong)

/-- 'cloakroomlaw18.ConnTells': WHATEVER THE INPUT: true; the input reads as it did. -/
def connTellsSpec : ChangeSpec := { name := "connTells", fn := fun _ => fun
  | [d1, d2, d3, d4, d5] => { results := [.lit (.bool true)], args := [d1, d2, d3, d4, d5] }
  | _ => none }
def connTellsRow : OpenClaim := { program := "ytdkcjfcjckpjcaa", sum := "3f076c3170d8c40f0a87c3db416221590e680ef4495129f3c29fa629748eb5c6", func := "cloakroom/cloakroomlaw18.ConnTells", spec := "connTells", apart := false }
def ConnTellsSaid : Prop := connTellsRow.holds Try.pinned (OpenSpec.ofChange connTellsSpec)

/-- ITS FALSE NEIGHBOUR: 'it returns false'. Refute it at one input. -/
def connTellsWrong : ChangeSpec := { name := "connTells", fn := fun _ => fun
  | [d1, d2, d3, d4, d5] => { results := [.lit (.bool false)], args := [d1, d2, d3, d4, d5] }
  | _ => none }
def ConnTellsWrongFalsely : Prop := connTellsRow.holds Try.pinned (OpenSpec.ofChange connTellsWrong)

/-- 'cloakroomlaw31.VerdictCounts': WHATEVER THE INPUT: true; the input reads as it did. -/
def verdictCountsSpec : ChangeSpec := { name := "verdictCounts", fn := fun _ => fun
  | [d1, d2, d3, d4] => { results := [.lit (.bool true)], args := [d1, d2, d3, d4] }
  | _ => none }
def verdictCountsRow : OpenClaim := { program := "ytdkcjfcjckpjcaa", sum := "3f076c3170d8c40f0a87c3db416221590e680ef4495129f3c29fa629748eb5c6", func := "cloakroom/cloakroomlaw31.VerdictCounts", spec := "verdictCounts", apart := false }
def VerdictCountsSaid : Prop := verdictCountsRow.holds Try.pinned (OpenSpec.ofChange verdictCountsSpec)

/-- ITS FALSE NEIGHBOUR: 'it returns false'. Refute it at one input. -/
def verdictCountsWrong : ChangeSpec := { name := "verdictCounts", fn := fun _ => fun
  | [d1, d2, d3, d4] => { results := [.lit (.bool false)], args := [d1, d2, d3, d4] }
  | _ => none }
def VerdictCountsWrongFalsely : Prop := verdictCountsRow.holds Try.pinned (OpenSpec.ofChange verdictCountsWrong)

/-- 'cloakroomlaw31.VerdictWhole': WHATEVER THE INPUT: true; the input reads as it did. -/
def verdictWholeSpec : ChangeSpec := { name := "verdictWhole", fn := fun _ => fun
  | [d] => { results := [.lit (.bool true)], args := [d] }
  | _ => none }
def verdictWholeRow : OpenClaim := { program := "ytdkcjfcjckpjcaa", sum := "3f076c3170d8c40f0a87c3db416221590e680ef4495129f3c29fa629748eb5c6", func := "cloakroom/cloakroomlaw31.VerdictWhole", spec := "verdictWhole", apart := false }
def VerdictWholeSaid : Prop := verdictWholeRow.holds Try.pinned (OpenSpec.ofChange verdictWholeSpec)

/-- ITS FALSE NEIGHBOUR: 'it returns false'. Refute it at one input. -/
def verdictWholeWrong : ChangeSpec := { name := "verdictWhole", fn := fun _ => fun
  | [d] => { results := [.lit (.bool false)], args := [d] }
  | _ => none }
def VerdictWholeWrongFalsely : Prop := verdictWholeRow.holds Try.pinned (OpenSpec.ofChange verdictWholeWrong)

/-- 'cloakroomlaw01.NumCross': WHATEVER THE INPUT: true; the input reads as it did. -/
def numCrossSpec : ChangeSpec := { name := "numCross", fn := fun _ => fun
  | [d1, d2, d3, d4] => { results := [.lit (.bool true)], args := [d1, d2, d3, d4] }
  | _ => none }
def numCrossRow : OpenClaim := { program := "ytdkcjfcjckpjcaa", sum := "3f076c3170d8c40f0a87c3db416221590e680ef4495129f3c29fa629748eb5c6", func := "cloakroom/cloakroomlaw01.NumCross", spec := "numCross", apart := false }
def NumCrossSaid : Prop := numCrossRow.holds Try.pinned (OpenSpec.ofChange numCrossSpec)

/-- ITS FALSE NEIGHBOUR: 'it returns false'. Refute it at one input. -/
def numCrossWrong : ChangeSpec := { name := "numCross", fn := fun _ => fun
  | [d1, d2, d3, d4] => { results := [.lit (.bool false)], args := [d1, d2, d3, d4] }
  | _ => none }
def NumCrossWrongFalsely : Prop := numCrossRow.holds Try.pinned (OpenSpec.ofChange numCrossWrong)

/-- 'cloakroomlaw01.NumScale': WHATEVER THE INPUT: true; the input reads as it did. -/
def numScaleSpec : ChangeSpec := { name := "numScale", fn := fun _ => fun
  | [d1, d2, d3] => { results := [.lit (.bool true)], args := [d1, d2, d3] }
  | _ => none }
def numScaleRow : OpenClaim := { program := "ytdkcjfcjckpjcaa", sum := "3f076c3170d8c40f0a87c3db416221590e680ef4495129f3c29fa629748eb5c6", func := "cloakroom/cloakroomlaw01.NumScale", spec := "numScale", apart := false }
def NumScaleSaid : Prop := numScaleRow.holds Try.pinned (OpenSpec.ofChange numScaleSpec)

/-- ITS FALSE NEIGHBOUR: 'it returns false'. Refute it at one input. -/
def numScaleWrong : ChangeSpec := { name := "numScale", fn := fun _ => fun
  | [d1, d2, d3] => { results := [.lit (.bool false)], args := [d1, d2, d3] }
  | _ => none }
def NumScaleWrongFalsely : Prop := numScaleRow.holds Try.pinned (OpenSpec.ofChange numScaleWrong)

/-- 'cloakroomlaw01.NumTells': WHATEVER THE INPUT: true; the input reads as it did. -/
def numTellsSpec : ChangeSpec := { name := "numTells", fn := fun _ => fun
  | [d1, d2, d3, d4, d5, d6] => { results := [.lit (.bool true)], args := [d1, d2, d3, d4, d5, d6] }
  | _ => none }
def numTellsRow : OpenClaim := { program := "ytdkcjfcjckpjcaa", sum := "3f076c3170d8c40f0a87c3db416221590e680ef4495129f3c29fa629748eb5c6", func := "cloakroom/cloakroomlaw01.NumTells", spec := "numTells", apart := false }
def NumTellsSaid : Prop := numTellsRow.holds Try.pinned (OpenSpec.ofChange numTellsSpec)

/-- ITS FALSE NEIGHBOUR: 'it returns false'. Refute it at one input. -/
def numTellsWrong : ChangeSpec := { name := "numTells", fn := fun _ => fun
  | [d1, d2, d3, d4, d5, d6] => { results := [.lit (.bool false)], args := [d1, d2, d3, d4, d5, d6] }
  | _ => none }
def NumTellsWrongFalsely : Prop := numTellsRow.holds Try.pinned (OpenSpec.ofChange numTellsWrong)

/-- 'cloakroomlaw28.TwoTells': WHATEVER THE INPUT: true; the input reads as it did. -/
def twoTellsSpec : ChangeSpec := { name := "twoTells", fn := fun _ => fun
  | [d1, d2, d3, d4, d5] => { results := [.lit (.bool true)], args := [d1, d2, d3, d4, d5] }
  | _ => none }
def twoTellsRow : OpenClaim := { program := "ytdkcjfcjckpjcaa", sum := "3f076c3170d8c40f0a87c3db416221590e680ef4495129f3c29fa629748eb5c6", func := "cloakroom/cloakroomlaw28.TwoTells", spec := "twoTells", unfollowed := true, recurses := true, apart := false }
def TwoTellsSaid : Prop := twoTellsRow.holds Try.pinned (OpenSpec.ofChange twoTellsSpec)

/-- ITS FALSE NEIGHBOUR: 'it returns false'. Refute it at one input. -/
def twoTellsWrong : ChangeSpec := { name := "twoTells", fn := fun _ => fun
  | [d1, d2, d3, d4, d5] => { results := [.lit (.bool false)], args := [d1, d2, d3, d4, d5] }
  | _ => none }
def TwoTellsWrongFalsely : Prop := twoTellsRow.holds Try.pinned (OpenSpec.ofChange twoTellsWrong)

/-- 'cloakroomlaw28.TwoBetter': WHATEVER THE INPUT: true; the input reads as it did. -/
def twoBetterSpec : ChangeSpec := { name := "twoBetter", fn := fun _ => fun
  | [d1, d2, d3, d4] => { results := [.lit (.bool true)], args := [d1, d2, d3, d4] }
  | _ => none }
def twoBetterRow : OpenClaim := { program := "ytdkcjfcjckpjcaa", sum := "3f076c3170d8c40f0a87c3db416221590e680ef4495129f3c29fa629748eb5c6", func := "cloakroom/cloakroomlaw28.TwoBetter", spec := "twoBetter", unfollowed := true, recurses := true, apart := false }
def TwoBetterSaid : Prop := twoBetterRow.holds Try.pinned (OpenSpec.ofChange twoBetterSpec)

/-- ITS FALSE NEIGHBOUR: 'it returns false'. Refute it at one input. -/
def twoBetterWrong : ChangeSpec := { name := "twoBetter", fn := fun _ => fun
  | [d1, d2, d3, d4] => { results := [.lit (.bool false)], args := [d1, d2, d3, d4] }
  | _ => none }
def TwoBetterWrongFalsely : Prop := twoBetterRow.holds Try.pinned (OpenSpec.ofChange twoBetterWrong)

/-- 'cloakroomlaw15.PartTells': WHATEVER THE INPUT: true; the input reads as it did. -/
def partTellsSpec : ChangeSpec := { name := "partTells", fn := fun _ => fun
  | [d1, d2, d3, d4, d5] => { results := [.lit (.bool true)], args := [d1, d2, d3, d4, d5] }
  | _ => none }
def partTellsRow : OpenClaim := { program := "ytdkcjfcjckpjcaa", sum := "3f076c3170d8c40f0a87c3db416221590e680ef4495129f3c29fa629748eb5c6", func := "cloakroom/cloakroomlaw15.PartTells", spec := "partTells", apart := false }
def PartTellsSaid : Prop := partTellsRow.holds Try.pinned (OpenSpec.ofChange partTellsSpec)

/-- ITS FALSE NEIGHBOUR: 'it returns false'. Refute it at one input. -/
def partTellsWrong : ChangeSpec := { name := "partTells", fn := fun _ => fun
  | [d1, d2, d3, d4, d5] => { results := [.lit (.bool false)], args := [d1, d2, d3, d4, d5] }
  | _ => none }
def PartTellsWrongFalsely : Prop := partTellsRow.holds Try.pinned (OpenSpec.ofChange partTellsWrong)

/-- 'cloakroomlaw15.PartStays': WHATEVER THE INPUT: true; the input reads as it did. -/
def partStaysSpec : ChangeSpec := { name := "partStays", fn := fun _ => fun
  | [d1, d2, d3, d4, d5, d6] => { results := [.lit (.bool true)], args := [d1, d2, d3, d4, d5, d6] }
  | _ => none }
def partStaysRow : OpenClaim := { program := "ytdkcjfcjckpjcaa", sum := "3f076c3170d8c40f0a87c3db416221590e680ef4495129f3c29fa629748eb5c6", func := "cloakroom/cloakroomlaw15.PartStays", spec := "partStays", apart := false }
def PartStaysSaid : Prop := partStaysRow.holds Try.pinned (OpenSpec.ofChange partStaysSpec)

/-- ITS FALSE NEIGHBOUR: 'it returns false'. Refute it at one input. -/
def partStaysWrong : ChangeSpec := { name := "partStays", fn := fun _ => fun
  | [d1, d2, d3, d4, d5, d6] => { results := [.lit (.bool false)], args := [d1, d2, d3, d4, d5, d6] }
  | _ => none }
def PartStaysWrongFalsely : Prop := partStaysRow.holds Try.pinned (OpenSpec.ofChange partStaysWrong)

/- THE SECOND FORM. 'bulk': how many values and letters a reading holds, each counted each time it is reached (what is shared counts as often as it is met; a slice's spare places count too). A statement '..UptoSaid' is the law's where the arguments, and the package variables that the reading takes, are together of bulk at most 1048576: NARROWER than '..Said'. Prove '..Said' where nothing that the law and all that it calls make is longer than what came in: it says more and counts as full. Else prove '..UptoSaid'. A law counts once. -/
mutual
def uptoBulk {H : Type} : DataW H → Nat
  | .lit (.string bytes) => bytes.length + 1
  | .lit _ => 1
  | .nil => 1
  | .ptr d => uptoBulk d + 1
  | .slice elems spare => uptoBulkAll elems + uptoBulkAll spare + 1
  | .agg parts => uptoBulkAll parts + 1
  | .iface _ d => uptoBulk d + 1
  | .map entries => uptoBulkEntries entries + 1
  | .held _ => 1
def uptoBulkAll {H : Type} : List (DataW H) → Nat
  | [] => 0
  | d :: r => uptoBulk d + uptoBulkAll r
def uptoBulkEntries {H : Type} : List (Lit × DataW H) → Nat
  | [] => 0
  | x :: r => uptoBulkEntry x + uptoBulkEntries r
def uptoBulkEntry {H : Type} : Lit × DataW H → Nat
  | (.string bytes, d) => bytes.length + uptoBulk d + 1
  | (_, d) => uptoBulk d + 1
 end
def uptoSmall : (H : Type) → List (DataW H) → Bool := fun _ ds => decide (uptoBulkAll ds ≤ 1048576)
def OpenSpec.upto (s : _root_.Go.ChangeSpec) : _root_.Go.OpenSpec := { _root_.Go.OpenSpec.ofChange s with cond := some uptoSmall }

/-- 'cloakroomlaw18.ConnGrows', WHERE WHAT IT READS IS OF BULK AT MOST 1048576: true; the input reads as it did. -/
def connGrowsUptoRow : OpenClaim := { program := "ytdkcjfcjckpjcaa", sum := "3f076c3170d8c40f0a87c3db416221590e680ef4495129f3c29fa629748eb5c6", func := "cloakroom/cloakroomlaw18.ConnGrows", spec := "connGrows", apart := false, narrowed := true }
def ConnGrowsUptoSaid : Prop := connGrowsUptoRow.holds Try.pinned (OpenSpec.upto connGrowsSpec)

/-- 'cloakroomlaw16.StackPlays', WHERE WHAT IT READS IS OF BULK AT MOST 1048576: true; the input reads as it did. -/
def stackPlaysUptoRow : OpenClaim := { program := "ytdkcjfcjckpjcaa", sum := "3f076c3170d8c40f0a87c3db416221590e680ef4495129f3c29fa629748eb5c6", func := "cloakroom/cloakroomlaw16.StackPlays", spec := "stackPlays", apart := false, narrowed := true }
def StackPlaysUptoSaid : Prop := stackPlaysUptoRow.holds Try.pinned (OpenSpec.upto stackPlaysSpec)

/-- 'cloakroomlaw16.StackOnce', WHERE WHAT IT READS IS OF BULK AT MOST 1048576: true; the input reads as it did. -/
def stackOnceUptoRow : OpenClaim := { program := "ytdkcjfcjckpjcaa", sum := "3f076c3170d8c40f0a87c3db416221590e680ef4495129f3c29fa629748eb5c6", func := "cloakroom/cloakroomlaw16.StackOnce", spec := "stackOnce", apart := false, narrowed := true }
def StackOnceUptoSaid : Prop := stackOnceUptoRow.holds Try.pinned (OpenSpec.upto stackOnceSpec)

/-- 'cloakroomlaw18.ConnTells', WHERE WHAT IT READS IS OF BULK AT MOST 1048576: true; the input reads as it did. -/
def connTellsUptoRow : OpenClaim := { program := "ytdkcjfcjckpjcaa", sum := "3f076c3170d8c40f0a87c3db416221590e680ef4495129f3c29fa629748eb5c6", func := "cloakroom/cloakroomlaw18.ConnTells", spec := "connTells", apart := false, narrowed := true }
def ConnTellsUptoSaid : Prop := connTellsUptoRow.holds Try.pinned (OpenSpec.upto connTellsSpec)

/-- 'cloakroomlaw31.VerdictCounts', WHERE WHAT IT READS IS OF BULK AT MOST 1048576: true; the input reads as it did. -/
def verdictCountsUptoRow : OpenClaim := { program := "ytdkcjfcjckpjcaa", sum := "3f076c3170d8c40f0a87c3db416221590e680ef4495129f3c29fa629748eb5c6", func := "cloakroom/cloakroomlaw31.VerdictCounts", spec := "verdictCounts", apart := false, narrowed := true }
def VerdictCountsUptoSaid : Prop := verdictCountsUptoRow.holds Try.pinned (OpenSpec.upto verdictCountsSpec)

/-- 'cloakroomlaw31.VerdictWhole', WHERE WHAT IT READS IS OF BULK AT MOST 1048576: true; the input reads as it did. -/
def verdictWholeUptoRow : OpenClaim := { program := "ytdkcjfcjckpjcaa", sum := "3f076c3170d8c40f0a87c3db416221590e680ef4495129f3c29fa629748eb5c6", func := "cloakroom/cloakroomlaw31.VerdictWhole", spec := "verdictWhole", apart := false, narrowed := true }
def VerdictWholeUptoSaid : Prop := verdictWholeUptoRow.holds Try.pinned (OpenSpec.upto verdictWholeSpec)

/-- 'cloakroomlaw01.NumCross', WHERE WHAT IT READS IS OF BULK AT MOST 1048576: true; the input reads as it did. -/
def numCrossUptoRow : OpenClaim := { program := "ytdkcjfcjckpjcaa", sum := "3f076c3170d8c40f0a87c3db416221590e680ef4495129f3c29fa629748eb5c6", func := "cloakroom/cloakroomlaw01.NumCross", spec := "numCross", apart := false, narrowed := true }
def NumCrossUptoSaid : Prop := numCrossUptoRow.holds Try.pinned (OpenSpec.upto numCrossSpec)

/-- 'cloakroomlaw01.NumScale', WHERE WHAT IT READS IS OF BULK AT MOST 1048576: true; the input reads as it did. -/
def numScaleUptoRow : OpenClaim := { program := "ytdkcjfcjckpjcaa", sum := "3f076c3170d8c40f0a87c3db416221590e680ef4495129f3c29fa629748eb5c6", func := "cloakroom/cloakroomlaw01.NumScale", spec := "numScale", apart := false, narrowed := true }
def NumScaleUptoSaid : Prop := numScaleUptoRow.holds Try.pinned (OpenSpec.upto numScaleSpec)

/-- 'cloakroomlaw01.NumTells', WHERE WHAT IT READS IS OF BULK AT MOST 1048576: true; the input reads as it did. -/
def numTellsUptoRow : OpenClaim := { program := "ytdkcjfcjckpjcaa", sum := "3f076c3170d8c40f0a87c3db416221590e680ef4495129f3c29fa629748eb5c6", func := "cloakroom/cloakroomlaw01.NumTells", spec := "numTells", apart := false, narrowed := true }
def NumTellsUptoSaid : Prop := numTellsUptoRow.holds Try.pinned (OpenSpec.upto numTellsSpec)

/-- 'cloakroomlaw28.TwoTells', WHERE WHAT IT READS IS OF BULK AT MOST 1048576: true; the input reads as it did. -/
def twoTellsUptoRow : OpenClaim := { program := "ytdkcjfcjckpjcaa", sum := "3f076c3170d8c40f0a87c3db416221590e680ef4495129f3c29fa629748eb5c6", func := "cloakroom/cloakroomlaw28.TwoTells", spec := "twoTells", unfollowed := true, recurses := true, apart := false, narrowed := true }
def TwoTellsUptoSaid : Prop := twoTellsUptoRow.holds Try.pinned (OpenSpec.upto twoTellsSpec)

/-- 'cloakroomlaw28.TwoBetter', WHERE WHAT IT READS IS OF BULK AT MOST 1048576: true; the input reads as it did. -/
def twoBetterUptoRow : OpenClaim := { program := "ytdkcjfcjckpjcaa", sum := "3f076c3170d8c40f0a87c3db416221590e680ef4495129f3c29fa629748eb5c6", func := "cloakroom/cloakroomlaw28.TwoBetter", spec := "twoBetter", unfollowed := true, recurses := true, apart := false, narrowed := true }
def TwoBetterUptoSaid : Prop := twoBetterUptoRow.holds Try.pinned (OpenSpec.upto twoBetterSpec)

/-- 'cloakroomlaw15.PartTells', WHERE WHAT IT READS IS OF BULK AT MOST 1048576: true; the input reads as it did. -/
def partTellsUptoRow : OpenClaim := { program := "ytdkcjfcjckpjcaa", sum := "3f076c3170d8c40f0a87c3db416221590e680ef4495129f3c29fa629748eb5c6", func := "cloakroom/cloakroomlaw15.PartTells", spec := "partTells", apart := false, narrowed := true }
def PartTellsUptoSaid : Prop := partTellsUptoRow.holds Try.pinned (OpenSpec.upto partTellsSpec)

/-- 'cloakroomlaw15.PartStays', WHERE WHAT IT READS IS OF BULK AT MOST 1048576: true; the input reads as it did. -/
def partStaysUptoRow : OpenClaim := { program := "ytdkcjfcjckpjcaa", sum := "3f076c3170d8c40f0a87c3db416221590e680ef4495129f3c29fa629748eb5c6", func := "cloakroom/cloakroomlaw15.PartStays", spec := "partStays", apart := false, narrowed := true }
def PartStaysUptoSaid : Prop := partStaysUptoRow.holds Try.pinned (OpenSpec.upto partStaysSpec)

end Rows
end Go.Proofs.Ytdkcjfcjckpjcaa
