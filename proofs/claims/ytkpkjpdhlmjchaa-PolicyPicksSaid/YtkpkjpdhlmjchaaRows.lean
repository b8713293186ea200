/-
  No cell of these rows narrows 'for every input' (looked for: loops, veiled, ifaces, maps, wideKeys, modest, calm, conditions, laid).
  DERIVED. THE GIVEN ROWS OF THIS SEAT. 7 by the template 'for every input the law returns true; each argument reads behind the call as it read before'; 0 by the template 'total and deterministic' (their statements: YtkpkjpdhlmjchaaTotals.lean).
  GIVEN WITH THE SEED: the statements are not yours to turn. If you find one false, say at which input.
  Laid BY PROGRAM, IN A SANDBOX (cutbox-rows.mjs): the forced cells as the released guide's own fill.sh prints them over the translation 13aa22c82709cc72… (all of the seat's roots in one cut). By AI agents, Wed Nov 11 2026. No macro, syntax, notation, axiom, sorry.
-/
import Derived.Test.YtkpkjpdhlmjchaaChecked
import GoSem.Claim
import GoSem.ClaimJoined
import GoSem.ClaimMapViews
import Derived.JoinedTies
import Derived.KernelRfl
namespace Go.Proofs.Ytkpkjpdhlmjchaa
/- THE CELL 'sum', in the pinned program and in every row, IS THE sha256 OF THE DUMP (.gsa) THAT YtkpkjpdhlmjchaaProg.lean LOADS. Nothing in Lean hashes anything: it is a label: what it is worth is what the hold of that sum in a sandbox is worth. -/
noncomputable def Try.pinned : Pinned := { name := "ytkpkjpdhlmjchaa", sum := "13aa22c82709cc72e388e2b6d0c094379112a6fce23819106b7790f072fb867b", checked := Try.checked }
namespace Rows
def none {H : Type} : Left H := { results := [], args := [] }

/-- 'cloakroomlaw46.ShiftTells': WHATEVER THE INPUT: true; the input reads as it did. -/
def shiftTellsSpec : ChangeSpec := { name := "shiftTells", fn := fun _ => fun
  | [d1, d2, d3, d4, d5, d6] => { results := [.lit (.bool true)], args := [d1, d2, d3, d4, d5, d6] }
  | _ => none }
def shiftTellsRow : OpenClaim := { program := "ytkpkjpdhlmjchaa", sum := "13aa22c82709cc72e388e2b6d0c094379112a6fce23819106b7790f072fb867b", func := "cloakroom/cloakroomlaw46.ShiftTells", spec := "shiftTells", unfollowed := true, recurses := true, apart := false }
def ShiftTellsSaid : Prop := shiftTellsRow.holds Try.pinned (OpenSpec.ofChange shiftTellsSpec)

/-- ITS FALSE NEIGHBOUR: 'it returns false'. Refute it at one input. -/
def shiftTellsWrong : ChangeSpec := { name := "shiftTells", fn := fun _ => fun
  | [d1, d2, d3, d4, d5, d6] => { results := [.lit (.bool false)], args := [d1, d2, d3, d4, d5, d6] }
  | _ => none }
def ShiftTellsWrongFalsely : Prop := shiftTellsRow.holds Try.pinned (OpenSpec.ofChange shiftTellsWrong)

/-- 'cloakroomlaw46.ShiftMust': WHATEVER THE INPUT: true; the input reads as it did. -/
def shiftMustSpec : ChangeSpec := { name := "shiftMust", fn := fun _ => fun
  | [d1, d2, d3, d4] => { results := [.lit (.bool true)], args := [d1, d2, d3, d4] }
  | _ => none }
def shiftMustRow : OpenClaim := { program := "ytkpkjpdhlmjchaa", sum := "13aa22c82709cc72e388e2b6d0c094379112a6fce23819106b7790f072fb867b", func := "cloakroom/cloakroomlaw46.ShiftMust", spec := "shiftMust", unfollowed := true, recurses := true, apart := false }
def ShiftMustSaid : Prop := shiftMustRow.holds Try.pinned (OpenSpec.ofChange shiftMustSpec)

/-- ITS FALSE NEIGHBOUR: 'it returns false'. Refute it at one input. -/
def shiftMustWrong : ChangeSpec := { name := "shiftMust", fn := fun _ => fun
  | [d1, d2, d3, d4] => { results := [.lit (.bool false)], args := [d1, d2, d3, d4] }
  | _ => none }
def ShiftMustWrongFalsely : Prop := shiftMustRow.holds Try.pinned (OpenSpec.ofChange shiftMustWrong)

/-- 'cloakroomlaw27.LeastTells': WHATEVER THE INPUT: true; the input reads as it did. -/
def leastTellsSpec : ChangeSpec := { name := "leastTells", fn := fun _ => fun
  | [d1, d2, d3, d4, d5, d6] => { results := [.lit (.bool true)], args := [d1, d2, d3, d4, d5, d6] }
  | _ => none }
def leastTellsRow : OpenClaim := { program := "ytkpkjpdhlmjchaa", sum := "13aa22c82709cc72e388e2b6d0c094379112a6fce23819106b7790f072fb867b", func := "cloakroom/cloakroomlaw27.LeastTells", spec := "leastTells", inPlace := ["math.Float64bits", "math.Float64frombits"], unfollowed := true, recurses := true, apart := false }
def LeastTellsSaid : Prop := leastTellsRow.holds Try.pinned (OpenSpec.ofChange leastTellsSpec)

/-- ITS FALSE NEIGHBOUR: 'it returns false'. Refute it at one input. -/
def leastTellsWrong : ChangeSpec := { name := "leastTells", fn := fun _ => fun
  | [d1, d2, d3, d4, d5, d6] => { results := [.lit (.bool false)], args := [d1, d2, d3, d4, d5, d6] }
  | _ => none }
def LeastTellsWrongFalsely : Prop := leastTellsRow.holds Try.pinned (OpenSpec.ofChange leastTellsWrong)

/-- 'cloakroomlaw27.LeastEven': WHATEVER THE INPUT: true; the input reads as it did. -/
def leastEvenSpec : ChangeSpec := { name := "leastEven", fn := fun _ => fun
  | [d1, d2] => { results := [.lit (.bool true)], args := [d1, d2] }
  | _ => none }
def leastEvenRow : OpenClaim := { program := "ytkpkjpdhlmjchaa", sum := "13aa22c82709cc72e388e2b6d0c094379112a6fce23819106b7790f072fb867b", func := "cloakroom/cloakroomlaw27.LeastEven", spec := "leastEven", inPlace := ["math.Float64bits", "math.Float64frombits"], unfollowed := true, recurses := true, apart := false }
def LeastEvenSaid : Prop := leastEvenRow.holds Try.pinned (OpenSpec.ofChange leastEvenSpec)

/-- ITS FALSE NEIGHBOUR: 'it returns false'. Refute it at one input. -/
def leastEvenWrong : ChangeSpec := { name := "leastEven", fn := fun _ => fun
  | [d1, d2] => { results := [.lit (.bool false)], args := [d1, d2] }
  | _ => none }
def LeastEvenWrongFalsely : Prop := leastEvenRow.holds Try.pinned (OpenSpec.ofChange leastEvenWrong)

/-- 'cloakroomlaw30.PolicyOne': WHATEVER THE INPUT: true; the input reads as it did. -/
def policyOneSpec : ChangeSpec := { name := "policyOne", fn := fun _ => fun
  | [d1, d2, d3, d4, d5, d6, d7] => { results := [.lit (.bool true)], args := [d1, d2, d3, d4, d5, d6, d7] }
  | _ => none }
def policyOneRow : OpenClaim := { program := "ytkpkjpdhlmjchaa", sum := "13aa22c82709cc72e388e2b6d0c094379112a6fce23819106b7790f072fb867b", func := "cloakroom/cloakroomlaw30.PolicyOne", spec := "policyOne", unfollowed := true, recurses := true, apart := false }
def PolicyOneSaid : Prop := policyOneRow.holds Try.pinned (OpenSpec.ofChange policyOneSpec)

/-- ITS FALSE NEIGHBOUR: 'it returns false'. Refute it at one input. -/
def policyOneWrong : ChangeSpec := { name := "policyOne", fn := fun _ => fun
  | [d1, d2, d3, d4, d5, d6, d7] => { results := [.lit (.bool false)], args := [d1, d2, d3, d4, d5, d6, d7] }
  | _ => none }
def PolicyOneWrongFalsely : Prop := policyOneRow.holds Try.pinned (OpenSpec.ofChange policyOneWrong)

/-- 'cloakroomlaw30.PolicyPicks': WHATEVER THE INPUT: true; the input reads as it did. -/
def policyPicksSpec : ChangeSpec := { name := "policyPicks", fn := fun _ => fun
  | [d1, d2, d3, d4, d5, d6, d7] => { results := [.lit (.bool true)], args := [d1, d2, d3, d4, d5, d6, d7] }
  | _ => none }
def policyPicksRow : OpenClaim := { program := "ytkpkjpdhlmjchaa", sum := "13aa22c82709cc72e388e2b6d0c094379112a6fce23819106b7790f072fb867b", func := "cloakroom/cloakroomlaw30.PolicyPicks", spec := "policyPicks", unfollowed := true, recurses := true, apart := false }
def PolicyPicksSaid : Prop := policyPicksRow.holds Try.pinned (OpenSpec.ofChange policyPicksSpec)

/-- ITS FALSE NEIGHBOUR: 'it returns false'. Refute it at one input. -/
def policyPicksWrong : ChangeSpec := { name := "policyPicks", fn := fun _ => fun
  | [d1, d2, d3, d4, d5, d6, d7] => { results := [.lit (.bool false)], args := [d1, d2, d3, d4, d5, d6, d7] }
  | _ => none }
def PolicyPicksWrongFalsely : Prop := policyPicksRow.holds Try.pinned (OpenSpec.ofChange policyPicksWrong)

/-- 'cloakroomlaw25.LoadPlays': WHATEVER THE INPUT: true; the input reads as it did. -/
def loadPlaysSpec : ChangeSpec := { name := "loadPlays", fn := fun _ => fun
  | [d1, d2, d3, d4, d5, d6, d7] => { results := [.lit (.bool true)], args := [d1, d2, d3, d4, d5, d6, d7] }
  | _ => none }
def loadPlaysRow : OpenClaim := { program := "ytkpkjpdhlmjchaa", sum := "13aa22c82709cc72e388e2b6d0c094379112a6fce23819106b7790f072fb867b", func := "cloakroom/cloakroomlaw25.LoadPlays", spec := "loadPlays", unfollowed := true, recurses := true, apart := false }
def LoadPlaysSaid : Prop := loadPlaysRow.holds Try.pinned (OpenSpec.ofChange loadPlaysSpec)

/-- ITS FALSE NEIGHBOUR: 'it returns false'. Refute it at one input. -/
def loadPlaysWrong : ChangeSpec := { name := "loadPlays", fn := fun _ => fun
  | [d1, d2, d3, d4, d5, d6, d7] => { results := [.lit (.bool false)], args := [d1, d2, d3, d4, d5, d6, d7] }
  | _ => none }
def LoadPlaysWrongFalsely : Prop := loadPlaysRow.holds Try.pinned (OpenSpec.ofChange loadPlaysWrong)

/- THE SECOND FORM. 'bulk': how many values and letters a reading holds, each counted each time it is reached (what is shared counts as often as it is met; a slice's spare places count too). A statement '..UptoSaid' is the law's where the arguments, and the package variables that the reading takes, are together of bulk at most 1048576: NARROWER than '..Said'. Prove '..Said' where nothing that the law and all that it calls make is longer than what came in: it says more and counts as full. Else prove '..UptoSaid'. A law counts once. -/
mutual
def uptoBulk {H : Type} : DataW H → Nat
  | .lit (.string bytes) => bytes.length + 1
  | .lit _ => 1
  | .nil => 1
  | .ptr d => uptoBulk d + 1
  | .slice elems spare => uptoBulkAll elems + uptoBulkAll spare + 1
  | .agg parts => uptoBulkAll parts + 1
  | .iface _ d => uptoBulk d + 1
  | .map entries => uptoBulkEntries entries + 1
  | .held _ => 1
def uptoBulkAll {H : Type} : List (DataW H) → Nat
  | [] => 0
  | d :: r => uptoBulk d + uptoBulkAll r
def uptoBulkEntries {H : Type} : List (Lit × DataW H) → Nat
  | [] => 0
  | x :: r => uptoBulkEntry x + uptoBulkEntries r
def uptoBulkEntry {H : Type} : Lit × DataW H → Nat
  | (.string bytes, d) => bytes.length + uptoBulk d + 1
  | (_, d) => uptoBulk d + 1
 end
def uptoSmall : (H : Type) → List (DataW H) → Bool := fun _ ds => decide (uptoBulkAll ds ≤ 1048576)
def OpenSpec.upto (s : _root_.Go.ChangeSpec) : _root_.Go.OpenSpec := { _root_.Go.OpenSpec.ofChange s with cond := some uptoSmall }

/-- 'cloakroomlaw46.ShiftTells', WHERE WHAT IT READS IS OF BULK AT MOST 1048576: true; the input reads as it did. -/
def shiftTellsUptoRow : OpenClaim := { program := "ytkpkjpdhlmjchaa", sum := "13aa22c82709cc72e388e2b6d0c094379112a6fce23819106b7790f072fb867b", func := "cloakroom/cloakroomlaw46.ShiftTells", spec := "shiftTells", unfollowed := true, recurses := true, apart := false, narrowed := true }
def ShiftTellsUptoSaid : Prop := shiftTellsUptoRow.holds Try.pinned (OpenSpec.upto shiftTellsSpec)

/-- 'cloakroomlaw46.ShiftMust', WHERE WHAT IT READS IS OF BULK AT MOST 1048576: true; the input reads as it did. -/
def shiftMustUptoRow : OpenClaim := { program := "ytkpkjpdhlmjchaa", sum := "13aa22c82709cc72e388e2b6d0c094379112a6fce23819106b7790f072fb867b", func := "cloakroom/cloakroomlaw46.ShiftMust", spec := "shiftMust", unfollowed := true, recurses := true, apart := false, narrowed := true }
def ShiftMustUptoSaid : Prop := shiftMustUptoRow.holds Try.pinned (OpenSpec.upto shiftMustSpec)

/-- 'cloakroomlaw27.LeastTells', WHERE WHAT IT READS IS OF BULK AT MOST 1048576: true; the input reads as it did. -/
def leastTellsUptoRow : OpenClaim := { program := "ytkpkjpdhlmjchaa", sum := "13aa22c82709cc72e388e2b6d0c094379112a6fce23819106b7790f072fb867b", func := "cloakroom/cloakroomlaw27.LeastTells", spec := "leastTells", inPlace := ["math.Float64bits", "math.Float64frombits"], unfollowed := true, recurses := true, apart := false, narrowed := true }
def LeastTellsUptoSaid : Prop := leastTellsUptoRow.holds Try.pinned (OpenSpec.upto leastTellsSpec)

/-- 'cloakroomlaw27.LeastEven', WHERE WHAT IT READS IS OF BULK AT MOST 1048576: true; the input reads as it did. -/
def leastEvenUptoRow : OpenClaim := { program := "ytkpkjpdhlmjchaa", sum := "13aa22c82709cc72e388e2b6d0c094379112a6fce23819106b7790f072fb867b", func := "cloakroom/cloakroomlaw27.LeastEven", spec := "leastEven", inPlace := ["math.Float64bits", "math.Float64frombits"], unfollowed := true, recurses := true, apart := false, narrowed := true }
def LeastEvenUptoSaid : Prop := leastEvenUptoRow.holds Try.pinned (OpenSpec.upto leastEvenSpec)

/-- 'cloakroomlaw30.PolicyOne', WHERE WHAT IT READS IS OF BULK AT MOST 1048576: true; the input reads as it did. -/
def policyOneUptoRow : OpenClaim := { program := "ytkpkjpdhlmjchaa", sum := "13aa22c82709cc72e388e2b6d0c094379112a6fce23819106b7790f072fb867b", func := "cloakroom/cloakroomlaw30.PolicyOne", spec := "policyOne", unfollowed := true, recurses := true, apart := false, narrowed := true }
def PolicyOneUptoSaid : Prop := policyOneUptoRow.holds Try.pinned (OpenSpec.upto policyOneSpec)

/-- 'cloakroomlaw30.PolicyPicks', WHERE WHAT IT READS IS OF BULK AT MOST 1048576: true; the input reads as it did. -/
def policyPicksUptoRow : OpenClaim := { program := "ytkpkjpdhlmjchaa", sum := "13aa22c82709cc72e388e2b6d0c094379112a6fce23819106b7790f072fb867b", func := "cloakroom/cloakroomlaw30.PolicyPicks", spec := "policyPicks", unfollowed := true, recurses := true, apart := false, narrowed := true }
def PolicyPicksUptoSaid : Prop := policyPicksUptoRow.holds Try.pinned (OpenSpec.upto policyPicksSpec)

/-- 'cloakroomlaw25.LoadPlays', WHERE WHAT IT READS IS OF BULK AT MOST 1048576: true; the input reads as it did. -/
def loadPlaysUptoRow : OpenClaim := { program := "ytkpkjpdhlmjchaa", sum := "13aa22c82709cc72e388e2b6d0c094379112a6fce23819106b7790f072fb867b", func := "cloakroom/cloakroomlaw25.LoadPlays", spec := "loadPlays", unfollowed := true, recurses := true, apart := false, narrowed := true }
def LoadPlaysUptoSaid : Prop := loadPlaysUptoRow.holds Try.pinned (OpenSpec.upto loadPlaysSpec)

end Rows
end Go.Proofs.Ytkpkjpdhlmjchaa
