/-
  No cell of these rows narrows 'for every input' (looked for: loops, veiled, ifaces, maps, wideKeys, modest, calm, conditions, laid).
  DERIVED. THE GIVEN ROWS OF THIS SEAT. 4 by the template 'for every input the law returns true; each argument reads behind the call as it read before'; 0 by the template 'total and deterministic' (their statements: YteklkljndchjiaaGreatTotals.lean).
  GIVEN WITH THE SEED: the statements are not yours to turn. If you find one false, say at which input.
  Laid BY PROGRAM, IN A SANDBOX (cutbox-rows.mjs): the forced cells as the released guide's own fill.sh prints them over the translation dd6a24b845cf3347… (all of the seat's roots in one cut). By AI agents, Wed Nov 11 2026. No macro, syntax, notation, axiom, sorry.
-/
import Derived.Test.YteklkljndchjiaaGreatChecked
import GoSem.Claim
import GoSem.ClaimJoined
import GoSem.ClaimMapViews
import Derived.JoinedTies
import Derived.KernelRfl
namespace Go.Proofs.YteklkljndchjiaaGreat
/- THE CELL 'sum', in the pinned program and in every row, IS THE sha256 OF THE DUMP (.gsa) THAT YteklkljndchjiaaGreatProg.lean LOADS. Nothing in Lean hashes anything: it is a label: what it is worth is what the hold of that sum in a sandbox is worth. -/
noncomputable def Tryz.pinned : Pinned := { name := "yteklkljndchjiaagreat", sum := "dd6a24b845cf334700039c168f6559b057686f9976c861f65a397a5b32e0e1eb", checked := Tryz.checked }
namespace Rows
def none {H : Type} : Left H := { results := [], args := [] }

/-- 'cloakroomlaw20.TablesPlay': WHATEVER THE INPUT: true; the input reads as it did. -/
def tablesPlaySpec : ChangeSpec := { name := "tablesPlay", fn := fun _ => fun
  | [d1, d2] => { results := [.lit (.bool true)], args := [d1, d2] }
  | _ => none }
def tablesPlayRow : OpenClaim := { program := "yteklkljndchjiaagreat", sum := "dd6a24b845cf334700039c168f6559b057686f9976c861f65a397a5b32e0e1eb", func := "cloakroom/cloakroomlaw20.TablesPlay", spec := "tablesPlay", unfollowed := true, recurses := true, plainKeys := false, apart := false }
def TablesPlaySaid : Prop := tablesPlayRow.holds Tryz.pinned (OpenSpec.ofChange tablesPlaySpec)

/-- ITS FALSE NEIGHBOUR: 'it returns false'. Refute it at one input. -/
def tablesPlayWrong : ChangeSpec := { name := "tablesPlay", fn := fun _ => fun
  | [d1, d2] => { results := [.lit (.bool false)], args := [d1, d2] }
  | _ => none }
def TablesPlayWrongFalsely : Prop := tablesPlayRow.holds Tryz.pinned (OpenSpec.ofChange tablesPlayWrong)

/-- 'cloakroomlaw33.StatefulPlays': WHATEVER THE INPUT: true; the input reads as it did. -/
def statefulPlaysSpec : ChangeSpec := { name := "statefulPlays", fn := fun _ => fun
  | [d1, d2] => { results := [.lit (.bool true)], args := [d1, d2] }
  | _ => none }
def statefulPlaysRow : OpenClaim := { program := "yteklkljndchjiaagreat", sum := "dd6a24b845cf334700039c168f6559b057686f9976c861f65a397a5b32e0e1eb", func := "cloakroom/cloakroomlaw33.StatefulPlays", spec := "statefulPlays", unfollowed := true, recurses := true, plainKeys := false, apart := false }
def StatefulPlaysSaid : Prop := statefulPlaysRow.holds Tryz.pinned (OpenSpec.ofChange statefulPlaysSpec)

/-- ITS FALSE NEIGHBOUR: 'it returns false'. Refute it at one input. -/
def statefulPlaysWrong : ChangeSpec := { name := "statefulPlays", fn := fun _ => fun
  | [d1, d2] => { results := [.lit (.bool false)], args := [d1, d2] }
  | _ => none }
def StatefulPlaysWrongFalsely : Prop := statefulPlaysRow.holds Tryz.pinned (OpenSpec.ofChange statefulPlaysWrong)

/-- 'cloakroomlaw33.StatefulLoads': WHATEVER THE INPUT: true; the input reads as it did. -/
def statefulLoadsSpec : ChangeSpec := { name := "statefulLoads", fn := fun _ => fun
  | [d1, d2] => { results := [.lit (.bool true)], args := [d1, d2] }
  | _ => none }
def statefulLoadsRow : OpenClaim := { program := "yteklkljndchjiaagreat", sum := "dd6a24b845cf334700039c168f6559b057686f9976c861f65a397a5b32e0e1eb", func := "cloakroom/cloakroomlaw33.StatefulLoads", spec := "statefulLoads", unfollowed := true, recurses := true, plainKeys := false, apart := false }
def StatefulLoadsSaid : Prop := statefulLoadsRow.holds Tryz.pinned (OpenSpec.ofChange statefulLoadsSpec)

/-- ITS FALSE NEIGHBOUR: 'it returns false'. Refute it at one input. -/
def statefulLoadsWrong : ChangeSpec := { name := "statefulLoads", fn := fun _ => fun
  | [d1, d2] => { results := [.lit (.bool false)], args := [d1, d2] }
  | _ => none }
def StatefulLoadsWrongFalsely : Prop := statefulLoadsRow.holds Tryz.pinned (OpenSpec.ofChange statefulLoadsWrong)

/-- 'cloakroomlaw38.AuditShape': WHATEVER THE INPUT: true; the input reads as it did. -/
def auditShapeSpec : ChangeSpec := { name := "auditShape", fn := fun _ => fun
  | [d1, d2, d3, d4] => { results := [.lit (.bool true)], args := [d1, d2, d3, d4] }
  | _ => none }
def auditShapeRow : OpenClaim := { program := "yteklkljndchjiaagreat", sum := "dd6a24b845cf334700039c168f6559b057686f9976c861f65a397a5b32e0e1eb", func := "cloakroom/cloakroomlaw38.AuditShape", spec := "auditShape", unfollowed := true, recurses := true, plainKeys := false, apart := false }
def AuditShapeSaid : Prop := auditShapeRow.holds Tryz.pinned (OpenSpec.ofChange auditShapeSpec)

/-- ITS FALSE NEIGHBOUR: 'it returns false'. Refute it at one input. -/
def auditShapeWrong : ChangeSpec := { name := "auditShape", fn := fun _ => fun
  | [d1, d2, d3, d4] => { results := [.lit (.bool false)], args := [d1, d2, d3, d4] }
  | _ => none }
def AuditShapeWrongFalsely : Prop := auditShapeRow.holds Tryz.pinned (OpenSpec.ofChange auditShapeWrong)

/- THE SECOND FORM. 'bulk': how many values and letters a reading holds, each counted each time it is reached (what is shared counts as often as it is met; a slice's spare places count too). A statement '..UptoSaid' is the law's where the arguments, and the package variables that the reading takes, are together of bulk at most 1048576: NARROWER than '..Said'. Prove '..Said' where nothing that the law and all that it calls make is longer than what came in: it says more and counts as full. Else prove '..UptoSaid'. A law counts once. -/
mutual
def uptoBulk {H : Type} : DataW H → Nat
  | .lit (.string bytes) => bytes.length + 1
  | .lit _ => 1
  | .nil => 1
  | .ptr d => uptoBulk d + 1
  | .slice elems spare => uptoBulkAll elems + uptoBulkAll spare + 1
  | .agg parts => uptoBulkAll parts + 1
  | .iface _ d => uptoBulk d + 1
  | .map entries => uptoBulkEntries entries + 1
  | .held _ => 1
def uptoBulkAll {H : Type} : List (DataW H) → Nat
  | [] => 0
  | d :: r => uptoBulk d + uptoBulkAll r
def uptoBulkEntries {H : Type} : List (Lit × DataW H) → Nat
  | [] => 0
  | x :: r => uptoBulkEntry x + uptoBulkEntries r
def uptoBulkEntry {H : Type} : Lit × DataW H → Nat
  | (.string bytes, d) => bytes.length + uptoBulk d + 1
  | (_, d) => uptoBulk d + 1
 end
def uptoSmall : (H : Type) → List (DataW H) → Bool := fun _ ds => decide (uptoBulkAll ds ≤ 1048576)
def OpenSpec.upto (s : _root_.Go.ChangeSpec) : _root_.Go.OpenSpec := { _root_.Go.OpenSpec.ofChange s with cond := some uptoSmall }

/-- 'cloakroomlaw20.TablesPlay', WHERE WHAT IT READS IS OF BULK AT MOST 1048576: true; the input reads as it did. -/
def tablesPlayUptoRow : OpenClaim := { program := "yteklkljndchjiaagreat", sum := "dd6a24b845cf334700039c168f6559b057686f9976c861f65a397a5b32e0e1eb", func := "cloakroom/cloakroomlaw20.TablesPlay", spec := "tablesPlay", unfollowed := true, recurses := true, plainKeys := false, apart := false, narrowed := true }
def TablesPlayUptoSaid : Prop := tablesPlayUptoRow.holds Tryz.pinned (OpenSpec.upto tablesPlaySpec)

/-- 'cloakroomlaw33.StatefulPlays', WHERE WHAT IT READS IS OF BULK AT MOST 1048576: true; the input reads as it did. -/
def statefulPlaysUptoRow : OpenClaim := { program := "yteklkljndchjiaagreat", sum := "dd6a24b845cf334700039c168f6559b057686f9976c861f65a397a5b32e0e1eb", func := "cloakroom/cloakroomlaw33.StatefulPlays", spec := "statefulPlays", unfollowed := true, recurses := true, plainKeys := false, apart := false, narrowed := true }
def StatefulPlaysUptoSaid : Prop := statefulPlaysUptoRow.holds Tryz.pinned (OpenSpec.upto statefulPlaysSpec)

/-- 'cloakroomlaw33.StatefulLoads', WHERE WHAT IT READS IS OF BULK AT MOST 1048576: true; the input reads as it did. -/
def statefulLoadsUptoRow : OpenClaim := { program := "yteklkljndchjiaagreat", sum := "dd6a24b845cf334700039c168f6559b057686f9976c861f65a397a5b32e0e1eb", func := "cloakroom/cloakroomlaw33.StatefulLoads", spec := "statefulLoads", unfollowed := true, recurses := true, plainKeys := false, apart := false, narrowed := true }
def StatefulLoadsUptoSaid : Prop := statefulLoadsUptoRow.holds Tryz.pinned (OpenSpec.upto statefulLoadsSpec)

/-- 'cloakroomlaw38.AuditShape', WHERE WHAT IT READS IS OF BULK AT MOST 1048576: true; the input reads as it did. -/
def auditShapeUptoRow : OpenClaim := { program := "yteklkljndchjiaagreat", sum := "dd6a24b845cf334700039c168f6559b057686f9976c861f65a397a5b32e0e1eb", func := "cloakroom/cloakroomlaw38.AuditShape", spec := "auditShape", unfollowed := true, recurses := true, plainKeys := false, apart := false, narrowed := true }
def AuditShapeUptoSaid : Prop := auditShapeUptoRow.holds Tryz.pinned (OpenSpec.upto auditShapeSpec)

end Rows
end Go.Proofs.YteklkljndchjiaaGreat
