/-
  NARROWER THAN 'FOR EVERY INPUT', by the rows' own cells (each row's printed sentence says how): FnExactWithin: loops.
  DERIVED. THE GIVEN ROWS OF THIS SEAT. 5 by the template 'for every input the law returns true; each argument reads behind the call as it read before'; 0 by the template 'total and deterministic' (their statements: YtfpnpnbiofijaabTotals.lean).
  GIVEN WITH THE SEED: the statements are not yours to turn. If you find one false, say at which input.
  Laid BY PROGRAM, IN A SANDBOX (cutbox-rows.mjs): the forced cells as the released guide's own fill.sh prints them over the translation eb4346107affc585… (all of the seat's roots in one cut). By AI agents, Wed Nov 11 2026. No macro, syntax, notation, axiom, sorry.
-/
import Derived.Test.YtfpnpnbiofijaabChecked
import GoSem.Claim
import GoSem.ClaimJoined
import GoSem.ClaimMapViews
import Derived.JoinedTies
import Derived.KernelRfl
namespace Go.Proofs.Ytfpnpnbiofijaab
/- THE CELL 'sum', in the pinned program and in every row, IS THE sha256 OF THE DUMP (.gsa) THAT YtfpnpnbiofijaabProg.lean LOADS. Nothing in Lean hashes anything: it is a label: what it is worth is what the hold of that sum in a sandbox is worth. -/
noncomputable def Try.pinned : Pinned := { name := "ytfpnpnbiofijaab", sum := "eb4346107affc585b58798c7a3c8002e51d7e08d368c75d7a397fb2c5e2572eb", checked := Try.checked }
namespace Rows
def none {H : Type} : Left H := { results := [], args := [] }

/-- 'laws.FnExactLossName': WHATEVER THE INPUT: true; the input reads as it did. -/
def fnExactLossNameSpec : ChangeSpec := { name := "fnExactLossName", fn := fun _ => fun
  | [d] => { results := [.lit (.bool true)], args := [d] }
  | _ => none }
def fnExactLossNameRow : OpenClaim := { program := "ytfpnpnbiofijaab", sum := "eb4346107affc585b58798c7a3c8002e51d7e08d368c75d7a397fb2c5e2572eb", func := "loop.example/g00502/laws.FnExactLossName", spec := "fnExactLossName", apart := false }
def FnExactLossNameSaid : Prop := fnExactLossNameRow.holds Try.pinned (OpenSpec.ofChange fnExactLossNameSpec)

/-- ITS FALSE NEIGHBOUR: 'it returns false'. Refute it at one input. -/
def fnExactLossNameWrong : ChangeSpec := { name := "fnExactLossName", fn := fun _ => fun
  | [d] => { results := [.lit (.bool false)], args := [d] }
  | _ => none }
def FnExactLossNameWrongFalsely : Prop := fnExactLossNameRow.holds Try.pinned (OpenSpec.ofChange fnExactLossNameWrong)

/-- 'laws.FnExactWayName': WHATEVER THE INPUT: true; the input reads as it did. -/
def fnExactWayNameSpec : ChangeSpec := { name := "fnExactWayName", fn := fun _ => fun
  | [d] => { results := [.lit (.bool true)], args := [d] }
  | _ => none }
def fnExactWayNameRow : OpenClaim := { program := "ytfpnpnbiofijaab", sum := "eb4346107affc585b58798c7a3c8002e51d7e08d368c75d7a397fb2c5e2572eb", func := "loop.example/g00502/laws.FnExactWayName", spec := "fnExactWayName", apart := false }
def FnExactWayNameSaid : Prop := fnExactWayNameRow.holds Try.pinned (OpenSpec.ofChange fnExactWayNameSpec)

/-- ITS FALSE NEIGHBOUR: 'it returns false'. Refute it at one input. -/
def fnExactWayNameWrong : ChangeSpec := { name := "fnExactWayName", fn := fun _ => fun
  | [d] => { results := [.lit (.bool false)], args := [d] }
  | _ => none }
def FnExactWayNameWrongFalsely : Prop := fnExactWayNameRow.holds Try.pinned (OpenSpec.ofChange fnExactWayNameWrong)

/-- 'laws.FnExactWayOf': WHATEVER THE INPUT: true; the input reads as it did. -/
def fnExactWayOfSpec : ChangeSpec := { name := "fnExactWayOf", fn := fun _ => fun
  | [d] => { results := [.lit (.bool true)], args := [d] }
  | _ => none }
def fnExactWayOfRow : OpenClaim := { program := "ytfpnpnbiofijaab", sum := "eb4346107affc585b58798c7a3c8002e51d7e08d368c75d7a397fb2c5e2572eb", func := "loop.example/g00502/laws.FnExactWayOf", spec := "fnExactWayOf", apart := false }
def FnExactWayOfSaid : Prop := fnExactWayOfRow.holds Try.pinned (OpenSpec.ofChange fnExactWayOfSpec)

/-- ITS FALSE NEIGHBOUR: 'it returns false'. Refute it at one input. -/
def fnExactWayOfWrong : ChangeSpec := { name := "fnExactWayOf", fn := fun _ => fun
  | [d] => { results := [.lit (.bool false)], args := [d] }
  | _ => none }
def FnExactWayOfWrongFalsely : Prop := fnExactWayOfRow.holds Try.pinned (OpenSpec.ofChange fnExactWayOfWrong)

/-- 'laws.FnExactWithin': WHATEVER THE INPUT: true; the input reads as it did. -/
def fnExactWithinSpec : ChangeSpec := { name := "fnExactWithin", fn := fun _ => fun
  | [d1, d2] => { results := [.lit (.bool true)], args := [d1, d2] }
  | _ => none }
def fnExactWithinRow : OpenClaim := { program := "ytfpnpnbiofijaab", sum := "eb4346107affc585b58798c7a3c8002e51d7e08d368c75d7a397fb2c5e2572eb", func := "loop.example/g00502/laws.FnExactWithin", spec := "fnExactWithin", recurses := true, loops := true, apart := false }
def FnExactWithinSaid : Prop := fnExactWithinRow.holds Try.pinned (OpenSpec.ofChange fnExactWithinSpec)

/-- ITS FALSE NEIGHBOUR: 'it returns false'. Refute it at one input. -/
def fnExactWithinWrong : ChangeSpec := { name := "fnExactWithin", fn := fun _ => fun
  | [d1, d2] => { results := [.lit (.bool false)], args := [d1, d2] }
  | _ => none }
def FnExactWithinWrongFalsely : Prop := fnExactWithinRow.holds Try.pinned (OpenSpec.ofChange fnExactWithinWrong)

/-- 'laws.FnExactCountLoss': WHATEVER THE INPUT: true; the input reads as it did. -/
def fnExactCountLossSpec : ChangeSpec := { name := "fnExactCountLoss", fn := fun _ => fun
  | [d1, d2] => { results := [.lit (.bool true)], args := [d1, d2] }
  | _ => none }
def fnExactCountLossRow : OpenClaim := { program := "ytfpnpnbiofijaab", sum := "eb4346107affc585b58798c7a3c8002e51d7e08d368c75d7a397fb2c5e2572eb", func := "loop.example/g00502/laws.FnExactCountLoss", spec := "fnExactCountLoss", apart := false }
def FnExactCountLossSaid : Prop := fnExactCountLossRow.holds Try.pinned (OpenSpec.ofChange fnExactCountLossSpec)

/-- ITS FALSE NEIGHBOUR: 'it returns false'. Refute it at one input. -/
def fnExactCountLossWrong : ChangeSpec := { name := "fnExactCountLoss", fn := fun _ => fun
  | [d1, d2] => { results := [.lit (.bool false)], args := [d1, d2] }
  | _ => none }
def FnExactCountLossWrongFalsely : Prop := fnExactCountLossRow.holds Try.pinned (OpenSpec.ofChange fnExactCountLossWrong)

/- THE SECOND FORM. 'bulk': how many values and letters a reading holds, each counted each time it is reached (what is shared counts as often as it is met; a slice's spare places count too). A statement '..UptoSaid' is the law's where the arguments, and the package variables that the reading takes, are together of bulk at most 1048576: NARROWER than '..Said'. Prove '..Said' where nothing that the law and all that it calls make is longer than what came in: it says more and counts as full. Else prove '..UptoSaid'. A law counts once. -/
mutual
def uptoBulk {H : Type} : DataW H → Nat
  | .lit (.string bytes) => bytes.length + 1
  | .lit _ => 1
  | .nil => 1
  | .ptr d => uptoBulk d + 1
  | .slice elems spare => uptoBulkAll elems + uptoBulkAll spare + 1
  | .agg parts => uptoBulkAll parts + 1
  | .iface _ d => uptoBulk d + 1
  | .map entries => uptoBulkEntries entries + 1
  | .held _ => 1
def uptoBulkAll {H : Type} : List (DataW H) → Nat
  | [] => 0
  | d :: r => uptoBulk d + uptoBulkAll r
def uptoBulkEntries {H : Type} : List (Lit × DataW H) → Nat
  | [] => 0
  | x :: r => uptoBulkEntry x + uptoBulkEntries r
def uptoBulkEntry {H : Type} : Lit × DataW H → Nat
  | (.string bytes, d) => bytes.length + uptoBulk d + 1
  | (_, d) => uptoBulk d + 1
 end
def uptoSmall : (H : Type) → List (DataW H) → Bool := fun _ ds => decide (uptoBulkAll ds ≤ 1048576)
def OpenSpec.upto (s : _root_.Go.ChangeSpec) : _root_.Go.OpenSpec := { _root_.Go.OpenSpec.ofChange s with cond := some uptoSmall }

/-- 'laws.FnExactLossName', WHERE WHAT IT READS IS OF BULK AT MOST 1048576: true; the input reads as it did. -/
def fnExactLossNameUptoRow : OpenClaim := { program := "ytfpnpnbiofijaab", sum := "eb4346107affc585b58798c7a3c8002e51d7e08d368c75d7a397fb2c5e2572eb", func := "loop.example/g00502/laws.FnExactLossName", spec := "fnExactLossName", apart := false, narrowed := true }
def FnExactLossNameUptoSaid : Prop := fnExactLossNameUptoRow.holds Try.pinned (OpenSpec.upto fnExactLossNameSpec)

/-- 'laws.FnExactWayName', WHERE WHAT IT READS IS OF BULK AT MOST 1048576: true; the input reads as it did. -/
def fnExactWayNameUptoRow : OpenClaim := { program := "ytfpnpnbiofijaab", sum := "eb4346107affc585b58798c7a3c8002e51d7e08d368c75d7a397fb2c5e2572eb", func := "loop.example/g00502/laws.FnExactWayName", spec := "fnExactWayName", apart := false, narrowed := true }
def FnExactWayNameUptoSaid : Prop := fnExactWayNameUptoRow.holds Try.pinned (OpenSpec.upto fnExactWayNameSpec)

/-- 'laws.FnExactWayOf', WHERE WHAT IT READS IS OF BULK AT MOST 1048576: true; the input reads as it did. -/
def fnExactWayOfUptoRow : OpenClaim := { program := "ytfpnpnbiofijaab", sum := "eb4346107affc585b58798c7a3c8002e51d7e08d368c75d7a397fb2c5e2572eb", func := "loop.example/g00502/laws.FnExactWayOf", spec := "fnExactWayOf", apart := false, narrowed := true }
def FnExactWayOfUptoSaid : Prop := fnExactWayOfUptoRow.holds Try.pinned (OpenSpec.upto fnExactWayOfSpec)

/-- 'laws.FnExactWithin', WHERE WHAT IT READS IS OF BULK AT MOST 1048576: true; the input reads as it did. -/
def fnExactWithinUptoRow : OpenClaim := { program := "ytfpnpnbiofijaab", sum := "eb4346107affc585b58798c7a3c8002e51d7e08d368c75d7a397fb2c5e2572eb", func := "loop.example/g00502/laws.FnExactWithin", spec := "fnExactWithin", recurses := true, loops := true, apart := false, narrowed := true }
def FnExactWithinUptoSaid : Prop := fnExactWithinUptoRow.holds Try.pinned (OpenSpec.upto fnExactWithinSpec)

/-- 'laws.FnExactCountLoss', WHERE WHAT IT READS IS OF BULK AT MOST 1048576: true; the input reads as it did. -/
def fnExactCountLossUptoRow : OpenClaim := { program := "ytfpnpnbiofijaab", sum := "eb4346107affc585b58798c7a3c8002e51d7e08d368c75d7a397fb2c5e2572eb", func := "loop.example/g00502/laws.FnExactCountLoss", spec := "fnExactCountLoss", apart := false, narrowed := true }
def FnExactCountLossUptoSaid : Prop := fnExactCountLossUptoRow.holds Try.pinned (OpenSpec.upto fnExactCountLossSpec)

end Rows
end Go.Proofs.Ytfpnpnbiofijaab
