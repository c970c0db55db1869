/-
  NARROWER THAN 'FOR EVERY INPUT', by the rows' own cells (each row's printed sentence says how): FnExactTightest: loops · FnExactOnceLast: loops · FnExactLossOk: loops.
  DERIVED. THE GIVEN ROWS OF THIS SEAT. 7 by the template 'for every input the law returns true; each argument reads behind the call as it read before'; 0 by the template 'total and deterministic' (their statements: YtfbgmhjjdgglnaaTotals.lean).
  GIVEN WITH THE SEED: the statements are not yours to turn. If you find one false, say at which input.
  Laid BY PROGRAM, IN A SANDBOX (cutbox-rows.mjs): the forced cells as the released guide's own fill.sh prints them over the translation 41a3151ba4e457eb… (all of the seat's roots in one cut). By AI agents, Wed Nov 11 2026. No macro, syntax, notation, axiom, sorry.
-/
import Derived.Test.YtfbgmhjjdgglnaaChecked
import GoSem.Claim
import GoSem.ClaimJoined
import GoSem.ClaimMapViews
import Derived.JoinedTies
import Derived.KernelRfl
namespace Go.Proofs.Ytfbgmhjjdgglnaa
/- THE CELL 'sum', in the pinned program and in every row, IS THE sha256 OF THE DUMP (.gsa) THAT YtfbgmhjjdgglnaaProg.lean LOADS. Nothing in Lean hashes anything: it is a label: what it is worth is what the hold of that sum in a sandbox is worth. -/
noncomputable def Try.pinned : Pinned := { name := "ytfbgmhjjdgglnaa", sum := "41a3151ba4e457eb8f6145d3ce2403b259dfd2ebb4bd5461cbf5a27aa955e35a", checked := Try.checked }
namespace Rows
def none {H : Type} : Left H := { results := [], args := [] }

/-- 'laws.FnExactTightest': WHATEVER THE INPUT: true; the input reads as it did. -/
def fnExactTightestSpec : ChangeSpec := { name := "fnExactTightest", fn := fun _ => fun
  | [d1, d2] => { results := [.lit (.bool true)], args := [d1, d2] }
  | _ => none }
def fnExactTightestRow : OpenClaim := { program := "ytfbgmhjjdgglnaa", sum := "41a3151ba4e457eb8f6145d3ce2403b259dfd2ebb4bd5461cbf5a27aa955e35a", func := "loop.example/g00502/laws.FnExactTightest", spec := "fnExactTightest", recurses := true, loops := true, apart := false }
def FnExactTightestSaid : Prop := fnExactTightestRow.holds Try.pinned (OpenSpec.ofChange fnExactTightestSpec)

/-- ITS FALSE NEIGHBOUR: 'it returns false'. Refute it at one input. -/
def fnExactTightestWrong : ChangeSpec := { name := "fnExactTightest", fn := fun _ => fun
  | [d1, d2] => { results := [.lit (.bool false)], args := [d1, d2] }
  | _ => none }
def FnExactTightestWrongFalsely : Prop := fnExactTightestRow.holds Try.pinned (OpenSpec.ofChange fnExactTightestWrong)

/-- 'laws.FnExactLessLoss': WHATEVER THE INPUT: true; the input reads as it did. -/
def fnExactLessLossSpec : ChangeSpec := { name := "fnExactLessLoss", fn := fun _ => fun
  | [d1, d2] => { results := [.lit (.bool true)], args := [d1, d2] }
  | _ => none }
def fnExactLessLossRow : OpenClaim := { program := "ytfbgmhjjdgglnaa", sum := "41a3151ba4e457eb8f6145d3ce2403b259dfd2ebb4bd5461cbf5a27aa955e35a", func := "loop.example/g00502/laws.FnExactLessLoss", spec := "fnExactLessLoss", apart := false }
def FnExactLessLossSaid : Prop := fnExactLessLossRow.holds Try.pinned (OpenSpec.ofChange fnExactLessLossSpec)

/-- ITS FALSE NEIGHBOUR: 'it returns false'. Refute it at one input. -/
def fnExactLessLossWrong : ChangeSpec := { name := "fnExactLessLoss", fn := fun _ => fun
  | [d1, d2] => { results := [.lit (.bool false)], args := [d1, d2] }
  | _ => none }
def FnExactLessLossWrongFalsely : Prop := fnExactLessLossRow.holds Try.pinned (OpenSpec.ofChange fnExactLessLossWrong)

/-- 'laws.FnExactSameLosses': WHATEVER THE INPUT: true; the input reads as it did. -/
def fnExactSameLossesSpec : ChangeSpec := { name := "fnExactSameLosses", fn := fun _ => fun
  | [d1, d2] => { results := [.lit (.bool true)], args := [d1, d2] }
  | _ => none }
def fnExactSameLossesRow : OpenClaim := { program := "ytfbgmhjjdgglnaa", sum := "41a3151ba4e457eb8f6145d3ce2403b259dfd2ebb4bd5461cbf5a27aa955e35a", func := "loop.example/g00502/laws.FnExactSameLosses", spec := "fnExactSameLosses", unfollowed := true, recurses := true, apart := false }
def FnExactSameLossesSaid : Prop := fnExactSameLossesRow.holds Try.pinned (OpenSpec.ofChange fnExactSameLossesSpec)

/-- ITS FALSE NEIGHBOUR: 'it returns false'. Refute it at one input. -/
def fnExactSameLossesWrong : ChangeSpec := { name := "fnExactSameLosses", fn := fun _ => fun
  | [d1, d2] => { results := [.lit (.bool false)], args := [d1, d2] }
  | _ => none }
def FnExactSameLossesWrongFalsely : Prop := fnExactSameLossesRow.holds Try.pinned (OpenSpec.ofChange fnExactSameLossesWrong)

/-- 'laws.FnExactLossesAt': WHATEVER THE INPUT: true; the input reads as it did. -/
def fnExactLossesAtSpec : ChangeSpec := { name := "fnExactLossesAt", fn := fun _ => fun
  | [d1, d2] => { results := [.lit (.bool true)], args := [d1, d2] }
  | _ => none }
def fnExactLossesAtRow : OpenClaim := { program := "ytfbgmhjjdgglnaa", sum := "41a3151ba4e457eb8f6145d3ce2403b259dfd2ebb4bd5461cbf5a27aa955e35a", func := "loop.example/g00502/laws.FnExactLossesAt", spec := "fnExactLossesAt", apart := false }
def FnExactLossesAtSaid : Prop := fnExactLossesAtRow.holds Try.pinned (OpenSpec.ofChange fnExactLossesAtSpec)

/-- ITS FALSE NEIGHBOUR: 'it returns false'. Refute it at one input. -/
def fnExactLossesAtWrong : ChangeSpec := { name := "fnExactLossesAt", fn := fun _ => fun
  | [d1, d2] => { results := [.lit (.bool false)], args := [d1, d2] }
  | _ => none }
def FnExactLossesAtWrongFalsely : Prop := fnExactLossesAtRow.holds Try.pinned (OpenSpec.ofChange fnExactLossesAtWrong)

/-- 'laws.FnExactOnceLast': WHATEVER THE INPUT: true; the input reads as it did. -/
def fnExactOnceLastSpec : ChangeSpec := { name := "fnExactOnceLast", fn := fun _ => fun
  | [d] => { results := [.lit (.bool true)], args := [d] }
  | _ => none }
def fnExactOnceLastRow : OpenClaim := { program := "ytfbgmhjjdgglnaa", sum := "41a3151ba4e457eb8f6145d3ce2403b259dfd2ebb4bd5461cbf5a27aa955e35a", func := "loop.example/g00502/laws.FnExactOnceLast", spec := "fnExactOnceLast", unfollowed := true, recurses := true, loops := true, apart := false }
def FnExactOnceLastSaid : Prop := fnExactOnceLastRow.holds Try.pinned (OpenSpec.ofChange fnExactOnceLastSpec)

/-- ITS FALSE NEIGHBOUR: 'it returns false'. Refute it at one input. -/
def fnExactOnceLastWrong : ChangeSpec := { name := "fnExactOnceLast", fn := fun _ => fun
  | [d] => { results := [.lit (.bool false)], args := [d] }
  | _ => none }
def FnExactOnceLastWrongFalsely : Prop := fnExactOnceLastRow.holds Try.pinned (OpenSpec.ofChange fnExactOnceLastWrong)

/-- 'laws.FnExactLossOk': WHATEVER THE INPUT: true; the input reads as it did. -/
def fnExactLossOkSpec : ChangeSpec := { name := "fnExactLossOk", fn := fun _ => fun
  | [d1, d2] => { results := [.lit (.bool true)], args := [d1, d2] }
  | _ => none }
def fnExactLossOkRow : OpenClaim := { program := "ytfbgmhjjdgglnaa", sum := "41a3151ba4e457eb8f6145d3ce2403b259dfd2ebb4bd5461cbf5a27aa955e35a", func := "loop.example/g00502/laws.FnExactLossOk", spec := "fnExactLossOk", recurses := true, loops := true, apart := false }
def FnExactLossOkSaid : Prop := fnExactLossOkRow.holds Try.pinned (OpenSpec.ofChange fnExactLossOkSpec)

/-- ITS FALSE NEIGHBOUR: 'it returns false'. Refute it at one input. -/
def fnExactLossOkWrong : ChangeSpec := { name := "fnExactLossOk", fn := fun _ => fun
  | [d1, d2] => { results := [.lit (.bool false)], args := [d1, d2] }
  | _ => none }
def FnExactLossOkWrongFalsely : Prop := fnExactLossOkRow.holds Try.pinned (OpenSpec.ofChange fnExactLossOkWrong)

/-- 'laws.FnExactSortLosses': WHATEVER THE INPUT: true; the input reads as it did. -/
def fnExactSortLossesSpec : ChangeSpec := { name := "fnExactSortLosses", fn := fun _ => fun
  | [d] => { results := [.lit (.bool true)], args := [d] }
  | _ => none }
def fnExactSortLossesRow : OpenClaim := { program := "ytfbgmhjjdgglnaa", sum := "41a3151ba4e457eb8f6145d3ce2403b259dfd2ebb4bd5461cbf5a27aa955e35a", func := "loop.example/g00502/laws.FnExactSortLosses", spec := "fnExactSortLosses", unfollowed := true, recurses := true, apart := false }
def FnExactSortLossesSaid : Prop := fnExactSortLossesRow.holds Try.pinned (OpenSpec.ofChange fnExactSortLossesSpec)

/-- ITS FALSE NEIGHBOUR: 'it returns false'. Refute it at one input. -/
def fnExactSortLossesWrong : ChangeSpec := { name := "fnExactSortLosses", fn := fun _ => fun
  | [d] => { results := [.lit (.bool false)], args := [d] }
  | _ => none }
def FnExactSortLossesWrongFalsely : Prop := fnExactSortLossesRow.holds Try.pinned (OpenSpec.ofChange fnExactSortLossesWrong)

/- THE SECOND FORM. 'bulk': how many values and letters a reading holds, each counted each time it is reached (what is shared counts as often as it is met; a slice's spare places count too). A statement '..UptoSaid' is the law's where the arguments, and the package variables that the reading takes, are together of bulk at most 1048576: NARROWER than '..Said'. Prove '..Said' where nothing that the law and all that it calls make is longer than what came in: it says more and counts as full. Else prove '..UptoSaid'. A law counts once. -/
mutual
def uptoBulk {H : Type} : DataW H → Nat
  | .lit (.string bytes) => bytes.length + 1
  | .lit _ => 1
  | .nil => 1
  | .ptr d => uptoBulk d + 1
  | .slice elems spare => uptoBulkAll elems + uptoBulkAll spare + 1
  | .agg parts => uptoBulkAll parts + 1
  | .iface _ d => uptoBulk d + 1
  | .map entries => uptoBulkEntries entries + 1
  | .held _ => 1
def uptoBulkAll {H : Type} : List (DataW H) → Nat
  | [] => 0
  | d :: r => uptoBulk d + uptoBulkAll r
def uptoBulkEntries {H : Type} : List (Lit × DataW H) → Nat
  | [] => 0
  | x :: r => uptoBulkEntry x + uptoBulkEntries r
def uptoBulkEntry {H : Type} : Lit × DataW H → Nat
  | (.string bytes, d) => bytes.length + uptoBulk d + 1
  | (_, d) => uptoBulk d + 1
 end
def uptoSmall : (H : Type) → List (DataW H) → Bool := fun _ ds => decide (uptoBulkAll ds ≤ 1048576)
def OpenSpec.upto (s : _root_.Go.ChangeSpec) : _root_.Go.OpenSpec := { _root_.Go.OpenSpec.ofChange s with cond := some uptoSmall }

/-- 'laws.FnExactTightest', WHERE WHAT IT READS IS OF BULK AT MOST 1048576: true; the input reads as it did. -/
def fnExactTightestUptoRow : OpenClaim := { program := "ytfbgmhjjdgglnaa", sum := "41a3151ba4e457eb8f6145d3ce2403b259dfd2ebb4bd5461cbf5a27aa955e35a", func := "loop.example/g00502/laws.FnExactTightest", spec := "fnExactTightest", recurses := true, loops := true, apart := false, narrowed := true }
def FnExactTightestUptoSaid : Prop := fnExactTightestUptoRow.holds Try.pinned (OpenSpec.upto fnExactTightestSpec)

/-- 'laws.FnExactLessLoss', WHERE WHAT IT READS IS OF BULK AT MOST 1048576: true; the input reads as it did. -/
def fnExactLessLossUptoRow : OpenClaim := { program := "ytfbgmhjjdgglnaa", sum := "41a3151ba4e457eb8f6145d3ce2403b259dfd2ebb4bd5461cbf5a27aa955e35a", func := "loop.example/g00502/laws.FnExactLessLoss", spec := "fnExactLessLoss", apart := false, narrowed := true }
def FnExactLessLossUptoSaid : Prop := fnExactLessLossUptoRow.holds Try.pinned (OpenSpec.upto fnExactLessLossSpec)

/-- 'laws.FnExactSameLosses', WHERE WHAT IT READS IS OF BULK AT MOST 1048576: true; the input reads as it did. -/
def fnExactSameLossesUptoRow : OpenClaim := { program := "ytfbgmhjjdgglnaa", sum := "41a3151ba4e457eb8f6145d3ce2403b259dfd2ebb4bd5461cbf5a27aa955e35a", func := "loop.example/g00502/laws.FnExactSameLosses", spec := "fnExactSameLosses", unfollowed := true, recurses := true, apart := false, narrowed := true }
def FnExactSameLossesUptoSaid : Prop := fnExactSameLossesUptoRow.holds Try.pinned (OpenSpec.upto fnExactSameLossesSpec)

/-- 'laws.FnExactLossesAt', WHERE WHAT IT READS IS OF BULK AT MOST 1048576: true; the input reads as it did. -/
def fnExactLossesAtUptoRow : OpenClaim := { program := "ytfbgmhjjdgglnaa", sum := "41a3151ba4e457eb8f6145d3ce2403b259dfd2ebb4bd5461cbf5a27aa955e35a", func := "loop.example/g00502/laws.FnExactLossesAt", spec := "fnExactLossesAt", apart := false, narrowed := true }
def FnExactLossesAtUptoSaid : Prop := fnExactLossesAtUptoRow.holds Try.pinned (OpenSpec.upto fnExactLossesAtSpec)

/-- 'laws.FnExactOnceLast', WHERE WHAT IT READS IS OF BULK AT MOST 1048576: true; the input reads as it did. -/
def fnExactOnceLastUptoRow : OpenClaim := { program := "ytfbgmhjjdgglnaa", sum := "41a3151ba4e457eb8f6145d3ce2403b259dfd2ebb4bd5461cbf5a27aa955e35a", func := "loop.example/g00502/laws.FnExactOnceLast", spec := "fnExactOnceLast", unfollowed := true, recurses := true, loops := true, apart := false, narrowed := true }
def FnExactOnceLastUptoSaid : Prop := fnExactOnceLastUptoRow.holds Try.pinned (OpenSpec.upto fnExactOnceLastSpec)

/-- 'laws.FnExactLossOk', WHERE WHAT IT READS IS OF BULK AT MOST 1048576: true; the input reads as it did. -/
def fnExactLossOkUptoRow : OpenClaim := { program := "ytfbgmhjjdgglnaa", sum := "41a3151ba4e457eb8f6145d3ce2403b259dfd2ebb4bd5461cbf5a27aa955e35a", func := "loop.example/g00502/laws.FnExactLossOk", spec := "fnExactLossOk", recurses := true, loops := true, apart := false, narrowed := true }
def FnExactLossOkUptoSaid : Prop := fnExactLossOkUptoRow.holds Try.pinned (OpenSpec.upto fnExactLossOkSpec)

/-- 'laws.FnExactSortLosses', WHERE WHAT IT READS IS OF BULK AT MOST 1048576: true; the input reads as it did. -/
def fnExactSortLossesUptoRow : OpenClaim := { program := "ytfbgmhjjdgglnaa", sum := "41a3151ba4e457eb8f6145d3ce2403b259dfd2ebb4bd5461cbf5a27aa955e35a", func := "loop.example/g00502/laws.FnExactSortLosses", spec := "fnExactSortLosses", unfollowed := true, recurses := true, apart := false, narrowed := true }
def FnExactSortLossesUptoSaid : Prop := fnExactSortLossesUptoRow.holds Try.pinned (OpenSpec.upto fnExactSortLossesSpec)

end Rows
end Go.Proofs.Ytfbgmhjjdgglnaa
