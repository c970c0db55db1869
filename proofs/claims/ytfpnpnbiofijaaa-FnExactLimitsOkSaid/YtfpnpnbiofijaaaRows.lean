/-
  No cell of these rows narrows 'for every input' (looked for: loops, veiled, ifaces, maps, wideKeys, modest, calm, conditions, laid).
  DERIVED. THE GIVEN ROWS OF THIS SEAT. 6 by the template 'for every input the law returns true; each argument reads behind the call as it read before'; 0 by the template 'total and deterministic' (their statements: YtfpnpnbiofijaaaTotals.lean).
  GIVEN WITH THE SEED: the statements are not yours to turn. If you find one false, say at which input.
  Laid BY PROGRAM, IN A SANDBOX (cutbox-rows.mjs): the forced cells as the released guide's own fill.sh prints them over the translation 631b6abaad592821… (all of the seat's roots in one cut). By AI agents, Wed Nov 11 2026. No macro, syntax, notation, axiom, sorry.
-/
import Derived.Test.YtfpnpnbiofijaaaChecked
import GoSem.Claim
import GoSem.ClaimJoined
import GoSem.ClaimMapViews
import Derived.JoinedTies
import Derived.KernelRfl
namespace Go.Proofs.Ytfpnpnbiofijaaa
/- THE CELL 'sum', in the pinned program and in every row, IS THE sha256 OF THE DUMP (.gsa) THAT YtfpnpnbiofijaaaProg.lean LOADS. Nothing in Lean hashes anything: it is a label: what it is worth is what the hold of that sum in a sandbox is worth. -/
noncomputable def Try.pinned : Pinned := { name := "ytfpnpnbiofijaaa", sum := "631b6abaad592821ac9a98f81c18570ce67f8b593e93c1de818c7f9fb40b8f01", checked := Try.checked }
namespace Rows
def none {H : Type} : Left H := { results := [], args := [] }

/-- 'laws.FnExactTags': WHATEVER THE INPUT: true; the input reads as it did. -/
def fnExactTagsSpec : ChangeSpec := { name := "fnExactTags", fn := fun _ => fun
  | [d] => { results := [.lit (.bool true)], args := [d] }
  | _ => none }
def fnExactTagsRow : OpenClaim := { program := "ytfpnpnbiofijaaa", sum := "631b6abaad592821ac9a98f81c18570ce67f8b593e93c1de818c7f9fb40b8f01", func := "loop.example/g00502/laws.FnExactTags", spec := "fnExactTags", apart := false }
def FnExactTagsSaid : Prop := fnExactTagsRow.holds Try.pinned (OpenSpec.ofChange fnExactTagsSpec)

/-- ITS FALSE NEIGHBOUR: 'it returns false'. Refute it at one input. -/
def fnExactTagsWrong : ChangeSpec := { name := "fnExactTags", fn := fun _ => fun
  | [d] => { results := [.lit (.bool false)], args := [d] }
  | _ => none }
def FnExactTagsWrongFalsely : Prop := fnExactTagsRow.holds Try.pinned (OpenSpec.ofChange fnExactTagsWrong)

/-- 'laws.FnExactTextNames': WHATEVER THE INPUT: true; the input reads as it did. -/
def fnExactTextNamesSpec : ChangeSpec := { name := "fnExactTextNames", fn := fun _ => fun
  | [d] => { results := [.lit (.bool true)], args := [d] }
  | _ => none }
def fnExactTextNamesRow : OpenClaim := { program := "ytfpnpnbiofijaaa", sum := "631b6abaad592821ac9a98f81c18570ce67f8b593e93c1de818c7f9fb40b8f01", func := "loop.example/g00502/laws.FnExactTextNames", spec := "fnExactTextNames", apart := false }
def FnExactTextNamesSaid : Prop := fnExactTextNamesRow.holds Try.pinned (OpenSpec.ofChange fnExactTextNamesSpec)

/-- ITS FALSE NEIGHBOUR: 'it returns false'. Refute it at one input. -/
def fnExactTextNamesWrong : ChangeSpec := { name := "fnExactTextNames", fn := fun _ => fun
  | [d] => { results := [.lit (.bool false)], args := [d] }
  | _ => none }
def FnExactTextNamesWrongFalsely : Prop := fnExactTextNamesRow.holds Try.pinned (OpenSpec.ofChange fnExactTextNamesWrong)

/-- 'laws.FnExactWayOk': WHATEVER THE INPUT: true; the input reads as it did. -/
def fnExactWayOkSpec : ChangeSpec := { name := "fnExactWayOk", fn := fun _ => fun
  | [d] => { results := [.lit (.bool true)], args := [d] }
  | _ => none }
def fnExactWayOkRow : OpenClaim := { program := "ytfpnpnbiofijaaa", sum := "631b6abaad592821ac9a98f81c18570ce67f8b593e93c1de818c7f9fb40b8f01", func := "loop.example/g00502/laws.FnExactWayOk", spec := "fnExactWayOk", apart := false }
def FnExactWayOkSaid : Prop := fnExactWayOkRow.holds Try.pinned (OpenSpec.ofChange fnExactWayOkSpec)

/-- ITS FALSE NEIGHBOUR: 'it returns false'. Refute it at one input. -/
def fnExactWayOkWrong : ChangeSpec := { name := "fnExactWayOk", fn := fun _ => fun
  | [d] => { results := [.lit (.bool false)], args := [d] }
  | _ => none }
def FnExactWayOkWrongFalsely : Prop := fnExactWayOkRow.holds Try.pinned (OpenSpec.ofChange fnExactWayOkWrong)

/-- 'laws.FnExactMoreThan': WHATEVER THE INPUT: true; the input reads as it did. -/
def fnExactMoreThanSpec : ChangeSpec := { name := "fnExactMoreThan", fn := fun _ => fun
  | [d1, d2] => { results := [.lit (.bool true)], args := [d1, d2] }
  | _ => none }
def fnExactMoreThanRow : OpenClaim := { program := "ytfpnpnbiofijaaa", sum := "631b6abaad592821ac9a98f81c18570ce67f8b593e93c1de818c7f9fb40b8f01", func := "loop.example/g00502/laws.FnExactMoreThan", spec := "fnExactMoreThan", apart := false }
def FnExactMoreThanSaid : Prop := fnExactMoreThanRow.holds Try.pinned (OpenSpec.ofChange fnExactMoreThanSpec)

/-- ITS FALSE NEIGHBOUR: 'it returns false'. Refute it at one input. -/
def fnExactMoreThanWrong : ChangeSpec := { name := "fnExactMoreThan", fn := fun _ => fun
  | [d1, d2] => { results := [.lit (.bool false)], args := [d1, d2] }
  | _ => none }
def FnExactMoreThanWrongFalsely : Prop := fnExactMoreThanRow.holds Try.pinned (OpenSpec.ofChange fnExactMoreThanWrong)

/-- 'laws.FnExactLimitsOk': WHATEVER THE INPUT: true; the input reads as it did. -/
def fnExactLimitsOkSpec : ChangeSpec := { name := "fnExactLimitsOk", fn := fun _ => fun
  | [d] => { results := [.lit (.bool true)], args := [d] }
  | _ => none }
def fnExactLimitsOkRow : OpenClaim := { program := "ytfpnpnbiofijaaa", sum := "631b6abaad592821ac9a98f81c18570ce67f8b593e93c1de818c7f9fb40b8f01", func := "loop.example/g00502/laws.FnExactLimitsOk", spec := "fnExactLimitsOk", apart := false }
def FnExactLimitsOkSaid : Prop := fnExactLimitsOkRow.holds Try.pinned (OpenSpec.ofChange fnExactLimitsOkSpec)

/-- ITS FALSE NEIGHBOUR: 'it returns false'. Refute it at one input. -/
def fnExactLimitsOkWrong : ChangeSpec := { name := "fnExactLimitsOk", fn := fun _ => fun
  | [d] => { results := [.lit (.bool false)], args := [d] }
  | _ => none }
def FnExactLimitsOkWrongFalsely : Prop := fnExactLimitsOkRow.holds Try.pinned (OpenSpec.ofChange fnExactLimitsOkWrong)

/-- 'laws.FnExactLimitsNew': WHATEVER THE INPUT: true; the input reads as it did. -/
def fnExactLimitsNewSpec : ChangeSpec := { name := "fnExactLimitsNew", fn := fun _ => fun
  | [] => { results := [.lit (.bool true)], args := [] }
  | _ => none }
def fnExactLimitsNewRow : OpenClaim := { program := "ytfpnpnbiofijaaa", sum := "631b6abaad592821ac9a98f81c18570ce67f8b593e93c1de818c7f9fb40b8f01", func := "loop.example/g00502/laws.FnExactLimitsNew", spec := "fnExactLimitsNew", apart := false }
def FnExactLimitsNewSaid : Prop := fnExactLimitsNewRow.holds Try.pinned (OpenSpec.ofChange fnExactLimitsNewSpec)

/-- ITS FALSE NEIGHBOUR: 'it returns false'. Refute it at one input. -/
def fnExactLimitsNewWrong : ChangeSpec := { name := "fnExactLimitsNew", fn := fun _ => fun
  | [] => { results := [.lit (.bool false)], args := [] }
  | _ => none }
def FnExactLimitsNewWrongFalsely : Prop := fnExactLimitsNewRow.holds Try.pinned (OpenSpec.ofChange fnExactLimitsNewWrong)

/- THE SECOND FORM. 'bulk': how many values and letters a reading holds, each counted each time it is reached (what is shared counts as often as it is met; a slice's spare places count too). A statement '..UptoSaid' is the law's where the arguments, and the package variables that the reading takes, are together of bulk at most 1048576: NARROWER than '..Said'. Prove '..Said' where nothing that the law and all that it calls make is longer than what came in: it says more and counts as full. Else prove '..UptoSaid'. A law counts once. -/
mutual
def uptoBulk {H : Type} : DataW H → Nat
  | .lit (.string bytes) => bytes.length + 1
  | .lit _ => 1
  | .nil => 1
  | .ptr d => uptoBulk d + 1
  | .slice elems spare => uptoBulkAll elems + uptoBulkAll spare + 1
  | .agg parts => uptoBulkAll parts + 1
  | .iface _ d => uptoBulk d + 1
  | .map entries => uptoBulkEntries entries + 1
  | .held _ => 1
def uptoBulkAll {H : Type} : List (DataW H) → Nat
  | [] => 0
  | d :: r => uptoBulk d + uptoBulkAll r
def uptoBulkEntries {H : Type} : List (Lit × DataW H) → Nat
  | [] => 0
  | x :: r => uptoBulkEntry x + uptoBulkEntries r
def uptoBulkEntry {H : Type} : Lit × DataW H → Nat
  | (.string bytes, d) => bytes.length + uptoBulk d + 1
  | (_, d) => uptoBulk d + 1
 end
def uptoSmall : (H : Type) → List (DataW H) → Bool := fun _ ds => decide (uptoBulkAll ds ≤ 1048576)
def OpenSpec.upto (s : _root_.Go.ChangeSpec) : _root_.Go.OpenSpec := { _root_.Go.OpenSpec.ofChange s with cond := some uptoSmall }

/-- 'laws.FnExactTags', WHERE WHAT IT READS IS OF BULK AT MOST 1048576: true; the input reads as it did. -/
def fnExactTagsUptoRow : OpenClaim := { program := "ytfpnpnbiofijaaa", sum := "631b6abaad592821ac9a98f81c18570ce67f8b593e93c1de818c7f9fb40b8f01", func := "loop.example/g00502/laws.FnExactTags", spec := "fnExactTags", apart := false, narrowed := true }
def FnExactTagsUptoSaid : Prop := fnExactTagsUptoRow.holds Try.pinned (OpenSpec.upto fnExactTagsSpec)

/-- 'laws.FnExactTextNames', WHERE WHAT IT READS IS OF BULK AT MOST 1048576: true; the input reads as it did. -/
def fnExactTextNamesUptoRow : OpenClaim := { program := "ytfpnpnbiofijaaa", sum := "631b6abaad592821ac9a98f81c18570ce67f8b593e93c1de818c7f9fb40b8f01", func := "loop.example/g00502/laws.FnExactTextNames", spec := "fnExactTextNames", apart := false, narrowed := true }
def FnExactTextNamesUptoSaid : Prop := fnExactTextNamesUptoRow.holds Try.pinned (OpenSpec.upto fnExactTextNamesSpec)

/-- 'laws.FnExactWayOk', WHERE WHAT IT READS IS OF BULK AT MOST 1048576: true; the input reads as it did. -/
def fnExactWayOkUptoRow : OpenClaim := { program := "ytfpnpnbiofijaaa", sum := "631b6abaad592821ac9a98f81c18570ce67f8b593e93c1de818c7f9fb40b8f01", func := "loop.example/g00502/laws.FnExactWayOk", spec := "fnExactWayOk", apart := false, narrowed := true }
def FnExactWayOkUptoSaid : Prop := fnExactWayOkUptoRow.holds Try.pinned (OpenSpec.upto fnExactWayOkSpec)

/-- 'laws.FnExactMoreThan', WHERE WHAT IT READS IS OF BULK AT MOST 1048576: true; the input reads as it did. -/
def fnExactMoreThanUptoRow : OpenClaim := { program := "ytfpnpnbiofijaaa", sum := "631b6abaad592821ac9a98f81c18570ce67f8b593e93c1de818c7f9fb40b8f01", func := "loop.example/g00502/laws.FnExactMoreThan", spec := "fnExactMoreThan", apart := false, narrowed := true }
def FnExactMoreThanUptoSaid : Prop := fnExactMoreThanUptoRow.holds Try.pinned (OpenSpec.upto fnExactMoreThanSpec)

/-- 'laws.FnExactLimitsOk', WHERE WHAT IT READS IS OF BULK AT MOST 1048576: true; the input reads as it did. -/
def fnExactLimitsOkUptoRow : OpenClaim := { program := "ytfpnpnbiofijaaa", sum := "631b6abaad592821ac9a98f81c18570ce67f8b593e93c1de818c7f9fb40b8f01", func := "loop.example/g00502/laws.FnExactLimitsOk", spec := "fnExactLimitsOk", apart := false, narrowed := true }
def FnExactLimitsOkUptoSaid : Prop := fnExactLimitsOkUptoRow.holds Try.pinned (OpenSpec.upto fnExactLimitsOkSpec)

/-- 'laws.FnExactLimitsNew', WHERE WHAT IT READS IS OF BULK AT MOST 1048576: true; the input reads as it did. -/
def fnExactLimitsNewUptoRow : OpenClaim := { program := "ytfpnpnbiofijaaa", sum := "631b6abaad592821ac9a98f81c18570ce67f8b593e93c1de818c7f9fb40b8f01", func := "loop.example/g00502/laws.FnExactLimitsNew", spec := "fnExactLimitsNew", apart := false, narrowed := true }
def FnExactLimitsNewUptoSaid : Prop := fnExactLimitsNewUptoRow.holds Try.pinned (OpenSpec.upto fnExactLimitsNewSpec)

end Rows
end Go.Proofs.Ytfpnpnbiofijaaa
