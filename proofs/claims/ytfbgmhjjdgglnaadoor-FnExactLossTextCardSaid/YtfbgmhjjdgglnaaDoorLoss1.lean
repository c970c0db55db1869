/- Contracts and lemmas for the proofs of this seat: Loss1. No condition beyond those stated. -/
import Derived.Test.YtfbgmhjjdgglnaaDoorRows
import Derived.WalkKit
import Derived.ProofKit
import Derived.OpenShut
import Derived.Handy
import Derived.Lib.Hide
import Derived.Lib.SmallJoins
import Derived.Deep.RegionHeld3
import Derived.Test.YtfbgmhjjdgglnaaDoorBase
import Derived.Test.YtfbgmhjjdgglnaaDoorGen
namespace Go.Proofs.YtfbgmhjjdgglnaaDoor
open Go.ChangeShapes Go.WideShapes Go.ChangeAt Go.RowKit Go.Joins
set_option linter.unusedVariables false
set_option maxRecDepth 100000
/-- How many losses are of a kind. -/
def cntLo (l : List Lo) (k : Int) : Nat := (l.filter fun x => x.1 == k).length
theorem cntLo_take_succ (l : List Lo) (k : Int) (j : Nat) (h : j < l.length) : cntLo (l.take (j + 1)) k = cntLo (l.take j) k + if l[j].1 = k then 1 else 0 := by
  unfold cntLo; rw [take_snoc l j h, List.filter_append]
  by_cases hk : l[j].1 = k <;> simp [hk]
theorem cntLo_le (l : List Lo) (k : Int) : cntLo l k ≤ l.length := List.length_filter_le _ _
end Go.Proofs.YtfbgmhjjdgglnaaDoor
