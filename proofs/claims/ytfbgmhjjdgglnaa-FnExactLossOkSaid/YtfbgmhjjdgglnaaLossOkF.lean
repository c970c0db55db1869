/- Contracts and lemmas for the proofs of this seat: LossOkF. No condition beyond those stated. -/
import Derived.Test.YtfbgmhjjdgglnaaRows
import Derived.WalkKit
import Derived.ProofKit
import Derived.OpenShut
import Derived.Handy
import Derived.Lib.Hide
import Derived.Lib.SmallJoins
import Derived.Deep.RegionHeld3
import Derived.Deep.AppendLies
import Derived.Deep.QuietTactic
import Derived.BigQuiet
import Derived.Test.YtfbgmhjjdgglnaaBase
import Derived.Test.YtfbgmhjjdgglnaaGen
import Derived.Test.YtfbgmhjjdgglnaaKit
import Derived.Test.YtfbgmhjjdgglnaaMark
import Derived.Test.YtfbgmhjjdgglnaaApp
import Derived.Test.YtfbgmhjjdgglnaaMarkV
import Derived.Test.YtfbgmhjjdgglnaaLawVal
import Derived.Test.YtfbgmhjjdgglnaaCopy
import Derived.Test.YtfbgmhjjdgglnaaPathAt
import Derived.Test.YtfbgmhjjdgglnaaPathAt2
namespace Go.Proofs.Ytfbgmhjjdgglnaa
open Go.ChangeShapes Go.WideShapes Go.ChangeAt Go.RowKit Go.Joins
set_option linter.unusedVariables false
set_option maxRecDepth 100000
def lossOkB (t : T) (x : Lo) : Bool := (atT t x.2).isSome && (decide (1 ≤ x.1) && decide (x.1 ≤ 9))
theorem lossOkB_def (t : T) (x : Lo) : lossOkB t x = ((atT t x.2).isSome && (decide (1 ≤ x.1) && decide (x.1 ≤ 9))) := rfl
theorem spec_LossOk (t : T) (x : Lo) (a : Option Addr) (cap : Nat) (a' : Option Addr) (cap' B : Nat) (w : World) (hr : R w B a cap t.l) (hr' : Rd EStep 2 w B a' cap' x.2) (hwf : Wf t) (hct : T.count t ≤ 1073741824) (hB : B ≤ w.heap.size) :
    Calls Try.prog 42 #[.agg (cV t a cap), .agg (cL x a' cap')] w fun e w' => e = .returned (.bool (lossOkB t x)) ∧ Below w.heap.size w w' := by
  go_enter Try.func42, Try.ntmps42
  go_wp2_with fail
  generalize hW : (w.alloc (Obj.cells (cV t a cap) 32)).alloc (Obj.cells (cL x a' cap') 46) = W0
  have q2 : Is W0 (w.heap.size + 1) 46 (cL x a' cap') := by subst hW; exact Is.new2 _ _ _ _
  have H0 := Lib.hid (show Below w.heap.size w W0 from by subst hW; exact below2 _ _ _)
  have hs0 : W0.heap.size = w.heap.size + 2 := by subst hW; simp
  clear hW
  refine (spec_AtPath t x.2 a a' cap cap' B W0 (hr.below H0.out hB) (hr'.below EStep.loc H0.out hB) hwf hct (by omega)).mono ?_
  rintro e w2 ⟨u, au, cu, rfl, -, -, hb2⟩
  have hs2 := hb2.size
  obtain ⟨c0, c1⟩ := (q2.below hb2 (by omega)).cells2
  have l2 : w.heap.size + 1 < w2.heap.size := by omega
  have H2 := Lib.hid ((H0.out.trans (hb2.mono (by omega))).trans ((below1 w2 (.cells (cV u au cu) 32)).mono (by omega))); clear hb2
  cases hsome : (atT t x.2).isSome with
  | false =>
    have HS := Lib.hid hsome; clear hsome
    go_wp2
    go_ret
    exact ⟨ret_b (by rw [lossOkB_def, HS.out]; rfl), H2.out⟩
  | true =>
    have HS := Lib.hid hsome; clear hsome
    by_cases h1 : 1 ≤ x.1
    · by_cases h2 : x.1 ≤ 9
      · go_wp2
        go_ret
        exact ⟨ret_b (by rw [lossOkB_def, HS.out]; simp [h1, h2]), H2.out⟩
      · go_wp2
        go_ret
        exact ⟨ret_b (by rw [lossOkB_def, HS.out]; simp [h1]; try omega), H2.out⟩
    · go_wp2
      go_ret
      exact ⟨ret_b (by rw [lossOkB_def, HS.out]; simp; omega), H2.out⟩
theorem impl_LossOk (t : T) (x : Lo) (a : Option Addr) (cap : Nat) (a' : Option Addr) (cap' B : Nat) (w : World) (hr : R w B a cap t.l) (hr' : Rd EStep 2 w B a' cap' x.2) (hwf : Wf t) (hct : T.count t ≤ 1073741824) (hB : B ≤ w.heap.size) :
    Calls Try.prog 43 #[.agg (cV t a cap), .agg (cL x a' cap')] w fun e w' => e = .returned (.bool (lossOkB t x)) ∧ Below w.heap.size w w' := by
  go_enter Try.func43, Try.ntmps43
  go_wp2_with fail
  generalize hW : (w.alloc (Obj.cells (cV t a cap) 32)).alloc (Obj.cells (cL x a' cap') 46) = W0
  have q2 : Is W0 (w.heap.size + 1) 46 (cL x a' cap') := by subst hW; exact Is.new2 _ _ _ _
  have H0 := Lib.hid (show Below w.heap.size w W0 from by subst hW; exact below2 _ _ _)
  have hs0 : W0.heap.size = w.heap.size + 2 := by subst hW; simp
  clear hW
  refine (impl_AtPath t x.2 a a' cap cap' B W0 (hr.below H0.out hB) (hr'.below EStep.loc H0.out hB) hwf hct (by omega)).mono ?_
  rintro e w2 ⟨u, au, cu, rfl, -, -, hb2⟩
  have hs2 := hb2.size
  obtain ⟨c0, c1⟩ := (q2.below hb2 (by omega)).cells2
  have l2 : w.heap.size + 1 < w2.heap.size := by omega
  have H2 := Lib.hid ((H0.out.trans (hb2.mono (by omega))).trans ((below1 w2 (.cells (cV u au cu) 32)).mono (by omega))); clear hb2
  cases hsome : (atT t x.2).isSome with
  | false =>
    have HS := Lib.hid hsome; clear hsome
    go_wp2
    go_ret
    exact ⟨ret_b (by rw [lossOkB_def, HS.out]; rfl), H2.out⟩
  | true =>
    have HS := Lib.hid hsome; clear hsome
    by_cases h1 : 1 ≤ x.1
    · by_cases h2 : x.1 ≤ 9
      · go_wp2
        go_ret
        exact ⟨ret_b (by rw [lossOkB_def, HS.out]; simp [h1, h2]), H2.out⟩
      · go_wp2
        go_ret
        exact ⟨ret_b (by rw [lossOkB_def, HS.out]; simp [h1]; try omega), H2.out⟩
    · go_wp2
      go_ret
      exact ⟨ret_b (by rw [lossOkB_def, HS.out]; simp; omega), H2.out⟩
end Go.Proofs.Ytfbgmhjjdgglnaa
