/- Contracts and lemmas for the proofs of this seat: LawCountLoss. No condition beyond those stated. -/
import Derived.Test.YtfpnpnbiofijaabRows
import Derived.WalkKit
import Derived.ProofKit
import Derived.OpenShut
import Derived.Handy
import Derived.Lib.Hide
import Derived.Lib.SmallJoins
import Derived.Deep.RegionHeld3
import Derived.Test.YtfpnpnbiofijaabBase
import Derived.Test.YtfpnpnbiofijaabGen
import Derived.Test.YtfpnpnbiofijaabLawLoss
import Derived.Test.YtfpnpnbiofijaabLoss1
namespace Go.Proofs.Ytfpnpnbiofijaab
open Go.ChangeShapes Go.WideShapes Go.ChangeAt Go.RowKit Go.Joins
set_option linter.unusedVariables false
theorem FnExactCountLoss_walk (l : List Lo) (a : Option Addr) (cap B : Nat) (k : Int) (w : World) (hr : Rd ELoss 2 w B a cap l) (_ : True) (hB : B ≤ w.heap.size) (_ : I64 k) :
    Calls Try.prog 7 #[.slice a l.length cap, .int .i64 k] w fun e w' => e = .returned (.bool true) ∧ Below w.heap.size w w' := by
  have HR := Lib.hid hr; clear hr
  go_enter Try.func7, Try.ntmps7
  go_wp2_with fail
  refine (szLossS_calls l a cap 1048576 B w HR.out hB (by omega) (by omega)).mono ?_
  rintro e w1 ⟨r, rfl, g1, g2, g3, hb1⟩
  by_cases hneg : r < 0
  · go_wp2_with fail
    go_ret
    exact ⟨rfl, hb1⟩
  have G := Lib.hid (show szLo l ≤ 1048576 by have := g3 (by omega); omega)
  clear g3
  have k1 := Lib.hid hb1; clear hb1
  have s1 := k1.out.size
  go_wp2_with fail
  refine (toLossS_calls l a cap B w1 (HR.out.below ELoss.loc k1.out hB) (by omega) G.out).mono ?_
  rintro e w2 ⟨a2, rfl, ho2, hb2⟩
  have k2 := Lib.hid (below_step k1.out hb2 s1); have s2 := hb2.size; clear hb2
  go_wp2_with fail
  refine (spec_CountLoss l k a2 _ _ w2 ho2.read (Nat.le_refl _)).mono ?_
  rintro e w3 ⟨rfl, hb3⟩
  have k3 := Lib.hid (below_step k2.out hb3 (by omega)); have s3 := hb3.size; clear hb3 ho2
  go_wp2_with fail
  refine (toLossS_calls l a cap B w3 (HR.out.below ELoss.loc k3.out hB) (by omega) G.out).mono ?_
  rintro e w4 ⟨a4, rfl, ho4, hb4⟩
  have k4 := Lib.hid (below_step k3.out hb4 (by omega)); have s4 := hb4.size; clear hb4
  go_wp2_with fail
  refine (impl_CountLoss l k a4 _ _ w4 ho4.read (Nat.le_refl _)).mono ?_
  rintro e w5 ⟨rfl, hb5⟩
  have k5 := Lib.hid (below_step k4.out hb5 (by omega)); have s5 := hb5.size
  have HO := Lib.hid (ho4.read.below ELoss.loc hb5 (Nat.le_refl _)); clear hb5 ho4
  go_wp2_with fail
  refine (toLossS_calls l a cap B w5 (HR.out.below ELoss.loc k5.out hB) (by omega) G.out).mono ?_
  rintro e w6 ⟨a6, rfl, ho6, hb6⟩
  have k6 := Lib.hid (below_step k5.out hb6 (by omega)); have s6 := hb6.size
  go_wp2_with fail
  refine (eqLossS_calls l a4 a6 _ _ _ w6 ((HO.out.below ELoss.loc hb6 s5).more (by omega)) ho6.read (Nat.le_refl _)).mono ?_
  rintro e w7 ⟨rfl, hb7⟩
  have k7 := Lib.hid (below_step k6.out hb7 (by omega))
  go_wp2_with fail
  go_ret
  exact ⟨rfl, k7.out⟩
end Go.Proofs.Ytfpnpnbiofijaab
