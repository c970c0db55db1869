/- Contracts and lemmas for the proofs of this seat: LawSameLosses. No condition beyond those stated. -/
import Derived.Test.YtfbgmhjjdgglnaaRows
import Derived.WalkKit
import Derived.ProofKit
import Derived.OpenShut
import Derived.Handy
import Derived.Lib.Hide
import Derived.Lib.SmallJoins
import Derived.Deep.RegionHeld3
import Derived.Test.YtfbgmhjjdgglnaaBase
import Derived.Test.YtfbgmhjjdgglnaaGen
import Derived.Test.YtfbgmhjjdgglnaaKit
import Derived.Test.YtfbgmhjjdgglnaaOpenL
import Derived.Test.YtfbgmhjjdgglnaaLawLoss
import Derived.Test.YtfbgmhjjdgglnaaPath1
import Derived.Test.YtfbgmhjjdgglnaaPath2
import Derived.Test.YtfbgmhjjdgglnaaSame
namespace Go.Proofs.Ytfbgmhjjdgglnaa
open Go.ChangeShapes Go.WideShapes Go.ChangeAt Go.RowKit Go.Joins
set_option linter.unusedVariables false
set_option maxRecDepth 100000
set_option maxHeartbeats 4000000 in
theorem FnExactSameLosses_walk (x0 : List Lo) (a0 : Option Addr) (c0 B0 : Nat) (x1 : List Lo) (a1 : Option Addr) (c1 B1 : Nat) (w : World) (hr0 : Rd ELoss 2 w B0 a0 c0 x0) (_ : True) (hB0 : B0 ≤ w.heap.size) (hr1 : Rd ELoss 2 w B1 a1 c1 x1) (_ : True) (hB1 : B1 ≤ w.heap.size) :
    Calls Try.prog 5 #[.slice a0 x0.length c0, .slice a1 x1.length c1] w fun e w' => e = .returned (.bool true) ∧ Below w.heap.size w w' := by
  have F0 : Hid (Rd ELoss 2 w w.heap.size a0 c0 x0) := Lib.hid (hr0.more hB0)
  clear hr0
  have F1 : Hid (Rd ELoss 2 w w.heap.size a1 c1 x1) := Lib.hid (hr1.more hB1)
  clear hr1
  have HB : Hid (Below w.heap.size w w) := Lib.hid (Below.refl _ _)
  go_enter Try.func5, Try.ntmps5
  -- region 2: laws.szLossS
  go_wp2_with fail
  refine (szLossS_calls x0 a0 c0 1048576 w.heap.size w F0.out (by omega) (by omega) (by omega)).mono ?_
  rintro e w1 ⟨r0, rfl, u0, v0, G0, hb⟩
  have s0 : w.heap.size ≤ w1.heap.size := hb.size
  have HB := Lib.hid (below_step HB.out hb (by omega))
  replace F0 := Lib.hid (F0.out.below ELoss.loc hb (by omega))
  replace F1 := Lib.hid (F1.out.below ELoss.loc hb (by omega))
  clear hb
  by_cases hneg : r0 < 0
  · go_wp2_with fail
    go_ret
    exact ⟨rfl, HB.out⟩
  replace G0 := Lib.hid (G0 (by omega))
  -- region 5: laws.szLossS
  go_wp2_with fail
  refine (szLossS_calls x1 a1 c1 r0 w.heap.size w1 F1.out (by omega) (by omega) (by omega)).mono ?_
  rintro e w2 ⟨r1, rfl, u1, v1, G1, hb⟩
  have s1 : w1.heap.size ≤ w2.heap.size := hb.size
  have HB := Lib.hid (below_step HB.out hb (by omega))
  replace F0 := Lib.hid (F0.out.below ELoss.loc hb (by omega))
  replace F1 := Lib.hid (F1.out.below ELoss.loc hb (by omega))
  clear hb
  by_cases hneg : r1 < 0
  · go_wp2_with fail
    go_ret
    exact ⟨rfl, HB.out⟩
  replace G1 := Lib.hid (G1 (by omega))
  -- region 8: laws.toLossS laws.toLossS spec.SameLosses
  go_wp2_with fail
  refine (toLossS_calls x0 a0 c0 w.heap.size w2 F0.out (by omega) (by have := G0.out; omega)).mono ?_
  rintro e w3 ⟨b0, rfl, ho, hb⟩
  have s2 : w2.heap.size ≤ w3.heap.size := hb.size
  have HB := Lib.hid (below_step HB.out hb (by omega))
  replace F0 := Lib.hid (F0.out.below ELoss.loc hb (by omega))
  replace F1 := Lib.hid (F1.out.below ELoss.loc hb (by omega))
  replace ho := Lib.hid ho; have T0 := ho; clear ho hb
  go_wp2_with fail
  refine (toLossS_calls x1 a1 c1 w.heap.size w3 F1.out (by omega) (by have := G1.out; omega)).mono ?_
  rintro e w4 ⟨b1, rfl, ho, hb⟩
  have s3 : w3.heap.size ≤ w4.heap.size := hb.size
  have HB := Lib.hid (below_step HB.out hb (by omega))
  replace F0 := Lib.hid (F0.out.below ELoss.loc hb (by omega))
  replace F1 := Lib.hid (F1.out.below ELoss.loc hb (by omega))
  replace T0 := Lib.hid (T0.out.below ELoss.loc hb (by omega))
  replace ho := Lib.hid ho; have T1 := ho; clear ho hb
  go_wp2_with fail
  refine (spec_SameLosses x0 x1 _ _ _ _ _ w4 (T0.out.read.more (by omega)) (T1.out.read.more (by omega)) (Nat.le_refl _)).mono ?_
  rintro e w5 ⟨rfl, hb⟩
  have s4 : w4.heap.size ≤ w5.heap.size := hb.size
  have HB := Lib.hid (below_step HB.out hb (by omega))
  replace F0 := Lib.hid (F0.out.below ELoss.loc hb (by omega))
  replace F1 := Lib.hid (F1.out.below ELoss.loc hb (by omega))
  replace T0 := Lib.hid (T0.out.below ELoss.loc hb (by omega))
  replace T1 := Lib.hid (T1.out.below ELoss.loc hb (by omega))
  clear hb
  clear T0
  clear T1
  -- region 9: laws.toLossS
  go_wp2_with fail
  refine (toLossS_calls x0 a0 c0 w.heap.size w5 F0.out (by omega) (by have := G0.out; omega)).mono ?_
  rintro e w6 ⟨d0, rfl, ho, hb⟩
  have s5 : w5.heap.size ≤ w6.heap.size := hb.size
  have HB := Lib.hid (below_step HB.out hb (by omega))
  replace F0 := Lib.hid (F0.out.below ELoss.loc hb (by omega))
  replace F1 := Lib.hid (F1.out.below ELoss.loc hb (by omega))
  replace ho := Lib.hid ho; have O0 := ho; clear ho hb
  -- region 10: laws.toLossS
  go_wp2_with fail
  refine (toLossS_calls x1 a1 c1 w.heap.size w6 F1.out (by omega) (by have := G1.out; omega)).mono ?_
  rintro e w7 ⟨d1, rfl, ho, hb⟩
  have s6 : w6.heap.size ≤ w7.heap.size := hb.size
  have HB := Lib.hid (below_step HB.out hb (by omega))
  replace F0 := Lib.hid (F0.out.below ELoss.loc hb (by omega))
  replace F1 := Lib.hid (F1.out.below ELoss.loc hb (by omega))
  replace O0 := Lib.hid (O0.out.below ELoss.loc hb (by omega))
  replace ho := Lib.hid ho; have O1 := ho; clear ho hb
  -- region 11: impl.SameLosses
  go_wp2_with fail
  refine (impl_SameLosses x0 x1 _ _ _ _ _ w7 (O0.out.read.more (by omega)) (O1.out.read.more (by omega)) (Nat.le_refl _)).mono ?_
  rintro e w8 ⟨rfl, hb⟩
  have s7 : w7.heap.size ≤ w8.heap.size := hb.size
  have HB := Lib.hid (below_step HB.out hb (by omega))
  replace F0 := Lib.hid (F0.out.below ELoss.loc hb (by omega))
  replace F1 := Lib.hid (F1.out.below ELoss.loc hb (by omega))
  replace O0 := Lib.hid (O0.out.below ELoss.loc hb (by omega))
  replace O1 := Lib.hid (O1.out.below ELoss.loc hb (by omega))
  clear hb
  -- region 14: laws.toLossS laws.eqLossS
  go_wp2_with fail
  refine (toLossS_calls x0 a0 c0 w.heap.size w8 F0.out (by omega) (by have := G0.out; omega)).mono ?_
  rintro e w9 ⟨b0, rfl, ho, hb⟩
  have s8 : w8.heap.size ≤ w9.heap.size := hb.size
  have HB := Lib.hid (below_step HB.out hb (by omega))
  replace F0 := Lib.hid (F0.out.below ELoss.loc hb (by omega))
  replace F1 := Lib.hid (F1.out.below ELoss.loc hb (by omega))
  replace O0 := Lib.hid (O0.out.below ELoss.loc hb (by omega))
  replace O1 := Lib.hid (O1.out.below ELoss.loc hb (by omega))
  replace ho := Lib.hid ho; have T0 := ho; clear ho hb
  go_wp2_with fail
  refine (eqLossS_calls x0 _ _ _ _ _ w9 (O0.out.read.more (by omega)) (T0.out.read.more (by omega)) (Nat.le_refl _)).mono ?_
  rintro e w10 ⟨rfl, hb⟩
  have s9 : w9.heap.size ≤ w10.heap.size := hb.size
  have HB := Lib.hid (below_step HB.out hb (by omega))
  replace F0 := Lib.hid (F0.out.below ELoss.loc hb (by omega))
  replace F1 := Lib.hid (F1.out.below ELoss.loc hb (by omega))
  replace O0 := Lib.hid (O0.out.below ELoss.loc hb (by omega))
  replace O1 := Lib.hid (O1.out.below ELoss.loc hb (by omega))
  replace T0 := Lib.hid (T0.out.below ELoss.loc hb (by omega))
  clear hb
  clear T0
  -- region 16: laws.toLossS laws.eqLossS
  go_wp2_with fail
  refine (toLossS_calls x1 a1 c1 w.heap.size w10 F1.out (by omega) (by have := G1.out; omega)).mono ?_
  rintro e w11 ⟨b1, rfl, ho, hb⟩
  have s10 : w10.heap.size ≤ w11.heap.size := hb.size
  have HB := Lib.hid (below_step HB.out hb (by omega))
  replace F0 := Lib.hid (F0.out.below ELoss.loc hb (by omega))
  replace F1 := Lib.hid (F1.out.below ELoss.loc hb (by omega))
  replace O0 := Lib.hid (O0.out.below ELoss.loc hb (by omega))
  replace O1 := Lib.hid (O1.out.below ELoss.loc hb (by omega))
  replace ho := Lib.hid ho; have T1 := ho; clear ho hb
  go_wp2_with fail
  refine (eqLossS_calls x1 _ _ _ _ _ w11 (O1.out.read.more (by omega)) (T1.out.read.more (by omega)) (Nat.le_refl _)).mono ?_
  rintro e w12 ⟨rfl, hb⟩
  have s11 : w11.heap.size ≤ w12.heap.size := hb.size
  have HB := Lib.hid (below_step HB.out hb (by omega))
  replace F0 := Lib.hid (F0.out.below ELoss.loc hb (by omega))
  replace F1 := Lib.hid (F1.out.below ELoss.loc hb (by omega))
  replace O0 := Lib.hid (O0.out.below ELoss.loc hb (by omega))
  replace O1 := Lib.hid (O1.out.below ELoss.loc hb (by omega))
  replace T1 := Lib.hid (T1.out.below ELoss.loc hb (by omega))
  clear hb
  clear T1
  go_wp2_with fail
  go_ret
  exact ⟨rfl, HB.out⟩
end Go.Proofs.Ytfbgmhjjdgglnaa
