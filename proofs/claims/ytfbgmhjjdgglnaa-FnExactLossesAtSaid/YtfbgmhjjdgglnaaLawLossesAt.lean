/- Contracts and lemmas for the proofs of this seat: LawLossesAt. No condition beyond those stated. -/
import Derived.Test.YtfbgmhjjdgglnaaRows
import Derived.WalkKit
import Derived.ProofKit
import Derived.OpenShut
import Derived.Handy
import Derived.Lib.Hide
import Derived.Lib.SmallJoins
import Derived.Deep.RegionHeld3
import Derived.Test.YtfbgmhjjdgglnaaBase
import Derived.Test.YtfbgmhjjdgglnaaGen
import Derived.Test.YtfbgmhjjdgglnaaKit
import Derived.Test.YtfbgmhjjdgglnaaOpenL
import Derived.Test.YtfbgmhjjdgglnaaLawLoss
import Derived.Test.YtfbgmhjjdgglnaaMark
import Derived.Test.YtfbgmhjjdgglnaaApp
import Derived.Test.YtfbgmhjjdgglnaaPath1
import Derived.Test.YtfbgmhjjdgglnaaPath2
import Derived.Test.YtfbgmhjjdgglnaaSame
import Derived.Test.YtfbgmhjjdgglnaaAtL
namespace Go.Proofs.Ytfbgmhjjdgglnaa
open Go.ChangeShapes Go.WideShapes Go.ChangeAt Go.RowKit Go.Joins
set_option linter.unusedVariables false
set_option maxRecDepth 100000
set_option maxHeartbeats 4000000 in
theorem FnExactLossesAt_walk (x0 : List Lo) (a0 : Option Addr) (c0 B0 : Nat) (x1 : List St) (a1 : Option Addr) (c1 B1 : Nat) (w : World) (hr0 : Rd ELoss 2 w B0 a0 c0 x0) (_ : True) (hB0 : B0 ≤ w.heap.size) (hr1 : Rd EStep 2 w B1 a1 c1 x1) (_ : True) (hB1 : B1 ≤ w.heap.size) :
    Calls Try.prog 6 #[.slice a0 x0.length c0, .slice a1 x1.length c1] w fun e w' => e = .returned (.bool true) ∧ Below w.heap.size w w' := by
  have F0 : Hid (Rd ELoss 2 w w.heap.size a0 c0 x0) := Lib.hid (hr0.more hB0)
  clear hr0
  have F1 : Hid (Rd EStep 2 w w.heap.size a1 c1 x1) := Lib.hid (hr1.more hB1)
  clear hr1
  have HB : Hid (Below w.heap.size w w) := Lib.hid (Below.refl _ _)
  go_enter Try.func6, Try.ntmps6
  -- region 2: laws.szLossS
  go_wp2_with fail
  refine (szLossS_calls x0 a0 c0 1048576 w.heap.size w F0.out (by omega) (by omega) (by omega)).mono ?_
  rintro e w1 ⟨r0, rfl, u0, v0, G0, hb⟩
  have s0 : w.heap.size ≤ w1.heap.size := hb.size
  have HB := Lib.hid (below_step HB.out hb (by omega))
  replace F0 := Lib.hid (F0.out.below ELoss.loc hb (by omega))
  replace F1 := Lib.hid (F1.out.below EStep.loc hb (by omega))
  clear hb
  by_cases hneg : r0 < 0
  · go_wp2_with fail
    go_ret
    exact ⟨rfl, HB.out⟩
  replace G0 := Lib.hid (G0 (by omega))
  -- region 5: laws.szStepS
  go_wp2_with fail
  refine (szStepS_calls x1 a1 c1 r0 w.heap.size w1 F1.out (by omega) (by omega)).mono ?_
  rintro e w2 ⟨r1, rfl, u1, v1, G1, hb⟩
  have s1 : w1.heap.size ≤ w2.heap.size := hb.size
  have HB := Lib.hid (below_step HB.out hb (by omega))
  replace F0 := Lib.hid (F0.out.below ELoss.loc hb (by omega))
  replace F1 := Lib.hid (F1.out.below EStep.loc hb (by omega))
  clear hb
  by_cases hneg : r1 < 0
  · go_wp2_with fail
    go_ret
    exact ⟨rfl, HB.out⟩
  replace G1 := Lib.hid (G1 (by omega))
  -- region 8: laws.toLossS laws.toStepS spec.LossesAt
  go_wp2_with fail
  refine (toLossS_calls x0 a0 c0 w.heap.size w2 F0.out (by omega) (by have := G0.out; omega)).mono ?_
  rintro e w3 ⟨b0, rfl, ho, hb⟩
  have s2 : w2.heap.size ≤ w3.heap.size := hb.size
  have HB := Lib.hid (below_step HB.out hb (by omega))
  replace F0 := Lib.hid (F0.out.below ELoss.loc hb (by omega))
  replace F1 := Lib.hid (F1.out.below EStep.loc hb (by omega))
  replace ho := Lib.hid ho; have T0 := ho; clear ho hb
  go_wp2_with fail
  refine (toStepS_calls x1 a1 c1 w.heap.size w3 F1.out (by omega) (by have := G1.out; omega)).mono ?_
  rintro e w4 ⟨b1, rfl, ho, hb⟩
  have s3 : w3.heap.size ≤ w4.heap.size := hb.size
  have HB := Lib.hid (below_step HB.out hb (by omega))
  replace F0 := Lib.hid (F0.out.below ELoss.loc hb (by omega))
  replace F1 := Lib.hid (F1.out.below EStep.loc hb (by omega))
  replace T0 := Lib.hid (T0.out.below ELoss.loc hb (by omega))
  replace ho := Lib.hid ho; have T1 := ho; clear ho hb
  go_wp2_with fail
  refine (spec_LossesAt x0 x1 _ _ _ _ _ w4 (T0.out.read.more (by omega)) (T1.out.read.more (by omega)) (by have := G0.out; have := G1.out; have := length_le_szLo x0; omega) (Nat.le_refl _)).mono ?_
  rintro e w5 ⟨aW, cW, rfl, ho, hb⟩
  have s4 : w4.heap.size ≤ w5.heap.size := hb.size
  have HB := Lib.hid (below_step HB.out hb (by omega))
  replace F0 := Lib.hid (F0.out.below ELoss.loc hb (by omega))
  replace F1 := Lib.hid (F1.out.below EStep.loc hb (by omega))
  replace T0 := Lib.hid (T0.out.below ELoss.loc hb (by omega))
  replace T1 := Lib.hid (T1.out.below EStep.loc hb (by omega))
  replace ho := Lib.hid ho; have OW := ho; clear ho hb
  clear T0
  clear T1
  -- region 9: laws.toLossS
  go_wp2_with fail
  refine (toLossS_calls x0 a0 c0 w.heap.size w5 F0.out (by omega) (by have := G0.out; omega)).mono ?_
  rintro e w6 ⟨d0, rfl, ho, hb⟩
  have s5 : w5.heap.size ≤ w6.heap.size := hb.size
  have HB := Lib.hid (below_step HB.out hb (by omega))
  replace F0 := Lib.hid (F0.out.below ELoss.loc hb (by omega))
  replace F1 := Lib.hid (F1.out.below EStep.loc hb (by omega))
  replace OW := Lib.hid (OW.out.below EInt.loc hb (by omega))
  replace ho := Lib.hid ho; have O0 := ho; clear ho hb
  -- region 10: laws.toStepS
  go_wp2_with fail
  refine (toStepS_calls x1 a1 c1 w.heap.size w6 F1.out (by omega) (by have := G1.out; omega)).mono ?_
  rintro e w7 ⟨d1, rfl, ho, hb⟩
  have s6 : w6.heap.size ≤ w7.heap.size := hb.size
  have HB := Lib.hid (below_step HB.out hb (by omega))
  replace F0 := Lib.hid (F0.out.below ELoss.loc hb (by omega))
  replace F1 := Lib.hid (F1.out.below EStep.loc hb (by omega))
  replace OW := Lib.hid (OW.out.below EInt.loc hb (by omega))
  replace O0 := Lib.hid (O0.out.below ELoss.loc hb (by omega))
  replace ho := Lib.hid ho; have O1 := ho; clear ho hb
  -- region 11: impl.LossesAt
  go_wp2_with fail
  refine (impl_LossesAt x0 x1 _ _ _ _ _ w7 (O0.out.read.more (by omega)) (O1.out.read.more (by omega)) (by have := G0.out; have := G1.out; have := length_le_szLo x0; omega) (Nat.le_refl _)).mono ?_
  rintro e w8 ⟨aG, cG, rfl, ho, hb⟩
  have s7 : w7.heap.size ≤ w8.heap.size := hb.size
  have HB := Lib.hid (below_step HB.out hb (by omega))
  replace F0 := Lib.hid (F0.out.below ELoss.loc hb (by omega))
  replace F1 := Lib.hid (F1.out.below EStep.loc hb (by omega))
  replace OW := Lib.hid (OW.out.below EInt.loc hb (by omega))
  replace O0 := Lib.hid (O0.out.below ELoss.loc hb (by omega))
  replace O1 := Lib.hid (O1.out.below EStep.loc hb (by omega))
  replace ho := Lib.hid ho; have OG := ho; clear ho hb
  -- region 12: laws.eqIntS
  go_wp2_with fail
  refine (eqIntS_calls (atL x0 x1) _ _ _ _ _ w8 (OG.out.read.more (by omega)) (OW.out.read.more (by omega)) (Nat.le_refl _)).mono ?_
  rintro e w9 ⟨rfl, hb⟩
  have s8 : w8.heap.size ≤ w9.heap.size := hb.size
  have HB := Lib.hid (below_step HB.out hb (by omega))
  replace F0 := Lib.hid (F0.out.below ELoss.loc hb (by omega))
  replace F1 := Lib.hid (F1.out.below EStep.loc hb (by omega))
  replace OW := Lib.hid (OW.out.below EInt.loc hb (by omega))
  replace O0 := Lib.hid (O0.out.below ELoss.loc hb (by omega))
  replace O1 := Lib.hid (O1.out.below EStep.loc hb (by omega))
  replace OG := Lib.hid (OG.out.below EInt.loc hb (by omega))
  clear hb
  -- region 14: laws.toLossS laws.eqLossS
  go_wp2_with fail
  refine (toLossS_calls x0 a0 c0 w.heap.size w9 F0.out (by omega) (by have := G0.out; omega)).mono ?_
  rintro e w10 ⟨b0, rfl, ho, hb⟩
  have s9 : w9.heap.size ≤ w10.heap.size := hb.size
  have HB := Lib.hid (below_step HB.out hb (by omega))
  replace F0 := Lib.hid (F0.out.below ELoss.loc hb (by omega))
  replace F1 := Lib.hid (F1.out.below EStep.loc hb (by omega))
  replace OW := Lib.hid (OW.out.below EInt.loc hb (by omega))
  replace O0 := Lib.hid (O0.out.below ELoss.loc hb (by omega))
  replace O1 := Lib.hid (O1.out.below EStep.loc hb (by omega))
  replace OG := Lib.hid (OG.out.below EInt.loc hb (by omega))
  replace ho := Lib.hid ho; have T0 := ho; clear ho hb
  go_wp2_with fail
  refine (eqLossS_calls x0 _ _ _ _ _ w10 (O0.out.read.more (by omega)) (T0.out.read.more (by omega)) (Nat.le_refl _)).mono ?_
  rintro e w11 ⟨rfl, hb⟩
  have s10 : w10.heap.size ≤ w11.heap.size := hb.size
  have HB := Lib.hid (below_step HB.out hb (by omega))
  replace F0 := Lib.hid (F0.out.below ELoss.loc hb (by omega))
  replace F1 := Lib.hid (F1.out.below EStep.loc hb (by omega))
  replace OW := Lib.hid (OW.out.below EInt.loc hb (by omega))
  replace O0 := Lib.hid (O0.out.below ELoss.loc hb (by omega))
  replace O1 := Lib.hid (O1.out.below EStep.loc hb (by omega))
  replace OG := Lib.hid (OG.out.below EInt.loc hb (by omega))
  replace T0 := Lib.hid (T0.out.below ELoss.loc hb (by omega))
  clear hb
  clear T0
  -- region 16: laws.toStepS laws.eqStepS
  go_wp2_with fail
  refine (toStepS_calls x1 a1 c1 w.heap.size w11 F1.out (by omega) (by have := G1.out; omega)).mono ?_
  rintro e w12 ⟨b1, rfl, ho, hb⟩
  have s11 : w11.heap.size ≤ w12.heap.size := hb.size
  have HB := Lib.hid (below_step HB.out hb (by omega))
  replace F0 := Lib.hid (F0.out.below ELoss.loc hb (by omega))
  replace F1 := Lib.hid (F1.out.below EStep.loc hb (by omega))
  replace OW := Lib.hid (OW.out.below EInt.loc hb (by omega))
  replace O0 := Lib.hid (O0.out.below ELoss.loc hb (by omega))
  replace O1 := Lib.hid (O1.out.below EStep.loc hb (by omega))
  replace OG := Lib.hid (OG.out.below EInt.loc hb (by omega))
  replace ho := Lib.hid ho; have T1 := ho; clear ho hb
  go_wp2_with fail
  refine (eqStepS_calls x1 _ _ _ _ _ w12 (O1.out.read.more (by omega)) (T1.out.read.more (by omega)) (Nat.le_refl _)).mono ?_
  rintro e w13 ⟨rfl, hb⟩
  have s12 : w12.heap.size ≤ w13.heap.size := hb.size
  have HB := Lib.hid (below_step HB.out hb (by omega))
  replace F0 := Lib.hid (F0.out.below ELoss.loc hb (by omega))
  replace F1 := Lib.hid (F1.out.below EStep.loc hb (by omega))
  replace OW := Lib.hid (OW.out.below EInt.loc hb (by omega))
  replace O0 := Lib.hid (O0.out.below ELoss.loc hb (by omega))
  replace O1 := Lib.hid (O1.out.below EStep.loc hb (by omega))
  replace OG := Lib.hid (OG.out.below EInt.loc hb (by omega))
  replace T1 := Lib.hid (T1.out.below EStep.loc hb (by omega))
  clear hb
  clear T1
  -- region 19: laws.markLossS
  go_wp2_with fail
  obtain ⟨Fm, hFm, hFr⟩ := O0.out.toF
  have hbnd : (1 : Int) + (cL' costLo x0 : Nat) ≤ 100000001 := by have := G0.out; have := G1.out; have := costLo_le x0; omega
  have hbnd0 : (0 : Int) ≤ (1 : Int) := by omega
  refine (markLossS_calls x0 d0 _ ((1 : Int)) Fm w13 hFm hbnd0 (by omega)).mono ?_
  rintro e w14 ⟨rfl, hoF, ht⟩
  have hbs := ht.beside (lo := w5.heap.size) (hi := w6.heap.size) (by omega) hFr
  have s13 : w13.heap.size ≤ w14.heap.size := ht.size
  have HB := Lib.hid (below_step HB.out hbs.1 (by omega))
  replace F0 := Lib.hid (F0.out.below ELoss.loc hbs.1 (by omega))
  replace F1 := Lib.hid (F1.out.below EStep.loc hbs.1 (by omega))
  replace OW := Lib.hid (OW.out.beside EInt.loc hbs (by omega))
  replace O1 := Lib.hid (O1.out.beside EStep.loc hbs (by omega))
  replace OG := Lib.hid (OG.out.beside EInt.loc hbs (by omega))
  clear O0
  clear hoF ht hbs hFm hFr
  generalize hkk : ((1 : Int)) + (cL' costLo x0 : Nat) = k1 at hbnd ⊢
  have nk1 : ¬ (k1 < 0) := by omega
  clear hbnd0 hkk
  have hbk1 := hbnd; clear hbnd
  -- region 20: laws.markStepS
  go_wp2_with fail
  obtain ⟨Fm, hFm, hFr⟩ := O1.out.toF
  have hbnd : k1 + (cL' (fun _ => 2) x1 : Nat) ≤ 200000001 := by have := G0.out; have := G1.out; have := cLS x1; omega
  have hbnd0 : (0 : Int) ≤ k1 := by omega
  refine (markStepS_calls x1 d1 _ (k1) Fm w14 hFm hbnd0 (by have := cLS x1; omega)).mono ?_
  rintro e w15 ⟨rfl, hoF, ht⟩
  have hbs := ht.beside (lo := w6.heap.size) (hi := w7.heap.size) (by omega) hFr
  have s14 : w14.heap.size ≤ w15.heap.size := ht.size
  have HB := Lib.hid (below_step HB.out hbs.1 (by omega))
  replace F0 := Lib.hid (F0.out.below ELoss.loc hbs.1 (by omega))
  replace F1 := Lib.hid (F1.out.below EStep.loc hbs.1 (by omega))
  replace OW := Lib.hid (OW.out.beside EInt.loc hbs (by omega))
  replace OG := Lib.hid (OG.out.beside EInt.loc hbs (by omega))
  clear O1
  clear hoF ht hbs hFm hFr
  generalize hkk : (k1) + (cL' (fun _ => 2) x1 : Nat) = k2 at hbnd ⊢
  have nk2 : ¬ (k2 < 0) := by omega
  clear hbnd0 hkk
  have hbk2 := hbnd; clear hbnd
  -- region 21: laws.eqIntS
  go_wp2_with fail
  refine (eqIntS_calls (atL x0 x1) _ _ _ _ _ w15 (OG.out.read.more (by omega)) (OW.out.read.more (by omega)) (Nat.le_refl _)).mono ?_
  rintro e w16 ⟨rfl, hb⟩
  have s15 : w15.heap.size ≤ w16.heap.size := hb.size
  have HB := Lib.hid (below_step HB.out hb (by omega))
  replace F0 := Lib.hid (F0.out.below ELoss.loc hb (by omega))
  replace F1 := Lib.hid (F1.out.below EStep.loc hb (by omega))
  replace OW := Lib.hid (OW.out.below EInt.loc hb (by omega))
  replace OG := Lib.hid (OG.out.below EInt.loc hb (by omega))
  clear hb
  -- region 24: laws.markIntS
  go_wp2_with fail
  obtain ⟨Fm, hFm, hFr⟩ := OG.out.toF
  have hbnd : (1 : Int) + (cL' (fun _ => 1) (atL x0 x1) : Nat) ≤ 300000001 := by have := G0.out; have := G1.out; have := atL_len x0 x1; have := length_le_szLo x0; have := cLI (atL x0 x1); omega
  have hbnd0 : (0 : Int) ≤ (1 : Int) := by omega
  refine (markIntS_calls (atL x0 x1) aG _ ((1 : Int)) Fm w16 hFm hbnd0 (by have := cLI (atL x0 x1); omega)).mono ?_
  rintro e w17 ⟨rfl, hoF, ht⟩
  have hbs := ht.beside (lo := w7.heap.size) (hi := w8.heap.size) (by omega) hFr
  have s16 : w16.heap.size ≤ w17.heap.size := ht.size
  have HB := Lib.hid (below_step HB.out hbs.1 (by omega))
  replace F0 := Lib.hid (F0.out.below ELoss.loc hbs.1 (by omega))
  replace F1 := Lib.hid (F1.out.below EStep.loc hbs.1 (by omega))
  replace OW := Lib.hid (OW.out.beside EInt.loc hbs (by omega))
  replace OG := Lib.hid (hoF.toOw hFr)
  clear hoF ht hbs hFm hFr
  generalize hkk : ((1 : Int)) + (cL' (fun _ => 1) (atL x0 x1) : Nat) = m1 at hbnd ⊢
  have nm1 : ¬ (m1 < 0) := by omega
  have HM := Lib.hid hkk
  clear hbnd0 hkk
  have hbm1 := hbnd; clear hbnd
  -- region 26: laws.heldIntS
  go_wp2_with fail
  have hbnd2 : (1 : Int) + (cL' (fun _ => 1) (atL x0 x1) : Nat) ≤ 9223372036854775806 := by have := G0.out; have := G1.out; have := atL_len x0 x1; have := length_le_szLo x0; have := cLI (atL x0 x1); omega
  refine (heldIntS_calls (atL x0 x1) _ _ 1 _ w17 (OG.out.read.more (by omega)) (Nat.le_refl _) (by omega) (by have := cLI (atL x0 x1); omega)).mono ?_
  rintro e w18 ⟨rfl, hb⟩
  clear hbnd2
  rw [HM.out]
  have s17 : w17.heap.size ≤ w18.heap.size := hb.size
  have HB := Lib.hid (below_step HB.out hb (by omega))
  replace F0 := Lib.hid (F0.out.below ELoss.loc hb (by omega))
  replace F1 := Lib.hid (F1.out.below EStep.loc hb (by omega))
  replace OW := Lib.hid (OW.out.below EInt.loc hb (by omega))
  replace OG := Lib.hid (OG.out.below EInt.loc hb (by omega))
  clear hb
  -- region 31: laws.toLossS laws.toStepS impl.LossesAt
  go_wp2_with fail
  refine (toLossS_calls x0 a0 c0 w.heap.size w18 F0.out (by omega) (by have := G0.out; omega)).mono ?_
  rintro e w19 ⟨b0, rfl, ho, hb⟩
  have s18 : w18.heap.size ≤ w19.heap.size := hb.size
  have HB := Lib.hid (below_step HB.out hb (by omega))
  replace F0 := Lib.hid (F0.out.below ELoss.loc hb (by omega))
  replace F1 := Lib.hid (F1.out.below EStep.loc hb (by omega))
  replace OW := Lib.hid (OW.out.below EInt.loc hb (by omega))
  replace OG := Lib.hid (OG.out.below EInt.loc hb (by omega))
  replace ho := Lib.hid ho; have T0 := ho; clear ho hb
  go_wp2_with fail
  refine (toStepS_calls x1 a1 c1 w.heap.size w19 F1.out (by omega) (by have := G1.out; omega)).mono ?_
  rintro e w20 ⟨b1, rfl, ho, hb⟩
  have s19 : w19.heap.size ≤ w20.heap.size := hb.size
  have HB := Lib.hid (below_step HB.out hb (by omega))
  replace F0 := Lib.hid (F0.out.below ELoss.loc hb (by omega))
  replace F1 := Lib.hid (F1.out.below EStep.loc hb (by omega))
  replace OW := Lib.hid (OW.out.below EInt.loc hb (by omega))
  replace OG := Lib.hid (OG.out.below EInt.loc hb (by omega))
  replace T0 := Lib.hid (T0.out.below ELoss.loc hb (by omega))
  replace ho := Lib.hid ho; have T1 := ho; clear ho hb
  go_wp2_with fail
  refine (impl_LossesAt x0 x1 _ _ _ _ _ w20 (T0.out.read.more (by omega)) (T1.out.read.more (by omega)) (by have := G0.out; have := G1.out; have := length_le_szLo x0; omega) (Nat.le_refl _)).mono ?_
  rintro e w21 ⟨aH, cH, rfl, ho, hb⟩
  have s20 : w20.heap.size ≤ w21.heap.size := hb.size
  have HB := Lib.hid (below_step HB.out hb (by omega))
  replace F0 := Lib.hid (F0.out.below ELoss.loc hb (by omega))
  replace F1 := Lib.hid (F1.out.below EStep.loc hb (by omega))
  replace OW := Lib.hid (OW.out.below EInt.loc hb (by omega))
  replace OG := Lib.hid (OG.out.below EInt.loc hb (by omega))
  replace T0 := Lib.hid (T0.out.below ELoss.loc hb (by omega))
  replace T1 := Lib.hid (T1.out.below EStep.loc hb (by omega))
  replace ho := Lib.hid ho; have OH := ho; clear ho hb
  clear T0
  clear T1
  -- region 32: laws.eqIntS
  go_wp2_with fail
  refine (eqIntS_calls (atL x0 x1) _ _ _ _ _ w21 (OH.out.read.more (by omega)) (OW.out.read.more (by omega)) (Nat.le_refl _)).mono ?_
  rintro e w22 ⟨rfl, hb⟩
  have s21 : w21.heap.size ≤ w22.heap.size := hb.size
  have HB := Lib.hid (below_step HB.out hb (by omega))
  replace F0 := Lib.hid (F0.out.below ELoss.loc hb (by omega))
  replace F1 := Lib.hid (F1.out.below EStep.loc hb (by omega))
  replace OW := Lib.hid (OW.out.below EInt.loc hb (by omega))
  replace OG := Lib.hid (OG.out.below EInt.loc hb (by omega))
  replace OH := Lib.hid (OH.out.below EInt.loc hb (by omega))
  clear hb
  -- region 35: laws.heldIntS
  go_wp2_with fail
  have hbnd2 : (1 : Int) + (cL' (fun _ => 1) (atL x0 x1) : Nat) ≤ 9223372036854775806 := by have := G0.out; have := G1.out; have := atL_len x0 x1; have := length_le_szLo x0; have := cLI (atL x0 x1); omega
  refine (heldIntS_calls (atL x0 x1) _ _ 1 _ w22 (OG.out.read.more (by omega)) (Nat.le_refl _) (by omega) (by have := cLI (atL x0 x1); omega)).mono ?_
  rintro e w23 ⟨rfl, hb⟩
  clear hbnd2
  rw [HM.out]
  have s22 : w22.heap.size ≤ w23.heap.size := hb.size
  have HB := Lib.hid (below_step HB.out hb (by omega))
  replace F0 := Lib.hid (F0.out.below ELoss.loc hb (by omega))
  replace F1 := Lib.hid (F1.out.below EStep.loc hb (by omega))
  replace OW := Lib.hid (OW.out.below EInt.loc hb (by omega))
  replace OG := Lib.hid (OG.out.below EInt.loc hb (by omega))
  replace OH := Lib.hid (OH.out.below EInt.loc hb (by omega))
  clear hb
  go_wp2_with fail
  go_ret
  exact ⟨rfl, HB.out⟩
end Go.Proofs.Ytfbgmhjjdgglnaa
