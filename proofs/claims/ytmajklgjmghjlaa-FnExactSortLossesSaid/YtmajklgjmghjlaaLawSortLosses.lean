/- Contracts and lemmas for the proofs of this seat: LawSortLosses. No condition beyond those stated. -/
import Derived.Test.YtmajklgjmghjlaaRows
import Derived.WalkKit
import Derived.ProofKit
import Derived.OpenShut
import Derived.Handy
import Derived.Lib.Hide
import Derived.Lib.SmallJoins
import Derived.Deep.RegionHeld3
import Derived.Test.YtmajklgjmghjlaaBase
import Derived.Test.YtmajklgjmghjlaaGen
import Derived.Test.YtmajklgjmghjlaaKit
import Derived.Test.YtmajklgjmghjlaaMark
import Derived.Test.YtmajklgjmghjlaaApp
import Derived.Test.YtmajklgjmghjlaaMarkV
import Derived.Test.YtmajklgjmghjlaaLawVal
import Derived.Test.YtmajklgjmghjlaaCopy
import Derived.Test.YtmajklgjmghjlaaOnceA
import Derived.Test.YtmajklgjmghjlaaAppG
import Derived.Test.YtmajklgjmghjlaaKeepX
import Derived.Test.YtmajklgjmghjlaaOpenL
import Derived.Test.YtmajklgjmghjlaaLawLoss
import Derived.Test.YtmajklgjmghjlaaPath1
import Derived.Test.YtmajklgjmghjlaaPath2
import Derived.Test.YtmajklgjmghjlaaSortP
import Derived.Test.YtmajklgjmghjlaaSortW
import Derived.Test.YtmajklgjmghjlaaSortR
import Derived.Test.YtmajklgjmghjlaaSortI
import Derived.Test.YtmajklgjmghjlaaSortM
import Derived.Test.YtmajklgjmghjlaaSortG
import Derived.Test.YtmajklgjmghjlaaSortT
import Derived.Test.YtmajklgjmghjlaaSortC
import Derived.Test.YtmajklgjmghjlaaSortS
namespace Go.Proofs.Ytmajklgjmghjlaa
open Go.ChangeShapes Go.WideShapes Go.ChangeAt Go.RowKit Go.Joins
set_option linter.unusedVariables false
set_option maxRecDepth 100000
theorem szLo_perm {l m : List Lo} (h : l.Perm m) : szLo l = szLo m := by
  induction h with
  | nil => rfl
  | cons x _ ih => simp only [szLo, List.length_cons, List.map_cons, List.sum_cons] at *; omega
  | swap x y l => simp only [szLo, List.length_cons, List.map_cons, List.sum_cons]; omega
  | trans _ _ h1 h2 => exact h1.trans h2
theorem szSrt (l : List Lo) : szLo (srtL l) = szLo l := szLo_perm (srtL_perm l)
set_option maxHeartbeats 4000000 in
theorem FnExactSortLosses_walk (x0 : List Lo) (a0 : Option Addr) (c0 B0 : Nat) (w : World) (hr0 : Rd ELoss 2 w B0 a0 c0 x0) (_ : True) (hB0 : B0 ≤ w.heap.size) :
    Calls Try.prog 3 #[.slice a0 x0.length c0] w fun e w' => e = .returned (.bool true) ∧ Below w.heap.size w w' := by
  have F0 : Hid (Rd ELoss 2 w w.heap.size a0 c0 x0) := Lib.hid (hr0.more hB0)
  clear hr0
  have HB : Hid (Below w.heap.size w w) := Lib.hid (Below.refl _ _)
  go_enter Try.func3, Try.ntmps3
  -- region 2: laws.szLossS
  go_wp2_with fail
  refine (szLossS_calls x0 a0 c0 1048576 w.heap.size w F0.out (by omega) (by omega) (by omega)).mono ?_
  rintro e w1 ⟨r0, rfl, u0, v0, G0, hb⟩
  have s0 : w.heap.size ≤ w1.heap.size := hb.size
  have HB := Lib.hid (below_step HB.out hb (by omega))
  replace F0 := Lib.hid (F0.out.below ELoss.loc hb (by omega))
  clear hb
  by_cases hneg : r0 < 0
  · go_wp2_with fail
    go_ret
    exact ⟨rfl, HB.out⟩
  replace G0 := Lib.hid (G0 (by omega))
  -- region 5: laws.toLossS spec.SortLosses
  go_wp2_with fail
  refine (toLossS_calls x0 a0 c0 w.heap.size w1 F0.out (by omega) (by have := G0.out; omega)).mono ?_
  rintro e w2 ⟨b0, rfl, ho, hb⟩
  have s1 : w1.heap.size ≤ w2.heap.size := hb.size
  have HB := Lib.hid (below_step HB.out hb (by omega))
  replace F0 := Lib.hid (F0.out.below ELoss.loc hb (by omega))
  replace ho := Lib.hid ho; have T0 := ho; clear ho hb
  go_wp2_with fail
  refine (spec_SortLosses x0 _ _ _ w2 (T0.out.read.more (by omega)) (by have := G0.out; omega) (Nat.le_refl _)).mono ?_
  rintro e w3 ⟨aW, cW, rfl, ho, hb⟩
  have s2 : w2.heap.size ≤ w3.heap.size := hb.size
  have HB := Lib.hid (below_step HB.out hb (by omega))
  replace F0 := Lib.hid (F0.out.below ELoss.loc hb (by omega))
  replace T0 := Lib.hid (T0.out.below ELoss.loc hb (by omega))
  replace ho := Lib.hid ho; have OW := ho; clear ho hb
  clear T0
  -- region 6: laws.toLossS
  go_wp2_with fail
  refine (toLossS_calls x0 a0 c0 w.heap.size w3 F0.out (by omega) (by have := G0.out; omega)).mono ?_
  rintro e w4 ⟨d0, rfl, ho, hb⟩
  have s3 : w3.heap.size ≤ w4.heap.size := hb.size
  have HB := Lib.hid (below_step HB.out hb (by omega))
  replace F0 := Lib.hid (F0.out.below ELoss.loc hb (by omega))
  replace OW := Lib.hid (OW.out.below ELoss.loc hb (by omega))
  replace ho := Lib.hid ho; have O0 := ho; clear ho hb
  -- region 7: impl.SortLosses
  go_wp2_with fail
  refine (impl_SortLosses x0 _ _ _ w4 (O0.out.read.more (by omega)) (by have := G0.out; omega) (Nat.le_refl _)).mono ?_
  rintro e w5 ⟨aG, cG, rfl, ho, hb⟩
  have s4 : w4.heap.size ≤ w5.heap.size := hb.size
  have HB := Lib.hid (below_step HB.out hb (by omega))
  replace F0 := Lib.hid (F0.out.below ELoss.loc hb (by omega))
  replace OW := Lib.hid (OW.out.below ELoss.loc hb (by omega))
  replace O0 := Lib.hid (O0.out.below ELoss.loc hb (by omega))
  replace ho := Lib.hid ho; have OG := ho; clear ho hb
  -- region 8: laws.eqLossS
  go_wp2_with fail
  refine (eqLossS_calls (srtL x0) _ _ _ _ _ w5 (OG.out.read.more (by omega)) (OW.out.read.more (by omega)) (Nat.le_refl _)).mono ?_
  rintro e w6 ⟨rfl, hb⟩
  have s5 : w5.heap.size ≤ w6.heap.size := hb.size
  have HB := Lib.hid (below_step HB.out hb (by omega))
  replace F0 := Lib.hid (F0.out.below ELoss.loc hb (by omega))
  replace OW := Lib.hid (OW.out.below ELoss.loc hb (by omega))
  replace O0 := Lib.hid (O0.out.below ELoss.loc hb (by omega))
  replace OG := Lib.hid (OG.out.below ELoss.loc hb (by omega))
  clear hb
  -- region 10: laws.toLossS laws.eqLossS
  go_wp2_with fail
  refine (toLossS_calls x0 a0 c0 w.heap.size w6 F0.out (by omega) (by have := G0.out; omega)).mono ?_
  rintro e w7 ⟨b0, rfl, ho, hb⟩
  have s6 : w6.heap.size ≤ w7.heap.size := hb.size
  have HB := Lib.hid (below_step HB.out hb (by omega))
  replace F0 := Lib.hid (F0.out.below ELoss.loc hb (by omega))
  replace OW := Lib.hid (OW.out.below ELoss.loc hb (by omega))
  replace O0 := Lib.hid (O0.out.below ELoss.loc hb (by omega))
  replace OG := Lib.hid (OG.out.below ELoss.loc hb (by omega))
  replace ho := Lib.hid ho; have T0 := ho; clear ho hb
  go_wp2_with fail
  refine (eqLossS_calls x0 _ _ _ _ _ w7 (O0.out.read.more (by omega)) (T0.out.read.more (by omega)) (Nat.le_refl _)).mono ?_
  rintro e w8 ⟨rfl, hb⟩
  have s7 : w7.heap.size ≤ w8.heap.size := hb.size
  have HB := Lib.hid (below_step HB.out hb (by omega))
  replace F0 := Lib.hid (F0.out.below ELoss.loc hb (by omega))
  replace OW := Lib.hid (OW.out.below ELoss.loc hb (by omega))
  replace O0 := Lib.hid (O0.out.below ELoss.loc hb (by omega))
  replace OG := Lib.hid (OG.out.below ELoss.loc hb (by omega))
  replace T0 := Lib.hid (T0.out.below ELoss.loc hb (by omega))
  clear hb
  clear T0
  -- region 13: laws.markLossS
  go_wp2_with fail
  obtain ⟨Fm, hFm, hFr⟩ := O0.out.toF
  have hbnd : (1 : Int) + (cL' costLo x0 : Nat) ≤ 100000001 := by have := G0.out; have := costLo_le x0; omega
  have hbnd0 : (0 : Int) ≤ (1 : Int) := by omega
  refine (markLossS_calls x0 d0 _ ((1 : Int)) Fm w8 hFm hbnd0 (by omega)).mono ?_
  rintro e w9 ⟨rfl, hoF, ht⟩
  have hbs := ht.beside (lo := w3.heap.size) (hi := w4.heap.size) (by omega) hFr
  have s8 : w8.heap.size ≤ w9.heap.size := ht.size
  have HB := Lib.hid (below_step HB.out hbs.1 (by omega))
  replace F0 := Lib.hid (F0.out.below ELoss.loc hbs.1 (by omega))
  replace OW := Lib.hid (OW.out.beside ELoss.loc hbs (by omega))
  replace OG := Lib.hid (OG.out.beside ELoss.loc hbs (by omega))
  clear O0
  clear hoF ht hbs hFm hFr
  generalize hkk : ((1 : Int)) + (cL' costLo x0 : Nat) = k1 at hbnd ⊢
  have nk1 : ¬ (k1 < 0) := by omega
  clear hbnd0 hkk
  have hbk1 := hbnd; clear hbnd
  -- region 14: laws.eqLossS
  go_wp2_with fail
  refine (eqLossS_calls (srtL x0) _ _ _ _ _ w9 (OG.out.read.more (by omega)) (OW.out.read.more (by omega)) (Nat.le_refl _)).mono ?_
  rintro e w10 ⟨rfl, hb⟩
  have s9 : w9.heap.size ≤ w10.heap.size := hb.size
  have HB := Lib.hid (below_step HB.out hb (by omega))
  replace F0 := Lib.hid (F0.out.below ELoss.loc hb (by omega))
  replace OW := Lib.hid (OW.out.below ELoss.loc hb (by omega))
  replace OG := Lib.hid (OG.out.below ELoss.loc hb (by omega))
  clear hb
  -- region 17: laws.markLossS
  go_wp2_with fail
  obtain ⟨Fm, hFm, hFr⟩ := OG.out.toF
  have hbnd : (1 : Int) + (cL' costLo (srtL x0) : Nat) ≤ 200000001 := by have := G0.out; have := szSrt x0; have := costLo_le (srtL x0); omega
  have hbnd0 : (0 : Int) ≤ (1 : Int) := by omega
  refine (markLossS_calls (srtL x0) aG _ ((1 : Int)) Fm w10 hFm hbnd0 (by omega)).mono ?_
  rintro e w11 ⟨rfl, hoF, ht⟩
  have hbs := ht.beside (lo := w4.heap.size) (hi := w5.heap.size) (by omega) hFr
  have s10 : w10.heap.size ≤ w11.heap.size := ht.size
  have HB := Lib.hid (below_step HB.out hbs.1 (by omega))
  replace F0 := Lib.hid (F0.out.below ELoss.loc hbs.1 (by omega))
  replace OW := Lib.hid (OW.out.beside ELoss.loc hbs (by omega))
  replace OG := Lib.hid (hoF.toOw hFr)
  clear hoF ht hbs hFm hFr
  generalize hkk : ((1 : Int)) + (cL' costLo (srtL x0) : Nat) = m1 at hbnd ⊢
  have nm1 : ¬ (m1 < 0) := by omega
  have HM := Lib.hid hkk
  clear hbnd0 hkk
  have hbm1 := hbnd; clear hbnd
  -- region 19: laws.heldLossS
  go_wp2_with fail
  have hbnd2 : (1 : Int) + (cL' costLo (srtL x0) : Nat) ≤ 900000000000 := by have := G0.out; have := szSrt x0; have := costLo_le (srtL x0); omega
  refine (heldLossS_calls (srtL x0) _ _ 1 _ w11 (OG.out.read.more (by omega)) (Nat.le_refl _) (by omega) (by omega)).mono ?_
  rintro e w12 ⟨rfl, hb⟩
  clear hbnd2
  rw [HM.out]
  have s11 : w11.heap.size ≤ w12.heap.size := hb.size
  have HB := Lib.hid (below_step HB.out hb (by omega))
  replace F0 := Lib.hid (F0.out.below ELoss.loc hb (by omega))
  replace OW := Lib.hid (OW.out.below ELoss.loc hb (by omega))
  replace OG := Lib.hid (OG.out.below ELoss.loc hb (by omega))
  clear hb
  -- region 24: laws.toLossS impl.SortLosses
  go_wp2_with fail
  refine (toLossS_calls x0 a0 c0 w.heap.size w12 F0.out (by omega) (by have := G0.out; omega)).mono ?_
  rintro e w13 ⟨b0, rfl, ho, hb⟩
  have s12 : w12.heap.size ≤ w13.heap.size := hb.size
  have HB := Lib.hid (below_step HB.out hb (by omega))
  replace F0 := Lib.hid (F0.out.below ELoss.loc hb (by omega))
  replace OW := Lib.hid (OW.out.below ELoss.loc hb (by omega))
  replace OG := Lib.hid (OG.out.below ELoss.loc hb (by omega))
  replace ho := Lib.hid ho; have T0 := ho; clear ho hb
  go_wp2_with fail
  refine (impl_SortLosses x0 _ _ _ w13 (T0.out.read.more (by omega)) (by have := G0.out; omega) (Nat.le_refl _)).mono ?_
  rintro e w14 ⟨aH, cH, rfl, ho, hb⟩
  have s13 : w13.heap.size ≤ w14.heap.size := hb.size
  have HB := Lib.hid (below_step HB.out hb (by omega))
  replace F0 := Lib.hid (F0.out.below ELoss.loc hb (by omega))
  replace OW := Lib.hid (OW.out.below ELoss.loc hb (by omega))
  replace OG := Lib.hid (OG.out.below ELoss.loc hb (by omega))
  replace T0 := Lib.hid (T0.out.below ELoss.loc hb (by omega))
  replace ho := Lib.hid ho; have OH := ho; clear ho hb
  clear T0
  -- region 25: laws.eqLossS
  go_wp2_with fail
  refine (eqLossS_calls (srtL x0) _ _ _ _ _ w14 (OH.out.read.more (by omega)) (OW.out.read.more (by omega)) (Nat.le_refl _)).mono ?_
  rintro e w15 ⟨rfl, hb⟩
  have s14 : w14.heap.size ≤ w15.heap.size := hb.size
  have HB := Lib.hid (below_step HB.out hb (by omega))
  replace F0 := Lib.hid (F0.out.below ELoss.loc hb (by omega))
  replace OW := Lib.hid (OW.out.below ELoss.loc hb (by omega))
  replace OG := Lib.hid (OG.out.below ELoss.loc hb (by omega))
  replace OH := Lib.hid (OH.out.below ELoss.loc hb (by omega))
  clear hb
  -- region 28: laws.heldLossS
  go_wp2_with fail
  have hbnd2 : (1 : Int) + (cL' costLo (srtL x0) : Nat) ≤ 900000000000 := by have := G0.out; have := szSrt x0; have := costLo_le (srtL x0); omega
  refine (heldLossS_calls (srtL x0) _ _ 1 _ w15 (OG.out.read.more (by omega)) (Nat.le_refl _) (by omega) (by omega)).mono ?_
  rintro e w16 ⟨rfl, hb⟩
  clear hbnd2
  rw [HM.out]
  have s15 : w15.heap.size ≤ w16.heap.size := hb.size
  have HB := Lib.hid (below_step HB.out hb (by omega))
  replace F0 := Lib.hid (F0.out.below ELoss.loc hb (by omega))
  replace OW := Lib.hid (OW.out.below ELoss.loc hb (by omega))
  replace OG := Lib.hid (OG.out.below ELoss.loc hb (by omega))
  replace OH := Lib.hid (OH.out.below ELoss.loc hb (by omega))
  clear hb
  go_wp2_with fail
  go_ret
  exact ⟨rfl, HB.out⟩
end Go.Proofs.Ytmajklgjmghjlaa
