/- Contracts and lemmas for the proofs of this seat: LawLossOk. No condition beyond those stated. -/
import Derived.Test.YtfbgmhjjdgglnaaRows
import Derived.WalkKit
import Derived.ProofKit
import Derived.OpenShut
import Derived.Handy
import Derived.Lib.Hide
import Derived.Lib.SmallJoins
import Derived.Deep.RegionHeld3
import Derived.Test.YtfbgmhjjdgglnaaBase
import Derived.Test.YtfbgmhjjdgglnaaGen
import Derived.Test.YtfbgmhjjdgglnaaKit
import Derived.Test.YtfbgmhjjdgglnaaOpen
import Derived.Test.YtfbgmhjjdgglnaaOpenL
import Derived.Test.YtfbgmhjjdgglnaaLawLoss
import Derived.Test.YtfbgmhjjdgglnaaMark
import Derived.Test.YtfbgmhjjdgglnaaApp
import Derived.Test.YtfbgmhjjdgglnaaMarkV
import Derived.Test.YtfbgmhjjdgglnaaLawVal
import Derived.Test.YtfbgmhjjdgglnaaCopy
import Derived.Test.YtfbgmhjjdgglnaaPathAt
import Derived.Test.YtfbgmhjjdgglnaaPathAt2
import Derived.Test.YtfbgmhjjdgglnaaLossOkF
namespace Go.Proofs.Ytfbgmhjjdgglnaa
open Go.ChangeShapes Go.WideShapes Go.ChangeAt Go.RowKit Go.Joins
set_option linter.unusedVariables false
set_option maxRecDepth 100000
set_option maxHeartbeats 4000000 in
theorem FnExactLossOk_walk (x0 : T) (a0 : Option Addr) (c0 B0 : Nat) (x1 : Lo) (a1 : Option Addr) (c1 B1 : Nat) (w : World) (hr0 : R w B0 a0 c0 x0.l) (hwf0 : Wf x0) (hB0 : B0 ≤ w.heap.size) (hr1 : Rd EStep 2 w B1 a1 c1 x1.2) (hi1 : I64 x1.1) (hB1 : B1 ≤ w.heap.size) :
    Calls Try.prog 8 #[.agg (cV x0 a0 c0), .agg (cL x1 a1 c1)] w fun e w' => e = .returned (.bool true) ∧ Below w.heap.size w w' := by
  have F0 : Hid (R w w.heap.size a0 c0 x0.l) := Lib.hid (hr0.more hB0)
  clear hr0
  have F1 : Hid (Rd EStep 2 w w.heap.size a1 c1 x1.2) := Lib.hid (hr1.more hB1)
  clear hr1
  have HB : Hid (Below w.heap.size w w) := Lib.hid (Below.refl _ _)
  go_enter Try.func8, Try.ntmps8
  go_wp2_with fail
  generalize hW : ((w.alloc (.cells (cV x0 a0 c0) 24)).alloc (.cells (cL x1 a1 c1) 41)) = w1
  have hb1 : Below w.heap.size w w1 := by subst hW; exact below2 _ _ _
  have z1 : w1.heap.size = w.heap.size + 2 := by subst hW; simp
  have I0 : Hid (Is w1 w.heap.size 24 (cV x0 a0 c0)) := Lib.hid (by subst hW; exact (Is.new w _ _).alloc _)
  have I1 : Hid (Is w1 (w.heap.size + 1) 41 (cL x1 a1 c1)) := Lib.hid (by subst hW; exact Is.new2 w _ _ _)
  clear hW
  have HB := Lib.hid (below_step HB.out hb1 (by omega))
  replace F0 := Lib.hid (F0.out.below hb1 (by omega))
  replace F1 := Lib.hid (F1.out.below EStep.loc hb1 (by omega))
  obtain ⟨k0_0, k0_1, k0_2, k0_3, k0_4⟩ := I0.out.cells5
  have k0_l : w.heap.size < w1.heap.size := I0.out.lt
  obtain ⟨k1_0, k1_1⟩ := I1.out.cells2
  have k1_l : w.heap.size + 1 < w1.heap.size := I1.out.lt
  clear hb1
  -- region 2: laws.szVal
  go_wp2_with fail
  refine (szVal_calls x0 a0 c0 1048576 w.heap.size w1 F0.out hwf0 (by omega) (by omega) (by omega)).mono ?_
  rintro e w2 ⟨r0, rfl, u0, v0, G0, hb⟩
  clear k0_0 k0_1 k0_2 k0_3 k0_4 k1_0 k1_1 k0_l k1_l
  have s0 : w1.heap.size ≤ w2.heap.size := hb.size
  have HB := Lib.hid (below_step HB.out hb (by omega))
  replace F0 := Lib.hid (F0.out.below hb (by omega))
  replace F1 := Lib.hid (F1.out.below EStep.loc hb (by omega))
  replace I0 := Lib.hid (I0.out.below hb (by omega))
  replace I1 := Lib.hid (I1.out.below hb (by omega))
  obtain ⟨k0_0, k0_1, k0_2, k0_3, k0_4⟩ := I0.out.cells5
  have k0_l : w.heap.size < w2.heap.size := I0.out.lt
  obtain ⟨k1_0, k1_1⟩ := I1.out.cells2
  have k1_l : w.heap.size + 1 < w2.heap.size := I1.out.lt
  clear hb
  by_cases hneg : r0 < 0
  · go_wp2_with fail
    go_ret
    exact ⟨rfl, HB.out⟩
  replace G0 := Lib.hid (G0 (by omega))
  -- region 5: laws.szLoss
  go_wp2_with fail
  refine (szLoss_calls x1 a1 c1 r0 w.heap.size w2 F1.out (by omega) (by omega) (by omega)).mono ?_
  rintro e w3 ⟨r1, rfl, u1, v1, G1, hb⟩
  clear k0_0 k0_1 k0_2 k0_3 k0_4 k1_0 k1_1 k0_l k1_l
  have s1 : w2.heap.size ≤ w3.heap.size := hb.size
  have HB := Lib.hid (below_step HB.out hb (by omega))
  replace F0 := Lib.hid (F0.out.below hb (by omega))
  replace F1 := Lib.hid (F1.out.below EStep.loc hb (by omega))
  replace I0 := Lib.hid (I0.out.below hb (by omega))
  replace I1 := Lib.hid (I1.out.below hb (by omega))
  obtain ⟨k0_0, k0_1, k0_2, k0_3, k0_4⟩ := I0.out.cells5
  have k0_l : w.heap.size < w3.heap.size := I0.out.lt
  obtain ⟨k1_0, k1_1⟩ := I1.out.cells2
  have k1_l : w.heap.size + 1 < w3.heap.size := I1.out.lt
  clear hb
  by_cases hneg : r1 < 0
  · go_wp2_with fail
    go_ret
    exact ⟨rfl, HB.out⟩
  replace G1 := Lib.hid (G1 (by omega))
  -- region 8: laws.toVal laws.toLoss spec.LossOk
  go_wp2_with fail
  go_region_held3 (fun w' => (∀ b o, b < w3.heap.size → w'.cell? ⟨b, o, none⟩ = w3.cell? ⟨b, o, none⟩) ∧ Below (w3.heap.size) w3 w') (first | exact ⟨fun _ _ _ => rfl, (Below.refl _ _).drew⟩ | exact keep_step (by assumption) (Below.drew (Below.refl _ _)) (Nat.le_refl _) | exact keep_step (by assumption) (by assumption) (by first | omega | (simp only [World.size_drew, size_alloc]; omega) | (have := (‹(_ ∧ Below (w3.heap.size) w3 _)›).2.size; first | omega | (simp only [World.size_drew, size_alloc]; omega) | (simp only [World.size_drew, size_alloc] at this; omega))) | exact keep_step (by assumption) (below1 _ _) (by first | omega | (simp only [World.size_drew, size_alloc]; omega) | (have := (‹(_ ∧ Below (w3.heap.size) w3 _)›).2.size; first | omega | (simp only [World.size_drew, size_alloc]; omega) | (simp only [World.size_drew, size_alloc] at this; omega)))) (first | (go_at_call 12; refine (toVal_calls _ _ _ w.heap.size _ ?_ ?_ (by have := (‹_ ∧ Below (w3.heap.size) w3 _›).2.size; omega) (by first | (have := G0.out; omega))).mono ?_; (first | exact F0.out.below (‹_ ∧ Below (w3.heap.size) w3 _›).2 (by omega)); (first | exact hwf0); rintro e v ⟨a, rfl, ho, hb⟩) | (go_at_call 20; refine (toLoss_calls _ _ _ w.heap.size _ ?_ ?_ (by have := (‹_ ∧ Below (w3.heap.size) w3 _›).2.size; omega) (by first | (have := G1.out; omega))).mono ?_; (first | exact F1.out.below EStep.loc (‹_ ∧ Below (w3.heap.size) w3 _›).2 (by omega)); (first | exact hi1); rintro e v ⟨a, rfl, ho, hb⟩) | (go_at_call 42; refine (spec_LossOk x0 x1 _ _ _ _ _ _ ?_ ?_ hwf0 (by have := G0.out; have := G1.out; have := T.countL_le_szL x0; omega) (Nat.le_refl _)).mono ?_; (first | exact Own.read (by assumption) | exact R.fwd (Own.read (by assumption)) (by assumption) | exact R.fwd (R.fwd (Own.read (by assumption)) (by assumption)) (by assumption)); (first | exact Ow.read (by assumption) | exact Rd.fwd EStep.loc (Ow.read (by assumption)) (by assumption) | exact Rd.fwd EStep.loc (Rd.fwd EStep.loc (Ow.read (by assumption)) (by assumption)) (by assumption)); rintro e v ⟨rfl, hb⟩))
  have hb := (‹_ ∧ Below (w3.heap.size) w3 _›).2
  rename World => w4
  clear k0_0 k0_1 k0_2 k0_3 k0_4 k1_0 k1_1 k0_l k1_l
  have s2 : w3.heap.size ≤ w4.heap.size := hb.size
  have HB := Lib.hid (below_step HB.out hb (by omega))
  replace F0 := Lib.hid (F0.out.below hb (by omega))
  replace F1 := Lib.hid (F1.out.below EStep.loc hb (by omega))
  replace I0 := Lib.hid (I0.out.below hb (by omega))
  replace I1 := Lib.hid (I1.out.below hb (by omega))
  obtain ⟨k0_0, k0_1, k0_2, k0_3, k0_4⟩ := I0.out.cells5
  have k0_l : w.heap.size < w4.heap.size := I0.out.lt
  obtain ⟨k1_0, k1_1⟩ := I1.out.cells2
  have k1_l : w.heap.size + 1 < w4.heap.size := I1.out.lt
  clear hb
  -- region 9: laws.toVal
  go_wp2_with fail
  refine (toVal_calls x0 a0 c0 w.heap.size w4 F0.out hwf0 (by omega) (by have := G0.out; omega)).mono ?_
  rintro e w5 ⟨d0, rfl, ho, hb⟩
  clear k0_0 k0_1 k0_2 k0_3 k0_4 k1_0 k1_1 k0_l k1_l
  have s3 : w4.heap.size ≤ w5.heap.size := hb.size
  have HB := Lib.hid (below_step HB.out hb (by omega))
  replace F0 := Lib.hid (F0.out.below hb (by omega))
  replace F1 := Lib.hid (F1.out.below EStep.loc hb (by omega))
  replace I0 := Lib.hid (I0.out.below hb (by omega))
  replace I1 := Lib.hid (I1.out.below hb (by omega))
  obtain ⟨k0_0, k0_1, k0_2, k0_3, k0_4⟩ := I0.out.cells5
  have k0_l : w.heap.size < w5.heap.size := I0.out.lt
  obtain ⟨k1_0, k1_1⟩ := I1.out.cells2
  have k1_l : w.heap.size + 1 < w5.heap.size := I1.out.lt
  replace ho := Lib.hid ho; have O0 := ho; clear ho hb
  go_wp2_with fail
  generalize hW : w5.alloc (.cells (cV x0 d0 x0.l.length) 32) = w6
  have hb : Below w5.heap.size w5 w6 := by subst hW; exact below1 _ _
  have J0 : Hid (Is w6 w5.heap.size 32 (cV x0 d0 x0.l.length)) := Lib.hid (by subst hW; exact Is.new _ _ _)
  have z6 : w6.heap.size = w5.heap.size + 1 := by subst hW; simp
  clear hW
  clear k0_0 k0_1 k0_2 k0_3 k0_4 k1_0 k1_1 k0_l k1_l
  have HB := Lib.hid (below_step HB.out hb (by omega))
  replace F0 := Lib.hid (F0.out.below hb (by omega))
  replace F1 := Lib.hid (F1.out.below EStep.loc hb (by omega))
  replace I0 := Lib.hid (I0.out.below hb (by omega))
  replace I1 := Lib.hid (I1.out.below hb (by omega))
  replace O0 := Lib.hid (O0.out.below hb (by omega))
  obtain ⟨k0_0, k0_1, k0_2, k0_3, k0_4⟩ := I0.out.cells5
  have k0_l : w.heap.size < w6.heap.size := I0.out.lt
  obtain ⟨k1_0, k1_1⟩ := I1.out.cells2
  have k1_l : w.heap.size + 1 < w6.heap.size := I1.out.lt
  obtain ⟨j0_0, j0_1, j0_2, j0_3, j0_4⟩ := J0.out.cells5
  have j0_l : w5.heap.size < w6.heap.size := J0.out.lt
  clear hb
  -- region 10: laws.toLoss
  go_wp2_with fail
  refine (toLoss_calls x1 a1 c1 w.heap.size w6 F1.out hi1 (by omega) (by have := G1.out; omega)).mono ?_
  rintro e w7 ⟨d1, rfl, ho, hb⟩
  clear k0_0 k0_1 k0_2 k0_3 k0_4 k1_0 k1_1 j0_0 j0_1 j0_2 j0_3 j0_4 k0_l k1_l j0_l
  have s4 : w6.heap.size ≤ w7.heap.size := hb.size
  have HB := Lib.hid (below_step HB.out hb (by omega))
  replace F0 := Lib.hid (F0.out.below hb (by omega))
  replace F1 := Lib.hid (F1.out.below EStep.loc hb (by omega))
  replace I0 := Lib.hid (I0.out.below hb (by omega))
  replace I1 := Lib.hid (I1.out.below hb (by omega))
  replace O0 := Lib.hid (O0.out.below hb (by omega))
  replace J0 := Lib.hid (J0.out.below hb (by omega))
  obtain ⟨k0_0, k0_1, k0_2, k0_3, k0_4⟩ := I0.out.cells5
  have k0_l : w.heap.size < w7.heap.size := I0.out.lt
  obtain ⟨k1_0, k1_1⟩ := I1.out.cells2
  have k1_l : w.heap.size + 1 < w7.heap.size := I1.out.lt
  obtain ⟨j0_0, j0_1, j0_2, j0_3, j0_4⟩ := J0.out.cells5
  have j0_l : w5.heap.size < w7.heap.size := J0.out.lt
  replace ho := Lib.hid ho; have O1 := ho; clear ho hb
  go_wp2_with fail
  generalize hW : w7.alloc (.cells (cL x1 d1 x1.2.length) 46) = w8
  have hb : Below w7.heap.size w7 w8 := by subst hW; exact below1 _ _
  have J1 : Hid (Is w8 w7.heap.size 46 (cL x1 d1 x1.2.length)) := Lib.hid (by subst hW; exact Is.new _ _ _)
  have z8 : w8.heap.size = w7.heap.size + 1 := by subst hW; simp
  clear hW
  clear k0_0 k0_1 k0_2 k0_3 k0_4 k1_0 k1_1 j0_0 j0_1 j0_2 j0_3 j0_4 k0_l k1_l j0_l
  have HB := Lib.hid (below_step HB.out hb (by omega))
  replace F0 := Lib.hid (F0.out.below hb (by omega))
  replace F1 := Lib.hid (F1.out.below EStep.loc hb (by omega))
  replace I0 := Lib.hid (I0.out.below hb (by omega))
  replace I1 := Lib.hid (I1.out.below hb (by omega))
  replace O0 := Lib.hid (O0.out.below hb (by omega))
  replace J0 := Lib.hid (J0.out.below hb (by omega))
  replace O1 := Lib.hid (O1.out.below EStep.loc hb (by omega))
  obtain ⟨k0_0, k0_1, k0_2, k0_3, k0_4⟩ := I0.out.cells5
  have k0_l : w.heap.size < w8.heap.size := I0.out.lt
  obtain ⟨k1_0, k1_1⟩ := I1.out.cells2
  have k1_l : w.heap.size + 1 < w8.heap.size := I1.out.lt
  obtain ⟨j0_0, j0_1, j0_2, j0_3, j0_4⟩ := J0.out.cells5
  have j0_l : w5.heap.size < w8.heap.size := J0.out.lt
  obtain ⟨j1_0, j1_1⟩ := J1.out.cells2
  have j1_l : w7.heap.size < w8.heap.size := J1.out.lt
  clear hb
  -- region 11: impl.LossOk
  go_wp2_with fail
  refine (impl_LossOk x0 x1 _ _ _ _ _ w8 (O0.out.read.more (by omega)) (O1.out.read.more (by omega)) hwf0 (by have := G0.out; have := G1.out; have := T.countL_le_szL x0; omega) (Nat.le_refl _)).mono ?_
  rintro e w9 ⟨rfl, hb⟩
  clear k0_0 k0_1 k0_2 k0_3 k0_4 k1_0 k1_1 j0_0 j0_1 j0_2 j0_3 j0_4 j1_0 j1_1 k0_l k1_l j0_l j1_l
  have s5 : w8.heap.size ≤ w9.heap.size := hb.size
  have HB := Lib.hid (below_step HB.out hb (by omega))
  replace F0 := Lib.hid (F0.out.below hb (by omega))
  replace F1 := Lib.hid (F1.out.below EStep.loc hb (by omega))
  replace I0 := Lib.hid (I0.out.below hb (by omega))
  replace I1 := Lib.hid (I1.out.below hb (by omega))
  replace O0 := Lib.hid (O0.out.below hb (by omega))
  replace J0 := Lib.hid (J0.out.below hb (by omega))
  replace O1 := Lib.hid (O1.out.below EStep.loc hb (by omega))
  replace J1 := Lib.hid (J1.out.below hb (by omega))
  obtain ⟨k0_0, k0_1, k0_2, k0_3, k0_4⟩ := I0.out.cells5
  have k0_l : w.heap.size < w9.heap.size := I0.out.lt
  obtain ⟨k1_0, k1_1⟩ := I1.out.cells2
  have k1_l : w.heap.size + 1 < w9.heap.size := I1.out.lt
  obtain ⟨j0_0, j0_1, j0_2, j0_3, j0_4⟩ := J0.out.cells5
  have j0_l : w5.heap.size < w9.heap.size := J0.out.lt
  obtain ⟨j1_0, j1_1⟩ := J1.out.cells2
  have j1_l : w7.heap.size < w9.heap.size := J1.out.lt
  clear hb
  -- region 14: laws.toVal laws.eqVal
  go_wp2_with fail
  go_region_held3 (fun w' => (∀ b o, b < w9.heap.size → w'.cell? ⟨b, o, none⟩ = w9.cell? ⟨b, o, none⟩) ∧ Below (w9.heap.size) w9 w') (first | exact ⟨fun _ _ _ => rfl, (Below.refl _ _).drew⟩ | exact keep_step (by assumption) (Below.drew (Below.refl _ _)) (Nat.le_refl _) | exact keep_step (by assumption) (by assumption) (by first | omega | (simp only [World.size_drew, size_alloc]; omega) | (have := (‹(_ ∧ Below (w9.heap.size) w9 _)›).2.size; first | omega | (simp only [World.size_drew, size_alloc]; omega) | (simp only [World.size_drew, size_alloc] at this; omega))) | exact keep_step (by assumption) (below1 _ _) (by first | omega | (simp only [World.size_drew, size_alloc]; omega) | (have := (‹(_ ∧ Below (w9.heap.size) w9 _)›).2.size; first | omega | (simp only [World.size_drew, size_alloc]; omega) | (simp only [World.size_drew, size_alloc] at this; omega)))) (first | (go_at_call 12; refine (toVal_calls _ _ _ w.heap.size _ ?_ ?_ (by have := (‹_ ∧ Below (w9.heap.size) w9 _›).2.size; omega) (by first | (have := G0.out; omega))).mono ?_; (first | exact F0.out.below (‹_ ∧ Below (w9.heap.size) w9 _›).2 (by omega)); (first | exact hwf0); rintro e v ⟨a, rfl, ho, hb⟩) | (go_at_call 16; refine (eqVal_calls x0 _ _ _ _ _ _ ?_ ?_ hwf0 (Nat.le_refl _)).mono ?_; (exact (O0.out.read.below (‹_ ∧ Below (w9.heap.size) w9 _›).2 (by omega)).more (by have := ‹Below _ _ _›.size; have := (‹_ ∧ Below (w9.heap.size) w9 _›).2.size; omega)); (exact (‹Own _ _ _ _ _ x0.l›).read); rintro e v ⟨rfl, hb⟩))
  have hb := (‹_ ∧ Below (w9.heap.size) w9 _›).2
  rename World => w10
  clear k0_0 k0_1 k0_2 k0_3 k0_4 k1_0 k1_1 j0_0 j0_1 j0_2 j0_3 j0_4 j1_0 j1_1 k0_l k1_l j0_l j1_l
  have s6 : w9.heap.size ≤ w10.heap.size := hb.size
  have HB := Lib.hid (below_step HB.out hb (by omega))
  replace F0 := Lib.hid (F0.out.below hb (by omega))
  replace F1 := Lib.hid (F1.out.below EStep.loc hb (by omega))
  replace I0 := Lib.hid (I0.out.below hb (by omega))
  replace I1 := Lib.hid (I1.out.below hb (by omega))
  replace O0 := Lib.hid (O0.out.below hb (by omega))
  replace J0 := Lib.hid (J0.out.below hb (by omega))
  replace O1 := Lib.hid (O1.out.below EStep.loc hb (by omega))
  replace J1 := Lib.hid (J1.out.below hb (by omega))
  obtain ⟨k0_0, k0_1, k0_2, k0_3, k0_4⟩ := I0.out.cells5
  have k0_l : w.heap.size < w10.heap.size := I0.out.lt
  obtain ⟨k1_0, k1_1⟩ := I1.out.cells2
  have k1_l : w.heap.size + 1 < w10.heap.size := I1.out.lt
  obtain ⟨j0_0, j0_1, j0_2, j0_3, j0_4⟩ := J0.out.cells5
  have j0_l : w5.heap.size < w10.heap.size := J0.out.lt
  obtain ⟨j1_0, j1_1⟩ := J1.out.cells2
  have j1_l : w7.heap.size < w10.heap.size := J1.out.lt
  clear hb
  -- region 16: laws.toLoss laws.eqLoss
  go_wp2_with fail
  go_region_held3 (fun w' => (∀ b o, b < w10.heap.size → w'.cell? ⟨b, o, none⟩ = w10.cell? ⟨b, o, none⟩) ∧ Below (w10.heap.size) w10 w') (first | exact ⟨fun _ _ _ => rfl, (Below.refl _ _).drew⟩ | exact keep_step (by assumption) (Below.drew (Below.refl _ _)) (Nat.le_refl _) | exact keep_step (by assumption) (by assumption) (by first | omega | (simp only [World.size_drew, size_alloc]; omega) | (have := (‹(_ ∧ Below (w10.heap.size) w10 _)›).2.size; first | omega | (simp only [World.size_drew, size_alloc]; omega) | (simp only [World.size_drew, size_alloc] at this; omega))) | exact keep_step (by assumption) (below1 _ _) (by first | omega | (simp only [World.size_drew, size_alloc]; omega) | (have := (‹(_ ∧ Below (w10.heap.size) w10 _)›).2.size; first | omega | (simp only [World.size_drew, size_alloc]; omega) | (simp only [World.size_drew, size_alloc] at this; omega)))) (first | (go_at_call 20; refine (toLoss_calls _ _ _ w.heap.size _ ?_ ?_ (by have := (‹_ ∧ Below (w10.heap.size) w10 _›).2.size; omega) (by first | (have := G1.out; omega))).mono ?_; (first | exact F1.out.below EStep.loc (‹_ ∧ Below (w10.heap.size) w10 _›).2 (by omega)); (first | exact hi1); rintro e v ⟨a, rfl, ho, hb⟩) | (go_at_call 22; refine (eqLoss_calls x1 _ _ _ _ _ _ ?_ ?_ (Nat.le_refl _)).mono ?_; (exact (O1.out.read.below EStep.loc (‹_ ∧ Below (w10.heap.size) w10 _›).2 (by omega)).more (by have := ‹Below _ _ _›.size; have := (‹_ ∧ Below (w10.heap.size) w10 _›).2.size; omega)); (exact (‹Ow EStep 2 _ _ _ _ _ x1.2›).read); rintro e v ⟨rfl, hb⟩))
  have hb := (‹_ ∧ Below (w10.heap.size) w10 _›).2
  rename World => w11
  clear k0_0 k0_1 k0_2 k0_3 k0_4 k1_0 k1_1 j0_0 j0_1 j0_2 j0_3 j0_4 j1_0 j1_1 k0_l k1_l j0_l j1_l
  have s7 : w10.heap.size ≤ w11.heap.size := hb.size
  have HB := Lib.hid (below_step HB.out hb (by omega))
  replace F0 := Lib.hid (F0.out.below hb (by omega))
  replace F1 := Lib.hid (F1.out.below EStep.loc hb (by omega))
  replace I0 := Lib.hid (I0.out.below hb (by omega))
  replace I1 := Lib.hid (I1.out.below hb (by omega))
  replace O0 := Lib.hid (O0.out.below hb (by omega))
  replace J0 := Lib.hid (J0.out.below hb (by omega))
  replace O1 := Lib.hid (O1.out.below EStep.loc hb (by omega))
  replace J1 := Lib.hid (J1.out.below hb (by omega))
  obtain ⟨k0_0, k0_1, k0_2, k0_3, k0_4⟩ := I0.out.cells5
  have k0_l : w.heap.size < w11.heap.size := I0.out.lt
  obtain ⟨k1_0, k1_1⟩ := I1.out.cells2
  have k1_l : w.heap.size + 1 < w11.heap.size := I1.out.lt
  obtain ⟨j0_0, j0_1, j0_2, j0_3, j0_4⟩ := J0.out.cells5
  have j0_l : w5.heap.size < w11.heap.size := J0.out.lt
  obtain ⟨j1_0, j1_1⟩ := J1.out.cells2
  have j1_l : w7.heap.size < w11.heap.size := J1.out.lt
  clear hb
  go_wp2_with fail
  go_ret
  exact ⟨rfl, HB.out⟩
end Go.Proofs.Ytfbgmhjjdgglnaa
