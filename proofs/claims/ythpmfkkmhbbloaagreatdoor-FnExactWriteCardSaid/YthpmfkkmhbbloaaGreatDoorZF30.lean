/- Texts of this proof, merged: LawWrite. No condition beyond what each theorem states. -/
import Derived.Test.YthpmfkkmhbbloaaGreatDoorRows
import Derived.WalkKit
import Derived.ProofKit
import Derived.OpenShut
import Derived.Handy
import Derived.Lib.Hide
import Derived.Lib.SmallJoins
import Derived.Deep.RegionHeld3
import Derived.Test.YthpmfkkmhbbloaaGreatDoorZF1
import Derived.Test.YthpmfkkmhbbloaaGreatDoorZF2
import Derived.Test.YthpmfkkmhbbloaaGreatDoorZF3
import Derived.Test.YthpmfkkmhbbloaaGreatDoorZF6
import Derived.Test.YthpmfkkmhbbloaaGreatDoorZF21
import Derived.Test.YthpmfkkmhbbloaaGreatDoorZF29
set_option linter.unusedSimpArgs false
set_option linter.unnecessarySimpa false
namespace Go.Proofs.YthpmfkkmhbbloaaGreatDoor
open Go.ChangeShapes Go.WideShapes Go.ChangeAt Go.RowKit Go.Joins
set_option linter.unusedVariables false
set_option maxRecDepth 100000
set_option maxHeartbeats 4000000 in
theorem FnExactWrite_walk (x0 : Int) (x1 : T) (a1 : Option Addr) (c1 B1 : Nat) (w : World) (hi0 : I64 x0) (hr1 : R w B1 a1 c1 x1.l) (hwf1 : Wf x1) (hB1 : B1 ≤ w.heap.size) (henv : Env w.heap.size w) :
    Calls Tryz.prog 4 #[.int .i64 x0, .agg (cV x1 a1 c1)] w fun e w' => e = .returned (.bool true) ∧ Below w.heap.size w w' := by
  have HENV := Lib.hid henv; clear henv
  have F1 : Hid (R w w.heap.size a1 c1 x1.l) := Lib.hid (hr1.more hB1)
  clear hr1
  have HB : Hid (Below w.heap.size w w) := Lib.hid (Below.refl _ _)
  go_enter Tryz.func4, Tryz.ntmps4
  go_wp2_with fail
  generalize hW : (w.alloc (.cells (cV x1 a1 c1) 24)) = w1
  have hb1 : Below w.heap.size w w1 := by subst hW; exact below1 _ _
  have z1 : w1.heap.size = w.heap.size + 1 := by subst hW; simp
  have I1 : Hid (Is w1 w.heap.size 24 (cV x1 a1 c1)) := Lib.hid (by subst hW; exact Is.new w _ _)
  clear hW
  have HB := Lib.hid (below_step HB.out hb1 (by omega))
  replace F1 := Lib.hid (F1.out.below hb1 (by omega))
  obtain ⟨k1_0, k1_1, k1_2, k1_3, k1_4⟩ := I1.out.cells5
  have k1_l : w.heap.size < w1.heap.size := I1.out.lt
  clear hb1
  -- region 2: laws.szVal
  go_wp2_with fail
  refine (szVal_calls x1 a1 c1 1048576 w.heap.size w1 F1.out hwf1 (by omega) (by omega) (by omega)).mono ?_
  rintro e w2 ⟨r1, rfl, u1, v1, G1, hb⟩
  clear k1_0 k1_1 k1_2 k1_3 k1_4 k1_l
  have s0 : w1.heap.size ≤ w2.heap.size := hb.size
  have HB := Lib.hid (below_step HB.out hb (by omega))
  replace F1 := Lib.hid (F1.out.below hb (by omega))
  replace I1 := Lib.hid (I1.out.below hb (by omega))
  obtain ⟨k1_0, k1_1, k1_2, k1_3, k1_4⟩ := I1.out.cells5
  have k1_l : w.heap.size < w2.heap.size := I1.out.lt
  clear hb
  by_cases hneg : r1 < 0
  · go_wp2_with fail
    go_ret
    exact ⟨rfl, HB.out⟩
  replace G1 := Lib.hid (G1 (by omega))
  have HLEN := Lib.hid (writeWL_len x0 x1 hwf1 (by have := G1.out; omega))
  go_wp2_with fail
  refine (toVal_calls x1 a1 c1 w.heap.size w2 F1.out hwf1 (by omega) (by have := G1.out; omega)).mono ?_
  rintro e w3 ⟨bT1, rfl, ho, hb⟩
  clear k1_0 k1_1 k1_2 k1_3 k1_4 k1_l
  have sz0 : w2.heap.size ≤ w3.heap.size := hb.size
  have HB := Lib.hid (below_step HB.out hb (by omega))
  replace F1 := Lib.hid (F1.out.below hb (by omega))
  replace I1 := Lib.hid (I1.out.below hb (by omega))
  obtain ⟨k1_0, k1_1, k1_2, k1_3, k1_4⟩ := I1.out.cells5
  have k1_l : w.heap.size < w3.heap.size := I1.out.lt
  replace ho := Lib.hid ho; have T1 := ho; clear ho hb
  go_wp2_with fail
  refine (spec_Write x0 x1 _ _ _ w3 (T1.out.read.more (by omega)) hwf1 (by have := G1.out; omega) (Nat.le_refl _)).mono ?_
  rintro e w4 ⟨aW, cW, rfl, ow, hb⟩
  clear k1_0 k1_1 k1_2 k1_3 k1_4 k1_l
  have sz1 : w3.heap.size ≤ w4.heap.size := hb.size
  have HB := Lib.hid (below_step HB.out hb (by omega))
  replace F1 := Lib.hid (F1.out.below hb (by omega))
  replace I1 := Lib.hid (I1.out.below hb (by omega))
  replace T1 := Lib.hid (T1.out.below hb (by omega))
  obtain ⟨k1_0, k1_1, k1_2, k1_3, k1_4⟩ := I1.out.cells5
  have k1_l : w.heap.size < w4.heap.size := I1.out.lt
  have OW := Lib.hid ow; clear ow hb
  clear T1
  go_wp2_with fail
  refine (toVal_calls x1 a1 c1 w.heap.size w4 F1.out hwf1 (by omega) (by have := G1.out; omega)).mono ?_
  rintro e w5 ⟨bO1, rfl, ho, hb⟩
  clear k1_0 k1_1 k1_2 k1_3 k1_4 k1_l
  have sz2 : w4.heap.size ≤ w5.heap.size := hb.size
  have HB := Lib.hid (below_step HB.out hb (by omega))
  replace F1 := Lib.hid (F1.out.below hb (by omega))
  replace I1 := Lib.hid (I1.out.below hb (by omega))
  replace OW := Lib.hid (OW.out.below hb (by omega))
  obtain ⟨k1_0, k1_1, k1_2, k1_3, k1_4⟩ := I1.out.cells5
  have k1_l : w.heap.size < w5.heap.size := I1.out.lt
  replace ho := Lib.hid ho; have O1 := ho; clear ho hb
  go_wp2_with fail
  generalize hW : w5.alloc (.cells (cV x1 bO1 x1.l.length) 29) = w6
  have hb : Below w5.heap.size w5 w6 := by subst hW; exact below1 _ _
  have J1 : Hid (Is w6 w5.heap.size 29 (cV x1 bO1 x1.l.length)) := Lib.hid (by subst hW; exact Is.new _ _ _)
  have z6 : w6.heap.size = w5.heap.size + 1 := by subst hW; simp
  clear hW
  clear k1_0 k1_1 k1_2 k1_3 k1_4 k1_l
  have HB := Lib.hid (below_step HB.out hb (by omega))
  replace F1 := Lib.hid (F1.out.below hb (by omega))
  replace I1 := Lib.hid (I1.out.below hb (by omega))
  replace OW := Lib.hid (OW.out.below hb (by omega))
  replace O1 := Lib.hid (O1.out.below hb (by omega))
  obtain ⟨k1_0, k1_1, k1_2, k1_3, k1_4⟩ := I1.out.cells5
  have k1_l : w.heap.size < w6.heap.size := I1.out.lt
  obtain ⟨j1_0, j1_1, j1_2, j1_3, j1_4⟩ := J1.out.cells5
  have j1_l : w5.heap.size < w6.heap.size := J1.out.lt
  clear hb
  go_wp2_with fail
  refine (impl_Write x0 x1 _ _ _ w6 (O1.out.read.more (by omega)) hwf1 (by have := G1.out; omega) ((HENV.out.step HB.out).here HB.out.size) (Nat.le_refl _)).mono ?_
  rintro e w7 ⟨aG, cG, rfl, og, hb⟩
  clear k1_0 k1_1 k1_2 k1_3 k1_4 k1_l j1_0 j1_1 j1_2 j1_3 j1_4 j1_l
  have sz3 : w6.heap.size ≤ w7.heap.size := hb.size
  have HB := Lib.hid (below_step HB.out hb (by omega))
  replace F1 := Lib.hid (F1.out.below hb (by omega))
  replace I1 := Lib.hid (I1.out.below hb (by omega))
  replace OW := Lib.hid (OW.out.below hb (by omega))
  replace O1 := Lib.hid (O1.out.below hb (by omega))
  replace J1 := Lib.hid (J1.out.below hb (by omega))
  obtain ⟨k1_0, k1_1, k1_2, k1_3, k1_4⟩ := I1.out.cells5
  have k1_l : w.heap.size < w7.heap.size := I1.out.lt
  obtain ⟨j1_0, j1_1, j1_2, j1_3, j1_4⟩ := J1.out.cells5
  have j1_l : w5.heap.size < w7.heap.size := J1.out.lt
  have OG := Lib.hid og; clear og hb
  go_wp2_with fail
  refine (eqB_calls (writeWL x0 x1) _ _ _ _ _ _ _ _ w7 OG.out OW.out (by have := HLEN.out; omega)).mono ?_
  rintro e w8 ⟨rfl, hb⟩
  clear k1_0 k1_1 k1_2 k1_3 k1_4 k1_l j1_0 j1_1 j1_2 j1_3 j1_4 j1_l
  have sz4 : w7.heap.size ≤ w8.heap.size := hb.size
  have HB := Lib.hid (below_step HB.out hb (by omega))
  replace F1 := Lib.hid (F1.out.below hb (by omega))
  replace I1 := Lib.hid (I1.out.below hb (by omega))
  replace OW := Lib.hid (OW.out.below hb (by omega))
  replace O1 := Lib.hid (O1.out.below hb (by omega))
  replace J1 := Lib.hid (J1.out.below hb (by omega))
  replace OG := Lib.hid (OG.out.below hb (by omega))
  obtain ⟨k1_0, k1_1, k1_2, k1_3, k1_4⟩ := I1.out.cells5
  have k1_l : w.heap.size < w8.heap.size := I1.out.lt
  obtain ⟨j1_0, j1_1, j1_2, j1_3, j1_4⟩ := J1.out.cells5
  have j1_l : w5.heap.size < w8.heap.size := J1.out.lt
  clear hb
  go_wp2_with fail
  go_region_held3 (fun w' => (∀ b o, b < w8.heap.size → w'.cell? ⟨b, o, none⟩ = w8.cell? ⟨b, o, none⟩) ∧ Below (w8.heap.size) w8 w') (first | exact ⟨fun _ _ _ => rfl, (Below.refl _ _).drew⟩ | exact keep_step (by assumption) (Below.drew (Below.refl _ _)) (Nat.le_refl _) | exact keep_step (by assumption) (by assumption) (by first | omega | (simp only [World.size_drew]; omega) | (simp only [size_alloc]; omega) | (simp only [World.size_drew, size_alloc]; omega) | (have := (‹(_ ∧ Below (w8.heap.size) w8 _)›).2.size; first | omega | (simp only [World.size_drew]; omega) | (simp only [size_alloc]; omega) | (simp only [World.size_drew, size_alloc]; omega) | (simp only [World.size_drew] at this; omega) | (simp only [size_alloc] at this; omega) | (simp only [World.size_drew, size_alloc] at this; omega))) | exact keep_step (by assumption) (below1 _ _) (by first | omega | (simp only [World.size_drew]; omega) | (simp only [size_alloc]; omega) | (simp only [World.size_drew, size_alloc]; omega) | (have := (‹(_ ∧ Below (w8.heap.size) w8 _)›).2.size; first | omega | (simp only [World.size_drew]; omega) | (simp only [size_alloc]; omega) | (simp only [World.size_drew, size_alloc]; omega) | (simp only [World.size_drew] at this; omega) | (simp only [size_alloc] at this; omega) | (simp only [World.size_drew, size_alloc] at this; omega)))) (first | (go_at_call 7; refine (toVal_calls _ _ _ w.heap.size _ ?_ ?_ (by have := (‹_ ∧ Below (w8.heap.size) w8 _›).2.size; omega) (by first | (have := G1.out; omega))).mono ?_; (first | exact F1.out.below (‹_ ∧ Below (w8.heap.size) w8 _›).2 (by omega)); (first | exact hwf1); rintro e v ⟨a, rfl, ho, hb⟩) | (go_at_call 9; refine (eqVal_calls x1 _ _ _ _ _ _ ?_ ?_ hwf1 (Nat.le_refl _)).mono ?_; (exact (O1.out.read.below (‹_ ∧ Below (w8.heap.size) w8 _›).2 (by omega)).more (by have := ‹Below _ _ _›.size; have := (‹_ ∧ Below (w8.heap.size) w8 _›).2.size; omega)); (exact (‹Own _ _ _ _ _ x1.l›).read); rintro e v ⟨rfl, hb⟩))
  have hb := (‹_ ∧ Below (w8.heap.size) w8 _›).2
  rename World => w9
  clear k1_0 k1_1 k1_2 k1_3 k1_4 k1_l j1_0 j1_1 j1_2 j1_3 j1_4 j1_l
  have sz5 : w8.heap.size ≤ w9.heap.size := hb.size
  have HB := Lib.hid (below_step HB.out hb (by omega))
  replace F1 := Lib.hid (F1.out.below hb (by omega))
  replace I1 := Lib.hid (I1.out.below hb (by omega))
  replace OW := Lib.hid (OW.out.below hb (by omega))
  replace O1 := Lib.hid (O1.out.below hb (by omega))
  replace J1 := Lib.hid (J1.out.below hb (by omega))
  replace OG := Lib.hid (OG.out.below hb (by omega))
  obtain ⟨k1_0, k1_1, k1_2, k1_3, k1_4⟩ := I1.out.cells5
  have k1_l : w.heap.size < w9.heap.size := I1.out.lt
  obtain ⟨j1_0, j1_1, j1_2, j1_3, j1_4⟩ := J1.out.cells5
  have j1_l : w5.heap.size < w9.heap.size := J1.out.lt
  clear hb
  go_wp2_with fail
  obtain ⟨Fm, hFm, hFr⟩ := (Own.ow.1 O1.out).toF
  have hbnd : (1 : Int) + (cL' costT (x1).l : Nat) ≤ 100000001 := by have := G1.out; have := costTL_le (x1).l; have := sz_list x1; omega
  have hbnd0 : (0 : Int) ≤ (1 : Int) := by omega
  refine (markVal_calls x1 bO1 _ ((1 : Int)) Fm w9 hFm hbnd0 (by omega)).mono ?_
  rintro e w10 ⟨rfl, hoF, ht⟩
  have hbs := ht.beside (lo := w4.heap.size) (hi := w5.heap.size) (by omega) hFr
  clear k1_0 k1_1 k1_2 k1_3 k1_4 k1_l j1_0 j1_1 j1_2 j1_3 j1_4 j1_l
  have sz6 : w9.heap.size ≤ w10.heap.size := ht.size
  have HB := Lib.hid (below_step HB.out hbs.1 (by omega))
  replace F1 := Lib.hid (F1.out.below hbs.1 (by omega))
  replace I1 := Lib.hid (I1.out.beside hbs (by omega))
  replace OW := Lib.hid (OW.out.beside hbs (by omega))
  replace J1 := Lib.hid (J1.out.beside hbs (by omega))
  replace OG := Lib.hid (OG.out.beside hbs (by omega))
  clear O1
  clear hoF ht hbs hFm hFr
  obtain ⟨k1_0, k1_1, k1_2, k1_3, k1_4⟩ := I1.out.cells5
  have k1_l : w.heap.size < w10.heap.size := I1.out.lt
  obtain ⟨j1_0, j1_1, j1_2, j1_3, j1_4⟩ := J1.out.cells5
  have j1_l : w5.heap.size < w10.heap.size := J1.out.lt
  generalize hkk : ((1 : Int)) + (cL' costT (x1).l : Nat) = k1 at hbnd ⊢
  have nk1 : ¬ (k1 < 0) := by omega
  clear hbnd0 hkk
  have hbk1 := hbnd; clear hbnd
  go_wp2_with fail
  refine (eqB_calls (writeWL x0 x1) _ _ _ _ _ _ _ _ w10 OG.out OW.out (by have := HLEN.out; omega)).mono ?_
  rintro e w11 ⟨rfl, hb⟩
  clear k1_0 k1_1 k1_2 k1_3 k1_4 k1_l j1_0 j1_1 j1_2 j1_3 j1_4 j1_l
  have sz7 : w10.heap.size ≤ w11.heap.size := hb.size
  have HB := Lib.hid (below_step HB.out hb (by omega))
  replace F1 := Lib.hid (F1.out.below hb (by omega))
  replace I1 := Lib.hid (I1.out.below hb (by omega))
  replace OW := Lib.hid (OW.out.below hb (by omega))
  replace J1 := Lib.hid (J1.out.below hb (by omega))
  replace OG := Lib.hid (OG.out.below hb (by omega))
  obtain ⟨k1_0, k1_1, k1_2, k1_3, k1_4⟩ := I1.out.cells5
  have k1_l : w.heap.size < w11.heap.size := I1.out.lt
  obtain ⟨j1_0, j1_1, j1_2, j1_3, j1_4⟩ := J1.out.cells5
  have j1_l : w5.heap.size < w11.heap.size := J1.out.lt
  clear hb
  go_wp2_with fail
  refine (markByteS_calls (writeWL x0 x1) aG _ 1 _ _ w11 (OG.out.more (lo' := w6.heap.size) (hi' := w7.heap.size) (by omega) (by omega)) (by have := HLEN.out; omega) (by omega) (by omega)).mono ?_
  rintro e w12 ⟨rfl, og, hbs, hszE⟩
  clear k1_0 k1_1 k1_2 k1_3 k1_4 k1_l j1_0 j1_1 j1_2 j1_3 j1_4 j1_l
  have sz8 : w11.heap.size ≤ w12.heap.size := by omega
  have HB := Lib.hid (below_step HB.out hbs.1 (by omega))
  replace F1 := Lib.hid (F1.out.below hbs.1 (by omega))
  replace I1 := Lib.hid (I1.out.beside hbs (by omega))
  replace OW := Lib.hid (OW.out.beside hbs (by omega))
  replace J1 := Lib.hid (J1.out.beside hbs (by omega))
  clear OG
  have OG := Lib.hid og; clear og hbs hszE
  obtain ⟨k1_0, k1_1, k1_2, k1_3, k1_4⟩ := I1.out.cells5
  have k1_l : w.heap.size < w12.heap.size := I1.out.lt
  obtain ⟨j1_0, j1_1, j1_2, j1_3, j1_4⟩ := J1.out.cells5
  have j1_l : w5.heap.size < w12.heap.size := J1.out.lt
  generalize hmm : (1 : Int) + ((writeWL x0 x1).length : Nat) = m1
  have hm0 : ¬ (m1 < 0) := by omega
  have HM := Lib.hid hmm; clear hmm
  go_wp2_with fail
  refine (heldByteS_calls (writeWL x0 x1).length _ _ 1 _ _ w12 OG.out (by have := HLEN.out; omega) (by omega) (by omega)).mono ?_
  rintro e w13 ⟨rfl, hb⟩
  rw [HM.out]
  clear k1_0 k1_1 k1_2 k1_3 k1_4 k1_l j1_0 j1_1 j1_2 j1_3 j1_4 j1_l
  have sz9 : w12.heap.size ≤ w13.heap.size := hb.size
  have HB := Lib.hid (below_step HB.out hb (by omega))
  replace F1 := Lib.hid (F1.out.below hb (by omega))
  replace I1 := Lib.hid (I1.out.below hb (by omega))
  replace OW := Lib.hid (OW.out.below hb (by omega))
  replace J1 := Lib.hid (J1.out.below hb (by omega))
  replace OG := Lib.hid (OG.out.below hb (by omega))
  obtain ⟨k1_0, k1_1, k1_2, k1_3, k1_4⟩ := I1.out.cells5
  have k1_l : w.heap.size < w13.heap.size := I1.out.lt
  obtain ⟨j1_0, j1_1, j1_2, j1_3, j1_4⟩ := J1.out.cells5
  have j1_l : w5.heap.size < w13.heap.size := J1.out.lt
  clear hb
  go_wp2_with fail
  refine (toVal_calls x1 a1 c1 w.heap.size w13 F1.out hwf1 (by omega) (by have := G1.out; omega)).mono ?_
  rintro e w14 ⟨bT2, rfl, ho, hb⟩
  clear k1_0 k1_1 k1_2 k1_3 k1_4 k1_l j1_0 j1_1 j1_2 j1_3 j1_4 j1_l
  have sz10 : w13.heap.size ≤ w14.heap.size := hb.size
  have HB := Lib.hid (below_step HB.out hb (by omega))
  replace F1 := Lib.hid (F1.out.below hb (by omega))
  replace I1 := Lib.hid (I1.out.below hb (by omega))
  replace OW := Lib.hid (OW.out.below hb (by omega))
  replace J1 := Lib.hid (J1.out.below hb (by omega))
  replace OG := Lib.hid (OG.out.below hb (by omega))
  obtain ⟨k1_0, k1_1, k1_2, k1_3, k1_4⟩ := I1.out.cells5
  have k1_l : w.heap.size < w14.heap.size := I1.out.lt
  obtain ⟨j1_0, j1_1, j1_2, j1_3, j1_4⟩ := J1.out.cells5
  have j1_l : w5.heap.size < w14.heap.size := J1.out.lt
  replace ho := Lib.hid ho; have T2 := ho; clear ho hb
  go_wp2_with fail
  refine (impl_Write x0 x1 _ _ _ w14 (T2.out.read.more (by omega)) hwf1 (by have := G1.out; omega) ((HENV.out.step HB.out).here HB.out.size) (Nat.le_refl _)).mono ?_
  rintro e w15 ⟨aH, cH, rfl, oh, hb⟩
  clear k1_0 k1_1 k1_2 k1_3 k1_4 k1_l j1_0 j1_1 j1_2 j1_3 j1_4 j1_l
  have sz11 : w14.heap.size ≤ w15.heap.size := hb.size
  have HB := Lib.hid (below_step HB.out hb (by omega))
  replace F1 := Lib.hid (F1.out.below hb (by omega))
  replace I1 := Lib.hid (I1.out.below hb (by omega))
  replace OW := Lib.hid (OW.out.below hb (by omega))
  replace J1 := Lib.hid (J1.out.below hb (by omega))
  replace OG := Lib.hid (OG.out.below hb (by omega))
  replace T2 := Lib.hid (T2.out.below hb (by omega))
  obtain ⟨k1_0, k1_1, k1_2, k1_3, k1_4⟩ := I1.out.cells5
  have k1_l : w.heap.size < w15.heap.size := I1.out.lt
  obtain ⟨j1_0, j1_1, j1_2, j1_3, j1_4⟩ := J1.out.cells5
  have j1_l : w5.heap.size < w15.heap.size := J1.out.lt
  have OH := Lib.hid oh; clear oh hb
  clear T2
  go_wp2_with fail
  refine (eqB_calls (writeWL x0 x1) _ _ _ _ _ _ _ _ w15 OH.out OW.out (by have := HLEN.out; omega)).mono ?_
  rintro e w16 ⟨rfl, hb⟩
  clear k1_0 k1_1 k1_2 k1_3 k1_4 k1_l j1_0 j1_1 j1_2 j1_3 j1_4 j1_l
  have sz12 : w15.heap.size ≤ w16.heap.size := hb.size
  have HB := Lib.hid (below_step HB.out hb (by omega))
  replace F1 := Lib.hid (F1.out.below hb (by omega))
  replace I1 := Lib.hid (I1.out.below hb (by omega))
  replace OW := Lib.hid (OW.out.below hb (by omega))
  replace J1 := Lib.hid (J1.out.below hb (by omega))
  replace OG := Lib.hid (OG.out.below hb (by omega))
  replace OH := Lib.hid (OH.out.below hb (by omega))
  obtain ⟨k1_0, k1_1, k1_2, k1_3, k1_4⟩ := I1.out.cells5
  have k1_l : w.heap.size < w16.heap.size := I1.out.lt
  obtain ⟨j1_0, j1_1, j1_2, j1_3, j1_4⟩ := J1.out.cells5
  have j1_l : w5.heap.size < w16.heap.size := J1.out.lt
  clear hb
  go_wp2_with fail
  refine (heldByteS_calls (writeWL x0 x1).length _ _ 1 _ _ w16 OG.out (by have := HLEN.out; omega) (by omega) (by omega)).mono ?_
  rintro e w17 ⟨rfl, hb⟩
  rw [HM.out]
  clear k1_0 k1_1 k1_2 k1_3 k1_4 k1_l j1_0 j1_1 j1_2 j1_3 j1_4 j1_l
  have sz13 : w16.heap.size ≤ w17.heap.size := hb.size
  have HB := Lib.hid (below_step HB.out hb (by omega))
  replace F1 := Lib.hid (F1.out.below hb (by omega))
  replace I1 := Lib.hid (I1.out.below hb (by omega))
  replace OW := Lib.hid (OW.out.below hb (by omega))
  replace J1 := Lib.hid (J1.out.below hb (by omega))
  replace OG := Lib.hid (OG.out.below hb (by omega))
  replace OH := Lib.hid (OH.out.below hb (by omega))
  obtain ⟨k1_0, k1_1, k1_2, k1_3, k1_4⟩ := I1.out.cells5
  have k1_l : w.heap.size < w17.heap.size := I1.out.lt
  obtain ⟨j1_0, j1_1, j1_2, j1_3, j1_4⟩ := J1.out.cells5
  have j1_l : w5.heap.size < w17.heap.size := J1.out.lt
  clear hb
  go_wp2_with fail
  go_ret
  exact ⟨rfl, HB.out⟩
end Go.Proofs.YthpmfkkmhbbloaaGreatDoor
