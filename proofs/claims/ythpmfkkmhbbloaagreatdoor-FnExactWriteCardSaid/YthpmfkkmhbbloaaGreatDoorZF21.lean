/- Texts of this proof, merged: FitsW, LawFitsWay. No condition beyond what each theorem states. -/
import Derived.Test.YthpmfkkmhbbloaaGreatDoorRows
import Derived.WalkKit
import Derived.ProofKit
import Derived.OpenShut
import Derived.Handy
import Derived.Lib.Hide
import Derived.Lib.SmallJoins
import Derived.Deep.RegionHeld3
import Derived.Deep.QuietTactic
import Derived.BigQuiet
import Derived.Test.YthpmfkkmhbbloaaGreatDoorZF1
import Derived.Test.YthpmfkkmhbbloaaGreatDoorZF2
import Derived.Test.YthpmfkkmhbbloaaGreatDoorZF3
import Derived.Test.YthpmfkkmhbbloaaGreatDoorZF7
import Derived.Test.YthpmfkkmhbbloaaGreatDoorZF8
import Derived.Test.YthpmfkkmhbbloaaGreatDoorShelf
import Derived.Test.YthpmfkkmhbbloaaGreatDoorZF4
import Derived.Test.YthpmfkkmhbbloaaGreatDoorZF5
import Derived.Test.YthpmfkkmhbbloaaGreatDoorZF6
import Derived.Test.YthpmfkkmhbbloaaGreatDoorZF9
import Derived.Test.YthpmfkkmhbbloaaGreatDoorZF16
import Derived.Test.YthpmfkkmhbbloaaGreatDoorZF18
import Derived.Test.YthpmfkkmhbbloaaGreatDoorZF20
set_option linter.unusedSimpArgs false
set_option linter.unnecessarySimpa false
namespace Go.Proofs.YthpmfkkmhbbloaaGreatDoor
open Go.ChangeShapes Go.WideShapes Go.ChangeAt Go.RowKit Go.Joins
set_option linter.unusedVariables false
set_option maxRecDepth 100000
def fitsWayB (way : Int) (t : T) : Bool :=
  if way = 1 then (allB ownB t && allB fitTB t) else if way = 2 then (allB ownB t && allB tightU t) else if way = 3 then (allB ownB t && allB packB t)
  else if way = 4 then (allB ownB t && allB fitB t) else false
set_option maxHeartbeats 1000000 in
theorem spec_FitsWay (way : Int) (t : T) (a : Option Addr) (cap B : Nat) (w : World) (hr : R w B a cap t.l) (hwf : Wf t) (hsz : T.sz t ≤ 1048576) (hB : B ≤ w.heap.size) :
    Calls Tryz.prog 6 #[.int .i64 way, .agg (cV t a cap)] w fun e w' => e = .returned (.bool (fitsWayB way t)) ∧ Below w.heap.size w w' := by
  have HR := Lib.hid (hr.below (below1 w (.cells (cV t a cap) 29)) hB)
  have HWF := Lib.hid hwf
  have hBw : B ≤ (w.alloc (.cells (cV t a cap) 29)).heap.size := by simp; omega
  have H0 := Lib.hid (below1 w (.cells (cV t a cap) 29))
  clear hr hwf
  by_cases h1 : way = 1
  · have HD := Lib.hid (show fitsWayB way t = _ from if_pos h1)
    subst h1
    have CC := Lib.hid (spec_FitsText t a cap B _ HR.out HWF.out hsz hBw)
    go_enter Tryz.func6, Tryz.ntmps6
    go_wp2_with fail
    refine CC.out.mono ?_
    rintro e w2 ⟨rfl, hb2⟩
    have HB2 := Lib.hid (below_step H0.out hb2 (by simp))
    clear hb2
    go_wp2_with fail
    go_ret
    exact ⟨ret_b (by rw [HD.out]), HB2.out⟩
  by_cases h2 : way = 2
  · have HD := Lib.hid (show fitsWayB way t = _ from (if_neg h1).trans (if_pos h2))
    subst h2
    have CC := Lib.hid (spec_FitsTight t a cap B _ HR.out HWF.out hsz hBw)
    go_enter Tryz.func6, Tryz.ntmps6
    go_wp2_with fail
    refine CC.out.mono ?_
    rintro e w2 ⟨rfl, hb2⟩
    have HB2 := Lib.hid (below_step H0.out hb2 (by simp))
    clear hb2
    go_wp2_with fail
    go_ret
    exact ⟨ret_b (by rw [HD.out]), HB2.out⟩
  by_cases h3 : way = 3
  · have HD := Lib.hid (show fitsWayB way t = _ from (if_neg h1).trans ((if_neg h2).trans (if_pos h3)))
    subst h3
    have CC := Lib.hid (spec_FitsPacked t a cap B _ HR.out HWF.out hsz hBw)
    go_enter Tryz.func6, Tryz.ntmps6
    go_wp2_with fail
    refine CC.out.mono ?_
    rintro e w2 ⟨rfl, hb2⟩
    have HB2 := Lib.hid (below_step H0.out hb2 (by simp))
    clear hb2
    go_wp2_with fail
    go_ret
    exact ⟨ret_b (by rw [HD.out]), HB2.out⟩
  by_cases h4 : way = 4
  · have HD := Lib.hid (show fitsWayB way t = _ from (if_neg h1).trans ((if_neg h2).trans ((if_neg h3).trans (if_pos h4))))
    subst h4
    have CC := Lib.hid (spec_FitsPlain t a cap B _ HR.out HWF.out hsz hBw)
    go_enter Tryz.func6, Tryz.ntmps6
    go_wp2_with fail
    refine CC.out.mono ?_
    rintro e w2 ⟨rfl, hb2⟩
    have HB2 := Lib.hid (below_step H0.out hb2 (by simp))
    clear hb2
    go_wp2_with fail
    go_ret
    exact ⟨ret_b (by rw [HD.out]), HB2.out⟩
  have HD := Lib.hid (show fitsWayB way t = false from (if_neg h1).trans ((if_neg h2).trans ((if_neg h3).trans (if_neg h4))))
  go_enter Tryz.func6, Tryz.ntmps6
  go_wp2_with fail
  go_ret
  exact ⟨ret_b (by rw [HD.out]), H0.out⟩
set_option maxHeartbeats 1000000 in
theorem impl_FitsWay (way : Int) (t : T) (a : Option Addr) (cap B : Nat) (w : World) (hr : R w B a cap t.l) (hwf : Wf t) (hsz : T.sz t ≤ 1048576) (he : Env B w) (hB : B ≤ w.heap.size) :
    Calls Tryz.prog 8 #[.int .i64 way, .agg (cV t a cap)] w fun e w' => e = .returned (.bool (fitsWayB way t)) ∧ Below w.heap.size w w' := by
  have HR := Lib.hid (hr.below (below1 w (.cells (cV t a cap) 29)) hB)
  have HWF := Lib.hid hwf
  have hBw : B ≤ (w.alloc (.cells (cV t a cap) 29)).heap.size := by simp; omega
  have HE := Lib.hid (he.step ((below1 w (.cells (cV t a cap) 29)).mono hB)); clear he
  have H0 := Lib.hid (below1 w (.cells (cV t a cap) 29))
  clear hr hwf
  by_cases h1 : way = 1
  · have HD := Lib.hid (show fitsWayB way t = _ from if_pos h1)
    subst h1
    have CC := Lib.hid (impl_FitsText t a cap B _ HR.out HWF.out hsz HE.out hBw)
    go_enter Tryz.func8, Tryz.ntmps8
    go_wp2_with fail
    refine CC.out.mono ?_
    rintro e w2 ⟨rfl, hb2⟩
    have HB2 := Lib.hid (below_step H0.out hb2 (by simp))
    clear hb2
    go_wp2_with fail
    go_ret
    exact ⟨ret_b (by rw [HD.out]), HB2.out⟩
  by_cases h2 : way = 2
  · have HD := Lib.hid (show fitsWayB way t = _ from (if_neg h1).trans (if_pos h2))
    subst h2
    have CC := Lib.hid (impl_FitsTight t a cap B _ HR.out HWF.out hsz HE.out hBw)
    go_enter Tryz.func8, Tryz.ntmps8
    go_wp2_with fail
    refine CC.out.mono ?_
    rintro e w2 ⟨rfl, hb2⟩
    have HB2 := Lib.hid (below_step H0.out hb2 (by simp))
    clear hb2
    go_wp2_with fail
    go_ret
    exact ⟨ret_b (by rw [HD.out]), HB2.out⟩
  by_cases h3 : way = 3
  · have HD := Lib.hid (show fitsWayB way t = _ from (if_neg h1).trans ((if_neg h2).trans (if_pos h3)))
    subst h3
    have CC := Lib.hid (impl_FitsPacked t a cap B _ HR.out HWF.out hsz HE.out hBw)
    go_enter Tryz.func8, Tryz.ntmps8
    go_wp2_with fail
    refine CC.out.mono ?_
    rintro e w2 ⟨rfl, hb2⟩
    have HB2 := Lib.hid (below_step H0.out hb2 (by simp))
    clear hb2
    go_wp2_with fail
    go_ret
    exact ⟨ret_b (by rw [HD.out]), HB2.out⟩
  by_cases h4 : way = 4
  · have HD := Lib.hid (show fitsWayB way t = _ from (if_neg h1).trans ((if_neg h2).trans ((if_neg h3).trans (if_pos h4))))
    subst h4
    have CC := Lib.hid (impl_FitsPlain t a cap B _ HR.out HWF.out hsz HE.out hBw)
    go_enter Tryz.func8, Tryz.ntmps8
    go_wp2_with fail
    refine CC.out.mono ?_
    rintro e w2 ⟨rfl, hb2⟩
    have HB2 := Lib.hid (below_step H0.out hb2 (by simp))
    clear hb2
    go_wp2_with fail
    go_ret
    exact ⟨ret_b (by rw [HD.out]), HB2.out⟩
  have HD := Lib.hid (show fitsWayB way t = false from (if_neg h1).trans ((if_neg h2).trans ((if_neg h3).trans (if_neg h4))))
  go_enter Tryz.func8, Tryz.ntmps8
  go_wp2_with fail
  go_ret
  exact ⟨ret_b (by rw [HD.out]), H0.out⟩
end Go.Proofs.YthpmfkkmhbbloaaGreatDoor
namespace Go.Proofs.YthpmfkkmhbbloaaGreatDoor
open Go.ChangeShapes Go.WideShapes Go.ChangeAt Go.RowKit Go.Joins
set_option linter.unusedVariables false
set_option maxRecDepth 100000
set_option maxHeartbeats 4000000 in
theorem FnExactFitsWay_walk (x0 : Int) (x1 : T) (a1 : Option Addr) (c1 B1 : Nat) (w : World) (hi0 : I64 x0) (hr1 : R w B1 a1 c1 x1.l) (hwf1 : Wf x1) (hB1 : B1 ≤ w.heap.size) (henv : Env w.heap.size w) :
    Calls Tryz.prog 3 #[.int .i64 x0, .agg (cV x1 a1 c1)] w fun e w' => e = .returned (.bool true) ∧ Below w.heap.size w w' := by
  have HENV := Lib.hid henv; clear henv
  have F1 : Hid (R w w.heap.size a1 c1 x1.l) := Lib.hid (hr1.more hB1)
  clear hr1
  have HB : Hid (Below w.heap.size w w) := Lib.hid (Below.refl _ _)
  go_enter Tryz.func3, Tryz.ntmps3
  go_wp2_with fail
  generalize hW : (w.alloc (.cells (cV x1 a1 c1) 24)) = w1
  have hb1 : Below w.heap.size w w1 := by subst hW; exact below1 _ _
  have z1 : w1.heap.size = w.heap.size + 1 := by subst hW; simp
  have I1 : Hid (Is w1 w.heap.size 24 (cV x1 a1 c1)) := Lib.hid (by subst hW; exact Is.new w _ _)
  clear hW
  have HB := Lib.hid (below_step HB.out hb1 (by omega))
  replace F1 := Lib.hid (F1.out.below hb1 (by omega))
  obtain ⟨k1_0, k1_1, k1_2, k1_3, k1_4⟩ := I1.out.cells5
  have k1_l : w.heap.size < w1.heap.size := I1.out.lt
  clear hb1
  -- region 2: laws.szVal
  go_wp2_with fail
  refine (szVal_calls x1 a1 c1 1048576 w.heap.size w1 F1.out hwf1 (by omega) (by omega) (by omega)).mono ?_
  rintro e w2 ⟨r1, rfl, u1, v1, G1, hb⟩
  clear k1_0 k1_1 k1_2 k1_3 k1_4 k1_l
  have s0 : w1.heap.size ≤ w2.heap.size := hb.size
  have HB := Lib.hid (below_step HB.out hb (by omega))
  replace F1 := Lib.hid (F1.out.below hb (by omega))
  replace I1 := Lib.hid (I1.out.below hb (by omega))
  obtain ⟨k1_0, k1_1, k1_2, k1_3, k1_4⟩ := I1.out.cells5
  have k1_l : w.heap.size < w2.heap.size := I1.out.lt
  clear hb
  by_cases hneg : r1 < 0
  · go_wp2_with fail
    go_ret
    exact ⟨rfl, HB.out⟩
  replace G1 := Lib.hid (G1 (by omega))
  -- region 5: laws.toVal spec.FitsWay
  go_wp2_with fail
  refine (toVal_calls x1 a1 c1 w.heap.size w2 F1.out hwf1 (by omega) (by have := G1.out; omega)).mono ?_
  rintro e w3 ⟨b1, rfl, ho, hb⟩
  clear k1_0 k1_1 k1_2 k1_3 k1_4 k1_l
  have s1 : w2.heap.size ≤ w3.heap.size := hb.size
  have HB := Lib.hid (below_step HB.out hb (by omega))
  replace F1 := Lib.hid (F1.out.below hb (by omega))
  replace I1 := Lib.hid (I1.out.below hb (by omega))
  obtain ⟨k1_0, k1_1, k1_2, k1_3, k1_4⟩ := I1.out.cells5
  have k1_l : w.heap.size < w3.heap.size := I1.out.lt
  replace ho := Lib.hid ho; have T1 := ho; clear ho hb
  go_wp2_with fail
  refine (spec_FitsWay x0 x1 _ _ _ w3 (T1.out.read.more (by omega)) hwf1 (by have := G1.out; omega) (Nat.le_refl _)).mono ?_
  rintro e w4 ⟨rfl, hb⟩
  clear k1_0 k1_1 k1_2 k1_3 k1_4 k1_l
  have s2 : w3.heap.size ≤ w4.heap.size := hb.size
  have HB := Lib.hid (below_step HB.out hb (by omega))
  replace F1 := Lib.hid (F1.out.below hb (by omega))
  replace I1 := Lib.hid (I1.out.below hb (by omega))
  replace T1 := Lib.hid (T1.out.below hb (by omega))
  obtain ⟨k1_0, k1_1, k1_2, k1_3, k1_4⟩ := I1.out.cells5
  have k1_l : w.heap.size < w4.heap.size := I1.out.lt
  clear hb
  clear T1
  -- region 6: laws.toVal
  go_wp2_with fail
  refine (toVal_calls x1 a1 c1 w.heap.size w4 F1.out hwf1 (by omega) (by have := G1.out; omega)).mono ?_
  rintro e w5 ⟨d1, rfl, ho, hb⟩
  clear k1_0 k1_1 k1_2 k1_3 k1_4 k1_l
  have s3 : w4.heap.size ≤ w5.heap.size := hb.size
  have HB := Lib.hid (below_step HB.out hb (by omega))
  replace F1 := Lib.hid (F1.out.below hb (by omega))
  replace I1 := Lib.hid (I1.out.below hb (by omega))
  obtain ⟨k1_0, k1_1, k1_2, k1_3, k1_4⟩ := I1.out.cells5
  have k1_l : w.heap.size < w5.heap.size := I1.out.lt
  replace ho := Lib.hid ho; have O1 := ho; clear ho hb
  go_wp2_with fail
  generalize hW : w5.alloc (.cells (cV x1 d1 x1.l.length) 29) = w6
  have hb : Below w5.heap.size w5 w6 := by subst hW; exact below1 _ _
  have J1 : Hid (Is w6 w5.heap.size 29 (cV x1 d1 x1.l.length)) := Lib.hid (by subst hW; exact Is.new _ _ _)
  have z6 : w6.heap.size = w5.heap.size + 1 := by subst hW; simp
  clear hW
  clear k1_0 k1_1 k1_2 k1_3 k1_4 k1_l
  have HB := Lib.hid (below_step HB.out hb (by omega))
  replace F1 := Lib.hid (F1.out.below hb (by omega))
  replace I1 := Lib.hid (I1.out.below hb (by omega))
  replace O1 := Lib.hid (O1.out.below hb (by omega))
  obtain ⟨k1_0, k1_1, k1_2, k1_3, k1_4⟩ := I1.out.cells5
  have k1_l : w.heap.size < w6.heap.size := I1.out.lt
  obtain ⟨j1_0, j1_1, j1_2, j1_3, j1_4⟩ := J1.out.cells5
  have j1_l : w5.heap.size < w6.heap.size := J1.out.lt
  clear hb
  -- region 7: impl.FitsWay
  go_wp2_with fail
  refine (impl_FitsWay x0 x1 _ _ _ w6 (O1.out.read.more (by omega)) hwf1 (by have := G1.out; omega) ((HENV.out.step HB.out).here HB.out.size) (Nat.le_refl _)).mono ?_
  rintro e w7 ⟨rfl, hb⟩
  clear k1_0 k1_1 k1_2 k1_3 k1_4 j1_0 j1_1 j1_2 j1_3 j1_4 k1_l j1_l
  have s4 : w6.heap.size ≤ w7.heap.size := hb.size
  have HB := Lib.hid (below_step HB.out hb (by omega))
  replace F1 := Lib.hid (F1.out.below hb (by omega))
  replace I1 := Lib.hid (I1.out.below hb (by omega))
  replace O1 := Lib.hid (O1.out.below hb (by omega))
  replace J1 := Lib.hid (J1.out.below hb (by omega))
  obtain ⟨k1_0, k1_1, k1_2, k1_3, k1_4⟩ := I1.out.cells5
  have k1_l : w.heap.size < w7.heap.size := I1.out.lt
  obtain ⟨j1_0, j1_1, j1_2, j1_3, j1_4⟩ := J1.out.cells5
  have j1_l : w5.heap.size < w7.heap.size := J1.out.lt
  clear hb
  -- region 10: laws.toVal laws.eqVal
  go_wp2_with fail
  go_region_held3 (fun w' => (∀ b o, b < w7.heap.size → w'.cell? ⟨b, o, none⟩ = w7.cell? ⟨b, o, none⟩) ∧ Below (w7.heap.size) w7 w') (first | exact ⟨fun _ _ _ => rfl, (Below.refl _ _).drew⟩ | exact keep_step (by assumption) (Below.drew (Below.refl _ _)) (Nat.le_refl _) | exact keep_step (by assumption) (by assumption) (by first | omega | (simp only [World.size_drew]; omega) | (simp only [size_alloc]; omega) | (simp only [World.size_drew, size_alloc]; omega) | (have := (‹(_ ∧ Below (w7.heap.size) w7 _)›).2.size; first | omega | (simp only [World.size_drew]; omega) | (simp only [size_alloc]; omega) | (simp only [World.size_drew, size_alloc]; omega) | (simp only [World.size_drew] at this; omega) | (simp only [size_alloc] at this; omega) | (simp only [World.size_drew, size_alloc] at this; omega))) | exact keep_step (by assumption) (below1 _ _) (by first | omega | (simp only [World.size_drew]; omega) | (simp only [size_alloc]; omega) | (simp only [World.size_drew, size_alloc]; omega) | (have := (‹(_ ∧ Below (w7.heap.size) w7 _)›).2.size; first | omega | (simp only [World.size_drew]; omega) | (simp only [size_alloc]; omega) | (simp only [World.size_drew, size_alloc]; omega) | (simp only [World.size_drew] at this; omega) | (simp only [size_alloc] at this; omega) | (simp only [World.size_drew, size_alloc] at this; omega)))) (first | (go_at_call 7; refine (toVal_calls _ _ _ w.heap.size _ ?_ ?_ (by have := (‹_ ∧ Below (w7.heap.size) w7 _›).2.size; omega) (by first | (have := G1.out; omega))).mono ?_; (first | exact F1.out.below (‹_ ∧ Below (w7.heap.size) w7 _›).2 (by omega)); (first | exact hwf1); rintro e v ⟨a, rfl, ho, hb⟩) | (go_at_call 9; refine (eqVal_calls x1 _ _ _ _ _ _ ?_ ?_ hwf1 (Nat.le_refl _)).mono ?_; (exact (O1.out.read.below (‹_ ∧ Below (w7.heap.size) w7 _›).2 (by omega)).more (by have := ‹Below _ _ _›.size; have := (‹_ ∧ Below (w7.heap.size) w7 _›).2.size; omega)); (exact (‹Own _ _ _ _ _ x1.l›).read); rintro e v ⟨rfl, hb⟩))
  have hb := (‹_ ∧ Below (w7.heap.size) w7 _›).2
  rename World => w8
  clear k1_0 k1_1 k1_2 k1_3 k1_4 j1_0 j1_1 j1_2 j1_3 j1_4 k1_l j1_l
  have s5 : w7.heap.size ≤ w8.heap.size := hb.size
  have HB := Lib.hid (below_step HB.out hb (by omega))
  replace F1 := Lib.hid (F1.out.below hb (by omega))
  replace I1 := Lib.hid (I1.out.below hb (by omega))
  replace O1 := Lib.hid (O1.out.below hb (by omega))
  replace J1 := Lib.hid (J1.out.below hb (by omega))
  obtain ⟨k1_0, k1_1, k1_2, k1_3, k1_4⟩ := I1.out.cells5
  have k1_l : w.heap.size < w8.heap.size := I1.out.lt
  obtain ⟨j1_0, j1_1, j1_2, j1_3, j1_4⟩ := J1.out.cells5
  have j1_l : w5.heap.size < w8.heap.size := J1.out.lt
  clear hb
  go_wp2_with fail
  go_ret
  exact ⟨rfl, HB.out⟩
end Go.Proofs.YthpmfkkmhbbloaaGreatDoor
