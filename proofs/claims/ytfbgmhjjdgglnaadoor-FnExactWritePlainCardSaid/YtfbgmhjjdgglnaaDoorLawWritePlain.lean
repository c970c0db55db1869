/- Contracts and lemmas for the proofs of this seat: LawWritePlain. No condition beyond those stated. -/
import Derived.Test.YtfbgmhjjdgglnaaDoorRows
import Derived.WalkKit
import Derived.ProofKit
import Derived.OpenShut
import Derived.Handy
import Derived.Lib.Hide
import Derived.Lib.SmallJoins
import Derived.Deep.RegionHeld3
import Derived.Test.YtfbgmhjjdgglnaaDoorBase
import Derived.Test.YtfbgmhjjdgglnaaDoorGen
import Derived.Test.YtfbgmhjjdgglnaaDoorKit
import Derived.Test.YtfbgmhjjdgglnaaDoorMark
import Derived.Test.YtfbgmhjjdgglnaaDoorApp
import Derived.Test.YtfbgmhjjdgglnaaDoorMarkV
import Derived.Test.YtfbgmhjjdgglnaaDoorLawVal
import Derived.Test.YtfbgmhjjdgglnaaDoorOpenL
import Derived.Test.YtfbgmhjjdgglnaaDoorSame2
import Derived.Test.YtfbgmhjjdgglnaaDoorOwnS
import Derived.Test.YtfbgmhjjdgglnaaDoorEvery
import Derived.Test.YtfbgmhjjdgglnaaDoorFitsP
import Derived.Test.YtfbgmhjjdgglnaaDoorWriA
import Derived.Test.YtfbgmhjjdgglnaaDoorWriP
namespace Go.Proofs.YtfbgmhjjdgglnaaDoor
open Go.ChangeShapes Go.WideShapes Go.ChangeAt Go.RowKit Go.Joins
set_option linter.unusedVariables false
set_option maxRecDepth 100000
set_option maxHeartbeats 4000000 in
theorem FnExactWritePlain_walk (x0 : T) (a0 : Option Addr) (c0 B0 : Nat) (w : World) (hr0 : R w B0 a0 c0 x0.l) (hwf0 : Wf x0) (hB0 : B0 ≤ w.heap.size) (henv : Env w.heap.size w) :
    Calls Tryd.prog 7 #[.agg (cV x0 a0 c0)] w fun e w' => e = .returned (.bool true) ∧ Below w.heap.size w w' := by
  have HENV := Lib.hid henv; clear henv
  have F0 : Hid (R w w.heap.size a0 c0 x0.l) := Lib.hid (hr0.more hB0)
  clear hr0
  have HB : Hid (Below w.heap.size w w) := Lib.hid (Below.refl _ _)
  go_enter Tryd.func7, Tryd.ntmps7
  go_wp2_with fail
  generalize hW : (w.alloc (.cells (cV x0 a0 c0) 24)) = w1
  have hb1 : Below w.heap.size w w1 := by subst hW; exact below1 _ _
  have z1 : w1.heap.size = w.heap.size + 1 := by subst hW; simp
  have I0 : Hid (Is w1 w.heap.size 24 (cV x0 a0 c0)) := Lib.hid (by subst hW; exact Is.new w _ _)
  clear hW
  have HB := Lib.hid (below_step HB.out hb1 (by omega))
  replace F0 := Lib.hid (F0.out.below hb1 (by omega))
  obtain ⟨k0_0, k0_1, k0_2, k0_3, k0_4⟩ := I0.out.cells5
  have k0_l : w.heap.size < w1.heap.size := I0.out.lt
  clear hb1
  -- region 2: laws.szVal
  go_wp2_with fail
  refine (szVal_calls x0 a0 c0 1048576 w.heap.size w1 F0.out hwf0 (by omega) (by omega) (by omega)).mono ?_
  rintro e w2 ⟨r0, rfl, u0, v0, G0, hb⟩
  clear k0_0 k0_1 k0_2 k0_3 k0_4 k0_l
  have s0 : w1.heap.size ≤ w2.heap.size := hb.size
  have HB := Lib.hid (below_step HB.out hb (by omega))
  replace F0 := Lib.hid (F0.out.below hb (by omega))
  replace I0 := Lib.hid (I0.out.below hb (by omega))
  obtain ⟨k0_0, k0_1, k0_2, k0_3, k0_4⟩ := I0.out.cells5
  have k0_l : w.heap.size < w2.heap.size := I0.out.lt
  clear hb
  by_cases hneg : r0 < 0
  · go_wp2_with fail
    go_ret
    exact ⟨rfl, HB.out⟩
  replace G0 := Lib.hid (G0 (by omega))
  -- region 5: laws.toVal spec.WritePlain
  go_wp2_with fail
  refine (toVal_calls x0 a0 c0 w.heap.size w2 F0.out hwf0 (by omega) (by have := G0.out; omega)).mono ?_
  rintro e w3 ⟨b0, rfl, ho, hb⟩
  clear k0_0 k0_1 k0_2 k0_3 k0_4 k0_l
  have s1 : w2.heap.size ≤ w3.heap.size := hb.size
  have HB := Lib.hid (below_step HB.out hb (by omega))
  replace F0 := Lib.hid (F0.out.below hb (by omega))
  replace I0 := Lib.hid (I0.out.below hb (by omega))
  obtain ⟨k0_0, k0_1, k0_2, k0_3, k0_4⟩ := I0.out.cells5
  have k0_l : w.heap.size < w3.heap.size := I0.out.lt
  replace ho := Lib.hid ho; have T0 := ho; clear ho hb
  go_wp2_with fail
  refine (spec_WritePlain x0 _ _ _ w3 (T0.out.read.more (by omega)) hwf0 (by have := G0.out; omega) (Nat.le_refl _)).mono ?_
  rintro e w4 ⟨rfl, hb⟩
  clear k0_0 k0_1 k0_2 k0_3 k0_4 k0_l
  have s2 : w3.heap.size ≤ w4.heap.size := hb.size
  have HB := Lib.hid (below_step HB.out hb (by omega))
  replace F0 := Lib.hid (F0.out.below hb (by omega))
  replace I0 := Lib.hid (I0.out.below hb (by omega))
  replace T0 := Lib.hid (T0.out.below hb (by omega))
  obtain ⟨k0_0, k0_1, k0_2, k0_3, k0_4⟩ := I0.out.cells5
  have k0_l : w.heap.size < w4.heap.size := I0.out.lt
  clear hb
  clear T0
  -- region 6: laws.toVal
  go_wp2_with fail
  refine (toVal_calls x0 a0 c0 w.heap.size w4 F0.out hwf0 (by omega) (by have := G0.out; omega)).mono ?_
  rintro e w5 ⟨d0, rfl, ho, hb⟩
  clear k0_0 k0_1 k0_2 k0_3 k0_4 k0_l
  have s3 : w4.heap.size ≤ w5.heap.size := hb.size
  have HB := Lib.hid (below_step HB.out hb (by omega))
  replace F0 := Lib.hid (F0.out.below hb (by omega))
  replace I0 := Lib.hid (I0.out.below hb (by omega))
  obtain ⟨k0_0, k0_1, k0_2, k0_3, k0_4⟩ := I0.out.cells5
  have k0_l : w.heap.size < w5.heap.size := I0.out.lt
  replace ho := Lib.hid ho; have O0 := ho; clear ho hb
  go_wp2_with fail
  generalize hW : w5.alloc (.cells (cV x0 d0 x0.l.length) 31) = w6
  have hb : Below w5.heap.size w5 w6 := by subst hW; exact below1 _ _
  have J0 : Hid (Is w6 w5.heap.size 31 (cV x0 d0 x0.l.length)) := Lib.hid (by subst hW; exact Is.new _ _ _)
  have z6 : w6.heap.size = w5.heap.size + 1 := by subst hW; simp
  clear hW
  clear k0_0 k0_1 k0_2 k0_3 k0_4 k0_l
  have HB := Lib.hid (below_step HB.out hb (by omega))
  replace F0 := Lib.hid (F0.out.below hb (by omega))
  replace I0 := Lib.hid (I0.out.below hb (by omega))
  replace O0 := Lib.hid (O0.out.below hb (by omega))
  obtain ⟨k0_0, k0_1, k0_2, k0_3, k0_4⟩ := I0.out.cells5
  have k0_l : w.heap.size < w6.heap.size := I0.out.lt
  obtain ⟨j0_0, j0_1, j0_2, j0_3, j0_4⟩ := J0.out.cells5
  have j0_l : w5.heap.size < w6.heap.size := J0.out.lt
  clear hb
  -- region 7: impl.WritePlain
  go_wp2_with fail
  refine (impl_WritePlain x0 _ _ _ w6 (O0.out.read.more (by omega)) hwf0 (by have := G0.out; omega) ((HENV.out.step HB.out).here HB.out.size) (Nat.le_refl _)).mono ?_
  rintro e w7 ⟨rfl, hb⟩
  clear k0_0 k0_1 k0_2 k0_3 k0_4 j0_0 j0_1 j0_2 j0_3 j0_4 k0_l j0_l
  have s4 : w6.heap.size ≤ w7.heap.size := hb.size
  have HB := Lib.hid (below_step HB.out hb (by omega))
  replace F0 := Lib.hid (F0.out.below hb (by omega))
  replace I0 := Lib.hid (I0.out.below hb (by omega))
  replace O0 := Lib.hid (O0.out.below hb (by omega))
  replace J0 := Lib.hid (J0.out.below hb (by omega))
  obtain ⟨k0_0, k0_1, k0_2, k0_3, k0_4⟩ := I0.out.cells5
  have k0_l : w.heap.size < w7.heap.size := I0.out.lt
  obtain ⟨j0_0, j0_1, j0_2, j0_3, j0_4⟩ := J0.out.cells5
  have j0_l : w5.heap.size < w7.heap.size := J0.out.lt
  clear hb
  -- region 10: laws.toVal laws.eqVal
  go_wp2_with fail
  go_region_held3 (fun w' => (∀ b o, b < w7.heap.size → w'.cell? ⟨b, o, none⟩ = w7.cell? ⟨b, o, none⟩) ∧ Below (w7.heap.size) w7 w') (first | exact ⟨fun _ _ _ => rfl, (Below.refl _ _).drew⟩ | exact keep_step (by assumption) (Below.drew (Below.refl _ _)) (Nat.le_refl _) | exact keep_step (by assumption) (by assumption) (by first | omega | (simp only [World.size_drew]; omega) | (simp only [size_alloc]; omega) | (simp only [World.size_drew, size_alloc]; omega) | (have := (‹(_ ∧ Below (w7.heap.size) w7 _)›).2.size; first | omega | (simp only [World.size_drew]; omega) | (simp only [size_alloc]; omega) | (simp only [World.size_drew, size_alloc]; omega) | (simp only [World.size_drew] at this; omega) | (simp only [size_alloc] at this; omega) | (simp only [World.size_drew, size_alloc] at this; omega))) | exact keep_step (by assumption) (below1 _ _) (by first | omega | (simp only [World.size_drew]; omega) | (simp only [size_alloc]; omega) | (simp only [World.size_drew, size_alloc]; omega) | (have := (‹(_ ∧ Below (w7.heap.size) w7 _)›).2.size; first | omega | (simp only [World.size_drew]; omega) | (simp only [size_alloc]; omega) | (simp only [World.size_drew, size_alloc]; omega) | (simp only [World.size_drew] at this; omega) | (simp only [size_alloc] at this; omega) | (simp only [World.size_drew, size_alloc] at this; omega)))) (first | (go_at_call 11; refine (toVal_calls _ _ _ w.heap.size _ ?_ ?_ (by have := (‹_ ∧ Below (w7.heap.size) w7 _›).2.size; omega) (by first | (have := G0.out; omega))).mono ?_; (first | exact F0.out.below (‹_ ∧ Below (w7.heap.size) w7 _›).2 (by omega)); (first | exact hwf0); rintro e v ⟨a, rfl, ho, hb⟩) | (go_at_call 14; refine (eqVal_calls x0 _ _ _ _ _ _ ?_ ?_ hwf0 (Nat.le_refl _)).mono ?_; (exact (O0.out.read.below (‹_ ∧ Below (w7.heap.size) w7 _›).2 (by omega)).more (by have := ‹Below _ _ _›.size; have := (‹_ ∧ Below (w7.heap.size) w7 _›).2.size; omega)); (exact (‹Own _ _ _ _ _ x0.l›).read); rintro e v ⟨rfl, hb⟩))
  have hb := (‹_ ∧ Below (w7.heap.size) w7 _›).2
  rename World => w8
  clear k0_0 k0_1 k0_2 k0_3 k0_4 j0_0 j0_1 j0_2 j0_3 j0_4 k0_l j0_l
  have s5 : w7.heap.size ≤ w8.heap.size := hb.size
  have HB := Lib.hid (below_step HB.out hb (by omega))
  replace F0 := Lib.hid (F0.out.below hb (by omega))
  replace I0 := Lib.hid (I0.out.below hb (by omega))
  replace O0 := Lib.hid (O0.out.below hb (by omega))
  replace J0 := Lib.hid (J0.out.below hb (by omega))
  obtain ⟨k0_0, k0_1, k0_2, k0_3, k0_4⟩ := I0.out.cells5
  have k0_l : w.heap.size < w8.heap.size := I0.out.lt
  obtain ⟨j0_0, j0_1, j0_2, j0_3, j0_4⟩ := J0.out.cells5
  have j0_l : w5.heap.size < w8.heap.size := J0.out.lt
  clear hb
  go_wp2_with fail
  go_ret
  exact ⟨rfl, HB.out⟩
end Go.Proofs.YtfbgmhjjdgglnaaDoor
