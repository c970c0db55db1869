/- Contracts and lemmas for the proofs of this seat: LawTightest. No condition beyond those stated. -/
import Derived.Test.YtfbgmhjjdgglnaaRows
import Derived.WalkKit
import Derived.ProofKit
import Derived.OpenShut
import Derived.Handy
import Derived.Lib.Hide
import Derived.Lib.SmallJoins
import Derived.Deep.RegionHeld3
import Derived.Test.YtfbgmhjjdgglnaaBase
import Derived.Test.YtfbgmhjjdgglnaaGen
import Derived.Test.YtfbgmhjjdgglnaaKit
import Derived.Test.YtfbgmhjjdgglnaaOpen
import Derived.Test.YtfbgmhjjdgglnaaOpenL
import Derived.Test.YtfbgmhjjdgglnaaLawVal
import Derived.Test.YtfbgmhjjdgglnaaTree1
import Derived.Test.YtfbgmhjjdgglnaaPathAt2
import Derived.Test.YtfbgmhjjdgglnaaBytesF
import Derived.Test.YtfbgmhjjdgglnaaTightF
namespace Go.Proofs.Ytfbgmhjjdgglnaa
open Go.ChangeShapes Go.WideShapes Go.ChangeAt Go.RowKit Go.Joins
set_option linter.unusedVariables false
set_option maxRecDepth 100000
set_option maxHeartbeats 4000000 in
theorem FnExactTightest_walk (x0 : T) (a0 : Option Addr) (c0 B0 : Nat) (x1 : List Int) (a1 : Option Addr) (c1 B1 : Nat) (w : World) (hr0 : R w B0 a0 c0 x0.l) (hwf0 : Wf x0) (hB0 : B0 ≤ w.heap.size) (hr1 : Rd EByte 1 w B1 a1 c1 x1) (_ : True) (hB1 : B1 ≤ w.heap.size) :
    Calls Try.prog 3 #[.agg (cV x0 a0 c0), .slice a1 x1.length c1] w fun e w' => e = .returned (.bool true) ∧ Below w.heap.size w w' := by
  have F0 : Hid (R w w.heap.size a0 c0 x0.l) := Lib.hid (hr0.more hB0)
  clear hr0
  have F1 : Hid (Rd EByte 1 w w.heap.size a1 c1 x1) := Lib.hid (hr1.more hB1)
  clear hr1
  have HB : Hid (Below w.heap.size w w) := Lib.hid (Below.refl _ _)
  obtain ⟨hn1, hm1⟩ := F1.out.len
  by_cases hl1 : 1048576 < x1.length
  · go_enter Try.func3, Try.ntmps3
    go_wp2_with fail
    go_ret
    exact ⟨rfl, by go_grown⟩
  have G1 := Lib.hid (show x1.length ≤ 1048576 from by omega)
  go_enter Try.func3, Try.ntmps3
  go_wp2_with fail
  generalize hW : (w.alloc (.cells (cV x0 a0 c0) 24)) = w1
  have hb1 : Below w.heap.size w w1 := by subst hW; exact below1 _ _
  have z1 : w1.heap.size = w.heap.size + 1 := by subst hW; simp
  have I0 : Hid (Is w1 w.heap.size 24 (cV x0 a0 c0)) := Lib.hid (by subst hW; exact Is.new w _ _)
  clear hW
  have HB := Lib.hid (below_step HB.out hb1 (by omega))
  replace F0 := Lib.hid (F0.out.below hb1 (by omega))
  replace F1 := Lib.hid (F1.out.below EByte.loc hb1 (by omega))
  obtain ⟨k0_0, k0_1, k0_2, k0_3, k0_4⟩ := I0.out.cells5
  have k0_l : w.heap.size < w1.heap.size := I0.out.lt
  clear hb1
  -- region 4: laws.szVal
  go_wp2_with fail
  refine (szVal_calls x0 a0 c0 1048576 w.heap.size w1 F0.out hwf0 (by omega) (by omega) (by omega)).mono ?_
  rintro e w2 ⟨r0, rfl, u0, v0, G0, hb⟩
  clear k0_0 k0_1 k0_2 k0_3 k0_4 k0_l
  have s0 : w1.heap.size ≤ w2.heap.size := hb.size
  have HB := Lib.hid (below_step HB.out hb (by omega))
  replace F0 := Lib.hid (F0.out.below hb (by omega))
  replace F1 := Lib.hid (F1.out.below EByte.loc hb (by omega))
  replace I0 := Lib.hid (I0.out.below hb (by omega))
  obtain ⟨k0_0, k0_1, k0_2, k0_3, k0_4⟩ := I0.out.cells5
  have k0_l : w.heap.size < w2.heap.size := I0.out.lt
  clear hb
  by_cases hneg : r0 < 0
  · go_wp2_with fail
    go_ret
    exact ⟨rfl, HB.out⟩
  replace G0 := Lib.hid (G0 (by omega))
  -- region 7: laws.toVal laws.toByteS spec.Tightest
  go_wp2_with fail
  refine (toVal_calls x0 a0 c0 w.heap.size w2 F0.out hwf0 (by omega) (by have := G0.out; omega)).mono ?_
  rintro e w3 ⟨b0, rfl, ho, hb⟩
  clear k0_0 k0_1 k0_2 k0_3 k0_4 k0_l
  have s1 : w2.heap.size ≤ w3.heap.size := hb.size
  have HB := Lib.hid (below_step HB.out hb (by omega))
  replace F0 := Lib.hid (F0.out.below hb (by omega))
  replace F1 := Lib.hid (F1.out.below EByte.loc hb (by omega))
  replace I0 := Lib.hid (I0.out.below hb (by omega))
  obtain ⟨k0_0, k0_1, k0_2, k0_3, k0_4⟩ := I0.out.cells5
  have k0_l : w.heap.size < w3.heap.size := I0.out.lt
  replace ho := Lib.hid ho; have T0 := ho; clear ho hb
  go_wp2_with fail
  refine (toByteS_calls x1 a1 c1 w.heap.size w3 F1.out (by omega) (by have := G1.out; omega)).mono ?_
  rintro e w4 ⟨b1, rfl, ho, hb⟩
  clear k0_0 k0_1 k0_2 k0_3 k0_4 k0_l
  have s2 : w3.heap.size ≤ w4.heap.size := hb.size
  have HB := Lib.hid (below_step HB.out hb (by omega))
  replace F0 := Lib.hid (F0.out.below hb (by omega))
  replace F1 := Lib.hid (F1.out.below EByte.loc hb (by omega))
  replace I0 := Lib.hid (I0.out.below hb (by omega))
  replace T0 := Lib.hid (T0.out.below hb (by omega))
  obtain ⟨k0_0, k0_1, k0_2, k0_3, k0_4⟩ := I0.out.cells5
  have k0_l : w.heap.size < w4.heap.size := I0.out.lt
  replace ho := Lib.hid ho; have T1 := ho; clear ho hb
  go_wp2_with fail
  refine (spec_Tightest x0 x1 _ _ _ _ _ w4 (T0.out.read.more (by omega)) (T1.out.read.more (by omega)) hwf0 (by have := G1.out; have := G0.out; have := T.countL_le_szL x0; omega) (Nat.le_refl _)).mono ?_
  rintro e w5 ⟨rfl, hb⟩
  clear k0_0 k0_1 k0_2 k0_3 k0_4 k0_l
  have s3 : w4.heap.size ≤ w5.heap.size := hb.size
  have HB := Lib.hid (below_step HB.out hb (by omega))
  replace F0 := Lib.hid (F0.out.below hb (by omega))
  replace F1 := Lib.hid (F1.out.below EByte.loc hb (by omega))
  replace I0 := Lib.hid (I0.out.below hb (by omega))
  replace T0 := Lib.hid (T0.out.below hb (by omega))
  replace T1 := Lib.hid (T1.out.below EByte.loc hb (by omega))
  obtain ⟨k0_0, k0_1, k0_2, k0_3, k0_4⟩ := I0.out.cells5
  have k0_l : w.heap.size < w5.heap.size := I0.out.lt
  clear hb
  go_wp2_with fail
  generalize hW : w5.alloc (.cells (cI3 (T.depth x0) x1.length (T.count x0)) 28) = w6
  have hb : Below w5.heap.size w5 w6 := by subst hW; exact below1 _ _
  have BW : Hid (Is w6 w5.heap.size 28 (cI3 (T.depth x0) x1.length (T.count x0))) := Lib.hid (by subst hW; exact Is.new _ _ _)
  have z6 : w6.heap.size = w5.heap.size + 1 := by subst hW; simp
  clear hW
  clear k0_0 k0_1 k0_2 k0_3 k0_4 k0_l
  have HB := Lib.hid (below_step HB.out hb (by omega))
  replace F0 := Lib.hid (F0.out.below hb (by omega))
  replace F1 := Lib.hid (F1.out.below EByte.loc hb (by omega))
  replace I0 := Lib.hid (I0.out.below hb (by omega))
  replace T0 := Lib.hid (T0.out.below hb (by omega))
  replace T1 := Lib.hid (T1.out.below EByte.loc hb (by omega))
  obtain ⟨k0_0, k0_1, k0_2, k0_3, k0_4⟩ := I0.out.cells5
  have k0_l : w.heap.size < w6.heap.size := I0.out.lt
  obtain ⟨bw_0, bw_1, bw_2⟩ := BW.out.cells3
  have bw_l : w5.heap.size < w6.heap.size := BW.out.lt
  clear hb
  clear T0
  clear T1
  -- region 8: laws.toVal
  go_wp2_with fail
  refine (toVal_calls x0 a0 c0 w.heap.size w6 F0.out hwf0 (by omega) (by have := G0.out; omega)).mono ?_
  rintro e w7 ⟨d0, rfl, ho, hb⟩
  clear k0_0 k0_1 k0_2 k0_3 k0_4 bw_0 bw_1 bw_2 k0_l bw_l
  have s4 : w6.heap.size ≤ w7.heap.size := hb.size
  have HB := Lib.hid (below_step HB.out hb (by omega))
  replace F0 := Lib.hid (F0.out.below hb (by omega))
  replace F1 := Lib.hid (F1.out.below EByte.loc hb (by omega))
  replace I0 := Lib.hid (I0.out.below hb (by omega))
  replace BW := Lib.hid (BW.out.below hb (by omega))
  obtain ⟨k0_0, k0_1, k0_2, k0_3, k0_4⟩ := I0.out.cells5
  have k0_l : w.heap.size < w7.heap.size := I0.out.lt
  obtain ⟨bw_0, bw_1, bw_2⟩ := BW.out.cells3
  have bw_l : w5.heap.size < w7.heap.size := BW.out.lt
  replace ho := Lib.hid ho; have O0 := ho; clear ho hb
  go_wp2_with fail
  generalize hW : w7.alloc (.cells (cV x0 d0 x0.l.length) 32) = w8
  have hb : Below w7.heap.size w7 w8 := by subst hW; exact below1 _ _
  have J0 : Hid (Is w8 w7.heap.size 32 (cV x0 d0 x0.l.length)) := Lib.hid (by subst hW; exact Is.new _ _ _)
  have z8 : w8.heap.size = w7.heap.size + 1 := by subst hW; simp
  clear hW
  clear k0_0 k0_1 k0_2 k0_3 k0_4 bw_0 bw_1 bw_2 k0_l bw_l
  have HB := Lib.hid (below_step HB.out hb (by omega))
  replace F0 := Lib.hid (F0.out.below hb (by omega))
  replace F1 := Lib.hid (F1.out.below EByte.loc hb (by omega))
  replace I0 := Lib.hid (I0.out.below hb (by omega))
  replace BW := Lib.hid (BW.out.below hb (by omega))
  replace O0 := Lib.hid (O0.out.below hb (by omega))
  obtain ⟨k0_0, k0_1, k0_2, k0_3, k0_4⟩ := I0.out.cells5
  have k0_l : w.heap.size < w8.heap.size := I0.out.lt
  obtain ⟨bw_0, bw_1, bw_2⟩ := BW.out.cells3
  have bw_l : w5.heap.size < w8.heap.size := BW.out.lt
  obtain ⟨j0_0, j0_1, j0_2, j0_3, j0_4⟩ := J0.out.cells5
  have j0_l : w7.heap.size < w8.heap.size := J0.out.lt
  clear hb
  -- region 9: laws.toByteS
  go_wp2_with fail
  refine (toByteS_calls x1 a1 c1 w.heap.size w8 F1.out (by omega) (by have := G1.out; omega)).mono ?_
  rintro e w9 ⟨d1, rfl, ho, hb⟩
  clear k0_0 k0_1 k0_2 k0_3 k0_4 bw_0 bw_1 bw_2 j0_0 j0_1 j0_2 j0_3 j0_4 k0_l bw_l j0_l
  have s5 : w8.heap.size ≤ w9.heap.size := hb.size
  have HB := Lib.hid (below_step HB.out hb (by omega))
  replace F0 := Lib.hid (F0.out.below hb (by omega))
  replace F1 := Lib.hid (F1.out.below EByte.loc hb (by omega))
  replace I0 := Lib.hid (I0.out.below hb (by omega))
  replace BW := Lib.hid (BW.out.below hb (by omega))
  replace O0 := Lib.hid (O0.out.below hb (by omega))
  replace J0 := Lib.hid (J0.out.below hb (by omega))
  obtain ⟨k0_0, k0_1, k0_2, k0_3, k0_4⟩ := I0.out.cells5
  have k0_l : w.heap.size < w9.heap.size := I0.out.lt
  obtain ⟨bw_0, bw_1, bw_2⟩ := BW.out.cells3
  have bw_l : w5.heap.size < w9.heap.size := BW.out.lt
  obtain ⟨j0_0, j0_1, j0_2, j0_3, j0_4⟩ := J0.out.cells5
  have j0_l : w7.heap.size < w9.heap.size := J0.out.lt
  replace ho := Lib.hid ho; have O1 := ho; clear ho hb
  -- region 10: impl.Tightest
  go_wp2_with fail
  refine (impl_Tightest x0 x1 _ _ _ _ _ w9 (O0.out.read.more (by omega)) (O1.out.read.more (by omega)) hwf0 (by have := G1.out; have := G0.out; have := T.countL_le_szL x0; omega) (Nat.le_refl _)).mono ?_
  rintro e w10 ⟨rfl, hb⟩
  clear k0_0 k0_1 k0_2 k0_3 k0_4 bw_0 bw_1 bw_2 j0_0 j0_1 j0_2 j0_3 j0_4 k0_l bw_l j0_l
  have s6 : w9.heap.size ≤ w10.heap.size := hb.size
  have HB := Lib.hid (below_step HB.out hb (by omega))
  replace F0 := Lib.hid (F0.out.below hb (by omega))
  replace F1 := Lib.hid (F1.out.below EByte.loc hb (by omega))
  replace I0 := Lib.hid (I0.out.below hb (by omega))
  replace BW := Lib.hid (BW.out.below hb (by omega))
  replace O0 := Lib.hid (O0.out.below hb (by omega))
  replace J0 := Lib.hid (J0.out.below hb (by omega))
  replace O1 := Lib.hid (O1.out.below EByte.loc hb (by omega))
  obtain ⟨k0_0, k0_1, k0_2, k0_3, k0_4⟩ := I0.out.cells5
  have k0_l : w.heap.size < w10.heap.size := I0.out.lt
  obtain ⟨bw_0, bw_1, bw_2⟩ := BW.out.cells3
  have bw_l : w5.heap.size < w10.heap.size := BW.out.lt
  obtain ⟨j0_0, j0_1, j0_2, j0_3, j0_4⟩ := J0.out.cells5
  have j0_l : w7.heap.size < w10.heap.size := J0.out.lt
  clear hb
  go_wp2_with fail
  generalize hW : w10.alloc (.cells (cI3 (T.depth x0) x1.length (T.count x0)) 28) = w11
  have hb : Below w10.heap.size w10 w11 := by subst hW; exact below1 _ _
  have BG : Hid (Is w11 w10.heap.size 28 (cI3 (T.depth x0) x1.length (T.count x0))) := Lib.hid (by subst hW; exact Is.new _ _ _)
  have z11 : w11.heap.size = w10.heap.size + 1 := by subst hW; simp
  clear hW
  clear k0_0 k0_1 k0_2 k0_3 k0_4 bw_0 bw_1 bw_2 j0_0 j0_1 j0_2 j0_3 j0_4 k0_l bw_l j0_l
  have HB := Lib.hid (below_step HB.out hb (by omega))
  replace F0 := Lib.hid (F0.out.below hb (by omega))
  replace F1 := Lib.hid (F1.out.below EByte.loc hb (by omega))
  replace I0 := Lib.hid (I0.out.below hb (by omega))
  replace BW := Lib.hid (BW.out.below hb (by omega))
  replace O0 := Lib.hid (O0.out.below hb (by omega))
  replace J0 := Lib.hid (J0.out.below hb (by omega))
  replace O1 := Lib.hid (O1.out.below EByte.loc hb (by omega))
  obtain ⟨k0_0, k0_1, k0_2, k0_3, k0_4⟩ := I0.out.cells5
  have k0_l : w.heap.size < w11.heap.size := I0.out.lt
  obtain ⟨bw_0, bw_1, bw_2⟩ := BW.out.cells3
  have bw_l : w5.heap.size < w11.heap.size := BW.out.lt
  obtain ⟨j0_0, j0_1, j0_2, j0_3, j0_4⟩ := J0.out.cells5
  have j0_l : w7.heap.size < w11.heap.size := J0.out.lt
  obtain ⟨bg_0, bg_1, bg_2⟩ := BG.out.cells3
  have bg_l : w10.heap.size < w11.heap.size := BG.out.lt
  clear hb
  -- region 11: laws.eqLimits
  go_wp2_with fail
  refine (eqLimits_calls _ _ _ w11).mono ?_
  rintro e w12 ⟨rfl, hb⟩
  clear k0_0 k0_1 k0_2 k0_3 k0_4 bw_0 bw_1 bw_2 j0_0 j0_1 j0_2 j0_3 j0_4 bg_0 bg_1 bg_2 k0_l bw_l j0_l bg_l
  have s7 : w11.heap.size ≤ w12.heap.size := hb.size
  have HB := Lib.hid (below_step HB.out hb (by omega))
  replace F0 := Lib.hid (F0.out.below hb (by omega))
  replace F1 := Lib.hid (F1.out.below EByte.loc hb (by omega))
  replace I0 := Lib.hid (I0.out.below hb (by omega))
  replace BW := Lib.hid (BW.out.below hb (by omega))
  replace O0 := Lib.hid (O0.out.below hb (by omega))
  replace J0 := Lib.hid (J0.out.below hb (by omega))
  replace O1 := Lib.hid (O1.out.below EByte.loc hb (by omega))
  replace BG := Lib.hid (BG.out.below hb (by omega))
  obtain ⟨k0_0, k0_1, k0_2, k0_3, k0_4⟩ := I0.out.cells5
  have k0_l : w.heap.size < w12.heap.size := I0.out.lt
  obtain ⟨bw_0, bw_1, bw_2⟩ := BW.out.cells3
  have bw_l : w5.heap.size < w12.heap.size := BW.out.lt
  obtain ⟨j0_0, j0_1, j0_2, j0_3, j0_4⟩ := J0.out.cells5
  have j0_l : w7.heap.size < w12.heap.size := J0.out.lt
  obtain ⟨bg_0, bg_1, bg_2⟩ := BG.out.cells3
  have bg_l : w10.heap.size < w12.heap.size := BG.out.lt
  clear hb
  -- region 13: laws.toVal laws.eqVal
  go_wp2_with fail
  go_region_held3 (fun w' => (∀ b o, b < w12.heap.size → w'.cell? ⟨b, o, none⟩ = w12.cell? ⟨b, o, none⟩) ∧ Below (w12.heap.size) w12 w') (first | exact ⟨fun _ _ _ => rfl, (Below.refl _ _).drew⟩ | exact keep_step (by assumption) (Below.drew (Below.refl _ _)) (Nat.le_refl _) | exact keep_step (by assumption) (by assumption) (by first | omega | (simp only [World.size_drew, size_alloc]; omega) | (have := (‹(_ ∧ Below (w12.heap.size) w12 _)›).2.size; first | omega | (simp only [World.size_drew, size_alloc]; omega) | (simp only [World.size_drew, size_alloc] at this; omega))) | exact keep_step (by assumption) (below1 _ _) (by first | omega | (simp only [World.size_drew, size_alloc]; omega) | (have := (‹(_ ∧ Below (w12.heap.size) w12 _)›).2.size; first | omega | (simp only [World.size_drew, size_alloc]; omega) | (simp only [World.size_drew, size_alloc] at this; omega)))) (first | (go_at_call 12; refine (toVal_calls _ _ _ w.heap.size _ ?_ ?_ (by have := (‹_ ∧ Below (w12.heap.size) w12 _›).2.size; omega) (by first | (have := G0.out; omega))).mono ?_; (first | exact F0.out.below (‹_ ∧ Below (w12.heap.size) w12 _›).2 (by omega)); (first | exact hwf0); rintro e v ⟨a, rfl, ho, hb⟩) | (go_at_call 16; refine (eqVal_calls x0 _ _ _ _ _ _ ?_ ?_ hwf0 (Nat.le_refl _)).mono ?_; (exact (O0.out.read.below (‹_ ∧ Below (w12.heap.size) w12 _›).2 (by omega)).more (by have := ‹Below _ _ _›.size; have := (‹_ ∧ Below (w12.heap.size) w12 _›).2.size; omega)); (exact (‹Own _ _ _ _ _ x0.l›).read); rintro e v ⟨rfl, hb⟩))
  have hb := (‹_ ∧ Below (w12.heap.size) w12 _›).2
  rename World => w13
  clear k0_0 k0_1 k0_2 k0_3 k0_4 bw_0 bw_1 bw_2 j0_0 j0_1 j0_2 j0_3 j0_4 bg_0 bg_1 bg_2 k0_l bw_l j0_l bg_l
  have s8 : w12.heap.size ≤ w13.heap.size := hb.size
  have HB := Lib.hid (below_step HB.out hb (by omega))
  replace F0 := Lib.hid (F0.out.below hb (by omega))
  replace F1 := Lib.hid (F1.out.below EByte.loc hb (by omega))
  replace I0 := Lib.hid (I0.out.below hb (by omega))
  replace BW := Lib.hid (BW.out.below hb (by omega))
  replace O0 := Lib.hid (O0.out.below hb (by omega))
  replace J0 := Lib.hid (J0.out.below hb (by omega))
  replace O1 := Lib.hid (O1.out.below EByte.loc hb (by omega))
  replace BG := Lib.hid (BG.out.below hb (by omega))
  obtain ⟨k0_0, k0_1, k0_2, k0_3, k0_4⟩ := I0.out.cells5
  have k0_l : w.heap.size < w13.heap.size := I0.out.lt
  obtain ⟨bw_0, bw_1, bw_2⟩ := BW.out.cells3
  have bw_l : w5.heap.size < w13.heap.size := BW.out.lt
  obtain ⟨j0_0, j0_1, j0_2, j0_3, j0_4⟩ := J0.out.cells5
  have j0_l : w7.heap.size < w13.heap.size := J0.out.lt
  obtain ⟨bg_0, bg_1, bg_2⟩ := BG.out.cells3
  have bg_l : w10.heap.size < w13.heap.size := BG.out.lt
  clear hb
  -- region 15: laws.toByteS laws.eqByteS
  go_wp2_with fail
  refine (toByteS_calls x1 a1 c1 w.heap.size w13 F1.out (by omega) (by have := G1.out; omega)).mono ?_
  rintro e w14 ⟨b1, rfl, ho, hb⟩
  clear k0_0 k0_1 k0_2 k0_3 k0_4 bw_0 bw_1 bw_2 j0_0 j0_1 j0_2 j0_3 j0_4 bg_0 bg_1 bg_2 k0_l bw_l j0_l bg_l
  have s9 : w13.heap.size ≤ w14.heap.size := hb.size
  have HB := Lib.hid (below_step HB.out hb (by omega))
  replace F0 := Lib.hid (F0.out.below hb (by omega))
  replace F1 := Lib.hid (F1.out.below EByte.loc hb (by omega))
  replace I0 := Lib.hid (I0.out.below hb (by omega))
  replace BW := Lib.hid (BW.out.below hb (by omega))
  replace O0 := Lib.hid (O0.out.below hb (by omega))
  replace J0 := Lib.hid (J0.out.below hb (by omega))
  replace O1 := Lib.hid (O1.out.below EByte.loc hb (by omega))
  replace BG := Lib.hid (BG.out.below hb (by omega))
  obtain ⟨k0_0, k0_1, k0_2, k0_3, k0_4⟩ := I0.out.cells5
  have k0_l : w.heap.size < w14.heap.size := I0.out.lt
  obtain ⟨bw_0, bw_1, bw_2⟩ := BW.out.cells3
  have bw_l : w5.heap.size < w14.heap.size := BW.out.lt
  obtain ⟨j0_0, j0_1, j0_2, j0_3, j0_4⟩ := J0.out.cells5
  have j0_l : w7.heap.size < w14.heap.size := J0.out.lt
  obtain ⟨bg_0, bg_1, bg_2⟩ := BG.out.cells3
  have bg_l : w10.heap.size < w14.heap.size := BG.out.lt
  replace ho := Lib.hid ho; have T1 := ho; clear ho hb
  go_wp2_with fail
  refine (eqByteS_calls x1 _ _ _ _ _ w14 (O1.out.read.more (by omega)) (T1.out.read.more (by omega)) (Nat.le_refl _)).mono ?_
  rintro e w15 ⟨rfl, hb⟩
  clear k0_0 k0_1 k0_2 k0_3 k0_4 bw_0 bw_1 bw_2 j0_0 j0_1 j0_2 j0_3 j0_4 bg_0 bg_1 bg_2 k0_l bw_l j0_l bg_l
  have s10 : w14.heap.size ≤ w15.heap.size := hb.size
  have HB := Lib.hid (below_step HB.out hb (by omega))
  replace F0 := Lib.hid (F0.out.below hb (by omega))
  replace F1 := Lib.hid (F1.out.below EByte.loc hb (by omega))
  replace I0 := Lib.hid (I0.out.below hb (by omega))
  replace BW := Lib.hid (BW.out.below hb (by omega))
  replace O0 := Lib.hid (O0.out.below hb (by omega))
  replace J0 := Lib.hid (J0.out.below hb (by omega))
  replace O1 := Lib.hid (O1.out.below EByte.loc hb (by omega))
  replace BG := Lib.hid (BG.out.below hb (by omega))
  replace T1 := Lib.hid (T1.out.below EByte.loc hb (by omega))
  obtain ⟨k0_0, k0_1, k0_2, k0_3, k0_4⟩ := I0.out.cells5
  have k0_l : w.heap.size < w15.heap.size := I0.out.lt
  obtain ⟨bw_0, bw_1, bw_2⟩ := BW.out.cells3
  have bw_l : w5.heap.size < w15.heap.size := BW.out.lt
  obtain ⟨j0_0, j0_1, j0_2, j0_3, j0_4⟩ := J0.out.cells5
  have j0_l : w7.heap.size < w15.heap.size := J0.out.lt
  obtain ⟨bg_0, bg_1, bg_2⟩ := BG.out.cells3
  have bg_l : w10.heap.size < w15.heap.size := BG.out.lt
  clear hb
  clear T1
  go_wp2_with fail
  go_ret
  exact ⟨rfl, HB.out⟩
end Go.Proofs.Ytfbgmhjjdgglnaa
