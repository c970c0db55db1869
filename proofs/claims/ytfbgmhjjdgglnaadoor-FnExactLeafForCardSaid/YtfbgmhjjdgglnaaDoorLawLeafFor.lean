/- Contracts and lemmas for the proofs of this seat: LawLeafFor. No condition beyond those stated. -/
import Derived.Test.YtfbgmhjjdgglnaaDoorRows
import Derived.WalkKit
import Derived.ProofKit
import Derived.OpenShut
import Derived.Handy
import Derived.Lib.Hide
import Derived.Lib.SmallJoins
import Derived.Deep.RegionHeld3
import Derived.Test.YtfbgmhjjdgglnaaDoorBase
import Derived.Test.YtfbgmhjjdgglnaaDoorGen
import Derived.Test.YtfbgmhjjdgglnaaDoorKit
import Derived.Test.YtfbgmhjjdgglnaaDoorOpen
import Derived.Test.YtfbgmhjjdgglnaaDoorMark
import Derived.Test.YtfbgmhjjdgglnaaDoorApp
import Derived.Test.YtfbgmhjjdgglnaaDoorMarkV
import Derived.Test.YtfbgmhjjdgglnaaDoorLawVal
import Derived.Test.YtfbgmhjjdgglnaaDoorCopy
import Derived.Test.YtfbgmhjjdgglnaaDoorPathAt
import Derived.Test.YtfbgmhjjdgglnaaDoorPathAt2
import Derived.Test.YtfbgmhjjdgglnaaDoorSame2
import Derived.Test.YtfbgmhjjdgglnaaDoorOnce
import Derived.Test.YtfbgmhjjdgglnaaDoorNamesT
import Derived.Test.YtfbgmhjjdgglnaaDoorShelf
import Derived.Test.YtfbgmhjjdgglnaaDoorNum
import Derived.Test.YtfbgmhjjdgglnaaDoorTextF
import Derived.Test.YtfbgmhjjdgglnaaDoorValF
import Derived.Test.YtfbgmhjjdgglnaaDoorValF2
import Derived.Test.YtfbgmhjjdgglnaaDoorValF3
import Derived.Test.YtfbgmhjjdgglnaaDoorDecF
import Derived.Test.YtfbgmhjjdgglnaaDoorDecF2
import Derived.Test.YtfbgmhjjdgglnaaDoorFltD
import Derived.Test.YtfbgmhjjdgglnaaDoorNearP
import Derived.Test.YtfbgmhjjdgglnaaDoorFltN
import Derived.Test.YtfbgmhjjdgglnaaDoorDiv
import Derived.Test.YtfbgmhjjdgglnaaDoorDiv2
import Derived.Test.YtfbgmhjjdgglnaaDoorNear1
import Derived.Test.YtfbgmhjjdgglnaaDoorNear3
import Derived.Test.YtfbgmhjjdgglnaaDoorNear2
import Derived.Test.YtfbgmhjjdgglnaaDoorNear4
import Derived.Test.YtfbgmhjjdgglnaaDoorHalf1
import Derived.Test.YtfbgmhjjdgglnaaDoorHexT
import Derived.Test.YtfbgmhjjdgglnaaDoorLeafP
import Derived.Test.YtfbgmhjjdgglnaaDoorLeafA
import Derived.Test.YtfbgmhjjdgglnaaDoorExact
import Derived.Test.YtfbgmhjjdgglnaaDoorLeafS
import Derived.Test.YtfbgmhjjdgglnaaDoorLeafI
namespace Go.Proofs.YtfbgmhjjdgglnaaDoor
open Go.ChangeShapes Go.WideShapes Go.ChangeAt Go.RowKit Go.Joins
set_option linter.unusedVariables false
set_option maxRecDepth 100000
set_option maxHeartbeats 4000000 in
theorem FnExactLeafFor_walk (way : Int) (x0 : T) (a0 : Option Addr) (c0 B0 : Nat) (w : World) (hway : I64 way) (hr0 : R w B0 a0 c0 x0.l) (hwf0 : Wf x0) (hB0 : B0 ≤ w.heap.size) (htab : Lib.TabBelow Tryd.prog w.heap.size w "internal/strconv.uint64pow10" .u64 Lib.pow10Tab) :
    Calls Tryd.prog 6 #[.int .i64 way, .agg (cV x0 a0 c0)] w fun e w' => e = .returned (.bool true) ∧ Below w.heap.size w w' := by
  have F0 : Hid (R w w.heap.size a0 c0 x0.l) := Lib.hid (hr0.more hB0)
  clear hr0
  have HTAB := Lib.hid htab; clear htab
  have HB : Hid (Below w.heap.size w w) := Lib.hid (Below.refl _ _)
  go_enter Tryd.func6, Tryd.ntmps6
  go_wp2_with fail
  generalize hW : (w.alloc (.cells (cV x0 a0 c0) 24)) = w1
  have hb1 : Below w.heap.size w w1 := by subst hW; exact below1 _ _
  have z1 : w1.heap.size = w.heap.size + 1 := by subst hW; simp
  have I0 : Hid (Is w1 w.heap.size 24 (cV x0 a0 c0)) := Lib.hid (by subst hW; exact Is.new w _ _)
  clear hW
  have HB := Lib.hid (below_step HB.out hb1 (by omega))
  replace F0 := Lib.hid (F0.out.below hb1 (by omega))
  obtain ⟨k0_0, k0_1, k0_2, k0_3, k0_4⟩ := I0.out.cells5
  have k0_l : w.heap.size < w1.heap.size := I0.out.lt
  clear hb1
  -- region 2: laws.szVal
  go_wp2_with fail
  refine (szVal_calls x0 a0 c0 1048576 w.heap.size w1 F0.out hwf0 (by omega) (by omega) (by omega)).mono ?_
  rintro e w2 ⟨r0, rfl, u0, v0, G0, hb⟩
  clear k0_0 k0_1 k0_2 k0_3 k0_4 k0_l
  have s0 : w1.heap.size ≤ w2.heap.size := hb.size
  have HB := Lib.hid (below_step HB.out hb (by omega))
  replace F0 := Lib.hid (F0.out.below hb (by omega))
  replace I0 := Lib.hid (I0.out.below hb (by omega))
  obtain ⟨k0_0, k0_1, k0_2, k0_3, k0_4⟩ := I0.out.cells5
  have k0_l : w.heap.size < w2.heap.size := I0.out.lt
  clear hb
  by_cases hneg : r0 < 0
  · go_wp2_with fail
    go_ret
    exact ⟨rfl, HB.out⟩
  replace G0 := Lib.hid (G0 (by omega))
  have HSS := Lib.hid (show x0.s.size ≤ 1048576 from by have := G0.out; have := lsz_string x0; omega)
  -- region 5: laws.toVal spec.Halved
  go_wp2_with fail
  refine (toVal_calls x0 a0 c0 w.heap.size w2 F0.out hwf0 (by omega) (by have := G0.out; omega)).mono ?_
  rintro e w3 ⟨b0, rfl, ho, hb⟩
  clear k0_0 k0_1 k0_2 k0_3 k0_4 k0_l
  have s1 : w2.heap.size ≤ w3.heap.size := hb.size
  have HB := Lib.hid (below_step HB.out hb (by omega))
  replace F0 := Lib.hid (F0.out.below hb (by omega))
  replace I0 := Lib.hid (I0.out.below hb (by omega))
  obtain ⟨k0_0, k0_1, k0_2, k0_3, k0_4⟩ := I0.out.cells5
  have k0_l : w.heap.size < w3.heap.size := I0.out.lt
  replace ho := Lib.hid ho; have T0 := ho; clear ho hb
  go_wp2_with fail
  refine (spec_LeafFor way x0 _ _ _ w3 (T0.out.read.more (by omega)) hwf0 (by have := G0.out; have := T.countL_le_szL x0; omega) (Nat.le_refl _) HSS.out).mono ?_
  rintro e w4 ⟨aW, cW, rfl, ho, hb⟩
  clear k0_0 k0_1 k0_2 k0_3 k0_4 k0_l
  have s2 : w3.heap.size ≤ w4.heap.size := hb.size
  have HB := Lib.hid (below_step HB.out hb (by omega))
  replace F0 := Lib.hid (F0.out.below hb (by omega))
  replace I0 := Lib.hid (I0.out.below hb (by omega))
  replace T0 := Lib.hid (T0.out.below hb (by omega))
  obtain ⟨k0_0, k0_1, k0_2, k0_3, k0_4⟩ := I0.out.cells5
  have k0_l : w.heap.size < w4.heap.size := I0.out.lt
  replace ho := Lib.hid ho; have OW := ho; clear ho hb
  go_wp2_with fail
  generalize hW : w4.alloc (.cells (cV (lT way x0) aW cW) 31) = w5
  have hb : Below w4.heap.size w4 w5 := by subst hW; exact below1 _ _
  have BW : Hid (Is w5 w4.heap.size 31 (cV (lT way x0) aW cW)) := Lib.hid (by subst hW; exact Is.new _ _ _)
  have z5 : w5.heap.size = w4.heap.size + 1 := by subst hW; simp
  clear hW
  clear k0_0 k0_1 k0_2 k0_3 k0_4 k0_l
  have HB := Lib.hid (below_step HB.out hb (by omega))
  replace F0 := Lib.hid (F0.out.below hb (by omega))
  replace I0 := Lib.hid (I0.out.below hb (by omega))
  replace T0 := Lib.hid (T0.out.below hb (by omega))
  replace OW := Lib.hid (OW.out.below hb (by omega))
  obtain ⟨k0_0, k0_1, k0_2, k0_3, k0_4⟩ := I0.out.cells5
  have k0_l : w.heap.size < w5.heap.size := I0.out.lt
  obtain ⟨bw_0, bw_1, bw_2, bw_3, bw_4⟩ := BW.out.cells5
  have bw_l : w4.heap.size < w5.heap.size := BW.out.lt
  clear hb
  clear T0
  -- region 6: laws.toVal
  go_wp2_with fail
  refine (toVal_calls x0 a0 c0 w.heap.size w5 F0.out hwf0 (by omega) (by have := G0.out; omega)).mono ?_
  rintro e w6 ⟨d0, rfl, ho, hb⟩
  clear k0_0 k0_1 k0_2 k0_3 k0_4 bw_0 bw_1 bw_2 bw_3 bw_4 k0_l bw_l
  have s3 : w5.heap.size ≤ w6.heap.size := hb.size
  have HB := Lib.hid (below_step HB.out hb (by omega))
  replace F0 := Lib.hid (F0.out.below hb (by omega))
  replace I0 := Lib.hid (I0.out.below hb (by omega))
  replace OW := Lib.hid (OW.out.below hb (by omega))
  replace BW := Lib.hid (BW.out.below hb (by omega))
  obtain ⟨k0_0, k0_1, k0_2, k0_3, k0_4⟩ := I0.out.cells5
  have k0_l : w.heap.size < w6.heap.size := I0.out.lt
  obtain ⟨bw_0, bw_1, bw_2, bw_3, bw_4⟩ := BW.out.cells5
  have bw_l : w4.heap.size < w6.heap.size := BW.out.lt
  replace ho := Lib.hid ho; have O0 := ho; clear ho hb
  go_wp2_with fail
  generalize hW : w6.alloc (.cells (cV x0 d0 x0.l.length) 31) = w7
  have hb : Below w6.heap.size w6 w7 := by subst hW; exact below1 _ _
  have J0 : Hid (Is w7 w6.heap.size 31 (cV x0 d0 x0.l.length)) := Lib.hid (by subst hW; exact Is.new _ _ _)
  have z7 : w7.heap.size = w6.heap.size + 1 := by subst hW; simp
  clear hW
  clear k0_0 k0_1 k0_2 k0_3 k0_4 bw_0 bw_1 bw_2 bw_3 bw_4 k0_l bw_l
  have HB := Lib.hid (below_step HB.out hb (by omega))
  replace F0 := Lib.hid (F0.out.below hb (by omega))
  replace I0 := Lib.hid (I0.out.below hb (by omega))
  replace OW := Lib.hid (OW.out.below hb (by omega))
  replace BW := Lib.hid (BW.out.below hb (by omega))
  replace O0 := Lib.hid (O0.out.below hb (by omega))
  obtain ⟨k0_0, k0_1, k0_2, k0_3, k0_4⟩ := I0.out.cells5
  have k0_l : w.heap.size < w7.heap.size := I0.out.lt
  obtain ⟨bw_0, bw_1, bw_2, bw_3, bw_4⟩ := BW.out.cells5
  have bw_l : w4.heap.size < w7.heap.size := BW.out.lt
  obtain ⟨j0_0, j0_1, j0_2, j0_3, j0_4⟩ := J0.out.cells5
  have j0_l : w6.heap.size < w7.heap.size := J0.out.lt
  clear hb
  -- region 7: impl.Halved
  go_wp2_with fail
  refine (impl_LeafFor way x0 _ _ _ w7 (O0.out.read.more (by omega)) hwf0 (by have := G0.out; have := T.countL_le_szL x0; omega) (Nat.le_refl _) HSS.out (fun V hV => HTAB.out V (HB.out.trans (hV.mono HB.out.size)))).mono ?_
  rintro e w8 ⟨aG, cG, rfl, ho, hb⟩
  clear k0_0 k0_1 k0_2 k0_3 k0_4 bw_0 bw_1 bw_2 bw_3 bw_4 j0_0 j0_1 j0_2 j0_3 j0_4 k0_l bw_l j0_l
  have s4 : w7.heap.size ≤ w8.heap.size := hb.size
  have HB := Lib.hid (below_step HB.out hb (by omega))
  replace F0 := Lib.hid (F0.out.below hb (by omega))
  replace I0 := Lib.hid (I0.out.below hb (by omega))
  replace OW := Lib.hid (OW.out.below hb (by omega))
  replace BW := Lib.hid (BW.out.below hb (by omega))
  replace O0 := Lib.hid (O0.out.below hb (by omega))
  replace J0 := Lib.hid (J0.out.below hb (by omega))
  obtain ⟨k0_0, k0_1, k0_2, k0_3, k0_4⟩ := I0.out.cells5
  have k0_l : w.heap.size < w8.heap.size := I0.out.lt
  obtain ⟨bw_0, bw_1, bw_2, bw_3, bw_4⟩ := BW.out.cells5
  have bw_l : w4.heap.size < w8.heap.size := BW.out.lt
  obtain ⟨j0_0, j0_1, j0_2, j0_3, j0_4⟩ := J0.out.cells5
  have j0_l : w6.heap.size < w8.heap.size := J0.out.lt
  replace ho := Lib.hid ho; have OG := ho; clear ho hb
  go_wp2_with fail
  generalize hW : w8.alloc (.cells (cV (lT way x0) aG cG) 31) = w9
  have hb : Below w8.heap.size w8 w9 := by subst hW; exact below1 _ _
  have BG : Hid (Is w9 w8.heap.size 31 (cV (lT way x0) aG cG)) := Lib.hid (by subst hW; exact Is.new _ _ _)
  have z9 : w9.heap.size = w8.heap.size + 1 := by subst hW; simp
  clear hW
  clear k0_0 k0_1 k0_2 k0_3 k0_4 bw_0 bw_1 bw_2 bw_3 bw_4 j0_0 j0_1 j0_2 j0_3 j0_4 k0_l bw_l j0_l
  have HB := Lib.hid (below_step HB.out hb (by omega))
  replace F0 := Lib.hid (F0.out.below hb (by omega))
  replace I0 := Lib.hid (I0.out.below hb (by omega))
  replace OW := Lib.hid (OW.out.below hb (by omega))
  replace BW := Lib.hid (BW.out.below hb (by omega))
  replace O0 := Lib.hid (O0.out.below hb (by omega))
  replace J0 := Lib.hid (J0.out.below hb (by omega))
  replace OG := Lib.hid (OG.out.below hb (by omega))
  obtain ⟨k0_0, k0_1, k0_2, k0_3, k0_4⟩ := I0.out.cells5
  have k0_l : w.heap.size < w9.heap.size := I0.out.lt
  obtain ⟨bw_0, bw_1, bw_2, bw_3, bw_4⟩ := BW.out.cells5
  have bw_l : w4.heap.size < w9.heap.size := BW.out.lt
  obtain ⟨j0_0, j0_1, j0_2, j0_3, j0_4⟩ := J0.out.cells5
  have j0_l : w6.heap.size < w9.heap.size := J0.out.lt
  obtain ⟨bg_0, bg_1, bg_2, bg_3, bg_4⟩ := BG.out.cells5
  have bg_l : w8.heap.size < w9.heap.size := BG.out.lt
  clear hb
  -- region 8: laws.eqVal
  go_wp2_with fail
  refine (eqVal_calls (lT way x0) _ _ _ _ _ w9 (OG.out.read.more (by omega)) (OW.out.read.more (by omega)) (lT_wf way hwf0 HSS.out) (Nat.le_refl _)).mono ?_
  rintro e w10 ⟨rfl, hb⟩
  clear k0_0 k0_1 k0_2 k0_3 k0_4 bw_0 bw_1 bw_2 bw_3 bw_4 j0_0 j0_1 j0_2 j0_3 j0_4 bg_0 bg_1 bg_2 bg_3 bg_4 k0_l bw_l j0_l bg_l
  have s5 : w9.heap.size ≤ w10.heap.size := hb.size
  have HB := Lib.hid (below_step HB.out hb (by omega))
  replace F0 := Lib.hid (F0.out.below hb (by omega))
  replace I0 := Lib.hid (I0.out.below hb (by omega))
  replace OW := Lib.hid (OW.out.below hb (by omega))
  replace BW := Lib.hid (BW.out.below hb (by omega))
  replace O0 := Lib.hid (O0.out.below hb (by omega))
  replace J0 := Lib.hid (J0.out.below hb (by omega))
  replace OG := Lib.hid (OG.out.below hb (by omega))
  replace BG := Lib.hid (BG.out.below hb (by omega))
  obtain ⟨k0_0, k0_1, k0_2, k0_3, k0_4⟩ := I0.out.cells5
  have k0_l : w.heap.size < w10.heap.size := I0.out.lt
  obtain ⟨bw_0, bw_1, bw_2, bw_3, bw_4⟩ := BW.out.cells5
  have bw_l : w4.heap.size < w10.heap.size := BW.out.lt
  obtain ⟨j0_0, j0_1, j0_2, j0_3, j0_4⟩ := J0.out.cells5
  have j0_l : w6.heap.size < w10.heap.size := J0.out.lt
  obtain ⟨bg_0, bg_1, bg_2, bg_3, bg_4⟩ := BG.out.cells5
  have bg_l : w8.heap.size < w10.heap.size := BG.out.lt
  clear hb
  -- region 10: laws.toVal laws.eqVal
  go_wp2_with fail
  go_region_held3 (fun w' => (∀ b o, b < w10.heap.size → w'.cell? ⟨b, o, none⟩ = w10.cell? ⟨b, o, none⟩) ∧ Below (w10.heap.size) w10 w') (first | exact ⟨fun _ _ _ => rfl, (Below.refl _ _).drew⟩ | exact keep_step (by assumption) (Below.drew (Below.refl _ _)) (Nat.le_refl _) | exact keep_step (by assumption) (by assumption) (by first | omega | (simp only [World.size_drew]; omega) | (simp only [size_alloc]; omega) | (simp only [World.size_drew, size_alloc]; omega) | (have := (‹(_ ∧ Below (w10.heap.size) w10 _)›).2.size; first | omega | (simp only [World.size_drew]; omega) | (simp only [size_alloc]; omega) | (simp only [World.size_drew, size_alloc]; omega) | (simp only [World.size_drew] at this; omega) | (simp only [size_alloc] at this; omega) | (simp only [World.size_drew, size_alloc] at this; omega))) | exact keep_step (by assumption) (below1 _ _) (by first | omega | (simp only [World.size_drew]; omega) | (simp only [size_alloc]; omega) | (simp only [World.size_drew, size_alloc]; omega) | (have := (‹(_ ∧ Below (w10.heap.size) w10 _)›).2.size; first | omega | (simp only [World.size_drew]; omega) | (simp only [size_alloc]; omega) | (simp only [World.size_drew, size_alloc]; omega) | (simp only [World.size_drew] at this; omega) | (simp only [size_alloc] at this; omega) | (simp only [World.size_drew, size_alloc] at this; omega)))) (first | (go_at_call 11; refine (toVal_calls _ _ _ w.heap.size _ ?_ ?_ (by have := (‹_ ∧ Below (w10.heap.size) w10 _›).2.size; omega) (by first | (have := G0.out; omega))).mono ?_; (first | exact F0.out.below (‹_ ∧ Below (w10.heap.size) w10 _›).2 (by omega)); (first | exact hwf0); rintro e v ⟨a, rfl, ho, hb⟩) | (go_at_call 14; refine (eqVal_calls x0 _ _ _ _ _ _ ?_ ?_ hwf0 (Nat.le_refl _)).mono ?_; (exact (O0.out.read.below (‹_ ∧ Below (w10.heap.size) w10 _›).2 (by omega)).more (by have := ‹Below _ _ _›.size; have := (‹_ ∧ Below (w10.heap.size) w10 _›).2.size; omega)); (exact (‹Own _ _ _ _ _ x0.l›).read); rintro e v ⟨rfl, hb⟩))
  have hb := (‹_ ∧ Below (w10.heap.size) w10 _›).2
  rename World => w11
  clear k0_0 k0_1 k0_2 k0_3 k0_4 bw_0 bw_1 bw_2 bw_3 bw_4 j0_0 j0_1 j0_2 j0_3 j0_4 bg_0 bg_1 bg_2 bg_3 bg_4 k0_l bw_l j0_l bg_l
  have s6 : w10.heap.size ≤ w11.heap.size := hb.size
  have HB := Lib.hid (below_step HB.out hb (by omega))
  replace F0 := Lib.hid (F0.out.below hb (by omega))
  replace I0 := Lib.hid (I0.out.below hb (by omega))
  replace OW := Lib.hid (OW.out.below hb (by omega))
  replace BW := Lib.hid (BW.out.below hb (by omega))
  replace O0 := Lib.hid (O0.out.below hb (by omega))
  replace J0 := Lib.hid (J0.out.below hb (by omega))
  replace OG := Lib.hid (OG.out.below hb (by omega))
  replace BG := Lib.hid (BG.out.below hb (by omega))
  obtain ⟨k0_0, k0_1, k0_2, k0_3, k0_4⟩ := I0.out.cells5
  have k0_l : w.heap.size < w11.heap.size := I0.out.lt
  obtain ⟨bw_0, bw_1, bw_2, bw_3, bw_4⟩ := BW.out.cells5
  have bw_l : w4.heap.size < w11.heap.size := BW.out.lt
  obtain ⟨j0_0, j0_1, j0_2, j0_3, j0_4⟩ := J0.out.cells5
  have j0_l : w6.heap.size < w11.heap.size := J0.out.lt
  obtain ⟨bg_0, bg_1, bg_2, bg_3, bg_4⟩ := BG.out.cells5
  have bg_l : w8.heap.size < w11.heap.size := BG.out.lt
  clear hb
  -- region 13: laws.markVal
  go_wp2_with fail
  obtain ⟨Fm, hFm, hFr⟩ := (Own.ow.1 O0.out).toF
  have hbnd : (1 : Int) + (cL' costT (x0).l : Nat) ≤ 100000001 := by have := G0.out; have := costTL (x0).l; have := lcountL_le_sz (x0); omega
  have hbnd0 : (0 : Int) ≤ (1 : Int) := by omega
  refine (markVal_calls x0 d0 _ ((1 : Int)) Fm w11 hFm hbnd0 (by omega)).mono ?_
  rintro e w12 ⟨rfl, hoF, ht⟩
  have hbs := ht.beside (lo := w5.heap.size) (hi := w6.heap.size) (by omega) hFr
  clear k0_0 k0_1 k0_2 k0_3 k0_4 bw_0 bw_1 bw_2 bw_3 bw_4 j0_0 j0_1 j0_2 j0_3 j0_4 bg_0 bg_1 bg_2 bg_3 bg_4 k0_l bw_l j0_l bg_l
  have s7 : w11.heap.size ≤ w12.heap.size := ht.size
  have HB := Lib.hid (below_step HB.out hbs.1 (by omega))
  replace F0 := Lib.hid (F0.out.below hbs.1 (by omega))
  replace I0 := Lib.hid (I0.out.beside hbs (by omega))
  replace OW := Lib.hid (OW.out.beside hbs (by omega))
  replace BW := Lib.hid (BW.out.beside hbs (by omega))
  replace J0 := Lib.hid (J0.out.beside hbs (by omega))
  replace OG := Lib.hid (OG.out.beside hbs (by omega))
  replace BG := Lib.hid (BG.out.beside hbs (by omega))
  clear O0
  clear hoF ht hbs hFm hFr
  obtain ⟨k0_0, k0_1, k0_2, k0_3, k0_4⟩ := I0.out.cells5
  have k0_l : w.heap.size < w12.heap.size := I0.out.lt
  obtain ⟨bw_0, bw_1, bw_2, bw_3, bw_4⟩ := BW.out.cells5
  have bw_l : w4.heap.size < w12.heap.size := BW.out.lt
  obtain ⟨j0_0, j0_1, j0_2, j0_3, j0_4⟩ := J0.out.cells5
  have j0_l : w6.heap.size < w12.heap.size := J0.out.lt
  obtain ⟨bg_0, bg_1, bg_2, bg_3, bg_4⟩ := BG.out.cells5
  have bg_l : w8.heap.size < w12.heap.size := BG.out.lt
  generalize hkk : ((1 : Int)) + (cL' costT (x0).l : Nat) = k1 at hbnd ⊢
  have nk1 : ¬ (k1 < 0) := by omega
  clear hbnd0 hkk
  have hbk1 := hbnd; clear hbnd
  -- region 14: laws.eqVal
  go_wp2_with fail
  refine (eqVal_calls (lT way x0) _ _ _ _ _ w12 (OG.out.read.more (by omega)) (OW.out.read.more (by omega)) (lT_wf way hwf0 HSS.out) (Nat.le_refl _)).mono ?_
  rintro e w13 ⟨rfl, hb⟩
  clear k0_0 k0_1 k0_2 k0_3 k0_4 bw_0 bw_1 bw_2 bw_3 bw_4 j0_0 j0_1 j0_2 j0_3 j0_4 bg_0 bg_1 bg_2 bg_3 bg_4 k0_l bw_l j0_l bg_l
  have s8 : w12.heap.size ≤ w13.heap.size := hb.size
  have HB := Lib.hid (below_step HB.out hb (by omega))
  replace F0 := Lib.hid (F0.out.below hb (by omega))
  replace I0 := Lib.hid (I0.out.below hb (by omega))
  replace OW := Lib.hid (OW.out.below hb (by omega))
  replace BW := Lib.hid (BW.out.below hb (by omega))
  replace J0 := Lib.hid (J0.out.below hb (by omega))
  replace OG := Lib.hid (OG.out.below hb (by omega))
  replace BG := Lib.hid (BG.out.below hb (by omega))
  obtain ⟨k0_0, k0_1, k0_2, k0_3, k0_4⟩ := I0.out.cells5
  have k0_l : w.heap.size < w13.heap.size := I0.out.lt
  obtain ⟨bw_0, bw_1, bw_2, bw_3, bw_4⟩ := BW.out.cells5
  have bw_l : w4.heap.size < w13.heap.size := BW.out.lt
  obtain ⟨j0_0, j0_1, j0_2, j0_3, j0_4⟩ := J0.out.cells5
  have j0_l : w6.heap.size < w13.heap.size := J0.out.lt
  obtain ⟨bg_0, bg_1, bg_2, bg_3, bg_4⟩ := BG.out.cells5
  have bg_l : w8.heap.size < w13.heap.size := BG.out.lt
  clear hb
  -- region 17: laws.markVal
  go_wp2_with fail
  obtain ⟨Fm, hFm, hFr⟩ := (Own.ow.1 OG.out).toF
  have hbnd : (1 : Int) + (cL' costT ((lT way x0)).l : Nat) ≤ 200000001 := by have := G0.out; have := lT_sz way x0; have := costTL ((lT way x0)).l; have := lcountL_le_sz ((lT way x0)); omega
  have hbnd0 : (0 : Int) ≤ (1 : Int) := by omega
  refine (markVal_calls (lT way x0) aG _ ((1 : Int)) Fm w13 hFm hbnd0 (by omega)).mono ?_
  rintro e w14 ⟨rfl, hoF, ht⟩
  have hbs := ht.beside (lo := w7.heap.size) (hi := w8.heap.size) (by omega) hFr
  clear k0_0 k0_1 k0_2 k0_3 k0_4 bw_0 bw_1 bw_2 bw_3 bw_4 j0_0 j0_1 j0_2 j0_3 j0_4 bg_0 bg_1 bg_2 bg_3 bg_4 k0_l bw_l j0_l bg_l
  have s9 : w13.heap.size ≤ w14.heap.size := ht.size
  have HB := Lib.hid (below_step HB.out hbs.1 (by omega))
  replace F0 := Lib.hid (F0.out.below hbs.1 (by omega))
  replace I0 := Lib.hid (I0.out.beside hbs (by omega))
  replace OW := Lib.hid (OW.out.beside hbs (by omega))
  replace BW := Lib.hid (BW.out.beside hbs (by omega))
  replace J0 := Lib.hid (J0.out.beside hbs (by omega))
  replace BG := Lib.hid (BG.out.beside hbs (by omega))
  replace OG := Lib.hid (hoF.toOw hFr)
  clear hoF ht hbs hFm hFr
  obtain ⟨k0_0, k0_1, k0_2, k0_3, k0_4⟩ := I0.out.cells5
  have k0_l : w.heap.size < w14.heap.size := I0.out.lt
  obtain ⟨bw_0, bw_1, bw_2, bw_3, bw_4⟩ := BW.out.cells5
  have bw_l : w4.heap.size < w14.heap.size := BW.out.lt
  obtain ⟨j0_0, j0_1, j0_2, j0_3, j0_4⟩ := J0.out.cells5
  have j0_l : w6.heap.size < w14.heap.size := J0.out.lt
  obtain ⟨bg_0, bg_1, bg_2, bg_3, bg_4⟩ := BG.out.cells5
  have bg_l : w8.heap.size < w14.heap.size := BG.out.lt
  generalize hkk : ((1 : Int)) + (cL' costT ((lT way x0)).l : Nat) = m1 at hbnd ⊢
  have nm1 : ¬ (m1 < 0) := by omega
  have HM := Lib.hid hkk
  clear hbnd0 hkk
  have hbm1 := hbnd; clear hbnd
  -- region 19: laws.heldVal
  go_wp2_with fail
  have hbnd2 : (1 : Int) + (cL' costT ((lT way x0)).l : Nat) ≤ 900000000000 := by have := G0.out; have := lT_sz way x0; have := costTL ((lT way x0)).l; have := lcountL_le_sz ((lT way x0)); omega
  refine (heldVal_calls (lT way x0) (lT way x0) _ _ 1 _ w14 rfl (OG.out.read.more (by omega)) (Nat.le_refl _) (by omega) (by omega)).mono ?_
  rintro e w15 ⟨rfl, hb⟩
  clear hbnd2
  rw [HM.out]
  clear k0_0 k0_1 k0_2 k0_3 k0_4 bw_0 bw_1 bw_2 bw_3 bw_4 j0_0 j0_1 j0_2 j0_3 j0_4 bg_0 bg_1 bg_2 bg_3 bg_4 k0_l bw_l j0_l bg_l
  have s10 : w14.heap.size ≤ w15.heap.size := hb.size
  have HB := Lib.hid (below_step HB.out hb (by omega))
  replace F0 := Lib.hid (F0.out.below hb (by omega))
  replace I0 := Lib.hid (I0.out.below hb (by omega))
  replace OW := Lib.hid (OW.out.below hb (by omega))
  replace BW := Lib.hid (BW.out.below hb (by omega))
  replace J0 := Lib.hid (J0.out.below hb (by omega))
  replace OG := Lib.hid (OG.out.below TV.elem.loc hb (by omega))
  replace BG := Lib.hid (BG.out.below hb (by omega))
  obtain ⟨k0_0, k0_1, k0_2, k0_3, k0_4⟩ := I0.out.cells5
  have k0_l : w.heap.size < w15.heap.size := I0.out.lt
  obtain ⟨bw_0, bw_1, bw_2, bw_3, bw_4⟩ := BW.out.cells5
  have bw_l : w4.heap.size < w15.heap.size := BW.out.lt
  obtain ⟨j0_0, j0_1, j0_2, j0_3, j0_4⟩ := J0.out.cells5
  have j0_l : w6.heap.size < w15.heap.size := J0.out.lt
  obtain ⟨bg_0, bg_1, bg_2, bg_3, bg_4⟩ := BG.out.cells5
  have bg_l : w8.heap.size < w15.heap.size := BG.out.lt
  clear hb
  -- region 24: laws.toVal impl.Halved
  go_wp2_with fail
  refine (toVal_calls x0 a0 c0 w.heap.size w15 F0.out hwf0 (by omega) (by have := G0.out; omega)).mono ?_
  rintro e w16 ⟨b0, rfl, ho, hb⟩
  clear k0_0 k0_1 k0_2 k0_3 k0_4 bw_0 bw_1 bw_2 bw_3 bw_4 j0_0 j0_1 j0_2 j0_3 j0_4 bg_0 bg_1 bg_2 bg_3 bg_4 k0_l bw_l j0_l bg_l
  have s11 : w15.heap.size ≤ w16.heap.size := hb.size
  have HB := Lib.hid (below_step HB.out hb (by omega))
  replace F0 := Lib.hid (F0.out.below hb (by omega))
  replace I0 := Lib.hid (I0.out.below hb (by omega))
  replace OW := Lib.hid (OW.out.below hb (by omega))
  replace BW := Lib.hid (BW.out.below hb (by omega))
  replace J0 := Lib.hid (J0.out.below hb (by omega))
  replace OG := Lib.hid (OG.out.below TV.elem.loc hb (by omega))
  replace BG := Lib.hid (BG.out.below hb (by omega))
  obtain ⟨k0_0, k0_1, k0_2, k0_3, k0_4⟩ := I0.out.cells5
  have k0_l : w.heap.size < w16.heap.size := I0.out.lt
  obtain ⟨bw_0, bw_1, bw_2, bw_3, bw_4⟩ := BW.out.cells5
  have bw_l : w4.heap.size < w16.heap.size := BW.out.lt
  obtain ⟨j0_0, j0_1, j0_2, j0_3, j0_4⟩ := J0.out.cells5
  have j0_l : w6.heap.size < w16.heap.size := J0.out.lt
  obtain ⟨bg_0, bg_1, bg_2, bg_3, bg_4⟩ := BG.out.cells5
  have bg_l : w8.heap.size < w16.heap.size := BG.out.lt
  replace ho := Lib.hid ho; have T0 := ho; clear ho hb
  go_wp2_with fail
  refine (impl_LeafFor way x0 _ _ _ w16 (T0.out.read.more (by omega)) hwf0 (by have := G0.out; have := T.countL_le_szL x0; omega) (Nat.le_refl _) HSS.out (fun V hV => HTAB.out V (HB.out.trans (hV.mono HB.out.size)))).mono ?_
  rintro e w17 ⟨aH, cH, rfl, ho, hb⟩
  clear k0_0 k0_1 k0_2 k0_3 k0_4 bw_0 bw_1 bw_2 bw_3 bw_4 j0_0 j0_1 j0_2 j0_3 j0_4 bg_0 bg_1 bg_2 bg_3 bg_4 k0_l bw_l j0_l bg_l
  have s12 : w16.heap.size ≤ w17.heap.size := hb.size
  have HB := Lib.hid (below_step HB.out hb (by omega))
  replace F0 := Lib.hid (F0.out.below hb (by omega))
  replace I0 := Lib.hid (I0.out.below hb (by omega))
  replace OW := Lib.hid (OW.out.below hb (by omega))
  replace BW := Lib.hid (BW.out.below hb (by omega))
  replace J0 := Lib.hid (J0.out.below hb (by omega))
  replace OG := Lib.hid (OG.out.below TV.elem.loc hb (by omega))
  replace BG := Lib.hid (BG.out.below hb (by omega))
  replace T0 := Lib.hid (T0.out.below hb (by omega))
  obtain ⟨k0_0, k0_1, k0_2, k0_3, k0_4⟩ := I0.out.cells5
  have k0_l : w.heap.size < w17.heap.size := I0.out.lt
  obtain ⟨bw_0, bw_1, bw_2, bw_3, bw_4⟩ := BW.out.cells5
  have bw_l : w4.heap.size < w17.heap.size := BW.out.lt
  obtain ⟨j0_0, j0_1, j0_2, j0_3, j0_4⟩ := J0.out.cells5
  have j0_l : w6.heap.size < w17.heap.size := J0.out.lt
  obtain ⟨bg_0, bg_1, bg_2, bg_3, bg_4⟩ := BG.out.cells5
  have bg_l : w8.heap.size < w17.heap.size := BG.out.lt
  replace ho := Lib.hid ho; have OH := ho; clear ho hb
  go_wp2_with fail
  generalize hW : w17.alloc (.cells (cV (lT way x0) aH cH) 31) = w18
  have hb : Below w17.heap.size w17 w18 := by subst hW; exact below1 _ _
  have BH : Hid (Is w18 w17.heap.size 31 (cV (lT way x0) aH cH)) := Lib.hid (by subst hW; exact Is.new _ _ _)
  have z18 : w18.heap.size = w17.heap.size + 1 := by subst hW; simp
  clear hW
  clear k0_0 k0_1 k0_2 k0_3 k0_4 bw_0 bw_1 bw_2 bw_3 bw_4 j0_0 j0_1 j0_2 j0_3 j0_4 bg_0 bg_1 bg_2 bg_3 bg_4 k0_l bw_l j0_l bg_l
  have HB := Lib.hid (below_step HB.out hb (by omega))
  replace F0 := Lib.hid (F0.out.below hb (by omega))
  replace I0 := Lib.hid (I0.out.below hb (by omega))
  replace OW := Lib.hid (OW.out.below hb (by omega))
  replace BW := Lib.hid (BW.out.below hb (by omega))
  replace J0 := Lib.hid (J0.out.below hb (by omega))
  replace OG := Lib.hid (OG.out.below TV.elem.loc hb (by omega))
  replace BG := Lib.hid (BG.out.below hb (by omega))
  replace T0 := Lib.hid (T0.out.below hb (by omega))
  replace OH := Lib.hid (OH.out.below hb (by omega))
  obtain ⟨k0_0, k0_1, k0_2, k0_3, k0_4⟩ := I0.out.cells5
  have k0_l : w.heap.size < w18.heap.size := I0.out.lt
  obtain ⟨bw_0, bw_1, bw_2, bw_3, bw_4⟩ := BW.out.cells5
  have bw_l : w4.heap.size < w18.heap.size := BW.out.lt
  obtain ⟨j0_0, j0_1, j0_2, j0_3, j0_4⟩ := J0.out.cells5
  have j0_l : w6.heap.size < w18.heap.size := J0.out.lt
  obtain ⟨bg_0, bg_1, bg_2, bg_3, bg_4⟩ := BG.out.cells5
  have bg_l : w8.heap.size < w18.heap.size := BG.out.lt
  obtain ⟨bh_0, bh_1, bh_2, bh_3, bh_4⟩ := BH.out.cells5
  have bh_l : w17.heap.size < w18.heap.size := BH.out.lt
  clear hb
  clear T0
  -- region 25: laws.eqVal
  go_wp2_with fail
  refine (eqVal_calls (lT way x0) _ _ _ _ _ w18 (OH.out.read.more (by omega)) (OW.out.read.more (by omega)) (lT_wf way hwf0 HSS.out) (Nat.le_refl _)).mono ?_
  rintro e w19 ⟨rfl, hb⟩
  clear k0_0 k0_1 k0_2 k0_3 k0_4 bw_0 bw_1 bw_2 bw_3 bw_4 j0_0 j0_1 j0_2 j0_3 j0_4 bg_0 bg_1 bg_2 bg_3 bg_4 bh_0 bh_1 bh_2 bh_3 bh_4 k0_l bw_l j0_l bg_l bh_l
  have s13 : w18.heap.size ≤ w19.heap.size := hb.size
  have HB := Lib.hid (below_step HB.out hb (by omega))
  replace F0 := Lib.hid (F0.out.below hb (by omega))
  replace I0 := Lib.hid (I0.out.below hb (by omega))
  replace OW := Lib.hid (OW.out.below hb (by omega))
  replace BW := Lib.hid (BW.out.below hb (by omega))
  replace J0 := Lib.hid (J0.out.below hb (by omega))
  replace OG := Lib.hid (OG.out.below TV.elem.loc hb (by omega))
  replace BG := Lib.hid (BG.out.below hb (by omega))
  replace OH := Lib.hid (OH.out.below hb (by omega))
  replace BH := Lib.hid (BH.out.below hb (by omega))
  obtain ⟨k0_0, k0_1, k0_2, k0_3, k0_4⟩ := I0.out.cells5
  have k0_l : w.heap.size < w19.heap.size := I0.out.lt
  obtain ⟨bw_0, bw_1, bw_2, bw_3, bw_4⟩ := BW.out.cells5
  have bw_l : w4.heap.size < w19.heap.size := BW.out.lt
  obtain ⟨j0_0, j0_1, j0_2, j0_3, j0_4⟩ := J0.out.cells5
  have j0_l : w6.heap.size < w19.heap.size := J0.out.lt
  obtain ⟨bg_0, bg_1, bg_2, bg_3, bg_4⟩ := BG.out.cells5
  have bg_l : w8.heap.size < w19.heap.size := BG.out.lt
  obtain ⟨bh_0, bh_1, bh_2, bh_3, bh_4⟩ := BH.out.cells5
  have bh_l : w17.heap.size < w19.heap.size := BH.out.lt
  clear hb
  -- region 28: laws.heldVal
  go_wp2_with fail
  have hbnd2 : (1 : Int) + (cL' costT ((lT way x0)).l : Nat) ≤ 900000000000 := by have := G0.out; have := lT_sz way x0; have := costTL ((lT way x0)).l; have := lcountL_le_sz ((lT way x0)); omega
  refine (heldVal_calls (lT way x0) (lT way x0) _ _ 1 _ w19 rfl (OG.out.read.more (by omega)) (Nat.le_refl _) (by omega) (by omega)).mono ?_
  rintro e w20 ⟨rfl, hb⟩
  clear hbnd2
  rw [HM.out]
  clear k0_0 k0_1 k0_2 k0_3 k0_4 bw_0 bw_1 bw_2 bw_3 bw_4 j0_0 j0_1 j0_2 j0_3 j0_4 bg_0 bg_1 bg_2 bg_3 bg_4 bh_0 bh_1 bh_2 bh_3 bh_4 k0_l bw_l j0_l bg_l bh_l
  have s14 : w19.heap.size ≤ w20.heap.size := hb.size
  have HB := Lib.hid (below_step HB.out hb (by omega))
  replace F0 := Lib.hid (F0.out.below hb (by omega))
  replace I0 := Lib.hid (I0.out.below hb (by omega))
  replace OW := Lib.hid (OW.out.below hb (by omega))
  replace BW := Lib.hid (BW.out.below hb (by omega))
  replace J0 := Lib.hid (J0.out.below hb (by omega))
  replace OG := Lib.hid (OG.out.below TV.elem.loc hb (by omega))
  replace BG := Lib.hid (BG.out.below hb (by omega))
  replace OH := Lib.hid (OH.out.below hb (by omega))
  replace BH := Lib.hid (BH.out.below hb (by omega))
  obtain ⟨k0_0, k0_1, k0_2, k0_3, k0_4⟩ := I0.out.cells5
  have k0_l : w.heap.size < w20.heap.size := I0.out.lt
  obtain ⟨bw_0, bw_1, bw_2, bw_3, bw_4⟩ := BW.out.cells5
  have bw_l : w4.heap.size < w20.heap.size := BW.out.lt
  obtain ⟨j0_0, j0_1, j0_2, j0_3, j0_4⟩ := J0.out.cells5
  have j0_l : w6.heap.size < w20.heap.size := J0.out.lt
  obtain ⟨bg_0, bg_1, bg_2, bg_3, bg_4⟩ := BG.out.cells5
  have bg_l : w8.heap.size < w20.heap.size := BG.out.lt
  obtain ⟨bh_0, bh_1, bh_2, bh_3, bh_4⟩ := BH.out.cells5
  have bh_l : w17.heap.size < w20.heap.size := BH.out.lt
  clear hb
  go_wp2_with fail
  go_ret
  exact ⟨rfl, HB.out⟩
end Go.Proofs.YtfbgmhjjdgglnaaDoor
