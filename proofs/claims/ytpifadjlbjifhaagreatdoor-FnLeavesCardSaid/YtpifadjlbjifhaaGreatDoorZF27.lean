/- Texts of this proof, merged: LawLeaves. No condition beyond what each theorem states. -/
import Derived.Test.YtpifadjlbjifhaaGreatDoorRows
import Derived.WalkKit
import Derived.ProofKit
import Derived.OpenShut
import Derived.Handy
import Derived.Lib.Hide
import Derived.Lib.SmallJoins
import Derived.Deep.RegionHeld3
import Derived.Test.YtpifadjlbjifhaaGreatDoorZF1
import Derived.Test.YtpifadjlbjifhaaGreatDoorZF2
import Derived.Test.YtpifadjlbjifhaaGreatDoorZF3
import Derived.Test.YtpifadjlbjifhaaGreatDoorZF4
import Derived.Test.YtpifadjlbjifhaaGreatDoorZF6
import Derived.Test.YtpifadjlbjifhaaGreatDoorZF13
import Derived.Test.YtpifadjlbjifhaaGreatDoorZF15
import Derived.Test.YtpifadjlbjifhaaGreatDoorZF16
import Derived.Test.YtpifadjlbjifhaaGreatDoorZF22
import Derived.Test.YtpifadjlbjifhaaGreatDoorZF26
set_option linter.unusedSimpArgs false
set_option linter.unnecessarySimpa false
namespace Go.Proofs.YtpifadjlbjifhaaGreatDoor
open Go.ChangeShapes Go.WideShapes Go.ChangeAt Go.RowKit Go.Joins
set_option linter.unusedVariables false
set_option maxRecDepth 100000
theorem lT_s (way : Int) (t : T) : (lT way t).s.size ≤ 2 * t.s.size := by
  have h0 : (⟨#[]⟩ : ByteArray).size = 0 := rfl
  have h1 : ∀ d, (numV d).s.size = 0 := fun d => by unfold numV; split <;> rfl
  have h2 : ∀ n x, (nearW n x).1.s.size = 0 := fun n x => by unfold nearW; split <;> rfl
  obtain ⟨k, n, x, s, l⟩ := t
  show (leafW way k n x s l).1.s.size ≤ 2 * s.size
  unfold leafW
  split
  · rw [h2]; omega
  split
  · show (numV (fltDecD n x)).s.size ≤ _; rw [h1]; omega
  split
  · show (⟨#[]⟩ : ByteArray).size ≤ _; omega
  split
  · show (hexT s).size ≤ _; rw [hexT_size]; omega
  · show s.size ≤ _; omega
theorem way_back (n : Int) (h1 : 1 ≤ n) (h4 : n ≤ 4) : wayOf (wayNm n) = n := by
  rcases (show n = 1 ∨ n = 2 ∨ n = 3 ∨ n = 4 by omega) with rfl | rfl | rfl | rfl <;> decide
set_option maxHeartbeats 8000000 in
theorem FnLeaves_walk (x0 : List Int) (a0 : Option Addr) (c0 B0 : Nat) (w : World) (hr0 : Rd EByte 1 w B0 a0 c0 x0) (_ : True) (hB0 : B0 ≤ w.heap.size) (henv : Env w.heap.size w) :
    Calls Tryz.prog 4 #[.slice a0 x0.length c0] w fun e w' => e = .returned (.bool true) ∧ Below w.heap.size w w' := by
  have HENV := Lib.hid henv; clear henv
  have F0 : Hid (Rd EByte 1 w w.heap.size a0 c0 x0) := Lib.hid (hr0.more hB0)
  clear hr0
  obtain ⟨hn0, hm0⟩ := F0.out.len
  go_enter Tryz.func4, Tryz.ntmps4
  go_wp2_with fail
  refine (laws_big a0 c0 x0 w).mono ?_
  rintro e w1 ⟨rfl, hw1⟩
  have hw2 := hw1.symm; subst hw2; clear hw1
  by_cases hbig : 1048576 < x0.length
  · have hbb : decide (1048576 < x0.length) = true := decide_eq_true hbig
    rw [hbb]
    go_wp2_with fail
    go_ret
    exact ⟨rfl, Below.refl _ _⟩
  have hbb : decide (1048576 < x0.length) = false := decide_eq_false hbig
  rw [hbb]
  have hl0 : x0.length ≤ 1048576 := by omega
  clear hbb hbig
  have HB0 : Hid (Below w.heap.size w w) := Lib.hid (Below.refl _ _)
  go_wp2_with fail
  refine (spec_DrawLeafFor a0 c0 w.heap.size x0 w F0.out (Nat.le_refl _) hl0).mono ?_
  rintro e w1 ⟨way, t, aT, cT, hway, rfl, htw, hts, htz, hrt, hb⟩
  have HWAY := Lib.hid hway; have HTW := Lib.hid htw
  clear hway htw
  have HB1 := Lib.hid hb; have s1 := hb.size
  have RT1 := Lib.hid hrt; clear hb hrt
  go_wp2_with fail
  obtain ⟨gv, gvE⟩ : ∃ g, w1.heap.size = g := ⟨_, rfl⟩
  generalize hW : w1.alloc (.cells (cV t aT cT) 36) = w2
  have z2 : w2.heap.size = w1.heap.size + 1 := by subst hW; simp
  have hbx : Below w1.heap.size w1 w2 := by subst hW; exact below1 _ _
  have HV2 : Hid (Is w2 gv 36 (cV t aT cT)) := Lib.hid (by subst hW; rw [← gvE]; exact Is.new _ _ _)
  clear hW
  try rw [gvE]
  have HS2 := Lib.hid (hbx)
  have s2 : w1.heap.size ≤ w2.heap.size := HS2.out.size
  have HB2 := Lib.hid (HB1.out.trans (HS2.out.mono (by omega)))
  have RT2 := Lib.hid (R.fwd RT1.out HS2.out)
  clear HS2 HB1 RT1
  have gvl : gv < w2.heap.size := HV2.out.lt
  have gvw : w.heap.size ≤ gv := by omega
  obtain ⟨hv_0, hv_1, hv_2, hv_3, hv_4⟩ := HV2.out.cells5; have hv_f := fun i => HV2.out.frozen i; have hv_l : gv < w2.heap.size := HV2.out.lt
  go_wp2_with fail
  refine (impl_LeafFor way t aT cT w2.heap.size w2 RT2.out HTW.out (by have := T.countL_le_szL t; omega) (Nat.le_refl _) (by omega) ((HENV.out.step HB2.out).here (by have := HB2.out.size; omega)).1).mono ?_
  rintro e w3 ⟨aX, cX, rfl, hox, hb⟩
  clear hv_0 hv_1 hv_2 hv_3 hv_4 hv_f hv_l
  have HS3 := Lib.hid (hb)
  have s3 : w2.heap.size ≤ w3.heap.size := HS3.out.size
  have HB3 := Lib.hid (HB2.out.trans (HS3.out.mono (by omega)))
  have RT3 := Lib.hid (R.fwd RT2.out HS3.out)
  have HV3 := Lib.hid (HV2.out.below HS3.out (by omega))
  clear HS3 HB2 RT2 HV2
  obtain ⟨kN, hkN⟩ : ∃ k, lN way t = k := ⟨_, rfl⟩
  rw [hkN]
  have HKN := Lib.hid hkN; clear hkN
  have RX3 := Lib.hid (hox.read); clear hox hb
  obtain ⟨hv_0, hv_1, hv_2, hv_3, hv_4⟩ := HV3.out.cells5; have hv_f := fun i => HV3.out.frozen i; have hv_l : gv < w3.heap.size := HV3.out.lt
  go_wp2_with fail
  obtain ⟨gx, gxE⟩ : ∃ g, w3.heap.size = g := ⟨_, rfl⟩
  generalize hW : w3.alloc (.cells (cV (lT way t) aX cX) 36) = w4
  have z4 : w4.heap.size = w3.heap.size + 1 := by subst hW; simp
  have hbx : Below w3.heap.size w3 w4 := by subst hW; exact below1 _ _
  have HX4 : Hid (Is w4 gx 36 (cV (lT way t) aX cX)) := Lib.hid (by subst hW; rw [← gxE]; exact Is.new _ _ _)
  clear hW
  try rw [gxE]
  have HS4 := Lib.hid (hbx)
  have s4 : w3.heap.size ≤ w4.heap.size := HS4.out.size
  have HB4 := Lib.hid (HB3.out.trans (HS4.out.mono (by omega)))
  have RT4 := Lib.hid (R.fwd RT3.out HS4.out)
  have RX4 := Lib.hid (R.fwd RX3.out HS4.out)
  have HV4 := Lib.hid (HV3.out.below HS4.out (by omega))
  clear HS4 HB3 RT3 RX3 HV3
  have gxl : gx < w4.heap.size := HX4.out.lt
  have gxw : w.heap.size ≤ gx := by omega
  clear hv_0 hv_1 hv_2 hv_3 hv_4 hv_f hv_l
  refine (spec_LeafFor way t aT cT w4.heap.size w4 RT4.out HTW.out (by have := T.countL_le_szL t; omega) (Nat.le_refl _) (by omega)).mono ?_
  rintro e w5 ⟨aY, cY, rfl, hoy, hb⟩
  have HS5 := Lib.hid (hb)
  have s5 : w4.heap.size ≤ w5.heap.size := HS5.out.size
  have HB5 := Lib.hid (HB4.out.trans (HS5.out.mono (by omega)))
  have RT5 := Lib.hid (R.fwd RT4.out HS5.out)
  have RX5 := Lib.hid (R.fwd RX4.out HS5.out)
  have HV5 := Lib.hid (HV4.out.below HS5.out (by omega))
  have HX5 := Lib.hid (HX4.out.below HS5.out (by omega))
  clear HS5 HB4 RT4 RX4 HV4 HX4
  rw [HKN.out]
  have RY5 := Lib.hid (hoy.read); clear hoy hb
  go_wp2_with fail
  obtain ⟨gy, gyE⟩ : ∃ g, w5.heap.size = g := ⟨_, rfl⟩
  generalize hW : w5.alloc (.cells (cV (lT way t) aY cY) 36) = w6
  have z6 : w6.heap.size = w5.heap.size + 1 := by subst hW; simp
  have hbx : Below w5.heap.size w5 w6 := by subst hW; exact below1 _ _
  have HY6 : Hid (Is w6 gy 36 (cV (lT way t) aY cY)) := Lib.hid (by subst hW; rw [← gyE]; exact Is.new _ _ _)
  clear hW
  try rw [gyE]
  have HS6 := Lib.hid (hbx)
  have s6 : w5.heap.size ≤ w6.heap.size := HS6.out.size
  have HB6 := Lib.hid (HB5.out.trans (HS6.out.mono (by omega)))
  have RT6 := Lib.hid (R.fwd RT5.out HS6.out)
  have RX6 := Lib.hid (R.fwd RX5.out HS6.out)
  have RY6 := Lib.hid (R.fwd RY5.out HS6.out)
  have HV6 := Lib.hid (HV5.out.below HS6.out (by omega))
  have HX6 := Lib.hid (HX5.out.below HS6.out (by omega))
  clear HS6 HB5 RT5 RX5 RY5 HV5 HX5
  have gyl : gy < w6.heap.size := HY6.out.lt
  have gyw : w.heap.size ≤ gy := by omega
  go_wp2_with fail
  refine (spec_DrawWayOk a0 c0 w6.heap.size x0 w6 ((F0.out.below EByte.loc HB6.out (Nat.le_refl _)).more (by have := HB6.out.size; omega)) (Nat.le_refl _) hl0).mono ?_
  rintro e w7 ⟨n1, hn1a, hn1b, rfl, hb⟩
  have HS7 := Lib.hid (hb)
  have s7 : w6.heap.size ≤ w7.heap.size := HS7.out.size
  have HB7 := Lib.hid (HB6.out.trans (HS7.out.mono (by omega)))
  have RT7 := Lib.hid (R.fwd RT6.out HS7.out)
  have RX7 := Lib.hid (R.fwd RX6.out HS7.out)
  have RY7 := Lib.hid (R.fwd RY6.out HS7.out)
  have HV7 := Lib.hid (HV6.out.below HS7.out (by omega))
  have HX7 := Lib.hid (HX6.out.below HS7.out (by omega))
  have HY7 := Lib.hid (HY6.out.below HS7.out (by omega))
  clear HS7 HB6 RT6 RX6 RY6 HV6 HX6 HY6
  clear hb
  go_wp2_with fail
  refine (spec_DrawWayOf a0 c0 w7.heap.size x0 w7 ((F0.out.below EByte.loc HB7.out (Nat.le_refl _)).more (by have := HB7.out.size; omega)) (Nat.le_refl _) hl0).mono ?_
  rintro e w8 ⟨sW, hsW, rfl, hb⟩
  have HS8 := Lib.hid (hb)
  have s8 : w7.heap.size ≤ w8.heap.size := HS8.out.size
  have HB8 := Lib.hid (HB7.out.trans (HS8.out.mono (by omega)))
  have RT8 := Lib.hid (R.fwd RT7.out HS8.out)
  have RX8 := Lib.hid (R.fwd RX7.out HS8.out)
  have RY8 := Lib.hid (R.fwd RY7.out HS8.out)
  have HV8 := Lib.hid (HV7.out.below HS8.out (by omega))
  have HX8 := Lib.hid (HX7.out.below HS8.out (by omega))
  have HY8 := Lib.hid (HY7.out.below HS8.out (by omega))
  clear HS8 HB7 RT7 RX7 RY7 HV7 HX7 HY7
  clear hb
  go_wp2_with fail
  refine (spec_DrawWayName a0 c0 w8.heap.size x0 w8 ((F0.out.below EByte.loc HB8.out (Nat.le_refl _)).more (by have := HB8.out.size; omega)) (Nat.le_refl _) hl0).mono ?_
  rintro e w9 ⟨n2, hn2a, hn2b, rfl, hb⟩
  have HS9 := Lib.hid (hb)
  have s9 : w8.heap.size ≤ w9.heap.size := HS9.out.size
  have HB9 := Lib.hid (HB8.out.trans (HS9.out.mono (by omega)))
  have RT9 := Lib.hid (R.fwd RT8.out HS9.out)
  have RX9 := Lib.hid (R.fwd RX8.out HS9.out)
  have RY9 := Lib.hid (R.fwd RY8.out HS9.out)
  have HV9 := Lib.hid (HV8.out.below HS9.out (by omega))
  have HX9 := Lib.hid (HX8.out.below HS9.out (by omega))
  have HY9 := Lib.hid (HY8.out.below HS9.out (by omega))
  clear HS9 HB8 RT8 RX8 RY8 HV8 HX8 HY8
  clear hb
  go_wp2_with fail
  refine (spec_DrawTextNames a0 c0 w9.heap.size x0 w9 ((F0.out.below EByte.loc HB9.out (Nat.le_refl _)).more (by have := HB9.out.size; omega)) (Nat.le_refl _) hl0).mono ?_
  rintro e w10 ⟨n3, hn3a, hn3b, rfl, hb⟩
  have HS10 := Lib.hid (hb)
  have s10 : w9.heap.size ≤ w10.heap.size := HS10.out.size
  have HB10 := Lib.hid (HB9.out.trans (HS10.out.mono (by omega)))
  have RT10 := Lib.hid (R.fwd RT9.out HS10.out)
  have RX10 := Lib.hid (R.fwd RX9.out HS10.out)
  have RY10 := Lib.hid (R.fwd RY9.out HS10.out)
  have HV10 := Lib.hid (HV9.out.below HS10.out (by omega))
  have HX10 := Lib.hid (HX9.out.below HS10.out (by omega))
  have HY10 := Lib.hid (HY9.out.below HS10.out (by omega))
  clear HS10 HB9 RT9 RX9 RY9 HV9 HX9 HY9
  clear hb
  go_upto_region 10 with (fail)
  go_cut [94] (fun bq wx => bq = .bool false ∧ Hid (R wx wx.heap.size aT cT t.l) ∧ Hid (R wx wx.heap.size aX cX (lT way t).l) ∧ Hid (Is wx gv 36 (cV t aT cT)) ∧ Hid (Is wx gx 36 (cV (lT way t) aX cX)) ∧ Hid (Below w.heap.size w wx))
  case first =>
    obtain ⟨hx_0, hx_1, hx_2, hx_3, hx_4⟩ := HX10.out.cells5; have hx_f := fun i => HX10.out.frozen i; have hx_l : gx < w10.heap.size := HX10.out.lt
    obtain ⟨hy_0, hy_1, hy_2, hy_3, hy_4⟩ := HY10.out.cells5; have hy_f := fun i => HY10.out.frozen i; have hy_l : gy < w10.heap.size := HY10.out.lt
    go_wp2_with fail
    refine (laws_sameVal (lT way t) (lT way t) aX aY cX cY w10.heap.size w10 RX10.out RY10.out (Nat.le_refl _)).mono ?_
    rintro e w11 ⟨rfl, hb⟩
    rw [sameT_true rfl]
    clear hx_0 hx_1 hx_2 hx_3 hx_4 hx_f hx_l
    clear hy_0 hy_1 hy_2 hy_3 hy_4 hy_f hy_l
    have HS11 := Lib.hid (hb)
    have s11 : w10.heap.size ≤ w11.heap.size := HS11.out.size
    have HB11 := Lib.hid (HB10.out.trans (HS11.out.mono (by omega)))
    have RT11 := Lib.hid (R.fwd RT10.out HS11.out)
    have RX11 := Lib.hid (R.fwd RX10.out HS11.out)
    have RY11 := Lib.hid (R.fwd RY10.out HS11.out)
    have HV11 := Lib.hid (HV10.out.below HS11.out (by omega))
    have HX11 := Lib.hid (HX10.out.below HS11.out (by omega))
    have HY11 := Lib.hid (HY10.out.below HS11.out (by omega))
    clear HS11 HB10 RT10 RX10 RY10 HV10 HX10 HY10
    clear hb
    have hself : ∀ b : Bool, (b != b) = false := fun b => by cases b <;> rfl
    obtain ⟨b1, hb1⟩ : ∃ b, decide (1 ≤ n1 ∧ n1 ≤ 4) = b := ⟨_, rfl⟩
    have HBOK := Lib.hid hb1
    go_wp2_with fail
    refine (impl_WayOk n1 w11).mono ?_
    rintro e w12 ⟨rfl, hb⟩
    rw [hb1]
    have HS12 := Lib.hid (hb)
    have s12 : w11.heap.size ≤ w12.heap.size := HS12.out.size
    have HB12 := Lib.hid (HB11.out.trans (HS12.out.mono (by omega)))
    have RT12 := Lib.hid (R.fwd RT11.out HS12.out)
    have RX12 := Lib.hid (R.fwd RX11.out HS12.out)
    have RY12 := Lib.hid (R.fwd RY11.out HS12.out)
    have HV12 := Lib.hid (HV11.out.below HS12.out (by omega))
    have HX12 := Lib.hid (HX11.out.below HS12.out (by omega))
    have HY12 := Lib.hid (HY11.out.below HS12.out (by omega))
    clear HS12 HB11 RT11 RX11 RY11 HV11 HX11 HY11
    clear hb
    go_wp2_with fail
    refine (spec_WayOk n1 w12).mono ?_
    rintro e w13 ⟨rfl, hb⟩
    rw [hb1]
    have HS13 := Lib.hid (hb)
    have s13 : w12.heap.size ≤ w13.heap.size := HS13.out.size
    have HB13 := Lib.hid (HB12.out.trans (HS13.out.mono (by omega)))
    have RT13 := Lib.hid (R.fwd RT12.out HS13.out)
    have RX13 := Lib.hid (R.fwd RX12.out HS13.out)
    have RY13 := Lib.hid (R.fwd RY12.out HS13.out)
    have HV13 := Lib.hid (HV12.out.below HS13.out (by omega))
    have HX13 := Lib.hid (HX12.out.below HS13.out (by omega))
    have HY13 := Lib.hid (HY12.out.below HS13.out (by omega))
    clear HS13 HB12 RT12 RX12 RY12 HV12 HX12 HY12
    clear hb hb1
    have hs1 := hself b1
    go_wp2_with fail
    refine (impl_WayOf sW w13).mono ?_
    rintro e w14 ⟨rfl, hb⟩
    obtain ⟨wo, hwo⟩ : ∃ k, wayOf sW = k := ⟨_, rfl⟩
    rw [hwo]
    have HS14 := Lib.hid (hb)
    have s14 : w13.heap.size ≤ w14.heap.size := HS14.out.size
    have HB14 := Lib.hid (HB13.out.trans (HS14.out.mono (by omega)))
    have RT14 := Lib.hid (R.fwd RT13.out HS14.out)
    have RX14 := Lib.hid (R.fwd RX13.out HS14.out)
    have RY14 := Lib.hid (R.fwd RY13.out HS14.out)
    have HV14 := Lib.hid (HV13.out.below HS14.out (by omega))
    have HX14 := Lib.hid (HX13.out.below HS14.out (by omega))
    have HY14 := Lib.hid (HY13.out.below HS14.out (by omega))
    clear HS14 HB13 RT13 RX13 RY13 HV13 HX13 HY13
    clear hb
    go_wp2_with fail
    refine (spec_WayOf sW w14).mono ?_
    rintro e w15 ⟨rfl, hb⟩
    rw [hwo]
    have HS15 := Lib.hid (hb)
    have s15 : w14.heap.size ≤ w15.heap.size := HS15.out.size
    have HB15 := Lib.hid (HB14.out.trans (HS15.out.mono (by omega)))
    have RT15 := Lib.hid (R.fwd RT14.out HS15.out)
    have RX15 := Lib.hid (R.fwd RX14.out HS15.out)
    have RY15 := Lib.hid (R.fwd RY14.out HS15.out)
    have HV15 := Lib.hid (HV14.out.below HS15.out (by omega))
    have HX15 := Lib.hid (HX14.out.below HS15.out (by omega))
    have HY15 := Lib.hid (HY14.out.below HS15.out (by omega))
    clear HS15 HB14 RT14 RX14 RY14 HV14 HX14 HY14
    clear hb hwo
    go_wp2_with fail
    refine (impl_WayName n2 w15 ⟨by omega, by omega⟩).mono ?_
    rintro e w16 ⟨rfl, hb⟩
    obtain ⟨wn, hwn⟩ : ∃ k, wayNm n2 = k := ⟨_, rfl⟩
    rw [hwn]
    have HS16 := Lib.hid (hb)
    have s16 : w15.heap.size ≤ w16.heap.size := HS16.out.size
    have HB16 := Lib.hid (HB15.out.trans (HS16.out.mono (by omega)))
    have RT16 := Lib.hid (R.fwd RT15.out HS16.out)
    have RX16 := Lib.hid (R.fwd RX15.out HS16.out)
    have RY16 := Lib.hid (R.fwd RY15.out HS16.out)
    have HV16 := Lib.hid (HV15.out.below HS16.out (by omega))
    have HX16 := Lib.hid (HX15.out.below HS16.out (by omega))
    have HY16 := Lib.hid (HY15.out.below HS16.out (by omega))
    clear HS16 HB15 RT15 RX15 RY15 HV15 HX15 HY15
    clear hb
    go_wp2_with fail
    refine (spec_WayName n2 w16 ⟨by omega, by omega⟩).mono ?_
    rintro e w17 ⟨rfl, hb⟩
    rw [hwn]
    have HS17 := Lib.hid (hb)
    have s17 : w16.heap.size ≤ w17.heap.size := HS17.out.size
    have HB17 := Lib.hid (HB16.out.trans (HS17.out.mono (by omega)))
    have RT17 := Lib.hid (R.fwd RT16.out HS17.out)
    have RX17 := Lib.hid (R.fwd RX16.out HS17.out)
    have RY17 := Lib.hid (R.fwd RY16.out HS17.out)
    have HV17 := Lib.hid (HV16.out.below HS17.out (by omega))
    have HX17 := Lib.hid (HX16.out.below HS17.out (by omega))
    have HY17 := Lib.hid (HY16.out.below HS17.out (by omega))
    clear HS17 HB16 RT16 RX16 RY16 HV16 HX16 HY16
    clear hb hwn
    go_wp2_with fail
    refine (impl_TextNames n3 w17).mono ?_
    rintro e w18 ⟨rfl, hb⟩
    obtain ⟨b2, hb2⟩ : ∃ b, decide (n3 = 1 ∨ n3 = 4) = b := ⟨_, rfl⟩
    rw [hb2]
    have HS18 := Lib.hid (hb)
    have s18 : w17.heap.size ≤ w18.heap.size := HS18.out.size
    have HB18 := Lib.hid (HB17.out.trans (HS18.out.mono (by omega)))
    have RT18 := Lib.hid (R.fwd RT17.out HS18.out)
    have RX18 := Lib.hid (R.fwd RX17.out HS18.out)
    have RY18 := Lib.hid (R.fwd RY17.out HS18.out)
    have HV18 := Lib.hid (HV17.out.below HS18.out (by omega))
    have HX18 := Lib.hid (HX17.out.below HS18.out (by omega))
    have HY18 := Lib.hid (HY17.out.below HS18.out (by omega))
    clear HS18 HB17 RT17 RX17 RY17 HV17 HX17 HY17
    clear hb
    go_wp2_with fail
    refine (spec_TextNames n3 w18).mono ?_
    rintro e w19 ⟨rfl, hwe⟩
    rw [hb2]
    have HS19 := Lib.hid (show Below w18.heap.size w18 w19 from by rw [hwe]; exact Below.refl _ _)
    have s19 : w18.heap.size ≤ w19.heap.size := HS19.out.size
    have HB19 := Lib.hid (HB18.out.trans (HS19.out.mono (by omega)))
    have RT19 := Lib.hid (R.fwd RT18.out HS19.out)
    have RX19 := Lib.hid (R.fwd RX18.out HS19.out)
    have RY19 := Lib.hid (R.fwd RY18.out HS19.out)
    have HV19 := Lib.hid (HV18.out.below HS19.out (by omega))
    have HX19 := Lib.hid (HX18.out.below HS19.out (by omega))
    have HY19 := Lib.hid (HY18.out.below HS19.out (by omega))
    clear HS19 HB18 RT18 RX18 RY18 HV18 HX18 HY18
    clear hwe hb2
    have hs2 := hself b2
    go_wp2_with fail
    refine (impl_Tags n3 w19).mono ?_
    rintro e w20 ⟨rfl, hb⟩
    obtain ⟨b3, hb3⟩ : ∃ b, decide (n3 = 2) = b := ⟨_, rfl⟩
    rw [hb3]
    have HS20 := Lib.hid (hb)
    have s20 : w19.heap.size ≤ w20.heap.size := HS20.out.size
    have HB20 := Lib.hid (HB19.out.trans (HS20.out.mono (by omega)))
    have RT20 := Lib.hid (R.fwd RT19.out HS20.out)
    have RX20 := Lib.hid (R.fwd RX19.out HS20.out)
    have RY20 := Lib.hid (R.fwd RY19.out HS20.out)
    have HV20 := Lib.hid (HV19.out.below HS20.out (by omega))
    have HX20 := Lib.hid (HX19.out.below HS20.out (by omega))
    have HY20 := Lib.hid (HY19.out.below HS20.out (by omega))
    clear HS20 HB19 RT19 RX19 RY19 HV19 HX19 HY19
    clear hb
    go_wp2_with fail
    refine (spec_Tags n3 w20).mono ?_
    rintro e w21 ⟨rfl, hb⟩
    rw [hb3]
    have HS21 := Lib.hid (hb)
    have s21 : w20.heap.size ≤ w21.heap.size := HS21.out.size
    have HB21 := Lib.hid (HB20.out.trans (HS21.out.mono (by omega)))
    have RT21 := Lib.hid (R.fwd RT20.out HS21.out)
    have RX21 := Lib.hid (R.fwd RX20.out HS21.out)
    have RY21 := Lib.hid (R.fwd RY20.out HS21.out)
    have HV21 := Lib.hid (HV20.out.below HS21.out (by omega))
    have HX21 := Lib.hid (HX20.out.below HS21.out (by omega))
    have HY21 := Lib.hid (HY20.out.below HS21.out (by omega))
    clear HS21 HB20 RT20 RX20 RY20 HV20 HX20 HY20
    clear hb hb3
    have hs3 := hself b3
    go_wp2_with fail
    refine (impl_WayName n1 w21 ⟨by omega, by omega⟩).mono ?_
    rintro e w22 ⟨rfl, hb⟩
    obtain ⟨wm, hwm⟩ : ∃ k, wayNm n1 = k := ⟨_, rfl⟩
    rw [hwm]
    have HWM := Lib.hid hwm
    have HS22 := Lib.hid (hb)
    have s22 : w21.heap.size ≤ w22.heap.size := HS22.out.size
    have HB22 := Lib.hid (HB21.out.trans (HS22.out.mono (by omega)))
    have RT22 := Lib.hid (R.fwd RT21.out HS22.out)
    have RX22 := Lib.hid (R.fwd RX21.out HS22.out)
    have RY22 := Lib.hid (R.fwd RY21.out HS22.out)
    have HV22 := Lib.hid (HV21.out.below HS22.out (by omega))
    have HX22 := Lib.hid (HX21.out.below HS22.out (by omega))
    have HY22 := Lib.hid (HY21.out.below HS22.out (by omega))
    clear HS22 HB21 RT21 RX21 RY21 HV21 HX21 HY21
    clear hb hwm
    go_wp2_with fail
    refine (impl_WayOf wm w22).mono ?_
    rintro e w23 ⟨rfl, hb⟩
    obtain ⟨wo2, hwo2⟩ : ∃ k, wayOf wm = k := ⟨_, rfl⟩
    rw [hwo2]
    have HWO := Lib.hid hwo2
    have HS23 := Lib.hid (hb)
    have s23 : w22.heap.size ≤ w23.heap.size := HS23.out.size
    have HB23 := Lib.hid (HB22.out.trans (HS23.out.mono (by omega)))
    have RT23 := Lib.hid (R.fwd RT22.out HS23.out)
    have RX23 := Lib.hid (R.fwd RX22.out HS23.out)
    have RY23 := Lib.hid (R.fwd RY22.out HS23.out)
    have HV23 := Lib.hid (HV22.out.below HS23.out (by omega))
    have HX23 := Lib.hid (HX22.out.below HS23.out (by omega))
    have HY23 := Lib.hid (HY22.out.below HS23.out (by omega))
    clear HS23 HB22 RT22 RX22 RY22 HV22 HX22 HY22
    clear hb hwo2
    have hq : b1 = true → wo2 = n1 := fun h => by
      have h14 : 1 ≤ n1 ∧ n1 ≤ 4 := of_decide_eq_true (HBOK.out.trans h)
      rw [← HWO.out, ← HWM.out]; exact way_back n1 h14.1 h14.2
    by_cases hqq : wo2 = n1
    · have hq1 : (wo2 != n1) = false := by simp [hqq]
      clear hqq hq
      go_wp2_with fail
      go_meet
      case rel => exact ⟨rfl, RT23, RX23, HV23, HX23, HB23⟩
    · have hq1 : (wo2 != n1) = true := by simp [hqq]
      have hb1 : b1 = false := by cases b1 with | false => rfl | true => exact absurd (hq rfl) hqq
      clear hqq hq
      subst hb1
      go_wp2_with fail
      refine (impl_WayOk n1 w23).mono ?_
      rintro e w24 ⟨rfl, hb⟩
      rw [HBOK.out]
      have HS24 := Lib.hid hb
      go_wp2_with fail
      go_meet
      case rel => exact ⟨rfl, Lib.hid (R.fwd RT23.out HS24.out), Lib.hid (R.fwd RX23.out HS24.out), Lib.hid (HV23.out.below HS24.out (by omega)), Lib.hid (HX23.out.below HS24.out (by omega)), Lib.hid (HB23.out.trans (HS24.out.mono (by omega)))⟩
  case rest =>
    clear RT10 RX10 RY10 HV10 HX10 HY10 HB10
    obtain ⟨rfl, RT25, RX25, HV25, HX25, HB25⟩ := hcut
    rename World => w25
    have hvl := HV25.out.lt; have hxl := HX25.out.lt; have hwl : w.heap.size ≤ w25.heap.size := HB25.out.size
    obtain ⟨bv, hbv⟩ : ∃ b, allB ownB t = b := ⟨_, rfl⟩
    have HBV := Lib.hid hbv
    obtain ⟨hv_0, hv_1, hv_2, hv_3, hv_4⟩ := HV25.out.cells5; have hv_f := fun i => HV25.out.frozen i; have hv_l : gv < w25.heap.size := HV25.out.lt
    go_wp2_with fail
    refine (impl_ValOk t aT cT w25.heap.size w25 RT25.out HTW.out (by omega) ((HENV.out.step HB25.out).here (by omega)) (Nat.le_refl _)).mono ?_
    rintro e w26 ⟨rfl, hb⟩
    rw [hbv]
    clear hv_0 hv_1 hv_2 hv_3 hv_4 hv_f hv_l
    have HS26 := Lib.hid (hb)
    have s26 : w25.heap.size ≤ w26.heap.size := HS26.out.size
    have HB26 := Lib.hid (HB25.out.trans (HS26.out.mono (by omega)))
    have RT26 := Lib.hid (R.fwd RT25.out HS26.out)
    have RX26 := Lib.hid (R.fwd RX25.out HS26.out)
    have HV26 := Lib.hid (HV25.out.below HS26.out (by omega))
    have HX26 := Lib.hid (HX25.out.below HS26.out (by omega))
    clear HS26 HB25 RT25 RX25 HV25 HX25
    clear hb hbv
    cases bv with
    | false =>
      go_wp2_with fail
      go_ret
      exact ⟨rfl, HB26.out⟩
    | true =>
      obtain ⟨bw, hbw⟩ : ∃ b, decide (1 ≤ way ∧ way ≤ 4) = b := ⟨_, rfl⟩
      have HBW := Lib.hid hbw
      go_wp2_with fail
      refine (impl_WayOk way w26).mono ?_
      rintro e w27 ⟨rfl, hb⟩
      rw [hbw]
      have HS27 := Lib.hid (hb)
      have s27 : w26.heap.size ≤ w27.heap.size := HS27.out.size
      have HB27 := Lib.hid (HB26.out.trans (HS27.out.mono (by omega)))
      have RT27 := Lib.hid (R.fwd RT26.out HS27.out)
      have RX27 := Lib.hid (R.fwd RX26.out HS27.out)
      have HV27 := Lib.hid (HV26.out.below HS27.out (by omega))
      have HX27 := Lib.hid (HX26.out.below HS27.out (by omega))
      clear HS27 HB26 RT26 RX26 HV26 HX26
      clear hb hbw
      cases bw with
      | false =>
        go_wp2_with fail
        go_ret
        exact ⟨rfl, HB27.out⟩
      | true =>
        obtain ⟨hv_0, hv_1, hv_2, hv_3, hv_4⟩ := HV27.out.cells5; have hv_f := fun i => HV27.out.frozen i; have hv_l : gv < w27.heap.size := HV27.out.lt
        by_cases hlen : 0 < t.l.length
        · have hlz : (0 : Int) < (t.l.length : Int) := by omega
          go_wp2_with fail
          go_ret
          exact ⟨rfl, HB27.out⟩
        have hlz : ¬ (0 : Int) < (t.l.length : Int) := by omega
        have HL := Lib.hid (show t.l = [] from List.eq_nil_of_length_eq_zero (by omega))
        have HW14 := Lib.hid (show 1 ≤ way ∧ way ≤ 4 from of_decide_eq_true HBW.out)
        obtain ⟨bz, hk0, hsz⟩ : ∃ b, (kN == 0) = b ∧ sameT (lT way t) t = b := by
          by_cases hz : lT way t = t
          · exact ⟨true, by rw [← HKN.out, (lN_zero way t).2 hz]; rfl, sameT_true hz⟩
          · refine ⟨false, ?_, sameT_false hz⟩
            have : ¬ kN = 0 := fun h => hz ((lN_zero way t).1 (by rw [HKN.out]; exact h))
            simpa using this
        have HSZ := Lib.hid hsz; clear hsz hlen
        have hbb : (bz == bz) = true := by cases bz <;> rfl
        obtain ⟨hx_0, hx_1, hx_2, hx_3, hx_4⟩ := HX27.out.cells5; have hx_f := fun i => HX27.out.frozen i; have hx_l : gx < w27.heap.size := HX27.out.lt
        go_wp2_with fail
        refine (laws_sameVal (lT way t) t aX aT cX cT w27.heap.size w27 RX27.out RT27.out (Nat.le_refl _)).mono ?_
        rintro e w28 ⟨rfl, hb⟩
        rw [HSZ.out]
        clear hv_0 hv_1 hv_2 hv_3 hv_4 hv_f hv_l
        clear hx_0 hx_1 hx_2 hx_3 hx_4 hx_f hx_l
        have HS28 := Lib.hid (hb)
        have s28 : w27.heap.size ≤ w28.heap.size := HS28.out.size
        have HB28 := Lib.hid (HB27.out.trans (HS28.out.mono (by omega)))
        have RT28 := Lib.hid (R.fwd RT27.out HS28.out)
        have RX28 := Lib.hid (R.fwd RX27.out HS28.out)
        have HV28 := Lib.hid (HV27.out.below HS28.out (by omega))
        have HX28 := Lib.hid (HX27.out.below HS28.out (by omega))
        clear HS28 HB27 RT27 RX27 HV27 HX27
        clear hb
        obtain ⟨hx_0, hx_1, hx_2, hx_3, hx_4⟩ := HX28.out.cells5; have hx_f := fun i => HX28.out.frozen i; have hx_l : gx < w28.heap.size := HX28.out.lt
        have HTZ := Lib.hid (show T.sz (lT way t) ≤ 1048576 from by
          have h1 := T.sz_eta (lT way t); have h2 := lT_s way t
          have h3 : T.szL (lT way t).l = 0 := by rcases lT_l way t with h | h <;> (rw [h]; first | rfl | (rw [HL.out]; rfl))
          omega)
        go_wp2_with fail
        refine (impl_ValOk (lT way t) aX cX w28.heap.size w28 RX28.out (lT_wf way HTW.out (by omega)) HTZ.out ((HENV.out.step HB28.out).here (by omega)) (Nat.le_refl _)).mono ?_
        rintro e w29 ⟨rfl, hb⟩
        rw [lT_own way t HBV.out]
        clear hx_0 hx_1 hx_2 hx_3 hx_4 hx_f hx_l
        have HS29 := Lib.hid (hb)
        have s29 : w28.heap.size ≤ w29.heap.size := HS29.out.size
        have HB29 := Lib.hid (HB28.out.trans (HS29.out.mono (by omega)))
        have RT29 := Lib.hid (R.fwd RT28.out HS29.out)
        have RX29 := Lib.hid (R.fwd RX28.out HS29.out)
        have HV29 := Lib.hid (HV28.out.below HS29.out (by omega))
        have HX29 := Lib.hid (HX28.out.below HS29.out (by omega))
        clear HS29 HB28 RT28 RX28 HV28 HX28
        clear hb
        obtain ⟨hv_0, hv_1, hv_2, hv_3, hv_4⟩ := HV29.out.cells5; have hv_f := fun i => HV29.out.frozen i; have hv_l : gv < w29.heap.size := HV29.out.lt
        obtain ⟨hx_0, hx_1, hx_2, hx_3, hx_4⟩ := HX29.out.cells5; have hx_f := fun i => HX29.out.frozen i; have hx_l : gx < w29.heap.size := HX29.out.lt
        go_wp2_with fail
        refine (impl_FitsWay way (lT way t) aX cX w29.heap.size w29 RX29.out (lT_wf way HTW.out (by omega)) HTZ.out ((HENV.out.step HB29.out).here (by omega)) (Nat.le_refl _)).mono ?_
        rintro e w30 ⟨rfl, hb⟩
        rw [lT_fits way t HW14.out HBV.out HL.out (by omega)]
        have HS30 := Lib.hid (hb)
        have s30 : w29.heap.size ≤ w30.heap.size := HS30.out.size
        have HB30 := Lib.hid (HB29.out.trans (HS30.out.mono (by omega)))
        have RT30 := Lib.hid (R.fwd RT29.out HS30.out)
        have RX30 := Lib.hid (R.fwd RX29.out HS30.out)
        have HV30 := Lib.hid (HV29.out.below HS30.out (by omega))
        have HX30 := Lib.hid (HX29.out.below HS30.out (by omega))
        clear HS30 HB29 RT29 RX29 HV29 HX29
        clear hb
        go_wp2_with fail
        go_ret
        exact ⟨rfl, HB30.out⟩
end Go.Proofs.YtpifadjlbjifhaaGreatDoor
