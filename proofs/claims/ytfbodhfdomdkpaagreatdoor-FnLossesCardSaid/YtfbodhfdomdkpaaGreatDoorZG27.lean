/- Texts of this proof, merged: LawLosses. No condition beyond what each theorem states. -/
import Derived.Test.YtfbodhfdomdkpaaGreatDoorRows
import Derived.WalkKit
import Derived.ProofKit
import Derived.OpenShut
import Derived.Handy
import Derived.Lib.Hide
import Derived.Lib.SmallJoins
import Derived.Deep.RegionHeld3
import Derived.Deep.DeepCutAuto
import Derived.Test.YtfbodhfdomdkpaaGreatDoorZG1
import Derived.Test.YtfbodhfdomdkpaaGreatDoorZG2
import Derived.Test.YtfbodhfdomdkpaaGreatDoorZG3
import Derived.Test.YtfbodhfdomdkpaaGreatDoorZG4
import Derived.Test.YtfbodhfdomdkpaaGreatDoorZG5
import Derived.Test.YtfbodhfdomdkpaaGreatDoorZG7
import Derived.Test.YtfbodhfdomdkpaaGreatDoorZG8
import Derived.Test.YtfbodhfdomdkpaaGreatDoorZG11
import Derived.Test.YtfbodhfdomdkpaaGreatDoorZG12
import Derived.Test.YtfbodhfdomdkpaaGreatDoorZG14
import Derived.Test.YtfbodhfdomdkpaaGreatDoorZG15
import Derived.Test.YtfbodhfdomdkpaaGreatDoorZG26
set_option linter.unusedSimpArgs false
set_option linter.unnecessarySimpa false
namespace Go.Proofs.YtfbodhfdomdkpaaGreatDoor
open Go.ChangeShapes Go.WideShapes Go.ChangeAt Go.RowKit Go.Joins
set_option linter.unusedVariables false
set_option maxRecDepth 100000
theorem fwdB {W v v' : World} (h : Below W.heap.size W v) (hb : Below v.heap.size v v') : Below W.heap.size W v' := h.trans (hb.mono h.size)
set_option maxHeartbeats 16000000 in
theorem FnLosses_walk (x0 : List Int) (a0 : Option Addr) (c0 B0 : Nat) (w : World) (hr0 : Rd EByte 1 w B0 a0 c0 x0) (_ : True) (hB0 : B0 ≤ w.heap.size) (htab : Lib.TabBelow Tryz.prog w.heap.size w "internal/strconv.uint64pow10" .u64 Lib.pow10Tab) :
    Calls Tryz.prog 3 #[.slice a0 x0.length c0] w fun e w' => e = .returned (.bool true) ∧ Below w.heap.size w w' := by
  have HTAB := Lib.hid htab; clear htab
  have F0 : Hid (Rd EByte 1 w w.heap.size a0 c0 x0) := Lib.hid (hr0.more hB0)
  clear hr0
  obtain ⟨hn0, hm0⟩ := F0.out.len
  go_enter Tryz.func3, Tryz.ntmps3
  go_wp2_with fail
  refine (laws_big a0 c0 x0 w).mono ?_
  rintro e w1 ⟨rfl, hw1⟩
  have hw2 := hw1.symm; subst hw2; clear hw1
  by_cases hbig : 1048576 < x0.length
  · have hbb : decide (1048576 < x0.length) = true := decide_eq_true hbig
    rw [hbb]
    go_wp2_with fail
    go_ret
    exact ⟨rfl, Below.refl _ _⟩
  have hbb : decide (1048576 < x0.length) = false := decide_eq_false hbig
  rw [hbb]
  have hl0 : x0.length ≤ 1048576 := by omega
  clear hbb hbig
  go_wp2_with fail
  refine (spec_DrawSortLosses a0 c0 w.heap.size x0 w F0.out (Nat.le_refl _) hl0).mono ?_
  rintro e w1 ⟨L, aL, cL0, rfl, hL, hb⟩
  have HS1 := Lib.hid (hb)
  have s1 : w.heap.size ≤ w1.heap.size := HS1.out.size
  have HB1 := HS1
  clear hb
  have SL1 := Lib.hid hL
  clear hL
  go_wp2_with fail
  refine (impl_SortLosses L aL cL0 w1.heap.size w1 SL1.out.2.2.2 (by have := SL1.out.2.1; omega) (Nat.le_refl _)).mono ?_
  rintro e w2 ⟨aS, cS, rfl, hs, hb⟩
  have HS2 := Lib.hid (hb)
  have s2 : w1.heap.size ≤ w2.heap.size := HS2.out.size
  have HB2 := Lib.hid (HB1.out.trans (HS2.out.mono (by omega)))
  have SL2 := Lib.hid (SmL.fwd SL1.out HS2.out)
  clear HS2 HB1 SL1
  clear hb
  have SS2 := Lib.hid (hs.read); clear hs
  go_wp2_with fail
  refine (spec_DrawLessLoss a0 c0 w2.heap.size x0 w2 ((F0.out.below EByte.loc HB2.out (Nat.le_refl _)).more (by have := HB2.out.size; omega)) (Nat.le_refl _) hl0).mono ?_
  rintro e w3 ⟨xa, xb, aa, ab, ca, cb, rfl, hxa, hxb, hla, hlb, hpa, hpb, hb⟩
  have HS3 := Lib.hid (hb)
  have s3 : w2.heap.size ≤ w3.heap.size := HS3.out.size
  have HB3 := Lib.hid (HB2.out.trans (HS3.out.mono (by omega)))
  have SL3 := Lib.hid (SmL.fwd SL2.out HS3.out)
  have SS3 := Lib.hid (Rd.fwd ELoss.loc SS2.out HS3.out)
  clear HS3 HB2 SL2 SS2
  clear hb
  have PA3 := Lib.hid hpa
  clear hpa
  have PB3 := Lib.hid hpb
  clear hpb
  go_wp2_with fail
  obtain ⟨ga, gaE⟩ : ∃ g, w3.heap.size = g := ⟨_, rfl⟩
  generalize hW : w3.alloc (.cells (cL xa aa ca) 29) = w4
  have z4 : w4.heap.size = w3.heap.size + 1 := by subst hW; simp
  have hbx : Below w3.heap.size w3 w4 := by subst hW; exact below1 _ _
  have BA4 : Hid (Is w4 ga 29 (cL xa aa ca)) := Lib.hid (by subst hW; rw [← gaE]; exact Is.new _ _ _)
  clear hW
  try rw [gaE]
  have HS4 := Lib.hid (hbx)
  have s4 : w3.heap.size ≤ w4.heap.size := HS4.out.size
  have HB4 := Lib.hid (HB3.out.trans (HS4.out.mono (by omega)))
  have SL4 := Lib.hid (SmL.fwd SL3.out HS4.out)
  have SS4 := Lib.hid (Rd.fwd ELoss.loc SS3.out HS4.out)
  have PA4 := Lib.hid (Rd.fwd EStep.loc PA3.out HS4.out)
  have PB4 := Lib.hid (Rd.fwd EStep.loc PB3.out HS4.out)
  clear HS4 HB3 SL3 SS3 PA3 PB3
  clear hbx
  have gal : ga < w4.heap.size := BA4.out.lt
  have gbE2 : ga + 1 = w4.heap.size := by omega
  obtain ⟨gb, gbE⟩ : ∃ g, w4.heap.size = g := ⟨_, rfl⟩
  have hgg : ga + 1 = gb := by omega
  try rw [hgg]
  generalize hW : w4.alloc (.cells (cL xb ab cb) 29) = w5
  have z5 : w5.heap.size = w4.heap.size + 1 := by subst hW; simp
  have hbx : Below w4.heap.size w4 w5 := by subst hW; exact below1 _ _
  have BB5 : Hid (Is w5 gb 29 (cL xb ab cb)) := Lib.hid (by subst hW; rw [← gbE]; exact Is.new _ _ _)
  clear hW hgg gbE2
  have HS5 := Lib.hid (hbx)
  have s5 : w4.heap.size ≤ w5.heap.size := HS5.out.size
  have HB5 := Lib.hid (HB4.out.trans (HS5.out.mono (by omega)))
  have SL5 := Lib.hid (SmL.fwd SL4.out HS5.out)
  have SS5 := Lib.hid (Rd.fwd ELoss.loc SS4.out HS5.out)
  have PA5 := Lib.hid (Rd.fwd EStep.loc PA4.out HS5.out)
  have PB5 := Lib.hid (Rd.fwd EStep.loc PB4.out HS5.out)
  have BA5 := Lib.hid (Is.below BA4.out HS5.out (by omega))
  clear HS5 HB4 SL4 SS4 PA4 PB4 BA4
  clear hbx
  have gbl : gb < w5.heap.size := BB5.out.lt
  go_wp2_with fail
  refine (spec_DrawSameLosses a0 c0 w5.heap.size x0 w5 ((F0.out.below EByte.loc HB5.out (Nat.le_refl _)).more (by have := HB5.out.size; omega)) (Nat.le_refl _) hl0).mono ?_
  rintro e w6 ⟨Lp, ap, cp, Lq, aq, cq, rfl, hp, hq, hb⟩
  have HS6 := Lib.hid (hb)
  have s6 : w5.heap.size ≤ w6.heap.size := HS6.out.size
  have HB6 := Lib.hid (HB5.out.trans (HS6.out.mono (by omega)))
  have SL6 := Lib.hid (SmL.fwd SL5.out HS6.out)
  have SS6 := Lib.hid (Rd.fwd ELoss.loc SS5.out HS6.out)
  have PA6 := Lib.hid (Rd.fwd EStep.loc PA5.out HS6.out)
  have PB6 := Lib.hid (Rd.fwd EStep.loc PB5.out HS6.out)
  have BA6 := Lib.hid (Is.below BA5.out HS6.out (by omega))
  have BB6 := Lib.hid (Is.below BB5.out HS6.out (by omega))
  clear HS6 HB5 SL5 SS5 PA5 PB5 BA5 BB5
  clear hb
  have SP6 := Lib.hid hp
  clear hp
  have SQ6 := Lib.hid hq
  clear hq
  go_wp2_with fail
  refine (spec_DrawLossOk a0 c0 w6.heap.size x0 w6 ((F0.out.below EByte.loc HB6.out (Nat.le_refl _)).more (by have := HB6.out.size; omega)) (Nat.le_refl _) hl0).mono ?_
  rintro e w7 ⟨tv, av, cv, xx, ax, cx, rfl, hv, hxx, hlx, hpx, hb⟩
  have HS7 := Lib.hid (hb)
  have s7 : w6.heap.size ≤ w7.heap.size := HS7.out.size
  have HB7 := Lib.hid (HB6.out.trans (HS7.out.mono (by omega)))
  have SL7 := Lib.hid (SmL.fwd SL6.out HS7.out)
  have SS7 := Lib.hid (Rd.fwd ELoss.loc SS6.out HS7.out)
  have PA7 := Lib.hid (Rd.fwd EStep.loc PA6.out HS7.out)
  have PB7 := Lib.hid (Rd.fwd EStep.loc PB6.out HS7.out)
  have BA7 := Lib.hid (Is.below BA6.out HS7.out (by omega))
  have BB7 := Lib.hid (Is.below BB6.out HS7.out (by omega))
  have SP7 := Lib.hid (SmL.fwd SP6.out HS7.out)
  have SQ7 := Lib.hid (SmL.fwd SQ6.out HS7.out)
  clear HS7 HB6 SL6 SS6 PA6 PB6 BA6 BB6 SP6 SQ6
  clear hb
  have TV17 := Lib.hid hv
  clear hv
  have PX7 := Lib.hid hpx
  clear hpx
  go_wp2_with fail
  obtain ⟨gv, gvE⟩ : ∃ g, w7.heap.size = g := ⟨_, rfl⟩
  generalize hW : w7.alloc (.cells (cV tv av cv) 36) = w8
  have z8 : w8.heap.size = w7.heap.size + 1 := by subst hW; simp
  have hbx : Below w7.heap.size w7 w8 := by subst hW; exact below1 _ _
  have BV8 : Hid (Is w8 gv 36 (cV tv av cv)) := Lib.hid (by subst hW; rw [← gvE]; exact Is.new _ _ _)
  clear hW
  try rw [gvE]
  have HS8 := Lib.hid (hbx)
  have s8 : w7.heap.size ≤ w8.heap.size := HS8.out.size
  have HB8 := Lib.hid (HB7.out.trans (HS8.out.mono (by omega)))
  have SL8 := Lib.hid (SmL.fwd SL7.out HS8.out)
  have SS8 := Lib.hid (Rd.fwd ELoss.loc SS7.out HS8.out)
  have PA8 := Lib.hid (Rd.fwd EStep.loc PA7.out HS8.out)
  have PB8 := Lib.hid (Rd.fwd EStep.loc PB7.out HS8.out)
  have BA8 := Lib.hid (Is.below BA7.out HS8.out (by omega))
  have BB8 := Lib.hid (Is.below BB7.out HS8.out (by omega))
  have SP8 := Lib.hid (SmL.fwd SP7.out HS8.out)
  have SQ8 := Lib.hid (SmL.fwd SQ7.out HS8.out)
  have TV18 := Lib.hid (SmT.fwd TV17.out HS8.out)
  have PX8 := Lib.hid (Rd.fwd EStep.loc PX7.out HS8.out)
  clear HS8 HB7 SL7 SS7 PA7 PB7 BA7 BB7 SP7 SQ7 TV17 PX7
  clear hbx
  have gvl : gv < w8.heap.size := BV8.out.lt
  have gxE2 : gv + 1 = w8.heap.size := by omega
  obtain ⟨gx, gxE⟩ : ∃ g, w8.heap.size = g := ⟨_, rfl⟩
  have hgg : gv + 1 = gx := by omega
  try rw [hgg]
  generalize hW : w8.alloc (.cells (cL xx ax cx) 29) = w9
  have z9 : w9.heap.size = w8.heap.size + 1 := by subst hW; simp
  have hbx : Below w8.heap.size w8 w9 := by subst hW; exact below1 _ _
  have BX9 : Hid (Is w9 gx 29 (cL xx ax cx)) := Lib.hid (by subst hW; rw [← gxE]; exact Is.new _ _ _)
  clear hW hgg gxE2
  have HS9 := Lib.hid (hbx)
  have s9 : w8.heap.size ≤ w9.heap.size := HS9.out.size
  have HB9 := Lib.hid (HB8.out.trans (HS9.out.mono (by omega)))
  have SL9 := Lib.hid (SmL.fwd SL8.out HS9.out)
  have SS9 := Lib.hid (Rd.fwd ELoss.loc SS8.out HS9.out)
  have PA9 := Lib.hid (Rd.fwd EStep.loc PA8.out HS9.out)
  have PB9 := Lib.hid (Rd.fwd EStep.loc PB8.out HS9.out)
  have BA9 := Lib.hid (Is.below BA8.out HS9.out (by omega))
  have BB9 := Lib.hid (Is.below BB8.out HS9.out (by omega))
  have SP9 := Lib.hid (SmL.fwd SP8.out HS9.out)
  have SQ9 := Lib.hid (SmL.fwd SQ8.out HS9.out)
  have TV19 := Lib.hid (SmT.fwd TV18.out HS9.out)
  have PX9 := Lib.hid (Rd.fwd EStep.loc PX8.out HS9.out)
  have BV9 := Lib.hid (Is.below BV8.out HS9.out (by omega))
  clear HS9 HB8 SL8 SS8 PA8 PB8 BA8 BB8 SP8 SQ8 TV18 PX8 BV8
  clear hbx
  have gxl : gx < w9.heap.size := BX9.out.lt
  go_wp2_with fail
  refine (spec_DrawLossText a0 c0 w9.heap.size x0 w9 ((F0.out.below EByte.loc HB9.out (Nat.le_refl _)).more (by have := HB9.out.size; omega)) (Nat.le_refl _) hl0).mono ?_
  rintro e w10 ⟨tw, aw, cw, Lm, am, cm, rfl, hw, hm, hb⟩
  have HS10 := Lib.hid (hb)
  have s10 : w9.heap.size ≤ w10.heap.size := HS10.out.size
  have HB10 := Lib.hid (HB9.out.trans (HS10.out.mono (by omega)))
  have SL10 := Lib.hid (SmL.fwd SL9.out HS10.out)
  have SS10 := Lib.hid (Rd.fwd ELoss.loc SS9.out HS10.out)
  have PA10 := Lib.hid (Rd.fwd EStep.loc PA9.out HS10.out)
  have PB10 := Lib.hid (Rd.fwd EStep.loc PB9.out HS10.out)
  have BA10 := Lib.hid (Is.below BA9.out HS10.out (by omega))
  have BB10 := Lib.hid (Is.below BB9.out HS10.out (by omega))
  have SP10 := Lib.hid (SmL.fwd SP9.out HS10.out)
  have SQ10 := Lib.hid (SmL.fwd SQ9.out HS10.out)
  have TV110 := Lib.hid (SmT.fwd TV19.out HS10.out)
  have PX10 := Lib.hid (Rd.fwd EStep.loc PX9.out HS10.out)
  have BV10 := Lib.hid (Is.below BV9.out HS10.out (by omega))
  have BX10 := Lib.hid (Is.below BX9.out HS10.out (by omega))
  clear HS10 HB9 SL9 SS9 PA9 PB9 BA9 BB9 SP9 SQ9 TV19 PX9 BV9 BX9
  clear hb
  have TW110 := Lib.hid hw
  clear hw
  have SM10 := Lib.hid hm
  clear hm
  go_wp2_with fail
  obtain ⟨gw, gwE⟩ : ∃ g, w10.heap.size = g := ⟨_, rfl⟩
  generalize hW : w10.alloc (.cells (cV tw aw cw) 36) = w11
  have z11 : w11.heap.size = w10.heap.size + 1 := by subst hW; simp
  have hbx : Below w10.heap.size w10 w11 := by subst hW; exact below1 _ _
  have BW11 : Hid (Is w11 gw 36 (cV tw aw cw)) := Lib.hid (by subst hW; rw [← gwE]; exact Is.new _ _ _)
  clear hW
  try rw [gwE]
  have HS11 := Lib.hid (hbx)
  have s11 : w10.heap.size ≤ w11.heap.size := HS11.out.size
  have HB11 := Lib.hid (HB10.out.trans (HS11.out.mono (by omega)))
  have SL11 := Lib.hid (SmL.fwd SL10.out HS11.out)
  have SS11 := Lib.hid (Rd.fwd ELoss.loc SS10.out HS11.out)
  have PA11 := Lib.hid (Rd.fwd EStep.loc PA10.out HS11.out)
  have PB11 := Lib.hid (Rd.fwd EStep.loc PB10.out HS11.out)
  have BA11 := Lib.hid (Is.below BA10.out HS11.out (by omega))
  have BB11 := Lib.hid (Is.below BB10.out HS11.out (by omega))
  have SP11 := Lib.hid (SmL.fwd SP10.out HS11.out)
  have SQ11 := Lib.hid (SmL.fwd SQ10.out HS11.out)
  have TV111 := Lib.hid (SmT.fwd TV110.out HS11.out)
  have PX11 := Lib.hid (Rd.fwd EStep.loc PX10.out HS11.out)
  have BV11 := Lib.hid (Is.below BV10.out HS11.out (by omega))
  have BX11 := Lib.hid (Is.below BX10.out HS11.out (by omega))
  have TW111 := Lib.hid (SmT.fwd TW110.out HS11.out)
  have SM11 := Lib.hid (SmL.fwd SM10.out HS11.out)
  clear HS11 HB10 SL10 SS10 PA10 PB10 BA10 BB10 SP10 SQ10 TV110 PX10 BV10 BX10 TW110 SM10
  clear hbx
  have gwl : gw < w11.heap.size := BW11.out.lt
  go_wp2_with fail
  refine (spec_DrawLossName a0 c0 w11.heap.size x0 w11 ((F0.out.below EByte.loc HB11.out (Nat.le_refl _)).more (by have := HB11.out.size; omega)) (Nat.le_refl _) hl0).mono ?_
  rintro e w12 ⟨nn, hnna, hnnb, rfl, hb⟩
  have HS12 := Lib.hid (hb)
  have s12 : w11.heap.size ≤ w12.heap.size := HS12.out.size
  have HB12 := Lib.hid (HB11.out.trans (HS12.out.mono (by omega)))
  have SL12 := Lib.hid (SmL.fwd SL11.out HS12.out)
  have SS12 := Lib.hid (Rd.fwd ELoss.loc SS11.out HS12.out)
  have PA12 := Lib.hid (Rd.fwd EStep.loc PA11.out HS12.out)
  have PB12 := Lib.hid (Rd.fwd EStep.loc PB11.out HS12.out)
  have BA12 := Lib.hid (Is.below BA11.out HS12.out (by omega))
  have BB12 := Lib.hid (Is.below BB11.out HS12.out (by omega))
  have SP12 := Lib.hid (SmL.fwd SP11.out HS12.out)
  have SQ12 := Lib.hid (SmL.fwd SQ11.out HS12.out)
  have TV112 := Lib.hid (SmT.fwd TV111.out HS12.out)
  have PX12 := Lib.hid (Rd.fwd EStep.loc PX11.out HS12.out)
  have BV12 := Lib.hid (Is.below BV11.out HS12.out (by omega))
  have BX12 := Lib.hid (Is.below BX11.out HS12.out (by omega))
  have TW112 := Lib.hid (SmT.fwd TW111.out HS12.out)
  have SM12 := Lib.hid (SmL.fwd SM11.out HS12.out)
  have BW12 := Lib.hid (Is.below BW11.out HS12.out (by omega))
  clear HS12 HB11 SL11 SS11 PA11 PB11 BA11 BB11 SP11 SQ11 TV111 PX11 BV11 BX11 TW111 SM11 BW11
  clear hb
  go_wp2_with fail
  refine (spec_DrawLossesAt a0 c0 w12.heap.size x0 w12 ((F0.out.below EByte.loc HB12.out (Nat.le_refl _)).more (by have := HB12.out.size; omega)) (Nat.le_refl _) hl0).mono ?_
  rintro e w13 ⟨Lg, ag, cg, qh, ah, ch, rfl, hg, hlh, hh, hb⟩
  have HS13 := Lib.hid (hb)
  have s13 : w12.heap.size ≤ w13.heap.size := HS13.out.size
  have HB13 := Lib.hid (HB12.out.trans (HS13.out.mono (by omega)))
  have SL13 := Lib.hid (SmL.fwd SL12.out HS13.out)
  have SS13 := Lib.hid (Rd.fwd ELoss.loc SS12.out HS13.out)
  have PA13 := Lib.hid (Rd.fwd EStep.loc PA12.out HS13.out)
  have PB13 := Lib.hid (Rd.fwd EStep.loc PB12.out HS13.out)
  have BA13 := Lib.hid (Is.below BA12.out HS13.out (by omega))
  have BB13 := Lib.hid (Is.below BB12.out HS13.out (by omega))
  have SP13 := Lib.hid (SmL.fwd SP12.out HS13.out)
  have SQ13 := Lib.hid (SmL.fwd SQ12.out HS13.out)
  have TV113 := Lib.hid (SmT.fwd TV112.out HS13.out)
  have PX13 := Lib.hid (Rd.fwd EStep.loc PX12.out HS13.out)
  have BV13 := Lib.hid (Is.below BV12.out HS13.out (by omega))
  have BX13 := Lib.hid (Is.below BX12.out HS13.out (by omega))
  have TW113 := Lib.hid (SmT.fwd TW112.out HS13.out)
  have SM13 := Lib.hid (SmL.fwd SM12.out HS13.out)
  have BW13 := Lib.hid (Is.below BW12.out HS13.out (by omega))
  clear HS13 HB12 SL12 SS12 PA12 PB12 BA12 BB12 SP12 SQ12 TV112 PX12 BV12 BX12 TW112 SM12 BW12
  clear hb
  have SG13 := Lib.hid hg
  clear hg
  have PH13 := Lib.hid hh
  clear hh
  go_wp2_with fail
  refine (spec_DrawCountLoss a0 c0 w13.heap.size x0 w13 ((F0.out.below EByte.loc HB13.out (Nat.le_refl _)).more (by have := HB13.out.size; omega)) (Nat.le_refl _) hl0).mono ?_
  rintro e w14 ⟨Lc, ac, cc, kk, hkk, rfl, hc, hb⟩
  have HS14 := Lib.hid (hb)
  have s14 : w13.heap.size ≤ w14.heap.size := HS14.out.size
  have HB14 := Lib.hid (HB13.out.trans (HS14.out.mono (by omega)))
  have SL14 := Lib.hid (SmL.fwd SL13.out HS14.out)
  have SS14 := Lib.hid (Rd.fwd ELoss.loc SS13.out HS14.out)
  have PA14 := Lib.hid (Rd.fwd EStep.loc PA13.out HS14.out)
  have PB14 := Lib.hid (Rd.fwd EStep.loc PB13.out HS14.out)
  have BA14 := Lib.hid (Is.below BA13.out HS14.out (by omega))
  have BB14 := Lib.hid (Is.below BB13.out HS14.out (by omega))
  have SP14 := Lib.hid (SmL.fwd SP13.out HS14.out)
  have SQ14 := Lib.hid (SmL.fwd SQ13.out HS14.out)
  have TV114 := Lib.hid (SmT.fwd TV113.out HS14.out)
  have PX14 := Lib.hid (Rd.fwd EStep.loc PX13.out HS14.out)
  have BV14 := Lib.hid (Is.below BV13.out HS14.out (by omega))
  have BX14 := Lib.hid (Is.below BX13.out HS14.out (by omega))
  have TW114 := Lib.hid (SmT.fwd TW113.out HS14.out)
  have SM14 := Lib.hid (SmL.fwd SM13.out HS14.out)
  have BW14 := Lib.hid (Is.below BW13.out HS14.out (by omega))
  have SG14 := Lib.hid (SmL.fwd SG13.out HS14.out)
  have PH14 := Lib.hid (Rd.fwd EStep.loc PH13.out HS14.out)
  clear HS14 HB13 SL13 SS13 PA13 PB13 BA13 BB13 SP13 SQ13 TV113 PX13 BV13 BX13 TW113 SM13 BW13 SG13 PH13
  clear hb
  have SC14 := Lib.hid hc
  clear hc
  obtain ⟨b1, hb1⟩ : ∃ b, lessL xa xb = b := ⟨_, rfl⟩
  obtain ⟨b2, hb2⟩ : ∃ b, decide (Lp = Lq) = b := ⟨_, rfl⟩
  obtain ⟨b3, hb3⟩ : ∃ b, lossOkB tv xx = b := ⟨_, rfl⟩
  obtain ⟨t1, ht1⟩ : ∃ b, lossT tw Lm = b := ⟨_, rfl⟩
  obtain ⟨t2, ht2⟩ : ∃ b, lossNm nn = b := ⟨_, rfl⟩
  obtain ⟨n1, hn1⟩ : ∃ b, cntLo Lc (kk : Int) = b := ⟨_, rfl⟩
  have HB1E := Lib.hid hb1; have HB2E := Lib.hid hb2; have HB3E := Lib.hid hb3; have HT1 := Lib.hid ht1; have HT2 := Lib.hid ht2; have HN1 := Lib.hid hn1
  clear hb1 hb2 hb3 ht1 ht2 hn1
  have hself : ∀ b : Bool, (b != b) = false := fun b => by cases b <;> rfl
  have q1 := hself b1; have q2 := hself b2; have q3 := hself b3
  clear hself
  have HEN := Lib.hid (show Lib.TabBelow Tryz.prog w14.heap.size w14 "internal/strconv.uint64pow10" .u64 Lib.pow10Tab from fun v hv => HTAB.out v (HB14.out.trans (hv.mono (by have := HB14.out.size; omega))))
  obtain ⟨va0, va1⟩ := BA14.out.cells2; have vaf := fun i => BA14.out.frozen i; have val := BA14.out.lt
  obtain ⟨vb0, vb1⟩ := BB14.out.cells2; have vbf := fun i => BB14.out.frozen i; have vbl := BB14.out.lt
  obtain ⟨vv0, vv1, vv2, vv3, vv4⟩ := BV14.out.cells5; have vvf := fun i => BV14.out.frozen i; have vvl := BV14.out.lt
  obtain ⟨vx0, vx1⟩ := BX14.out.cells2; have vxf := fun i => BX14.out.frozen i; have vxl := BX14.out.lt
  obtain ⟨vw0, vw1, vw2, vw3, vw4⟩ := BW14.out.cells5; have vwf := fun i => BW14.out.frozen i; have vwl := BW14.out.lt
  go_upto_region 12 with (fail)
  simp only [List.append]
  go_region_held3 (fun w' => (∀ b o, b < w14.heap.size → w'.cell? ⟨b, o, none⟩ = w14.cell? ⟨b, o, none⟩) ∧ Below (w14.heap.size) w14 w') (first | exact ⟨fun _ _ _ => rfl, (Below.refl _ _).drew⟩ | exact keep_step (by assumption) (Below.drew (Below.refl _ _)) (Nat.le_refl _) | exact keep_step (by assumption) (by assumption) (by first | omega | (simp only [World.size_drew]; omega) | (simp only [size_alloc]; omega) | (simp only [World.size_drew, size_alloc]; omega) | (have := (‹(_ ∧ Below (w14.heap.size) w14 _)›).2.size; first | omega | (simp only [World.size_drew]; omega) | (simp only [size_alloc]; omega) | (simp only [World.size_drew, size_alloc]; omega) | (simp only [World.size_drew] at this; omega) | (simp only [size_alloc] at this; omega) | (simp only [World.size_drew, size_alloc] at this; omega))) | exact keep_step (by assumption) (below1 _ _) (by first | omega | (simp only [World.size_drew]; omega) | (simp only [size_alloc]; omega) | (simp only [World.size_drew, size_alloc]; omega) | (have := (‹(_ ∧ Below (w14.heap.size) w14 _)›).2.size; first | omega | (simp only [World.size_drew]; omega) | (simp only [size_alloc]; omega) | (simp only [World.size_drew, size_alloc]; omega) | (simp only [World.size_drew] at this; omega) | (simp only [size_alloc] at this; omega) | (simp only [World.size_drew, size_alloc] at this; omega)))) (first | (go_at_call 19; refine (spec_SortLosses L aL cL0 w14.heap.size _ ((SL14.out.2.2.2.below ELoss.loc (‹_ ∧ Below (w14.heap.size) w14 _›).2 (Nat.le_refl _))) (by have := SL14.out.2.1; omega) (‹_ ∧ Below (w14.heap.size) w14 _›).2.size).mono ?_; rintro e v1 ⟨aS2, cS2, rfl, hs2, hb⟩; have HSR := Lib.hid hs2.read; have hsv := hb.size; clear hs2) | (have hguard := hSam; go_at_call 18; refine (laws_sameLosses Lp Lq ap aq cp cq w14.heap.size _ ((SP14.out.2.2.2.below ELoss.loc (‹_ ∧ Below (w14.heap.size) w14 _›).2 (Nat.le_refl _))) ((SQ14.out.2.2.2.below ELoss.loc (‹_ ∧ Below (w14.heap.size) w14 _›).2 (Nat.le_refl _))) (‹_ ∧ Below (w14.heap.size) w14 _›).2.size).mono ?_; rintro e v4 ⟨rfl, hb⟩; rw [HB2E.out]) | (go_at_call 18; refine (laws_sameLosses (srtL L) (srtL L) aS aS2 cS cS2 v1.heap.size v1 ((SS14.out.below ELoss.loc (‹_ ∧ Below (w14.heap.size) w14 _›).2 (Nat.le_refl _)).more (‹_ ∧ Below (w14.heap.size) w14 _›).2.size) HSR.out (Nat.le_refl _)).mono ?_; rintro e v2 ⟨rfl, hb⟩; rw [decide_eq_true rfl]) | (go_at_call 20; refine (impl_LessLoss xa xb aa ab ca cb w14.heap.size _ ((PA14.out.below EStep.loc (‹_ ∧ Below (w14.heap.size) w14 _›).2 (Nat.le_refl _))) ((PB14.out.below EStep.loc (‹_ ∧ Below (w14.heap.size) w14 _›).2 (Nat.le_refl _))) (‹_ ∧ Below (w14.heap.size) w14 _›).2.size).mono ?_; rintro e v3 ⟨rfl, hb⟩; rw [HB1E.out]) | (go_at_call 21; refine (spec_LessLoss xa xb aa ab ca cb w14.heap.size _ ((PA14.out.below EStep.loc (‹_ ∧ Below (w14.heap.size) w14 _›).2 (Nat.le_refl _))) ((PB14.out.below EStep.loc (‹_ ∧ Below (w14.heap.size) w14 _›).2 (Nat.le_refl _))) (‹_ ∧ Below (w14.heap.size) w14 _›).2.size).mono ?_; rintro e v3 ⟨rfl, hb⟩; rw [HB1E.out]) | (go_at_call 22; refine (impl_SameLosses Lp Lq ap aq cp cq w14.heap.size _ ((SP14.out.2.2.2.below ELoss.loc (‹_ ∧ Below (w14.heap.size) w14 _›).2 (Nat.le_refl _))) ((SQ14.out.2.2.2.below ELoss.loc (‹_ ∧ Below (w14.heap.size) w14 _›).2 (Nat.le_refl _))) (‹_ ∧ Below (w14.heap.size) w14 _›).2.size).mono ?_; rintro e v3 ⟨rfl, hb⟩; rw [HB2E.out]; have hSam := trivial) | (go_at_call 23; refine (impl_LossOk tv xx av cv ax cx w14.heap.size _ ((TV114.out.2.2.below (‹_ ∧ Below (w14.heap.size) w14 _›).2 (Nat.le_refl _))) ((PX14.out.below EStep.loc (‹_ ∧ Below (w14.heap.size) w14 _›).2 (Nat.le_refl _))) TV114.out.1 (by have := TV114.out.2.1; have := T.countL_le_szL tv; omega) (‹_ ∧ Below (w14.heap.size) w14 _›).2.size).mono ?_; rintro e v5 ⟨rfl, hb⟩; rw [HB3E.out]) | (go_at_call 24; refine (spec_LossOk tv xx av cv ax cx w14.heap.size _ ((TV114.out.2.2.below (‹_ ∧ Below (w14.heap.size) w14 _›).2 (Nat.le_refl _))) ((PX14.out.below EStep.loc (‹_ ∧ Below (w14.heap.size) w14 _›).2 (Nat.le_refl _))) TV114.out.1 (by have := TV114.out.2.1; have := T.countL_le_szL tv; omega) (‹_ ∧ Below (w14.heap.size) w14 _›).2.size).mono ?_; rintro e v5 ⟨rfl, hb⟩; rw [HB3E.out]) | (go_at_call 25; refine (impl_LossText tw Lm aw am cw cm w14.heap.size _ ((TW114.out.2.2.below (‹_ ∧ Below (w14.heap.size) w14 _›).2 (Nat.le_refl _))) ((SM14.out.2.2.2.below ELoss.loc (‹_ ∧ Below (w14.heap.size) w14 _›).2 (Nat.le_refl _))) (by have := TW114.out.2.1; omega) (by have := SM14.out.1; omega) (fun V hV => HEN.out V ((‹_ ∧ Below (w14.heap.size) w14 _›).2.trans hV)) (‹_ ∧ Below (w14.heap.size) w14 _›).2.size).mono ?_; rintro e v6 ⟨rfl, hb⟩; rw [HT1.out]) | (go_at_call 26; refine (spec_LossText tw Lm aw am cw cm w14.heap.size _ ((TW114.out.2.2.below (‹_ ∧ Below (w14.heap.size) w14 _›).2 (Nat.le_refl _))) ((SM14.out.2.2.2.below ELoss.loc (‹_ ∧ Below (w14.heap.size) w14 _›).2 (Nat.le_refl _))) TW114.out.1 (by have := TW114.out.2.1; omega) (by have := SM14.out.1; omega) (‹_ ∧ Below (w14.heap.size) w14 _›).2.size).mono ?_; rintro e v6 ⟨rfl, hb⟩; rw [HT1.out]) | (go_at_call 27; refine (impl_LossName nn _ ⟨by omega, by omega⟩).mono ?_; rintro e v7 ⟨rfl, hb⟩; rw [HT2.out]) | (go_at_call 28; refine (spec_LossName nn _ ⟨by omega, by omega⟩).mono ?_; rintro e v7 ⟨rfl, hb⟩; rw [HT2.out]) | (go_at_call 30; refine (impl_LossesAt Lg qh ag ah cg ch w14.heap.size _ ((SG14.out.2.2.2.below ELoss.loc (‹_ ∧ Below (w14.heap.size) w14 _›).2 (Nat.le_refl _))) ((PH14.out.below EStep.loc (‹_ ∧ Below (w14.heap.size) w14 _›).2 (Nat.le_refl _))) (by have := SG14.out.1; omega) (‹_ ∧ Below (w14.heap.size) w14 _›).2.size).mono ?_; rintro e v8 ⟨ai, ci, rfl, hi8, hb⟩; have HI8 := Lib.hid hi8.read; clear hi8) | (go_at_call 31; refine (spec_LossesAt Lg qh ag ah cg ch w14.heap.size _ ((SG14.out.2.2.2.below ELoss.loc (‹_ ∧ Below (w14.heap.size) w14 _›).2 (Nat.le_refl _))) ((PH14.out.below EStep.loc (‹_ ∧ Below (w14.heap.size) w14 _›).2 (Nat.le_refl _))) (by have := SG14.out.1; omega) (‹_ ∧ Below (w14.heap.size) w14 _›).2.size).mono ?_; rintro e v9 ⟨aj, cj, rfl, hi9, hb⟩; have HI9 := Lib.hid hi9.read; have HI89 := Lib.hid (HI8.out.fwd EInt.loc hb); clear hi9) | (go_at_call 29; refine (laws_sameInts (atL Lg qh) ai aj ci cj v9.heap.size v9 HI89.out HI9.out (Nat.le_refl _)).mono ?_; rintro e v10 ⟨rfl, hb⟩; skip) | (go_at_call 32; refine (impl_CountLoss Lc (kk : Int) ac cc w14.heap.size _ ((SC14.out.2.2.2.below ELoss.loc (‹_ ∧ Below (w14.heap.size) w14 _›).2 (Nat.le_refl _))) (‹_ ∧ Below (w14.heap.size) w14 _›).2.size).mono ?_; rintro e v11 ⟨rfl, hb⟩; rw [HN1.out]) | (go_at_call 33; refine (spec_CountLoss Lc (kk : Int) ac cc w14.heap.size _ ((SC14.out.2.2.2.below ELoss.loc (‹_ ∧ Below (w14.heap.size) w14 _›).2 (Nat.le_refl _))) (‹_ ∧ Below (w14.heap.size) w14 _›).2.size).mono ?_; rintro e v11 ⟨rfl, hb⟩; rw [HN1.out]))
  have HBX := Lib.hid (show Below w14.heap.size w14 _ from (‹_ ∧ Below (w14.heap.size) w14 _›).2)
  go_wp2_with fail
  have HSO := Lib.hid (srtL_sorted L)
  have HLN := Lib.hid (srtL_length L)
  obtain ⟨S, hS⟩ : ∃ S, srtL L = S := ⟨_, rfl⟩
  rw [hS] at HSO HLN
  have HSS := Lib.hid (show Rd ELoss 2 w14 w14.heap.size aS cS S from by rw [← hS]; exact SS14.out)
  try rw [hS]
  clear hS
  have hS4 : S.length ≤ 4 := by have := SL14.out.1; have := HLN.out; omega
  go_loopw [18] (fun i wr => ∃ j : Nat, 1 ≤ j ∧ (j ≤ S.length ∨ j = 1) ∧ i = .int .i64 j ∧ Below w14.heap.size w14 wr) (fun i _ => S.length + 1 - (intOf i).toNat)
  case atStart => exact ⟨1, by omega, Or.inr rfl, rfl, HBX.out⟩
  case round =>
    obtain ⟨j, hj1, hj2, rfl, hb⟩ := hrel
    have hbs := hb.size
    by_cases hlt : j < S.length
    · obtain ⟨m, hm⟩ : ∃ m : Nat, j - 1 = m := ⟨_, rfl⟩
      have hjm : (j : Int) - 1 = (m : Int) := by omega
      have hml : m < S.length := by omega
      have hltz : (j : Int) < (S.length : Int) := by omega
      have hmlz : (m : Int) < (S.length : Int) := by omega
      have hmj : m < j := by omega
      have HLE := Lib.hid (show lessL S[j] S[m] = false from List.pairwise_iff_getElem.1 HSO.out m j hml hlt hmj)
      clear hm
      obtain ⟨b, o, a1, c1, rfl, hbl, d0, d1, _, hq1⟩ := ((HSS.out.below ELoss.loc hb (Nat.le_refl _)).more hbs).loss j hlt
      obtain ⟨b2, o2, a2, c2, e2, _, f0, f1, _, hq2⟩ := ((HSS.out.below ELoss.loc hb (Nat.le_refl _)).more hbs).loss m hml
      injection e2 with e2; injection e2 with e2 e3
      subst e2 e3
      have HQ1 := Lib.hid hq1; have HQ2 := Lib.hid hq2; clear hq1 hq2
      have hwr : IntKind.i64.wrap ((j : Int) - 1) = (m : Int) := by rw [Go.IntWalk.i64_left, Go.IntWalk.wrap64_in _ ⟨by omega, by omega⟩]; omega
      have hwm : IntKind.i64.wrap (m : Int) = (m : Int) := by rw [Go.IntWalk.i64_left, Go.IntWalk.wrap64_in _ ⟨by omega, by omega⟩]
      have hj0 : (0 : Int) ≤ (j : Int) := by omega
      have hm0' : (0 : Int) ≤ (m : Int) := by omega
      go_wp2_with fail
      go_region_held3 (fun w' => (∀ b o, b < wr.heap.size → w'.cell? ⟨b, o, none⟩ = wr.cell? ⟨b, o, none⟩) ∧ Below (wr.heap.size) wr w') (first | exact ⟨fun _ _ _ => rfl, (Below.refl _ _).drew⟩ | exact keep_step (by assumption) (Below.drew (Below.refl _ _)) (Nat.le_refl _) | exact keep_step (by assumption) (by assumption) (by first | omega | (simp only [World.size_drew]; omega) | (simp only [size_alloc]; omega) | (simp only [World.size_drew, size_alloc]; omega) | (have := (‹(_ ∧ Below (wr.heap.size) wr _)›).2.size; first | omega | (simp only [World.size_drew]; omega) | (simp only [size_alloc]; omega) | (simp only [World.size_drew, size_alloc]; omega) | (simp only [World.size_drew] at this; omega) | (simp only [size_alloc] at this; omega) | (simp only [World.size_drew, size_alloc] at this; omega))) | exact keep_step (by assumption) (below1 _ _) (by first | omega | (simp only [World.size_drew]; omega) | (simp only [size_alloc]; omega) | (simp only [World.size_drew, size_alloc]; omega) | (have := (‹(_ ∧ Below (wr.heap.size) wr _)›).2.size; first | omega | (simp only [World.size_drew]; omega) | (simp only [size_alloc]; omega) | (simp only [World.size_drew, size_alloc]; omega) | (simp only [World.size_drew] at this; omega) | (simp only [size_alloc] at this; omega) | (simp only [World.size_drew, size_alloc] at this; omega)))) (first | (go_at_call 20; refine (impl_LessLoss S[j] S[m] a1 a2 c1 c2 wr.heap.size _ (HQ1.out.below EStep.loc (‹_ ∧ Below (wr.heap.size) wr _›).2 (Nat.le_refl _)) (HQ2.out.below EStep.loc (‹_ ∧ Below (wr.heap.size) wr _›).2 (Nat.le_refl _)) (‹_ ∧ Below (wr.heap.size) wr _›).2.size).mono ?_; rintro e v ⟨rfl, hb2⟩; rw [HLE.out]))
      have HBY := Lib.hid (show Below wr.heap.size wr _ from (‹_ ∧ Below (wr.heap.size) wr _›).2)
      go_wp2_with fail
      go_roundw
      case rel => exact ⟨j + 1, by omega, Or.inl (by omega), by go_num, hb.trans (HBY.out.mono hbs)⟩
      case measure => simp [intOf]; omega
    · have hltz : ¬ (j : Int) < (S.length : Int) := by omega
      have hlz : ((S.length : Int) == (L.length : Int)) = true := by rw [HLN.out]; simp
      obtain ⟨va0, va1⟩ := (BA14.out.below hb (by omega)).cells2
      obtain ⟨vb0, vb1⟩ := (BB14.out.below hb (by omega)).cells2
      have las : ga < wr.heap.size := by omega
      have lbs : gb < wr.heap.size := by omega
      have vaf' := fun i => (BA14.out.below hb (by omega)).frozen i
      have vbf' := fun i => (BB14.out.below hb (by omega)).frozen i
      obtain ⟨c1, hc1⟩ : ∃ b, lessL xb xa = b := ⟨_, rfl⟩
      obtain ⟨b4, hb4⟩ : ∃ b, decide (xa.2 = xb.2) = b := ⟨_, rfl⟩
      have HC1E := Lib.hid hc1; have HB4E := Lib.hid hb4; clear hc1 hb4
      have key : (b1 = true ∧ c1 = false ∧ ((xa.1 == xb.1) && b4) = false) ∨ (b1 = false ∧ c1 = true ∧ ((xa.1 == xb.1) && b4) = false) ∨ (b1 = false ∧ c1 = false ∧ ((xa.1 == xb.1) && b4) = true) := by
        rw [← HB1E.out, ← HC1E.out, ← HB4E.out]
        by_cases he : xa = xb
        · right; right
          subst he
          have h0 : lessL xa xa = false := leL_refl xa
          exact ⟨h0, h0, by simp⟩
        · have hne : ((xa.1 == xb.1) && decide (xa.2 = xb.2)) = false := by
            by_cases h1 : xa.1 = xb.1
            · have h2 : ¬ xa.2 = xb.2 := fun h2 => he (Prod.ext h1 h2)
              simp [h2]
            · simp [h1]
          by_cases h1 : lessL xa xb = true
          · exact Or.inl ⟨h1, lessL_asymm _ _ h1, hne⟩
          · right; left
            have h1' : lessL xa xb = false := by simpa using h1
            refine ⟨h1', ?_, hne⟩
            by_cases h2 : lessL xb xa = true
            · exact h2
            · exact absurd (leL_antisymm (show leL xa xb from by simpa [leL] using h2) (show leL xb xa from h1')) he
      have KEY := Lib.hid key; clear key
      go_upto_region 19 with (fail)
      go_cut [19] (fun ov wx => ov = .bool ((xa.1 == xb.1) && b4) ∧ Hid (Below w14.heap.size w14 wx))
      case first =>
        by_cases hk : xa.1 = xb.1
        · have hkb : (xa.1 == xb.1) = true := by simp [hk]
          clear hk
          go_wp2_with fail
          refine (laws_samePath xa.2 xb.2 aa ab ca cb w14.heap.size wr (PA14.out.below EStep.loc hb (Nat.le_refl _)) (PB14.out.below EStep.loc hb (Nat.le_refl _)) hbs).mono ?_
          rintro e v ⟨rfl, hb5⟩
          rw [HB4E.out]
          go_wp2_with fail
          go_meet
          case rel => exact ⟨by first | rfl | (rw [hkb]; rfl), Lib.hid (hb.trans (hb5.mono hbs))⟩
        · have hkb : (xa.1 == xb.1) = false := by simpa using hk
          clear hk
          go_wp2_with fail
          go_meet
          case rel => exact ⟨by first | rfl | (rw [hkb]; rfl), Lib.hid hb⟩
      case rest =>
        obtain ⟨rfl, HBW⟩ := hcut
        rename World => wz
        have hbw := HBW.out
        clear hb va0 va1 vb0 vb1 las lbs vaf' vbf'
        obtain ⟨wa0, wa1⟩ := (BA14.out.below hbw (by omega)).cells2
        obtain ⟨wb0, wb1⟩ := (BB14.out.below hbw (by omega)).cells2
        have las2 : ga < wz.heap.size := by have := hbw.size; omega
        have lbs2 : gb < wz.heap.size := by have := hbw.size; omega
        rcases KEY.out with ⟨h1, h2, h3⟩ | ⟨h1, h2, h3⟩ | ⟨h1, h2, h3⟩
        all_goals
          rw [h3]
          have HH1 := Lib.hid (HB1E.out.trans h1); have HH2 := Lib.hid (HC1E.out.trans h2)
          clear h1 h2 h3
          go_wp2_with (go_at_call 20; first | (refine (impl_LessLoss xa xb aa ab ca cb w14.heap.size _ (PA14.out.below EStep.loc (by assumption) (Nat.le_refl _)) (PB14.out.below EStep.loc (by assumption) (Nat.le_refl _)) (Below.size (w := w14) (by assumption))).mono ?_; rintro e v ⟨rfl, hbn⟩; rw [HH1.out]; have hnew := fwdB (W := w14) (by assumption) hbn; clear hbn; obtain ⟨na0, na1⟩ := (BA14.out.below hnew (by omega)).cells2; obtain ⟨nb0, nb1⟩ := (BB14.out.below hnew (by omega)).cells2) | (refine (impl_LessLoss xb xa ab aa cb ca w14.heap.size _ (PB14.out.below EStep.loc (by assumption) (Nat.le_refl _)) (PA14.out.below EStep.loc (by assumption) (Nat.le_refl _)) (Below.size (w := w14) (by assumption))).mono ?_; rintro e v ⟨rfl, hbn⟩; rw [HH2.out]; have hnew := fwdB (W := w14) (by assumption) hbn; clear hbn; obtain ⟨na0, na1⟩ := (BA14.out.below hnew (by omega)).cells2; obtain ⟨nb0, nb1⟩ := (BB14.out.below hnew (by omega)).cells2))
          go_ret
          refine ⟨rfl, ?_⟩
          exact HB14.out.trans (Below.mono (by assumption) (by have := HB14.out.size; omega))
end Go.Proofs.YtfbodhfdomdkpaaGreatDoor
