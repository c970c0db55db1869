/- Texts of this proof, merged: LawOpens. No condition beyond what each theorem states. -/
import Derived.Test.YtggdenkmohnijaaGreatDoorZO33
import Derived.Test.YtggdenkmohnijaaGreatDoorZO35
import Derived.Test.YtggdenkmohnijaaGreatDoorZO36
set_option linter.unusedSimpArgs false
set_option linter.unnecessarySimpa false
namespace Go.Proofs.YtggdenkmohnijaaGreatDoor
open Go.ChangeShapes Go.WideShapes Go.ChangeAt Go.RowKit Go.Joins
set_option linter.unusedVariables false
set_option maxRecDepth 100000
set_option maxHeartbeats 16000000 in
theorem FnOpens_walk (x0 : List Int) (a0 : Option Addr) (c0 B0 : Nat) (w : World) (hr0 : Rd EByte 1 w B0 a0 c0 x0) (_ : True) (hB0 : B0 ≤ w.heap.size) (henv : Env w.heap.size w) :
  Calls Tryz.prog 6 #[.slice a0 x0.length c0] w fun e w' => e = .returned (.bool true) ∧ Below w.heap.size w w' := by
 have HENV := Lib.hid henv; clear henv
 have F0 : Hid (Rd EByte 1 w w.heap.size a0 c0 x0) := Lib.hid (hr0.more hB0)
 clear hr0
 obtain ⟨hn0, hm0⟩ := F0.out.len
 go_enter Tryz.func6, Tryz.ntmps6
 go_wp2_with fail
 refine (laws_big a0 c0 x0 w).mono ?_
 rintro e w1 ⟨rfl, hw1⟩
 have hw2 := hw1.symm; subst hw2; clear hw1
 by_cases hbig : 1048576 < x0.length
 ·have hbb : decide (1048576 < x0.length) = true := decide_eq_true hbig
  rw [hbb]
  go_wp2_with fail
  go_ret
  exact ⟨rfl, Below.refl _ _⟩
 have hbb : decide (1048576 < x0.length) = false := decide_eq_false hbig
 rw [hbb]
 have hl0 : x0.length ≤ 1048576 := by omega
 clear hbb hbig
 go_wp2_with fail
 refine (spec_DrawTight a0 c0 w.heap.size x0 w F0.out (Nat.le_refl _) hl0).mono ?_
 rintro e w1 ⟨tv, av, cv, rfl, htv, hzv, ⟨hpk, hpd⟩, hrv, hb⟩
 have HS1 := Lib.hid (hb)
 have s1 : w.heap.size ≤ w1.heap.size := HS1.out.size
 have HB1 := HS1
 clear hb
 have RV1 := Lib.hid hrv; clear hrv
 have HTV := Lib.hid htv; clear htv
 obtain ⟨ho, hp, hwk⟩ := tq_facts hpk
 have hag := AllT.mono (fun t h => tqQ_tgQ h) tv hpk
 have HRO := Lib.hid (show rdT ((20 : Int)).toNat (packG true tv) = .ok (tv, (packG true tv).length) from by have := rdT_packG true tv hag 20 (by omega) []; rwa [List.append_nil] at this)
 have HRL := Lib.hid (show rdT ((20 : Int)).toNat (packG false tv) = .ok (tv, (packG false tv).length) from by have := rdT_packG false tv hag 20 (by omega) []; rwa [List.append_nil] at this)
 have hle := packG_le tv hag
 have hlo : (packG true tv).length ≤ 1200019 := by have := packG_len true tv; omega
 have hll : (packG false tv).length ≤ 1200019 := by have := packG_len false tv; omega
 have HWK := Lib.hid hwk
 clear hwk hpk ho hp hag hpd
 obtain ⟨LO, hLO⟩ : ∃ L, packG true tv = L := ⟨_, rfl⟩
 obtain ⟨LL, hLL⟩ : ∃ L, packG false tv = L := ⟨_, rfl⟩
 obtain ⟨LT, hLT⟩ : ∃ L, packT tv = L := ⟨_, rfl⟩
 rw [hLO] at HRO hlo
 rw [hLL] at HRL hll hle
 rw [hLT] at hle HWK
 have hgez : (LT.length : Int) ≤ (LL.length : Int) := by omega
 have HLO := Lib.hid hLO; have HLL := Lib.hid hLL
 clear hLO hLL hLT
 go_wp2_with fail
 obtain ⟨gv, gvE⟩ : ∃ g, w1.heap.size = g := ⟨_, rfl⟩
 generalize hW : w1.alloc (.cells (cV tv av cv) 26) = w2
 have hbx : Below w1.heap.size w1 w2 := by subst hW; exact below1 _ _
 have BV2 : Hid (Is w2 gv 26 (cV tv av cv)) := Lib.hid (by subst hW; rw [← gvE]; exact Is.new _ _ _)
 clear hW
 try rw [gvE]
 have HS2 := Lib.hid (hbx)
 have s2 : w1.heap.size ≤ w2.heap.size := HS2.out.size
 have HB2 := Lib.hid (HB1.out.trans (HS2.out.mono (by omega)))
 have RV2 := Lib.hid (R.fwd RV1.out HS2.out)
 clear HS2 HB1 RV1
 clear hbx
 have gvl : gv < w2.heap.size := BV2.out.lt
 go_wp2_with fail
 refine (spec_DrawOpenUp a0 c0 w2.heap.size x0 w2 ((F0.out.below EByte.loc HB2.out (Nat.le_refl _)).more (by have := HB2.out.size; omega)) (Nat.le_refl _) hl0).mono ?_
 rintro e w3 ⟨tp, ap, cp, rfl, htp, hzp, _, hrp, hb⟩
 have HS3 := Lib.hid (hb)
 have s3 : w2.heap.size ≤ w3.heap.size := HS3.out.size
 have HB3 := Lib.hid (HB2.out.trans (HS3.out.mono (by omega)))
 have RV3 := Lib.hid (R.fwd RV2.out HS3.out)
 have BV3 := Lib.hid (Is.below BV2.out HS3.out (by omega))
 clear HS3 HB2 RV2 BV2
 clear hb
 have RP3 := Lib.hid hrp; clear hrp
 have HTP := Lib.hid htp; clear htp
 go_wp2_with fail
 obtain ⟨gp, gpE⟩ : ∃ g, w3.heap.size = g := ⟨_, rfl⟩
 generalize hW : w3.alloc (.cells (cV tp ap cp) 26) = w4
 have hbx : Below w3.heap.size w3 w4 := by subst hW; exact below1 _ _
 have BP4 : Hid (Is w4 gp 26 (cV tp ap cp)) := Lib.hid (by subst hW; rw [← gpE]; exact Is.new _ _ _)
 clear hW
 try rw [gpE]
 have HS4 := Lib.hid (hbx)
 have s4 : w3.heap.size ≤ w4.heap.size := HS4.out.size
 have HB4 := Lib.hid (HB3.out.trans (HS4.out.mono (by omega)))
 have RV4 := Lib.hid (R.fwd RV3.out HS4.out)
 have BV4 := Lib.hid (Is.below BV3.out HS4.out (by omega))
 have RP4 := Lib.hid (R.fwd RP3.out HS4.out)
 clear HS4 HB3 RV3 BV3 RP3
 clear hbx
 have gpl : gp < w4.heap.size := BP4.out.lt
 go_wp2_with fail
 refine (spec_DrawLooseTight a0 c0 w4.heap.size x0 w4 ((F0.out.below EByte.loc HB4.out (Nat.le_refl _)).more (by have := HB4.out.size; omega)) (Nat.le_refl _) hl0).mono ?_
 rintro e w5 ⟨tq, aq, cq, rfl, htq, hzq, _, hrq, hb⟩
 have HS5 := Lib.hid (hb)
 have s5 : w4.heap.size ≤ w5.heap.size := HS5.out.size
 have HB5 := Lib.hid (HB4.out.trans (HS5.out.mono (by omega)))
 have RV5 := Lib.hid (R.fwd RV4.out HS5.out)
 have BV5 := Lib.hid (Is.below BV4.out HS5.out (by omega))
 have RP5 := Lib.hid (R.fwd RP4.out HS5.out)
 have BP5 := Lib.hid (Is.below BP4.out HS5.out (by omega))
 clear HS5 HB4 RV4 BV4 RP4 BP4
 clear hb
 have RQ5 := Lib.hid hrq; clear hrq
 have HTQ := Lib.hid htq; clear htq
 obtain ⟨m0, m1, m2, m3, m4⟩ := BV5.out.cells5; have ml := BV5.out.lt
 go_wp2_with fail
 obtain ⟨gq, gqE⟩ : ∃ g, w5.heap.size = g := ⟨_, rfl⟩
 generalize hW : w5.alloc (.cells (cV tq aq cq) 26) = w6
 have hbx : Below w5.heap.size w5 w6 := by subst hW; exact below1 _ _
 have BQ6 : Hid (Is w6 gq 26 (cV tq aq cq)) := Lib.hid (by subst hW; rw [← gqE]; exact Is.new _ _ _)
 clear hW
 try rw [gqE]
 have HS6 := Lib.hid (hbx)
 have s6 : w5.heap.size ≤ w6.heap.size := HS6.out.size
 have HB6 := Lib.hid (HB5.out.trans (HS6.out.mono (by omega)))
 have RV6 := Lib.hid (R.fwd RV5.out HS6.out)
 have BV6 := Lib.hid (Is.below BV5.out HS6.out (by omega))
 have RP6 := Lib.hid (R.fwd RP5.out HS6.out)
 have BP6 := Lib.hid (Is.below BP5.out HS6.out (by omega))
 have RQ6 := Lib.hid (R.fwd RQ5.out HS6.out)
 clear HS6 HB5 RV5 BV5 RP5 BP5 RQ5
 clear hbx
 have gql : gq < w6.heap.size := BQ6.out.lt
 refine (impl_OpenUp tv av cv w6.heap.size w6 RV6.out HTV.out (by omega) (Nat.le_refl _)).mono ?_
 rintro e w7 ⟨ab, cb, rfl, happ, hb⟩
 rw [HLO.out] at happ ⊢
 have hyb := happ.rd hb.size
 clear happ m0 m1 m2 m3 m4 ml
 have HS7 := Lib.hid (hb)
 have s7 : w6.heap.size ≤ w7.heap.size := HS7.out.size
 have HB7 := Lib.hid (HB6.out.trans (HS7.out.mono (by omega)))
 have RV7 := Lib.hid (R.fwd RV6.out HS7.out)
 have BV7 := Lib.hid (Is.below BV6.out HS7.out (by omega))
 have RP7 := Lib.hid (R.fwd RP6.out HS7.out)
 have BP7 := Lib.hid (Is.below BP6.out HS7.out (by omega))
 have RQ7 := Lib.hid (R.fwd RQ6.out HS7.out)
 have BQ7 := Lib.hid (Is.below BQ6.out HS7.out (by omega))
 clear HS7 HB6 RV6 BV6 RP6 BP6 RQ6 BQ6
 clear hb
 have YB7 := Lib.hid hyb; clear hyb
 go_wp2_with fail
 refine (impl_ReadTight_ok LO tv ab cb w7.heap.size 20 w7 YB7.out (Nat.le_refl _) (by omega) (by decide) (by decide) ((HENV.out.step HB7.out).more (by have := HB7.out.size; omega)) HRO.out).mono ?_
 rintro e w8 ⟨ax, cx, rfl, hrx, _, hb⟩
 have hrx2 := hrx.r
 clear hrx
 have HS8 := Lib.hid (hb)
 have s8 : w7.heap.size ≤ w8.heap.size := HS8.out.size
 have HB8 := Lib.hid (HB7.out.trans (HS8.out.mono (by omega)))
 have RV8 := Lib.hid (R.fwd RV7.out HS8.out)
 have BV8 := Lib.hid (Is.below BV7.out HS8.out (by omega))
 have RP8 := Lib.hid (R.fwd RP7.out HS8.out)
 have BP8 := Lib.hid (Is.below BP7.out HS8.out (by omega))
 have RQ8 := Lib.hid (R.fwd RQ7.out HS8.out)
 have BQ8 := Lib.hid (Is.below BQ7.out HS8.out (by omega))
 have YB8 := Lib.hid (Rd.fwd EByte.loc YB7.out HS8.out)
 clear HS8 HB7 RV7 BV7 RP7 BP7 RQ7 BQ7 YB7
 clear hb
 have RX8 := Lib.hid hrx2; clear hrx2
 obtain ⟨m0, m1, m2, m3, m4⟩ := BV8.out.cells5; have ml := BV8.out.lt
 go_wp2_with fail
 obtain ⟨gx, gxE⟩ : ∃ g, w8.heap.size = g := ⟨_, rfl⟩
 generalize hW : w8.alloc (.cells (cV tv ax cx) 26) = w9
 have hbx : Below w8.heap.size w8 w9 := by subst hW; exact below1 _ _
 have BX9 : Hid (Is w9 gx 26 (cV tv ax cx)) := Lib.hid (by subst hW; rw [← gxE]; exact Is.new _ _ _)
 clear hW
 try rw [gxE]
 have HS9 := Lib.hid (hbx)
 have s9 : w8.heap.size ≤ w9.heap.size := HS9.out.size
 have HB9 := Lib.hid (HB8.out.trans (HS9.out.mono (by omega)))
 have RV9 := Lib.hid (R.fwd RV8.out HS9.out)
 have BV9 := Lib.hid (Is.below BV8.out HS9.out (by omega))
 have RP9 := Lib.hid (R.fwd RP8.out HS9.out)
 have BP9 := Lib.hid (Is.below BP8.out HS9.out (by omega))
 have RQ9 := Lib.hid (R.fwd RQ8.out HS9.out)
 have BQ9 := Lib.hid (Is.below BQ8.out HS9.out (by omega))
 have YB9 := Lib.hid (Rd.fwd EByte.loc YB8.out HS9.out)
 have RX9 := Lib.hid (R.fwd RX8.out HS9.out)
 clear HS9 HB8 RV8 BV8 RP8 BP8 RQ8 BQ8 YB8 RX8
 clear hbx
 have gxl : gx < w9.heap.size := BX9.out.lt
 refine (impl_LooseTight tv av cv w9.heap.size w9 RV9.out HTV.out (by omega) (Nat.le_refl _)).mono ?_
 rintro e w10 ⟨ac, cc, rfl, happ, hb⟩
 rw [HLL.out] at happ ⊢
 have hyc := happ.rd hb.size
 clear happ m0 m1 m2 m3 m4 ml
 have HS10 := Lib.hid (hb)
 have s10 : w9.heap.size ≤ w10.heap.size := HS10.out.size
 have HB10 := Lib.hid (HB9.out.trans (HS10.out.mono (by omega)))
 have RV10 := Lib.hid (R.fwd RV9.out HS10.out)
 have BV10 := Lib.hid (Is.below BV9.out HS10.out (by omega))
 have RP10 := Lib.hid (R.fwd RP9.out HS10.out)
 have BP10 := Lib.hid (Is.below BP9.out HS10.out (by omega))
 have RQ10 := Lib.hid (R.fwd RQ9.out HS10.out)
 have BQ10 := Lib.hid (Is.below BQ9.out HS10.out (by omega))
 have YB10 := Lib.hid (Rd.fwd EByte.loc YB9.out HS10.out)
 have RX10 := Lib.hid (R.fwd RX9.out HS10.out)
 have BX10 := Lib.hid (Is.below BX9.out HS10.out (by omega))
 clear HS10 HB9 RV9 BV9 RP9 BP9 RQ9 BQ9 YB9 RX9 BX9
 clear hb
 have YC10 := Lib.hid hyc; clear hyc
 go_wp2_with fail
 refine (impl_ReadTight_ok LL tv ac cc w10.heap.size 20 w10 YC10.out (Nat.le_refl _) (by omega) (by decide) (by decide) ((HENV.out.step HB10.out).more (by have := HB10.out.size; omega)) HRL.out).mono ?_
 rintro e w11 ⟨ay, cy, rfl, hry, _, hb⟩
 have hry2 := hry.r
 clear hry
 have HS11 := Lib.hid (hb)
 have s11 : w10.heap.size ≤ w11.heap.size := HS11.out.size
 have HB11 := Lib.hid (HB10.out.trans (HS11.out.mono (by omega)))
 have RV11 := Lib.hid (R.fwd RV10.out HS11.out)
 have BV11 := Lib.hid (Is.below BV10.out HS11.out (by omega))
 have RP11 := Lib.hid (R.fwd RP10.out HS11.out)
 have BP11 := Lib.hid (Is.below BP10.out HS11.out (by omega))
 have RQ11 := Lib.hid (R.fwd RQ10.out HS11.out)
 have BQ11 := Lib.hid (Is.below BQ10.out HS11.out (by omega))
 have YB11 := Lib.hid (Rd.fwd EByte.loc YB10.out HS11.out)
 have RX11 := Lib.hid (R.fwd RX10.out HS11.out)
 have BX11 := Lib.hid (Is.below BX10.out HS11.out (by omega))
 have YC11 := Lib.hid (Rd.fwd EByte.loc YC10.out HS11.out)
 clear HS11 HB10 RV10 BV10 RP10 BP10 RQ10 BQ10 YB10 RX10 BX10 YC10
 clear hb
 have RY11 := Lib.hid hry2; clear hry2
 go_upto_region 8 with (fail)
 obtain ⟨gy, gyE⟩ : ∃ g, w11.heap.size = g := ⟨_, rfl⟩
 generalize hW : w11.alloc (.cells (cV tv ay cy) 26) = w12
 have hbx : Below w11.heap.size w11 w12 := by subst hW; exact below1 _ _
 have BY12 : Hid (Is w12 gy 26 (cV tv ay cy)) := Lib.hid (by subst hW; rw [← gyE]; exact Is.new _ _ _)
 clear hW
 try rw [gyE]
 have HS12 := Lib.hid (hbx)
 have s12 : w11.heap.size ≤ w12.heap.size := HS12.out.size
 have HB12 := Lib.hid (HB11.out.trans (HS12.out.mono (by omega)))
 have RV12 := Lib.hid (R.fwd RV11.out HS12.out)
 have BV12 := Lib.hid (Is.below BV11.out HS12.out (by omega))
 have RP12 := Lib.hid (R.fwd RP11.out HS12.out)
 have BP12 := Lib.hid (Is.below BP11.out HS12.out (by omega))
 have RQ12 := Lib.hid (R.fwd RQ11.out HS12.out)
 have BQ12 := Lib.hid (Is.below BQ11.out HS12.out (by omega))
 have YB12 := Lib.hid (Rd.fwd EByte.loc YB11.out HS12.out)
 have RX12 := Lib.hid (R.fwd RX11.out HS12.out)
 have BX12 := Lib.hid (Is.below BX11.out HS12.out (by omega))
 have YC12 := Lib.hid (Rd.fwd EByte.loc YC11.out HS12.out)
 have RY12 := Lib.hid (R.fwd RY11.out HS12.out)
 clear HS12 HB11 RV11 BV11 RP11 BP11 RQ11 BQ11 YB11 RX11 BX11 YC11 RY11
 clear hbx
 have gyl : gy < w12.heap.size := BY12.out.lt
 obtain ⟨LP, hLP⟩ : ∃ b, packG true tp = b := ⟨_, rfl⟩
 obtain ⟨LQ, hLQ⟩ : ∃ b, packG false tq = b := ⟨_, rfl⟩
 have HLP := Lib.hid hLP; have HLQ := Lib.hid hLQ
 clear hLP hLQ
 have HEN := Lib.hid ((HENV.out.step HB12.out).more (show w.heap.size ≤ w12.heap.size from by have := HB12.out.size; omega))
 obtain ⟨p0, p1, p2, p3, p4⟩ := BP12.out.cells5; have pl := BP12.out.lt
 obtain ⟨q0, q1, q2, q3, q4⟩ := BQ12.out.cells5; have ql := BQ12.out.lt
 refine tkW (w12.heap.size) w12 (fun hHeld => ?_)
 refine tkS 0 30 rfl ?_
 refine tkS 2 32 rfl ?_
 refine tkA 1 31 rfl (fun K hK => ?_)
 go_simp; (first | (go_at_call 17; have hguard := HS45; clear hguard; refine (laws_same LQ a4 a5 c4 c5 v5.heap.size v5 HS45.out HS5.out (Nat.le_refl _)).mono ?_; rintro e v6 ⟨rfl, hb⟩; skip) | (go_at_call 40; refine (spec_LooseTight tq aq cq w12.heap.size _ (R.below RQ12.out (‹_ ∧ Below (w12.heap.size) w12 _›).2 (Nat.le_refl _)) HTQ.out (by omega) (‹_ ∧ Below (w12.heap.size) w12 _›).2.size).mono ?_; rintro e v5 ⟨a5, c5, rfl, hs, hb⟩; rw [HLQ.out] at hs ⊢; have HS5 := Lib.hid (hs.rd hb.size); have HS45 := Lib.hid (Rd.fwd EByte.loc HS4.out hb); clear hs) | (go_at_call 38; refine (impl_LooseTight tq aq cq w12.heap.size _ (R.below RQ12.out (‹_ ∧ Below (w12.heap.size) w12 _›).2 (Nat.le_refl _)) HTQ.out (by omega) (‹_ ∧ Below (w12.heap.size) w12 _›).2.size).mono ?_; rintro e v4 ⟨a4, c4, rfl, hs, hb⟩; rw [HLQ.out] at hs ⊢; have HS4 := Lib.hid (hs.rd hb.size); clear hs) | (go_at_call 17; have hguard := HS12; clear hguard; refine (laws_same LP a1 a2 c1 c2 v2.heap.size v2 HS12.out HS2.out (Nat.le_refl _)).mono ?_; rintro e v3 ⟨rfl, hb⟩; skip) | (go_at_call 39; refine (spec_OpenUp tp ap cp w12.heap.size _ (R.below RP12.out (‹_ ∧ Below (w12.heap.size) w12 _›).2 (Nat.le_refl _)) HTP.out (by omega) (‹_ ∧ Below (w12.heap.size) w12 _›).2.size).mono ?_; rintro e v2 ⟨a2, c2, rfl, hs, hb⟩; rw [HLP.out] at hs ⊢; have HS2 := Lib.hid (hs.rd hb.size); have HS12 := Lib.hid (Rd.fwd EByte.loc HS1.out hb); clear hs) | (go_at_call 37; refine (impl_OpenUp tp ap cp w12.heap.size _ (R.below RP12.out (‹_ ∧ Below (w12.heap.size) w12 _›).2 (Nat.le_refl _)) HTP.out (by omega) (‹_ ∧ Below (w12.heap.size) w12 _›).2.size).mono ?_; rintro e v1 ⟨a1, c1, rfl, hs, hb⟩; rw [HLP.out] at hs ⊢; have HS1 := Lib.hid (hs.rd hb.size); clear hs)); go_wp2_with fail; refine tkK hK (fun hHeld => ?_); clear hK K
 refine tkA 3 33 rfl (fun K hK => ?_)
 focus (go_simp; (first | (go_at_call 17; have hguard := HS45; clear hguard; refine (laws_same LQ a4 a5 c4 c5 v5.heap.size v5 HS45.out HS5.out (Nat.le_refl _)).mono ?_; rintro e v6 ⟨rfl, hb⟩; skip) | (go_at_call 40; refine (spec_LooseTight tq aq cq w12.heap.size _ (R.below RQ12.out (‹_ ∧ Below (w12.heap.size) w12 _›).2 (Nat.le_refl _)) HTQ.out (by omega) (‹_ ∧ Below (w12.heap.size) w12 _›).2.size).mono ?_; rintro e v5 ⟨a5, c5, rfl, hs, hb⟩; rw [HLQ.out] at hs ⊢; have HS5 := Lib.hid (hs.rd hb.size); have HS45 := Lib.hid (Rd.fwd EByte.loc HS4.out hb); clear hs) | (go_at_call 38; refine (impl_LooseTight tq aq cq w12.heap.size _ (R.below RQ12.out (‹_ ∧ Below (w12.heap.size) w12 _›).2 (Nat.le_refl _)) HTQ.out (by omega) (‹_ ∧ Below (w12.heap.size) w12 _›).2.size).mono ?_; rintro e v4 ⟨a4, c4, rfl, hs, hb⟩; rw [HLQ.out] at hs ⊢; have HS4 := Lib.hid (hs.rd hb.size); clear hs) | (go_at_call 17; have hguard := HS12; clear hguard; refine (laws_same LP a1 a2 c1 c2 v2.heap.size v2 HS12.out HS2.out (Nat.le_refl _)).mono ?_; rintro e v3 ⟨rfl, hb⟩; skip) | (go_at_call 39; refine (spec_OpenUp tp ap cp w12.heap.size _ (R.below RP12.out (‹_ ∧ Below (w12.heap.size) w12 _›).2 (Nat.le_refl _)) HTP.out (by omega) (‹_ ∧ Below (w12.heap.size) w12 _›).2.size).mono ?_; rintro e v2 ⟨a2, c2, rfl, hs, hb⟩; rw [HLP.out] at hs ⊢; have HS2 := Lib.hid (hs.rd hb.size); have HS12 := Lib.hid (Rd.fwd EByte.loc HS1.out hb); clear hs) | (go_at_call 37; refine (impl_OpenUp tp ap cp w12.heap.size _ (R.below RP12.out (‹_ ∧ Below (w12.heap.size) w12 _›).2 (Nat.le_refl _)) HTP.out (by omega) (‹_ ∧ Below (w12.heap.size) w12 _›).2.size).mono ?_; rintro e v1 ⟨a1, c1, rfl, hs, hb⟩; rw [HLP.out] at hs ⊢; have HS1 := Lib.hid (hs.rd hb.size); clear hs)); go_wp2_with fail; refine tkK hK (fun hHeld => ?_); clear hK K)
 refine tkA 4 34 rfl (fun K hK => ?_)
 focus (go_simp; (first | (go_at_call 17; have hguard := HS45; clear hguard; refine (laws_same LQ a4 a5 c4 c5 v5.heap.size v5 HS45.out HS5.out (Nat.le_refl _)).mono ?_; rintro e v6 ⟨rfl, hb⟩; skip) | (go_at_call 40; refine (spec_LooseTight tq aq cq w12.heap.size _ (R.below RQ12.out (‹_ ∧ Below (w12.heap.size) w12 _›).2 (Nat.le_refl _)) HTQ.out (by omega) (‹_ ∧ Below (w12.heap.size) w12 _›).2.size).mono ?_; rintro e v5 ⟨a5, c5, rfl, hs, hb⟩; rw [HLQ.out] at hs ⊢; have HS5 := Lib.hid (hs.rd hb.size); have HS45 := Lib.hid (Rd.fwd EByte.loc HS4.out hb); clear hs) | (go_at_call 38; refine (impl_LooseTight tq aq cq w12.heap.size _ (R.below RQ12.out (‹_ ∧ Below (w12.heap.size) w12 _›).2 (Nat.le_refl _)) HTQ.out (by omega) (‹_ ∧ Below (w12.heap.size) w12 _›).2.size).mono ?_; rintro e v4 ⟨a4, c4, rfl, hs, hb⟩; rw [HLQ.out] at hs ⊢; have HS4 := Lib.hid (hs.rd hb.size); clear hs) | (go_at_call 17; have hguard := HS12; clear hguard; refine (laws_same LP a1 a2 c1 c2 v2.heap.size v2 HS12.out HS2.out (Nat.le_refl _)).mono ?_; rintro e v3 ⟨rfl, hb⟩; skip) | (go_at_call 39; refine (spec_OpenUp tp ap cp w12.heap.size _ (R.below RP12.out (‹_ ∧ Below (w12.heap.size) w12 _›).2 (Nat.le_refl _)) HTP.out (by omega) (‹_ ∧ Below (w12.heap.size) w12 _›).2.size).mono ?_; rintro e v2 ⟨a2, c2, rfl, hs, hb⟩; rw [HLP.out] at hs ⊢; have HS2 := Lib.hid (hs.rd hb.size); have HS12 := Lib.hid (Rd.fwd EByte.loc HS1.out hb); clear hs) | (go_at_call 37; refine (impl_OpenUp tp ap cp w12.heap.size _ (R.below RP12.out (‹_ ∧ Below (w12.heap.size) w12 _›).2 (Nat.le_refl _)) HTP.out (by omega) (‹_ ∧ Below (w12.heap.size) w12 _›).2.size).mono ?_; rintro e v1 ⟨a1, c1, rfl, hs, hb⟩; rw [HLP.out] at hs ⊢; have HS1 := Lib.hid (hs.rd hb.size); clear hs)); go_wp2_with fail; refine tkK hK (fun hHeld => ?_); clear hK K)
 refine tkS 5 35 rfl ?_
 refine tkS 6 36 rfl ?_
 refine tkS 7 37 rfl ?_
 refine tkS 9 39 rfl ?_
 refine tkA 8 38 rfl (fun K hK => ?_)
 focus (go_simp; (first | (go_at_call 17; have hguard := HS45; clear hguard; refine (laws_same LQ a4 a5 c4 c5 v5.heap.size v5 HS45.out HS5.out (Nat.le_refl _)).mono ?_; rintro e v6 ⟨rfl, hb⟩; skip) | (go_at_call 40; refine (spec_LooseTight tq aq cq w12.heap.size _ (R.below RQ12.out (‹_ ∧ Below (w12.heap.size) w12 _›).2 (Nat.le_refl _)) HTQ.out (by omega) (‹_ ∧ Below (w12.heap.size) w12 _›).2.size).mono ?_; rintro e v5 ⟨a5, c5, rfl, hs, hb⟩; rw [HLQ.out] at hs ⊢; have HS5 := Lib.hid (hs.rd hb.size); have HS45 := Lib.hid (Rd.fwd EByte.loc HS4.out hb); clear hs) | (go_at_call 38; refine (impl_LooseTight tq aq cq w12.heap.size _ (R.below RQ12.out (‹_ ∧ Below (w12.heap.size) w12 _›).2 (Nat.le_refl _)) HTQ.out (by omega) (‹_ ∧ Below (w12.heap.size) w12 _›).2.size).mono ?_; rintro e v4 ⟨a4, c4, rfl, hs, hb⟩; rw [HLQ.out] at hs ⊢; have HS4 := Lib.hid (hs.rd hb.size); clear hs) | (go_at_call 17; have hguard := HS12; clear hguard; refine (laws_same LP a1 a2 c1 c2 v2.heap.size v2 HS12.out HS2.out (Nat.le_refl _)).mono ?_; rintro e v3 ⟨rfl, hb⟩; skip) | (go_at_call 39; refine (spec_OpenUp tp ap cp w12.heap.size _ (R.below RP12.out (‹_ ∧ Below (w12.heap.size) w12 _›).2 (Nat.le_refl _)) HTP.out (by omega) (‹_ ∧ Below (w12.heap.size) w12 _›).2.size).mono ?_; rintro e v2 ⟨a2, c2, rfl, hs, hb⟩; rw [HLP.out] at hs ⊢; have HS2 := Lib.hid (hs.rd hb.size); have HS12 := Lib.hid (Rd.fwd EByte.loc HS1.out hb); clear hs) | (go_at_call 37; refine (impl_OpenUp tp ap cp w12.heap.size _ (R.below RP12.out (‹_ ∧ Below (w12.heap.size) w12 _›).2 (Nat.le_refl _)) HTP.out (by omega) (‹_ ∧ Below (w12.heap.size) w12 _›).2.size).mono ?_; rintro e v1 ⟨a1, c1, rfl, hs, hb⟩; rw [HLP.out] at hs ⊢; have HS1 := Lib.hid (hs.rd hb.size); clear hs)); go_wp2_with fail; refine tkK hK (fun hHeld => ?_); clear hK K)
 refine tkA 10 40 rfl (fun K hK => ?_)
 focus (go_simp; (first | (go_at_call 17; have hguard := HS45; clear hguard; refine (laws_same LQ a4 a5 c4 c5 v5.heap.size v5 HS45.out HS5.out (Nat.le_refl _)).mono ?_; rintro e v6 ⟨rfl, hb⟩; skip) | (go_at_call 40; refine (spec_LooseTight tq aq cq w12.heap.size _ (R.below RQ12.out (‹_ ∧ Below (w12.heap.size) w12 _›).2 (Nat.le_refl _)) HTQ.out (by omega) (‹_ ∧ Below (w12.heap.size) w12 _›).2.size).mono ?_; rintro e v5 ⟨a5, c5, rfl, hs, hb⟩; rw [HLQ.out] at hs ⊢; have HS5 := Lib.hid (hs.rd hb.size); have HS45 := Lib.hid (Rd.fwd EByte.loc HS4.out hb); clear hs) | (go_at_call 38; refine (impl_LooseTight tq aq cq w12.heap.size _ (R.below RQ12.out (‹_ ∧ Below (w12.heap.size) w12 _›).2 (Nat.le_refl _)) HTQ.out (by omega) (‹_ ∧ Below (w12.heap.size) w12 _›).2.size).mono ?_; rintro e v4 ⟨a4, c4, rfl, hs, hb⟩; rw [HLQ.out] at hs ⊢; have HS4 := Lib.hid (hs.rd hb.size); clear hs) | (go_at_call 17; have hguard := HS12; clear hguard; refine (laws_same LP a1 a2 c1 c2 v2.heap.size v2 HS12.out HS2.out (Nat.le_refl _)).mono ?_; rintro e v3 ⟨rfl, hb⟩; skip) | (go_at_call 39; refine (spec_OpenUp tp ap cp w12.heap.size _ (R.below RP12.out (‹_ ∧ Below (w12.heap.size) w12 _›).2 (Nat.le_refl _)) HTP.out (by omega) (‹_ ∧ Below (w12.heap.size) w12 _›).2.size).mono ?_; rintro e v2 ⟨a2, c2, rfl, hs, hb⟩; rw [HLP.out] at hs ⊢; have HS2 := Lib.hid (hs.rd hb.size); have HS12 := Lib.hid (Rd.fwd EByte.loc HS1.out hb); clear hs) | (go_at_call 37; refine (impl_OpenUp tp ap cp w12.heap.size _ (R.below RP12.out (‹_ ∧ Below (w12.heap.size) w12 _›).2 (Nat.le_refl _)) HTP.out (by omega) (‹_ ∧ Below (w12.heap.size) w12 _›).2.size).mono ?_; rintro e v1 ⟨a1, c1, rfl, hs, hb⟩; rw [HLP.out] at hs ⊢; have HS1 := Lib.hid (hs.rd hb.size); clear hs)); go_wp2_with fail; refine tkK hK (fun hHeld => ?_); clear hK K)
 refine tkA 11 41 rfl (fun K hK => ?_)
 focus (go_simp; (first | (go_at_call 17; have hguard := HS45; clear hguard; refine (laws_same LQ a4 a5 c4 c5 v5.heap.size v5 HS45.out HS5.out (Nat.le_refl _)).mono ?_; rintro e v6 ⟨rfl, hb⟩; skip) | (go_at_call 40; refine (spec_LooseTight tq aq cq w12.heap.size _ (R.below RQ12.out (‹_ ∧ Below (w12.heap.size) w12 _›).2 (Nat.le_refl _)) HTQ.out (by omega) (‹_ ∧ Below (w12.heap.size) w12 _›).2.size).mono ?_; rintro e v5 ⟨a5, c5, rfl, hs, hb⟩; rw [HLQ.out] at hs ⊢; have HS5 := Lib.hid (hs.rd hb.size); have HS45 := Lib.hid (Rd.fwd EByte.loc HS4.out hb); clear hs) | (go_at_call 38; refine (impl_LooseTight tq aq cq w12.heap.size _ (R.below RQ12.out (‹_ ∧ Below (w12.heap.size) w12 _›).2 (Nat.le_refl _)) HTQ.out (by omega) (‹_ ∧ Below (w12.heap.size) w12 _›).2.size).mono ?_; rintro e v4 ⟨a4, c4, rfl, hs, hb⟩; rw [HLQ.out] at hs ⊢; have HS4 := Lib.hid (hs.rd hb.size); clear hs) | (go_at_call 17; have hguard := HS12; clear hguard; refine (laws_same LP a1 a2 c1 c2 v2.heap.size v2 HS12.out HS2.out (Nat.le_refl _)).mono ?_; rintro e v3 ⟨rfl, hb⟩; skip) | (go_at_call 39; refine (spec_OpenUp tp ap cp w12.heap.size _ (R.below RP12.out (‹_ ∧ Below (w12.heap.size) w12 _›).2 (Nat.le_refl _)) HTP.out (by omega) (‹_ ∧ Below (w12.heap.size) w12 _›).2.size).mono ?_; rintro e v2 ⟨a2, c2, rfl, hs, hb⟩; rw [HLP.out] at hs ⊢; have HS2 := Lib.hid (hs.rd hb.size); have HS12 := Lib.hid (Rd.fwd EByte.loc HS1.out hb); clear hs) | (go_at_call 37; refine (impl_OpenUp tp ap cp w12.heap.size _ (R.below RP12.out (‹_ ∧ Below (w12.heap.size) w12 _›).2 (Nat.le_refl _)) HTP.out (by omega) (‹_ ∧ Below (w12.heap.size) w12 _›).2.size).mono ?_; rintro e v1 ⟨a1, c1, rfl, hs, hb⟩; rw [HLP.out] at hs ⊢; have HS1 := Lib.hid (hs.rd hb.size); clear hs)); go_wp2_with fail; refine tkK hK (fun hHeld => ?_); clear hK K)
 refine tkS 12 42 rfl ?_
 refine tkS 13 43 rfl ?_
 refine tkE ?_
 all_goals
  have hcu := (‹_ ∧ Below (w12.heap.size) w12 _›).2
  have sE := hcu.size
  have RVz := Lib.hid (R.fwd RV12.out hcu); have RXz := Lib.hid (R.fwd RX12.out hcu); have RYz := Lib.hid (R.fwd RY12.out hcu)
  have HEz := Lib.hid ((HEN.out.step hcu).more sE)
  have hbv := BV12.out.below hcu (by omega); have hbx := BX12.out.below hcu (by omega); have hby := BY12.out.below hcu (by omega)
  have HBz := Lib.hid (HB12.out.trans (hcu.mono (by omega)))
  have BVz := Lib.hid hbv; have BXz := Lib.hid hbx; have BYz := Lib.hid hby
  clear hcu hbv hbx hby HS1 HS2 HS12 HS4 HS5 HS45 p0 p1 p2 p3 p4 pl q0 q1 q2 q3 q4 ql
  clear RV12 RX12 RY12 BV12 BX12 BY12 BP12 BQ12 RP12 RQ12 YB12 YC12 HB12
  clear hHeld
  go_upto_region 10 with (fail)
  obtain ⟨va0, va1, va2, va3, va4⟩ := BVz.out.cells5; have val := BVz.out.lt
  obtain ⟨vx0, vx1, vx2, vx3, vx4⟩ := BXz.out.cells5; have vxl := BXz.out.lt
  obtain ⟨vy0, vy1, vy2, vy3, vy4⟩ := BYz.out.cells5; have vyl := BYz.out.lt
  refine tkW (v6.heap.size) v6 (fun hHeld => ?_)
  refine tkS 0 44 rfl ?_
  refine tkS 1 45 rfl ?_
  refine tkS 2 46 rfl ?_
  refine tkS 3 47 rfl ?_
  refine tkS 4 48 rfl ?_
  refine tkS 5 49 rfl ?_
  refine tkS 6 50 rfl ?_
  refine tkS 7 51 rfl ?_
  refine tkS 8 52 rfl ?_
  refine tkA 9 53 rfl (fun K hK => ?_)
  go_simp; (first | (go_at_call 11; refine (impl_WriteTight tv av cv v6.heap.size _ (R.below RVz.out (‹_ ∧ Below (v6.heap.size) v6 _›).2 (Nat.le_refl _)) HTV.out (by omega) (HEz.out.step (‹_ ∧ Below (v6.heap.size) v6 _›).2) (‹_ ∧ Below (v6.heap.size) v6 _›).2.size).mono ?_; rintro e u4 ⟨a8, c8, rfl, hs, hb⟩; rw [HWK.out]; clear hs) | (go_at_call 38; refine (impl_LooseTight tv av cv v6.heap.size _ (R.below RVz.out (‹_ ∧ Below (v6.heap.size) v6 _›).2 (Nat.le_refl _)) HTV.out (by omega) (‹_ ∧ Below (v6.heap.size) v6 _›).2.size).mono ?_; rintro e u3 ⟨a7, c7, rfl, hs, hb⟩; rw [HLL.out]; clear hs) | (go_at_call 24; have hguard := HG1; clear hguard; refine (laws_sameVal tv tv ay av cy cv v6.heap.size _ (R.below RYz.out (‹_ ∧ Below (v6.heap.size) v6 _›).2 (Nat.le_refl _)) (R.below RVz.out (‹_ ∧ Below (v6.heap.size) v6 _›).2 (Nat.le_refl _)) (‹_ ∧ Below (v6.heap.size) v6 _›).2.size).mono ?_; rintro e u2 ⟨rfl, hb⟩; rw [sameT_true rfl]) | (go_at_call 24; refine (laws_sameVal tv tv ax av cx cv v6.heap.size _ (R.below RXz.out (‹_ ∧ Below (v6.heap.size) v6 _›).2 (Nat.le_refl _)) (R.below RVz.out (‹_ ∧ Below (v6.heap.size) v6 _›).2 (Nat.le_refl _)) (‹_ ∧ Below (v6.heap.size) v6 _›).2.size).mono ?_; rintro e u1 ⟨rfl, hb⟩; rw [sameT_true rfl]; have HG1 : Hid True := Lib.hid trivial)); go_wp2_with fail; refine tkK hK (fun hHeld => ?_); clear hK K
  refine tkS 10 54 rfl ?_
  refine tkS 11 55 rfl ?_
  refine tkS 12 56 rfl ?_
  refine tkS 13 57 rfl ?_
  refine tkA 14 58 rfl (fun K hK => ?_)
  focus (go_simp; (first | (go_at_call 11; refine (impl_WriteTight tv av cv v6.heap.size _ (R.below RVz.out (‹_ ∧ Below (v6.heap.size) v6 _›).2 (Nat.le_refl _)) HTV.out (by omega) (HEz.out.step (‹_ ∧ Below (v6.heap.size) v6 _›).2) (‹_ ∧ Below (v6.heap.size) v6 _›).2.size).mono ?_; rintro e u4 ⟨a8, c8, rfl, hs, hb⟩; rw [HWK.out]; clear hs) | (go_at_call 38; refine (impl_LooseTight tv av cv v6.heap.size _ (R.below RVz.out (‹_ ∧ Below (v6.heap.size) v6 _›).2 (Nat.le_refl _)) HTV.out (by omega) (‹_ ∧ Below (v6.heap.size) v6 _›).2.size).mono ?_; rintro e u3 ⟨a7, c7, rfl, hs, hb⟩; rw [HLL.out]; clear hs) | (go_at_call 24; have hguard := HG1; clear hguard; refine (laws_sameVal tv tv ay av cy cv v6.heap.size _ (R.below RYz.out (‹_ ∧ Below (v6.heap.size) v6 _›).2 (Nat.le_refl _)) (R.below RVz.out (‹_ ∧ Below (v6.heap.size) v6 _›).2 (Nat.le_refl _)) (‹_ ∧ Below (v6.heap.size) v6 _›).2.size).mono ?_; rintro e u2 ⟨rfl, hb⟩; rw [sameT_true rfl]) | (go_at_call 24; refine (laws_sameVal tv tv ax av cx cv v6.heap.size _ (R.below RXz.out (‹_ ∧ Below (v6.heap.size) v6 _›).2 (Nat.le_refl _)) (R.below RVz.out (‹_ ∧ Below (v6.heap.size) v6 _›).2 (Nat.le_refl _)) (‹_ ∧ Below (v6.heap.size) v6 _›).2.size).mono ?_; rintro e u1 ⟨rfl, hb⟩; rw [sameT_true rfl]; have HG1 : Hid True := Lib.hid trivial)); go_wp2_with fail; refine tkK hK (fun hHeld => ?_); clear hK K)
  refine tkS 15 59 rfl ?_
  refine tkS 16 60 rfl ?_
  refine tkS 17 61 rfl ?_
  refine tkS 20 64 rfl ?_
  refine tkA 18 62 rfl (fun K hK => ?_)
  focus (go_simp; (first | (go_at_call 11; refine (impl_WriteTight tv av cv v6.heap.size _ (R.below RVz.out (‹_ ∧ Below (v6.heap.size) v6 _›).2 (Nat.le_refl _)) HTV.out (by omega) (HEz.out.step (‹_ ∧ Below (v6.heap.size) v6 _›).2) (‹_ ∧ Below (v6.heap.size) v6 _›).2.size).mono ?_; rintro e u4 ⟨a8, c8, rfl, hs, hb⟩; rw [HWK.out]; clear hs) | (go_at_call 38; refine (impl_LooseTight tv av cv v6.heap.size _ (R.below RVz.out (‹_ ∧ Below (v6.heap.size) v6 _›).2 (Nat.le_refl _)) HTV.out (by omega) (‹_ ∧ Below (v6.heap.size) v6 _›).2.size).mono ?_; rintro e u3 ⟨a7, c7, rfl, hs, hb⟩; rw [HLL.out]; clear hs) | (go_at_call 24; have hguard := HG1; clear hguard; refine (laws_sameVal tv tv ay av cy cv v6.heap.size _ (R.below RYz.out (‹_ ∧ Below (v6.heap.size) v6 _›).2 (Nat.le_refl _)) (R.below RVz.out (‹_ ∧ Below (v6.heap.size) v6 _›).2 (Nat.le_refl _)) (‹_ ∧ Below (v6.heap.size) v6 _›).2.size).mono ?_; rintro e u2 ⟨rfl, hb⟩; rw [sameT_true rfl]) | (go_at_call 24; refine (laws_sameVal tv tv ax av cx cv v6.heap.size _ (R.below RXz.out (‹_ ∧ Below (v6.heap.size) v6 _›).2 (Nat.le_refl _)) (R.below RVz.out (‹_ ∧ Below (v6.heap.size) v6 _›).2 (Nat.le_refl _)) (‹_ ∧ Below (v6.heap.size) v6 _›).2.size).mono ?_; rintro e u1 ⟨rfl, hb⟩; rw [sameT_true rfl]; have HG1 : Hid True := Lib.hid trivial)); go_wp2_with fail; refine tkK hK (fun hHeld => ?_); clear hK K)
  refine tkS 19 63 rfl ?_
  refine tkA 21 65 rfl (fun K hK => ?_)
  focus (go_simp; (first | (go_at_call 11; refine (impl_WriteTight tv av cv v6.heap.size _ (R.below RVz.out (‹_ ∧ Below (v6.heap.size) v6 _›).2 (Nat.le_refl _)) HTV.out (by omega) (HEz.out.step (‹_ ∧ Below (v6.heap.size) v6 _›).2) (‹_ ∧ Below (v6.heap.size) v6 _›).2.size).mono ?_; rintro e u4 ⟨a8, c8, rfl, hs, hb⟩; rw [HWK.out]; clear hs) | (go_at_call 38; refine (impl_LooseTight tv av cv v6.heap.size _ (R.below RVz.out (‹_ ∧ Below (v6.heap.size) v6 _›).2 (Nat.le_refl _)) HTV.out (by omega) (‹_ ∧ Below (v6.heap.size) v6 _›).2.size).mono ?_; rintro e u3 ⟨a7, c7, rfl, hs, hb⟩; rw [HLL.out]; clear hs) | (go_at_call 24; have hguard := HG1; clear hguard; refine (laws_sameVal tv tv ay av cy cv v6.heap.size _ (R.below RYz.out (‹_ ∧ Below (v6.heap.size) v6 _›).2 (Nat.le_refl _)) (R.below RVz.out (‹_ ∧ Below (v6.heap.size) v6 _›).2 (Nat.le_refl _)) (‹_ ∧ Below (v6.heap.size) v6 _›).2.size).mono ?_; rintro e u2 ⟨rfl, hb⟩; rw [sameT_true rfl]) | (go_at_call 24; refine (laws_sameVal tv tv ax av cx cv v6.heap.size _ (R.below RXz.out (‹_ ∧ Below (v6.heap.size) v6 _›).2 (Nat.le_refl _)) (R.below RVz.out (‹_ ∧ Below (v6.heap.size) v6 _›).2 (Nat.le_refl _)) (‹_ ∧ Below (v6.heap.size) v6 _›).2.size).mono ?_; rintro e u1 ⟨rfl, hb⟩; rw [sameT_true rfl]; have HG1 : Hid True := Lib.hid trivial)); go_wp2_with fail; refine tkK hK (fun hHeld => ?_); clear hK K)
  refine tkS 22 66 rfl ?_
  refine tkS 23 67 rfl ?_
  refine tkS 24 68 rfl ?_
  refine tkS 25 2 rfl ?_
  refine tkE ?_
  all_goals
   have hcu := (‹_ ∧ Below (v6.heap.size) v6 _›).2
   go_wp2_with fail
   go_ret
   exact ⟨rfl, HBz.out.trans (hcu.mono (by have := HBz.out.size; omega))⟩
end Go.Proofs.YtggdenkmohnijaaGreatDoor
