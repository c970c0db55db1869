/- Texts of this proof, merged: LawTights. No condition beyond what each theorem states. -/
import Derived.Test.YtggdenkmohnijaaGreatDoorZT20
import Derived.Test.YtggdenkmohnijaaGreatDoorZT24
set_option linter.unusedSimpArgs false
set_option linter.unnecessarySimpa false
namespace Go.Proofs.YtggdenkmohnijaaGreatDoor
open Go.ChangeShapes Go.WideShapes Go.ChangeAt Go.RowKit Go.Joins
set_option linter.unusedVariables false
set_option maxRecDepth 100000
theorem tq_facts {t : T} (h : AllT tqQ t) : allB ownB t = true ∧ allB tightU t = true ∧ writeTL t = packT t := by
  have h1 := AllT.allB (p := ownB) (fun t h => decide_eq_true h.1) t h
  have h2 := AllT.allB (p := tightU) (fun t h => h.2.2.2.2) t h
  exact ⟨h1, h2, by unfold writeTL; rw [h1, h2]; rfl⟩
theorem tightU_k {t : T} (h : tightU t = true) : t.k ≠ 6 := by
  unfold tightU at h
  rw [Bool.and_eq_true] at h
  exact of_decide_eq_true h.2
theorem tgs_of {t : T} (ho : allB ownB t = true) (hp : allB tightU t = true) (hz : T.sz t ≤ 1048576) : AllT tgQ t := by
  revert ho hp hz
  revert t
  apply T.ind
  intro k n x s l ih ho hp hz
  rw [allB_eq, Bool.and_eq_true, List.all_eq_true] at ho hp
  rw [AllT_iff]
  have hz2 := sz_of k n x s l
  have hl := T.length_le_szL l
  refine ⟨⟨of_decide_eq_true ho.1, tightU_k hp.1, by show (s.size : Int) ≤ _; omega, by show (l.length : Int) ≤ _; omega⟩, fun u hu => ih u hu (ho.2 u hu) (hp.2 u hu) ?_⟩
  obtain ⟨i, hi, rfl⟩ := mem_get (show u ∈ l from hu)
  have := T.sz_get l i hi
  omega
theorem packT_pos {t : T} (ho : allB ownB t = true) (hp : allB tightU t = true) (hz : T.sz t ≤ 1048576) : 0 < (packT t).length := by
  have h := (rdT_both t (tgs_of ho hp hz) (T.depth t)).1 (Nat.le_refl _) []
  rw [List.append_nil] at h
  rcases Nat.eq_zero_or_pos (packT t).length with h0 | h0
  · have hn : packT t = [] := List.length_eq_zero_iff.1 h0
    rw [hn] at h
    have hd : ∃ d, T.depth t = d + 1 := ⟨T.depthL t.l, by cases t; simp [T.depth, T.l]⟩
    obtain ⟨d, hd⟩ := hd
    rw [hd] at h
    cases h
  · exact h0
theorem writeTL_pos (t : T) (hz : T.sz t ≤ 1048576) : decide (0 < (writeTL t).length) = (allB ownB t && allB tightU t) := by
  unfold writeTL
  by_cases h : (allB ownB t && allB tightU t) = true
  · rw [if_pos h, h]
    rw [Bool.and_eq_true] at h
    exact decide_eq_true (packT_pos h.1 h.2 hz)
  · rw [if_neg h]
    have : (allB ownB t && allB tightU t) = false := by simpa using h
    rw [this]; rfl
set_option maxHeartbeats 16000000 in
theorem FnTights_walk (x0 : List Int) (a0 : Option Addr) (c0 B0 : Nat) (w : World) (hr0 : Rd EByte 1 w B0 a0 c0 x0) (_ : True) (hB0 : B0 ≤ w.heap.size) (henv : Env w.heap.size w) :
    Calls Tryz.prog 3 #[.slice a0 x0.length c0] w fun e w' => e = .returned (.bool true) ∧ Below w.heap.size w w' := by
  have HENV := Lib.hid henv; clear henv
  have F0 : Hid (Rd EByte 1 w w.heap.size a0 c0 x0) := Lib.hid (hr0.more hB0)
  clear hr0
  obtain ⟨hn0, hm0⟩ := F0.out.len
  go_enter Tryz.func3, Tryz.ntmps3
  go_wp2_with fail
  refine (laws_big a0 c0 x0 w).mono ?_
  rintro e w1 ⟨rfl, hw1⟩
  have hw2 := hw1.symm; subst hw2; clear hw1
  by_cases hbig : 1048576 < x0.length
  · have hbb : decide (1048576 < x0.length) = true := decide_eq_true hbig
    rw [hbb]
    go_wp2_with fail
    go_ret
    exact ⟨rfl, Below.refl _ _⟩
  have hbb : decide (1048576 < x0.length) = false := decide_eq_false hbig
  rw [hbb]
  have hl0 : x0.length ≤ 1048576 := by omega
  clear hbb hbig
  go_wp2_with fail
  refine (spec_DrawTight a0 c0 w.heap.size x0 w F0.out (Nat.le_refl _) hl0).mono ?_
  rintro e w1 ⟨tv, av, cv, rfl, htv, hzv, ⟨hpk, hpd⟩, hrv, hb⟩
  have HS1 := Lib.hid (hb)
  have s1 : w.heap.size ≤ w1.heap.size := HS1.out.size
  have HB1 := HS1
  clear hb
  have RV1 := Lib.hid hrv; clear hrv
  have HTV := Lib.hid htv; clear htv
  obtain ⟨ho, hp, hwk⟩ := tq_facts hpk
  have HO := Lib.hid ho; have HPB := Lib.hid hp
  have HLP := packT_pos ho hp (by omega)
  have HLL : (packT tv).length ≤ 600009 := by have := packT_len tv; omega
  have HRO := Lib.hid (rdT_both tv (AllT.mono (fun t h => tqQ_tgQ h) tv hpk))
  have HWK := Lib.hid hwk; clear hwk hpk ho hp
  go_wp2_with fail
  obtain ⟨gv, gvE⟩ : ∃ g, w1.heap.size = g := ⟨_, rfl⟩
  generalize hW : w1.alloc (.cells (cV tv av cv) 26) = w2
  have hbx : Below w1.heap.size w1 w2 := by subst hW; exact below1 _ _
  have BV2 : Hid (Is w2 gv 26 (cV tv av cv)) := Lib.hid (by subst hW; rw [← gvE]; exact Is.new _ _ _)
  clear hW
  try rw [gvE]
  have HS2 := Lib.hid (hbx)
  have s2 : w1.heap.size ≤ w2.heap.size := HS2.out.size
  have HB2 := Lib.hid (HB1.out.trans (HS2.out.mono (by omega)))
  have RV2 := Lib.hid (R.fwd RV1.out HS2.out)
  clear HS2 HB1 RV1
  clear hbx
  have gvl : gv < w2.heap.size := BV2.out.lt
  obtain ⟨v0, v1, v2, v3, v4⟩ := BV2.out.cells5; have vl := BV2.out.lt
  go_wp2_with fail
  refine (impl_WriteTight tv av cv w2.heap.size w2 RV2.out HTV.out (by omega) ((HENV.out.step HB2.out).more (by have := HB2.out.size; omega)) (Nat.le_refl _)).mono ?_
  rintro e w3 ⟨ab, cb, rfl, happ, hb⟩
  rw [HWK.out] at happ ⊢
  have hry : Rd EByte 1 w3 w3.heap.size ab cb (packT tv) := happ.rd hb.size
  clear v0 v1 v2 v3 v4 vl
  have HS3 := Lib.hid (hb)
  have s3 : w2.heap.size ≤ w3.heap.size := HS3.out.size
  have HB3 := Lib.hid (HB2.out.trans (HS3.out.mono (by omega)))
  have RV3 := Lib.hid (R.fwd RV2.out HS3.out)
  have BV3 := Lib.hid (Is.below BV2.out HS3.out (by omega))
  clear HS3 HB2 RV2 BV2
  clear hb happ
  have YB3 := Lib.hid hry; clear hry
  go_wp2_with fail
  refine (spec_DrawWriteTight a0 c0 w3.heap.size x0 w3 ((F0.out.below EByte.loc HB3.out (Nat.le_refl _)).more (by have := HB3.out.size; omega)) (Nat.le_refl _) hl0).mono ?_
  rintro e w4 ⟨tw, aw, cw, rfl, htw, hzw, _, hrw, hb⟩
  have HS4 := Lib.hid (hb)
  have s4 : w3.heap.size ≤ w4.heap.size := HS4.out.size
  have HB4 := Lib.hid (HB3.out.trans (HS4.out.mono (by omega)))
  have RV4 := Lib.hid (R.fwd RV3.out HS4.out)
  have BV4 := Lib.hid (Is.below BV3.out HS4.out (by omega))
  have YB4 := Lib.hid (Rd.fwd EByte.loc YB3.out HS4.out)
  clear HS4 HB3 RV3 BV3 YB3
  clear hb
  have RW4 := Lib.hid hrw; clear hrw
  have HTW := Lib.hid htw; clear htw
  go_wp2_with fail
  obtain ⟨gw, gwE⟩ : ∃ g, w4.heap.size = g := ⟨_, rfl⟩
  generalize hW : w4.alloc (.cells (cV tw aw cw) 26) = w5
  have hbx : Below w4.heap.size w4 w5 := by subst hW; exact below1 _ _
  have BW5 : Hid (Is w5 gw 26 (cV tw aw cw)) := Lib.hid (by subst hW; rw [← gwE]; exact Is.new _ _ _)
  clear hW
  try rw [gwE]
  have HS5 := Lib.hid (hbx)
  have s5 : w4.heap.size ≤ w5.heap.size := HS5.out.size
  have HB5 := Lib.hid (HB4.out.trans (HS5.out.mono (by omega)))
  have RV5 := Lib.hid (R.fwd RV4.out HS5.out)
  have BV5 := Lib.hid (Is.below BV4.out HS5.out (by omega))
  have YB5 := Lib.hid (Rd.fwd EByte.loc YB4.out HS5.out)
  have RW5 := Lib.hid (R.fwd RW4.out HS5.out)
  clear HS5 HB4 RV4 BV4 YB4 RW4
  clear hbx
  have gwl : gw < w5.heap.size := BW5.out.lt
  go_wp2_with fail
  refine (spec_DrawFitsTight a0 c0 w5.heap.size x0 w5 ((F0.out.below EByte.loc HB5.out (Nat.le_refl _)).more (by have := HB5.out.size; omega)) (Nat.le_refl _) hl0).mono ?_
  rintro e w6 ⟨tu, au, cu, rfl, htu, hzu, _, hru, hb⟩
  have HS6 := Lib.hid (hb)
  have s6 : w5.heap.size ≤ w6.heap.size := HS6.out.size
  have HB6 := Lib.hid (HB5.out.trans (HS6.out.mono (by omega)))
  have RV6 := Lib.hid (R.fwd RV5.out HS6.out)
  have BV6 := Lib.hid (Is.below BV5.out HS6.out (by omega))
  have YB6 := Lib.hid (Rd.fwd EByte.loc YB5.out HS6.out)
  have RW6 := Lib.hid (R.fwd RW5.out HS6.out)
  have BW6 := Lib.hid (Is.below BW5.out HS6.out (by omega))
  clear HS6 HB5 RV5 BV5 YB5 RW5 BW5
  clear hb
  have RU6 := Lib.hid hru; clear hru
  have HTU := Lib.hid htu; clear htu
  go_wp2_with fail
  obtain ⟨gu, guE⟩ : ∃ g, w6.heap.size = g := ⟨_, rfl⟩
  generalize hW : w6.alloc (.cells (cV tu au cu) 26) = w7
  have hbx : Below w6.heap.size w6 w7 := by subst hW; exact below1 _ _
  have BU7 : Hid (Is w7 gu 26 (cV tu au cu)) := Lib.hid (by subst hW; rw [← guE]; exact Is.new _ _ _)
  clear hW
  try rw [guE]
  have HS7 := Lib.hid (hbx)
  have s7 : w6.heap.size ≤ w7.heap.size := HS7.out.size
  have HB7 := Lib.hid (HB6.out.trans (HS7.out.mono (by omega)))
  have RV7 := Lib.hid (R.fwd RV6.out HS7.out)
  have BV7 := Lib.hid (Is.below BV6.out HS7.out (by omega))
  have YB7 := Lib.hid (Rd.fwd EByte.loc YB6.out HS7.out)
  have RW7 := Lib.hid (R.fwd RW6.out HS7.out)
  have BW7 := Lib.hid (Is.below BW6.out HS7.out (by omega))
  have RU7 := Lib.hid (R.fwd RU6.out HS7.out)
  clear HS7 HB6 RV6 BV6 YB6 RW6 BW6 RU6
  clear hbx
  have gul : gu < w7.heap.size := BU7.out.lt
  go_wp2_with fail
  refine (spec_DrawPackTight a0 c0 w7.heap.size x0 w7 ((F0.out.below EByte.loc HB7.out (Nat.le_refl _)).more (by have := HB7.out.size; omega)) (Nat.le_refl _) hl0).mono ?_
  rintro e w8 ⟨tp, ap, cp, rfl, htp, hzp, _, hrp, hb⟩
  have HS8 := Lib.hid (hb)
  have s8 : w7.heap.size ≤ w8.heap.size := HS8.out.size
  have HB8 := Lib.hid (HB7.out.trans (HS8.out.mono (by omega)))
  have RV8 := Lib.hid (R.fwd RV7.out HS8.out)
  have BV8 := Lib.hid (Is.below BV7.out HS8.out (by omega))
  have YB8 := Lib.hid (Rd.fwd EByte.loc YB7.out HS8.out)
  have RW8 := Lib.hid (R.fwd RW7.out HS8.out)
  have BW8 := Lib.hid (Is.below BW7.out HS8.out (by omega))
  have RU8 := Lib.hid (R.fwd RU7.out HS8.out)
  have BU8 := Lib.hid (Is.below BU7.out HS8.out (by omega))
  clear HS8 HB7 RV7 BV7 YB7 RW7 BW7 RU7 BU7
  clear hb
  have RP8 := Lib.hid hrp; clear hrp
  have HTP := Lib.hid htp; clear htp
  obtain ⟨v0, v1, v2, v3, v4⟩ := BV8.out.cells5; have vl := BV8.out.lt
  go_wp2_with fail
  obtain ⟨gp, gpE⟩ : ∃ g, w8.heap.size = g := ⟨_, rfl⟩
  generalize hW : w8.alloc (.cells (cV tp ap cp) 26) = w9
  have hbx : Below w8.heap.size w8 w9 := by subst hW; exact below1 _ _
  have BP9 : Hid (Is w9 gp 26 (cV tp ap cp)) := Lib.hid (by subst hW; rw [← gpE]; exact Is.new _ _ _)
  clear hW
  try rw [gpE]
  have HS9 := Lib.hid (hbx)
  have s9 : w8.heap.size ≤ w9.heap.size := HS9.out.size
  have HB9 := Lib.hid (HB8.out.trans (HS9.out.mono (by omega)))
  have RV9 := Lib.hid (R.fwd RV8.out HS9.out)
  have BV9 := Lib.hid (Is.below BV8.out HS9.out (by omega))
  have YB9 := Lib.hid (Rd.fwd EByte.loc YB8.out HS9.out)
  have RW9 := Lib.hid (R.fwd RW8.out HS9.out)
  have BW9 := Lib.hid (Is.below BW8.out HS9.out (by omega))
  have RU9 := Lib.hid (R.fwd RU8.out HS9.out)
  have BU9 := Lib.hid (Is.below BU8.out HS9.out (by omega))
  have RP9 := Lib.hid (R.fwd RP8.out HS9.out)
  clear HS9 HB8 RV8 BV8 YB8 RW8 BW8 RU8 BU8 RP8
  clear hbx
  have gpl : gp < w9.heap.size := BP9.out.lt
  clear v0 v1 v2 v3 v4 vl
  have hdp : T.depth tv ≤ 4 := hpd
  obtain ⟨D, hD⟩ : ∃ D, T.depth tv = D + 1 := ⟨T.depthL tv.l, by cases tv; simp [T.depth, T.l]⟩
  have HD := Lib.hid hD
  have hD3 : D ≤ 3 := by omega
  have HR1 := Lib.hid (show rdT (((D + 1 : Nat) : Int)).toNat (packT tv) = .ok (tv, (packT tv).length) from by rw [Int.toNat_natCast]; have := (HRO.out (D + 1)).1 (by rw [HD.out]; exact Nat.le_refl _) []; rwa [List.append_nil] at this)
  have HR2 := Lib.hid (show rdT ((D : Int)).toNat (packT tv) = .error 2 from by rw [Int.toNat_natCast]; have := (HRO.out D).2 (by rw [HD.out]; omega) []; rwa [List.append_nil] at this)
  have HR20 := Lib.hid (show rdT 20 (packT tv) = .ok (tv, (packT tv).length) from by have := (HRO.out 20).1 (by omega) []; rwa [List.append_nil] at this)
  clear hpd hdp hD
  have hct : T.count tv ≤ 4611686018427387904 := by have := T.countL_le_szL tv; omega
  obtain ⟨L, hL⟩ : ∃ L, packT tv = L := ⟨_, rfl⟩
  rw [hL] at HLP HLL HR1 HR2 HR20 HWK YB9 ⊢
  have HPK := Lib.hid hL; clear hL
  refine (impl_DeepOf tv hct av cv w9.heap.size w9 RV9.out (Nat.le_refl _)).mono ?_
  rintro e w10 ⟨rfl, hb⟩
  rw [HD.out]
  have HS10 := Lib.hid (hb)
  have s10 : w9.heap.size ≤ w10.heap.size := HS10.out.size
  have HB10 := Lib.hid (HB9.out.trans (HS10.out.mono (by omega)))
  have RV10 := Lib.hid (R.fwd RV9.out HS10.out)
  have BV10 := Lib.hid (Is.below BV9.out HS10.out (by omega))
  have YB10 := Lib.hid (Rd.fwd EByte.loc YB9.out HS10.out)
  have RW10 := Lib.hid (R.fwd RW9.out HS10.out)
  have BW10 := Lib.hid (Is.below BW9.out HS10.out (by omega))
  have RU10 := Lib.hid (R.fwd RU9.out HS10.out)
  have BU10 := Lib.hid (Is.below BU9.out HS10.out (by omega))
  have RP10 := Lib.hid (R.fwd RP9.out HS10.out)
  have BP10 := Lib.hid (Is.below BP9.out HS10.out (by omega))
  clear HS10 HB9 RV9 BV9 YB9 RW9 BW9 RU9 BU9 RP9 BP9
  clear hb
  go_wp2_with fail
  refine (impl_ReadTight_ok L tv ab cb w10.heap.size _ w10 YB10.out (Nat.le_refl _) (by omega) (by omega) (by omega) ((HENV.out.step HB10.out).more (by have := HB10.out.size; omega)) HR1.out).mono ?_
  rintro e w11 ⟨ax, cx, rfl, hrx, _, hb⟩
  have hrx2 := hrx.r
  have HS11 := Lib.hid (hb)
  have s11 : w10.heap.size ≤ w11.heap.size := HS11.out.size
  have HB11 := Lib.hid (HB10.out.trans (HS11.out.mono (by omega)))
  have RV11 := Lib.hid (R.fwd RV10.out HS11.out)
  have BV11 := Lib.hid (Is.below BV10.out HS11.out (by omega))
  have YB11 := Lib.hid (Rd.fwd EByte.loc YB10.out HS11.out)
  have RW11 := Lib.hid (R.fwd RW10.out HS11.out)
  have BW11 := Lib.hid (Is.below BW10.out HS11.out (by omega))
  have RU11 := Lib.hid (R.fwd RU10.out HS11.out)
  have BU11 := Lib.hid (Is.below BU10.out HS11.out (by omega))
  have RP11 := Lib.hid (R.fwd RP10.out HS11.out)
  have BP11 := Lib.hid (Is.below BP10.out HS11.out (by omega))
  clear HS11 HB10 RV10 BV10 YB10 RW10 BW10 RU10 BU10 RP10 BP10
  clear hb hrx
  have RX11 := Lib.hid hrx2; clear hrx2
  obtain ⟨v0, v1, v2, v3, v4⟩ := BV11.out.cells5; have vl := BV11.out.lt
  go_wp2_with fail
  obtain ⟨gx, gxE⟩ : ∃ g, w11.heap.size = g := ⟨_, rfl⟩
  generalize hW : w11.alloc (.cells (cV tv ax cx) 26) = w12
  have hbx : Below w11.heap.size w11 w12 := by subst hW; exact below1 _ _
  have BX12 : Hid (Is w12 gx 26 (cV tv ax cx)) := Lib.hid (by subst hW; rw [← gxE]; exact Is.new _ _ _)
  clear hW
  try rw [gxE]
  have HS12 := Lib.hid (hbx)
  have s12 : w11.heap.size ≤ w12.heap.size := HS12.out.size
  have HB12 := Lib.hid (HB11.out.trans (HS12.out.mono (by omega)))
  have RV12 := Lib.hid (R.fwd RV11.out HS12.out)
  have BV12 := Lib.hid (Is.below BV11.out HS12.out (by omega))
  have YB12 := Lib.hid (Rd.fwd EByte.loc YB11.out HS12.out)
  have RW12 := Lib.hid (R.fwd RW11.out HS12.out)
  have BW12 := Lib.hid (Is.below BW11.out HS12.out (by omega))
  have RU12 := Lib.hid (R.fwd RU11.out HS12.out)
  have BU12 := Lib.hid (Is.below BU11.out HS12.out (by omega))
  have RP12 := Lib.hid (R.fwd RP11.out HS12.out)
  have BP12 := Lib.hid (Is.below BP11.out HS12.out (by omega))
  have RX12 := Lib.hid (R.fwd RX11.out HS12.out)
  clear HS12 HB11 RV11 BV11 YB11 RW11 BW11 RU11 BU11 RP11 BP11 RX11
  clear hbx
  have gxl : gx < w12.heap.size := BX12.out.lt
  clear v0 v1 v2 v3 v4 vl
  refine (impl_DeepOf tv hct av cv w12.heap.size w12 RV12.out (Nat.le_refl _)).mono ?_
  rintro e w13 ⟨rfl, hb⟩
  rw [HD.out]
  have HS13 := Lib.hid (hb)
  have s13 : w12.heap.size ≤ w13.heap.size := HS13.out.size
  have HB13 := Lib.hid (HB12.out.trans (HS13.out.mono (by omega)))
  have RV13 := Lib.hid (R.fwd RV12.out HS13.out)
  have BV13 := Lib.hid (Is.below BV12.out HS13.out (by omega))
  have YB13 := Lib.hid (Rd.fwd EByte.loc YB12.out HS13.out)
  have RW13 := Lib.hid (R.fwd RW12.out HS13.out)
  have BW13 := Lib.hid (Is.below BW12.out HS13.out (by omega))
  have RU13 := Lib.hid (R.fwd RU12.out HS13.out)
  have BU13 := Lib.hid (Is.below BU12.out HS13.out (by omega))
  have RP13 := Lib.hid (R.fwd RP12.out HS13.out)
  have BP13 := Lib.hid (Is.below BP12.out HS13.out (by omega))
  have RX13 := Lib.hid (R.fwd RX12.out HS13.out)
  have BX13 := Lib.hid (Is.below BX12.out HS13.out (by omega))
  clear HS13 HB12 RV12 BV12 YB12 RW12 BW12 RU12 BU12 RP12 BP12 RX12 BX12
  clear hb
  have hd1 : (((D + 1 : Nat) : Int)) - 1 = (D : Int) := by omega
  go_wp2_with fail
  (try rw [hd1])
  refine (impl_ReadTight_err L 2 ab cb w13.heap.size _ w13 YB13.out (Nat.le_refl _) (by omega) (by omega) (by omega) ((HENV.out.step HB13.out).more (by have := HB13.out.size; omega)) HR2.out).mono ?_
  rintro e w14 ⟨rfl, hb⟩
  have HS14 := Lib.hid (hb)
  have s14 : w13.heap.size ≤ w14.heap.size := HS14.out.size
  have HB14 := Lib.hid (HB13.out.trans (HS14.out.mono (by omega)))
  have RV14 := Lib.hid (R.fwd RV13.out HS14.out)
  have BV14 := Lib.hid (Is.below BV13.out HS14.out (by omega))
  have YB14 := Lib.hid (Rd.fwd EByte.loc YB13.out HS14.out)
  have RW14 := Lib.hid (R.fwd RW13.out HS14.out)
  have BW14 := Lib.hid (Is.below BW13.out HS14.out (by omega))
  have RU14 := Lib.hid (R.fwd RU13.out HS14.out)
  have BU14 := Lib.hid (Is.below BU13.out HS14.out (by omega))
  have RP14 := Lib.hid (R.fwd RP13.out HS14.out)
  have BP14 := Lib.hid (Is.below BP13.out HS14.out (by omega))
  have RX14 := Lib.hid (R.fwd RX13.out HS14.out)
  have BX14 := Lib.hid (Is.below BX13.out HS14.out (by omega))
  clear HS14 HB13 RV13 BV13 YB13 RW13 BW13 RU13 BU13 RP13 BP13 RX13 BX13
  clear hb
  go_wp2_with fail
  obtain ⟨gz, gzE⟩ : ∃ g, w14.heap.size = g := ⟨_, rfl⟩
  generalize hW : w14.alloc (.cells (zV) 26) = w15
  have hbx : Below w14.heap.size w14 w15 := by subst hW; exact below1 _ _
  have BZ15 : Hid (Is w15 gz 26 (zV)) := Lib.hid (by subst hW; rw [← gzE]; exact Is.new _ _ _)
  clear hW
  try rw [gzE]
  have HS15 := Lib.hid (hbx)
  have s15 : w14.heap.size ≤ w15.heap.size := HS15.out.size
  have HB15 := Lib.hid (HB14.out.trans (HS15.out.mono (by omega)))
  have RV15 := Lib.hid (R.fwd RV14.out HS15.out)
  have BV15 := Lib.hid (Is.below BV14.out HS15.out (by omega))
  have YB15 := Lib.hid (Rd.fwd EByte.loc YB14.out HS15.out)
  have RW15 := Lib.hid (R.fwd RW14.out HS15.out)
  have BW15 := Lib.hid (Is.below BW14.out HS15.out (by omega))
  have RU15 := Lib.hid (R.fwd RU14.out HS15.out)
  have BU15 := Lib.hid (Is.below BU14.out HS15.out (by omega))
  have RP15 := Lib.hid (R.fwd RP14.out HS15.out)
  have BP15 := Lib.hid (Is.below BP14.out HS15.out (by omega))
  have RX15 := Lib.hid (R.fwd RX14.out HS15.out)
  have BX15 := Lib.hid (Is.below BX14.out HS15.out (by omega))
  clear HS15 HB14 RV14 BV14 YB14 RW14 BW14 RU14 BU14 RP14 BP14 RX14 BX14
  clear hbx
  have gzl : gz < w15.heap.size := BZ15.out.lt
  obtain ⟨LW, hLW⟩ : ∃ b, writeTL tw = b := ⟨_, rfl⟩
  obtain ⟨LP, hLP⟩ : ∃ b, packT tp = b := ⟨_, rfl⟩
  obtain ⟨bU, hbU⟩ : ∃ b, (allB ownB tu && allB tightU tu) = b := ⟨_, rfl⟩
  obtain ⟨bW, hbW⟩ : ∃ b, (allB ownB tw && allB tightU tw) = b := ⟨_, rfl⟩
  have hpos := writeTL_pos tw (by omega)
  rw [hbW, hLW] at hpos
  have HLW := Lib.hid hLW; have HLPP := Lib.hid hLP; have HBU := Lib.hid hbU; have HBW := Lib.hid hbW
  clear hLW hLP hbU hbW
  have hself : ∀ b : Bool, (b != b) = false := fun b => by cases b <;> rfl
  have q1 := hself bU
  clear hself
  have HEN := Lib.hid ((HENV.out.step HB15.out).more (show w.heap.size ≤ w15.heap.size from by have := HB15.out.size; omega))
  obtain ⟨v0, v1, v2, v3, v4⟩ := BV15.out.cells5; have vl := BV15.out.lt
  obtain ⟨k0, k1, k2, k3, k4⟩ := BW15.out.cells5; have kl := BW15.out.lt
  obtain ⟨u0, u1, u2, u3, u4⟩ := BU15.out.cells5; have ul := BU15.out.lt
  obtain ⟨p0, p1, p2, p3, p4⟩ := BP15.out.cells5; have pl := BP15.out.lt
  cases bW
  case' false => have hz : ¬ (0 : Int) < (LW.length : Int) := by (have := of_decide_eq_false hpos; omega)
  case' true => have hz : (0 : Int) < (LW.length : Int) := (by have := of_decide_eq_true hpos; omega); have hz2 : 0 < LW.length := (by omega); have hz4 : decide (0 < LW.length) = true := decide_eq_true hz2
  all_goals
    clear hpos
    go_upto_region 10 with (fail)
    go_region_held3 (fun w' => (∀ b o, b < w15.heap.size → w'.cell? ⟨b, o, none⟩ = w15.cell? ⟨b, o, none⟩) ∧ Below (w15.heap.size) w15 w') (first | exact ⟨fun _ _ _ => rfl, (Below.refl _ _).drew⟩ | assumption | exact keep_step (by assumption) (Below.drew (Below.refl _ _)) (Nat.le_refl _) | exact keep_step (by assumption) (by assumption) (by first | omega | (simp only [World.size_drew]; omega) | (simp only [size_alloc]; omega) | (simp only [World.size_drew, size_alloc]; omega) | (have := (‹(_ ∧ Below (w15.heap.size) w15 _)›).2.size; first | omega | (simp only [World.size_drew]; omega) | (simp only [size_alloc]; omega) | (simp only [World.size_drew, size_alloc]; omega) | (simp only [World.size_drew] at this; omega) | (simp only [size_alloc] at this; omega) | (simp only [World.size_drew, size_alloc] at this; omega))) | exact keep_step (by assumption) (below1 _ _) (by first | omega | (simp only [World.size_drew]; omega) | (simp only [size_alloc]; omega) | (simp only [World.size_drew, size_alloc]; omega) | (have := (‹(_ ∧ Below (w15.heap.size) w15 _)›).2.size; first | omega | (simp only [World.size_drew]; omega) | (simp only [size_alloc]; omega) | (simp only [World.size_drew, size_alloc]; omega) | (simp only [World.size_drew] at this; omega) | (simp only [size_alloc] at this; omega) | (simp only [World.size_drew, size_alloc] at this; omega)))) (first | (go_at_call 19; have hguard := HG38; clear hguard; refine (impl_FitsTight tw aw cw w15.heap.size _ (R.below RW15.out (‹_ ∧ Below (w15.heap.size) w15 _›).2 (Nat.le_refl _)) HTW.out (by omega) (HEN.out.step (‹_ ∧ Below (w15.heap.size) w15 _›).2) (‹_ ∧ Below (w15.heap.size) w15 _›).2.size).mono ?_; rintro e v13 ⟨rfl, hb⟩; rw [HBW.out]) | (go_at_call 11; have hguard := HG32; clear hguard; refine (impl_WriteTight tw aw cw w15.heap.size _ (R.below RW15.out (‹_ ∧ Below (w15.heap.size) w15 _›).2 (Nat.le_refl _)) HTW.out (by omega) (HEN.out.step (‹_ ∧ Below (w15.heap.size) w15 _›).2) (‹_ ∧ Below (w15.heap.size) w15 _›).2.size).mono ?_; rintro e v12 ⟨a12, c12, rfl, hs, hb⟩; rw [HLW.out]; have HG38 : Hid True := Lib.hid trivial; clear hs) | (go_at_call 11; have hguard := HG30; clear hguard; refine (impl_WriteTight tw aw cw w15.heap.size _ (R.below RW15.out (‹_ ∧ Below (w15.heap.size) w15 _›).2 (Nat.le_refl _)) HTW.out (by omega) (HEN.out.step (‹_ ∧ Below (w15.heap.size) w15 _›).2) (‹_ ∧ Below (w15.heap.size) w15 _›).2.size).mono ?_; rintro e v11 ⟨a11, c11, rfl, hs, hb⟩; rw [HLW.out]; have HG32 : Hid True := Lib.hid trivial; clear hs) | (go_at_call 23; refine (impl_SizeTight tw aw cw w15.heap.size _ (R.below RW15.out (‹_ ∧ Below (w15.heap.size) w15 _›).2 (Nat.le_refl _)) HTW.out (by omega) (HEN.out.step (‹_ ∧ Below (w15.heap.size) w15 _›).2) (‹_ ∧ Below (w15.heap.size) w15 _›).2.size).mono ?_; rintro e v10 ⟨rfl, hb⟩; rw [HLW.out]; have HG30 : Hid True := Lib.hid trivial) | (go_at_call 17; have hguard := HS78; clear hguard; refine (laws_same LP a7 a8 c7 c8 v8.heap.size v8 HS78.out HS8.out (Nat.le_refl _)).mono ?_; rintro e v9 ⟨rfl, hb⟩; skip) | (go_at_call 22; refine (spec_PackTight tp ap cp w15.heap.size _ (R.below RP15.out (‹_ ∧ Below (w15.heap.size) w15 _›).2 (Nat.le_refl _)) HTP.out (by omega) (‹_ ∧ Below (w15.heap.size) w15 _›).2.size).mono ?_; rintro e v8 ⟨a8, c8, rfl, hs, hb⟩; rw [HLPP.out] at hs ⊢; have HS8 := Lib.hid (hs.rd hb.size); have HS78 := Lib.hid (Rd.fwd EByte.loc HS7.out hb); clear hs) | (go_at_call 21; refine (impl_PackTight tp ap cp w15.heap.size _ (R.below RP15.out (‹_ ∧ Below (w15.heap.size) w15 _›).2 (Nat.le_refl _)) HTP.out (by omega) (‹_ ∧ Below (w15.heap.size) w15 _›).2.size).mono ?_; rintro e v7 ⟨a7, c7, rfl, hs, hb⟩; rw [HLPP.out] at hs ⊢; have HS7 := Lib.hid (hs.rd hb.size); clear hs) | (go_at_call 20; refine (spec_FitsTight tu au cu w15.heap.size _ (R.below RU15.out (‹_ ∧ Below (w15.heap.size) w15 _›).2 (Nat.le_refl _)) HTU.out (by omega) (‹_ ∧ Below (w15.heap.size) w15 _›).2.size).mono ?_; rintro e v6 ⟨rfl, hb⟩; rw [HBU.out]) | (go_at_call 19; refine (impl_FitsTight tu au cu w15.heap.size _ (R.below RU15.out (‹_ ∧ Below (w15.heap.size) w15 _›).2 (Nat.le_refl _)) HTU.out (by omega) (HEN.out.step (‹_ ∧ Below (w15.heap.size) w15 _›).2) (‹_ ∧ Below (w15.heap.size) w15 _›).2.size).mono ?_; rintro e v6 ⟨rfl, hb⟩; rw [HBU.out]) | (go_at_call 17; have hguard := HSX; clear hguard; refine (laws_same LW a3 a4 c3 c4 v4.heap.size v4 HSW4.out HSX.out (Nat.le_refl _)).mono ?_; rintro e v5 ⟨rfl, hb⟩; skip) | (go_at_call 18; have hguard := HSW; clear hguard; refine (spec_WriteTight tw aw cw w15.heap.size _ (R.below RW15.out (‹_ ∧ Below (w15.heap.size) w15 _›).2 (Nat.le_refl _)) HTW.out (by omega) (‹_ ∧ Below (w15.heap.size) w15 _›).2.size).mono ?_; rintro e v4 ⟨a4, c4, rfl, hs, hb⟩; rw [HLW.out] at hs ⊢; have HSX := Lib.hid (hs.rd hb.size); have HSW4 := Lib.hid (Rd.fwd EByte.loc HSW.out hb); clear hs) | (go_at_call 11; refine (impl_WriteTight tw aw cw w15.heap.size _ (R.below RW15.out (‹_ ∧ Below (w15.heap.size) w15 _›).2 (Nat.le_refl _)) HTW.out (by omega) (HEN.out.step (‹_ ∧ Below (w15.heap.size) w15 _›).2) (‹_ ∧ Below (w15.heap.size) w15 _›).2.size).mono ?_; rintro e v3 ⟨a3, c3, rfl, hs, hb⟩; rw [HLW.out] at hs ⊢; have HSW := Lib.hid (hs.rd hb.size); have hsv3 := hb.size; clear hs) | (go_at_call 17; refine (laws_same L ab aS cb cS v1.heap.size v1 ((YB15.out.below EByte.loc (‹_ ∧ Below (w15.heap.size) w15 _›).2 (Nat.le_refl _)).more (‹_ ∧ Below (w15.heap.size) w15 _›).2.size) HSP.out (Nat.le_refl _)).mono ?_; rintro e v2 ⟨rfl, hb⟩; skip) | (go_at_call 18; refine (spec_WriteTight tv av cv w15.heap.size _ (R.below RV15.out (‹_ ∧ Below (w15.heap.size) w15 _›).2 (Nat.le_refl _)) HTV.out (by omega) (‹_ ∧ Below (w15.heap.size) w15 _›).2.size).mono ?_; rintro e v1 ⟨aS, cS, rfl, hs, hb⟩; rw [HWK.out] at hs ⊢; have HSP := Lib.hid (hs.rd hb.size); have hsv1 := hb.size; clear hs))
    all_goals
      have hcu := (‹_ ∧ Below (w15.heap.size) w15 _›).2
      have HCU := Lib.hid hcu
      have sE := hcu.size
      have RVz := Lib.hid (R.fwd RV15.out hcu); have RXz := Lib.hid (R.fwd RX15.out hcu)
      have YBz := Lib.hid (Rd.fwd EByte.loc YB15.out hcu)
      have HEz := Lib.hid ((HEN.out.step hcu).more sE)
      have hbv := BV15.out.below hcu (by omega); have hbx := BX15.out.below hcu (by omega)
      have HBz := Lib.hid (HB15.out.trans (hcu.mono (by omega)))
      clear hcu HSP HSX HSW4 HS7 HS8 HS78
      have BVz := Lib.hid hbv; have BXz := Lib.hid hbx; clear hbv hbx
      obtain ⟨ya0, ya1, ya2, ya3, ya4⟩ := BVz.out.cells5; have yal := BVz.out.lt
      obtain ⟨yb0, yb1, yb2, yb3, yb4⟩ := BXz.out.cells5; have ybl := BXz.out.lt
      trace "A"
      go_wp2_with fail
      all_goals try (exfalso; rename_i hne; simp [hz2] at hne; done)
      all_goals trace "B"
      refine (impl_FitsTight tv av cv _ _ RVz.out HTV.out (by omega) HEz.out (Nat.le_refl _)).mono ?_
      rintro e z1 ⟨rfl, hb1⟩
      rw [HO.out, HPB.out]
      have sz1 := hb1.size
      have RV2 := Lib.hid (R.fwd RVz.out hb1); have RX2 := Lib.hid (R.fwd RXz.out hb1)
      have YB2 := Lib.hid (Rd.fwd EByte.loc YBz.out hb1)
      have HE2 := Lib.hid ((HEz.out.step hb1).more sz1)
      have HB2 := Lib.hid (HBz.out.trans (hb1.mono (by omega)))
      have BV2 := Lib.hid (BVz.out.below hb1 (by omega)); have BX2 := Lib.hid (BXz.out.below hb1 (by omega))
      clear ya0 ya1 ya2 ya3 ya4 yb0 yb1 yb2 yb3 yb4 hb1
      obtain ⟨ya0, ya1, ya2, ya3, ya4⟩ := BV2.out.cells5; have yal2 := BV2.out.lt
      obtain ⟨yb0, yb1, yb2, yb3, yb4⟩ := BX2.out.cells5; have ybl2 := BX2.out.lt
      go_wp2_with fail
      trace "C"
      refine (laws_sameVal tv tv ax av cx cv _ _ RX2.out RV2.out (Nat.le_refl _)).mono ?_
      rintro e z2 ⟨rfl, hb2⟩
      rw [sameT_true rfl]
      have sz2 := hb2.size
      have YB3 := Lib.hid (Rd.fwd EByte.loc YB2.out hb2)
      have HE3 := Lib.hid ((HE2.out.step hb2).more sz2)
      have HB3 := Lib.hid (HB2.out.trans (hb2.mono (by omega)))
      clear ya0 ya1 ya2 ya3 ya4 yb0 yb1 yb2 yb3 yb4 hb2
      go_wp2_with fail
      trace "D"
      refine (impl_TightOk_yes L tv ab cb _ _ YB3.out (Nat.le_refl _) (by omega) HLP HE3.out HR20.out HWK.out (by omega)).mono ?_
      rintro e z3 ⟨rfl, hb3⟩
      go_wp2_with fail
      trace "E"
      go_ret
      refine ⟨rfl, ?_⟩
      exact HB3.out.trans (hb3.mono (by have := HB3.out.size; omega))
end Go.Proofs.YtggdenkmohnijaaGreatDoor
