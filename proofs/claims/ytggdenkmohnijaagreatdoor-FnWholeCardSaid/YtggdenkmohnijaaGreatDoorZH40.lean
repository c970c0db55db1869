/- Texts of this proof, merged: LawWhole. No condition beyond what each theorem states. -/
import Derived.Test.YtggdenkmohnijaaGreatDoorZH39
set_option linter.unusedSimpArgs false
set_option linter.unnecessarySimpa false
namespace Go.Proofs.YtggdenkmohnijaaGreatDoor
open Go.ChangeShapes Go.WideShapes Go.ChangeAt Go.RowKit Go.Joins
set_option linter.unusedVariables false
set_option maxRecDepth 100000
set_option maxHeartbeats 16000000 in
theorem FnWhole_walk (x0 : List Int) (a0 : Option Addr) (c0 B0 : Nat) (w : World) (hr0 : Rd EByte 1 w B0 a0 c0 x0) (_ : True) (hB0 : B0 ≤ w.heap.size) (henv : Env w.heap.size w) :
  Calls Tryz.prog 5 #[.slice a0 x0.length c0] w fun e w' => e = .returned (.bool true) ∧ Below w.heap.size w w' := by
 have HENV := Lib.hid henv; clear henv
 have F0 : Hid (Rd EByte 1 w w.heap.size a0 c0 x0) := Lib.hid (hr0.more hB0)
 clear hr0
 obtain ⟨hn0, hm0⟩ := F0.out.len
 go_enter Tryz.func5, Tryz.ntmps5
 go_wp2_with fail
 refine (laws_big a0 c0 x0 w).mono ?_
 rintro e w1 ⟨rfl, hw1⟩
 have hw2 := hw1.symm; subst hw2; clear hw1
 by_cases hbig : 1048576 < x0.length
 ·have hbb : decide (1048576 < x0.length) = true := decide_eq_true hbig
  rw [hbb]
  go_wp2_with fail
  go_ret
  exact ⟨rfl, Below.refl _ _⟩
 have hbb : decide (1048576 < x0.length) = false := decide_eq_false hbig
 rw [hbb]
 have hl0 : x0.length ≤ 1048576 := by omega
 clear hbb hbig
 go_wp2_with fail
 refine (spec_DrawTight a0 c0 w.heap.size x0 w F0.out (Nat.le_refl _) hl0).mono ?_
 rintro e w1 ⟨tv, av, cv, rfl, htv, hzv, ⟨hpk, hpd⟩, hrv, hb⟩
 have HS1 := Lib.hid (hb)
 have s1 : w.heap.size ≤ w1.heap.size := HS1.out.size
 have HB1 := HS1
 clear hb
 have RV1 := Lib.hid hrv; clear hrv
 have HTV := Lib.hid htv; clear htv
 obtain ⟨ho, hp, hwk⟩ := tq_facts hpk
 have hag := AllT.mono (fun t h => tqQ_tgQ h) tv hpk
 have hLP := packT_pos ho hp (by omega)
 have hLL : (packT tv).length ≤ 600009 := by have := packT_len tv; omega
 have HR1 := Lib.hid ((rdT_both tv hag 20).1 (by omega))
 have HR2 := Lib.hid (rdT_cut tv hag 20 (by omega))
 have HWK := Lib.hid hwk
 clear hwk hpk ho hp hag hpd
 go_wp2_with fail
 obtain ⟨gv, gvE⟩ : ∃ g, w1.heap.size = g := ⟨_, rfl⟩
 generalize hW : w1.alloc (.cells (cV tv av cv) 26) = w2
 have hbx : Below w1.heap.size w1 w2 := by subst hW; exact below1 _ _
 have BV2 : Hid (Is w2 gv 26 (cV tv av cv)) := Lib.hid (by subst hW; rw [← gvE]; exact Is.new _ _ _)
 clear hW
 try rw [gvE]
 have HS2 := Lib.hid (hbx)
 have s2 : w1.heap.size ≤ w2.heap.size := HS2.out.size
 have HB2 := Lib.hid (HB1.out.trans (HS2.out.mono (by omega)))
 have RV2 := Lib.hid (R.fwd RV1.out HS2.out)
 clear HS2 HB1 RV1
 clear hbx
 have gvl : gv < w2.heap.size := BV2.out.lt
 go_wp2_with fail
 refine (spec_DrawPacked a0 c0 w2.heap.size x0 w2 ((F0.out.below EByte.loc HB2.out (Nat.le_refl _)).more (by have := HB2.out.size; omega)) (Nat.le_refl _) hl0).mono ?_
 rintro e w3 ⟨tw, aw, cw, rfl, htw, hzw, ⟨hqk, hqd⟩, hrw, hb⟩
 have HS3 := Lib.hid (hb)
 have s3 : w2.heap.size ≤ w3.heap.size := HS3.out.size
 have HB3 := Lib.hid (HB2.out.trans (HS3.out.mono (by omega)))
 have RV3 := Lib.hid (R.fwd RV2.out HS3.out)
 have BV3 := Lib.hid (Is.below BV2.out HS3.out (by omega))
 clear HS3 HB2 RV2 BV2
 clear hb
 have RW3 := Lib.hid hrw; clear hrw
 have HTW := Lib.hid htw; clear htw
 obtain ⟨ho, hp, hwk⟩ := pk_facts hqk
 have hMP := packK_pos ho hp
 have hMM : (packK tw).length ≤ 600009 := by have := packK_len tw; omega
 have HP1 := Lib.hid ((rdP_both tw ho hp 20).1 (by omega))
 have HWW := Lib.hid hwk
 clear hwk hqk ho hp hqd
 obtain ⟨m0, m1, m2, m3, m4⟩ := BV3.out.cells5; have ml := BV3.out.lt
 go_wp2_with fail
 obtain ⟨gw, gwE⟩ : ∃ g, w3.heap.size = g := ⟨_, rfl⟩
 generalize hW : w3.alloc (.cells (cV tw aw cw) 26) = w4
 have hbx : Below w3.heap.size w3 w4 := by subst hW; exact below1 _ _
 have BW4 : Hid (Is w4 gw 26 (cV tw aw cw)) := Lib.hid (by subst hW; rw [← gwE]; exact Is.new _ _ _)
 clear hW
 try rw [gwE]
 have HS4 := Lib.hid (hbx)
 have s4 : w3.heap.size ≤ w4.heap.size := HS4.out.size
 have HB4 := Lib.hid (HB3.out.trans (HS4.out.mono (by omega)))
 have RV4 := Lib.hid (R.fwd RV3.out HS4.out)
 have BV4 := Lib.hid (Is.below BV3.out HS4.out (by omega))
 have RW4 := Lib.hid (R.fwd RW3.out HS4.out)
 clear HS4 HB3 RV3 BV3 RW3
 clear hbx
 have gwl : gw < w4.heap.size := BW4.out.lt
 refine (impl_WriteTight tv av cv w4.heap.size w4 RV4.out HTV.out (by omega) ((HENV.out.step HB4.out).more (by have := HB4.out.size; omega)) (Nat.le_refl _)).mono ?_
 rintro e w5 ⟨aa, ca, rfl, happ, hb⟩
 rw [HWK.out] at happ ⊢
 have hya := happ.rd hb.size
 clear happ m0 m1 m2 m3 m4 ml
 have HS5 := Lib.hid (hb)
 have s5 : w4.heap.size ≤ w5.heap.size := HS5.out.size
 have HB5 := Lib.hid (HB4.out.trans (HS5.out.mono (by omega)))
 have RV5 := Lib.hid (R.fwd RV4.out HS5.out)
 have BV5 := Lib.hid (Is.below BV4.out HS5.out (by omega))
 have RW5 := Lib.hid (R.fwd RW4.out HS5.out)
 have BW5 := Lib.hid (Is.below BW4.out HS5.out (by omega))
 clear HS5 HB4 RV4 BV4 RW4 BW4
 clear hb
 have YA5 := Lib.hid hya; clear hya
 obtain ⟨m0, m1, m2, m3, m4⟩ := BW5.out.cells5; have ml := BW5.out.lt
 go_wp2_with fail
 refine (impl_WritePacked tw aw cw w5.heap.size w5 RW5.out HTW.out (by omega) ((HENV.out.step HB5.out).more (by have := HB5.out.size; omega)) (Nat.le_refl _)).mono ?_
 rintro e w6 ⟨ab, cb, rfl, happ, hb⟩
 rw [HWW.out] at happ ⊢
 have hyb := happ.rd hb.size
 clear happ m0 m1 m2 m3 m4 ml
 have HS6 := Lib.hid (hb)
 have s6 : w5.heap.size ≤ w6.heap.size := HS6.out.size
 have HB6 := Lib.hid (HB5.out.trans (HS6.out.mono (by omega)))
 have RV6 := Lib.hid (R.fwd RV5.out HS6.out)
 have BV6 := Lib.hid (Is.below BV5.out HS6.out (by omega))
 have RW6 := Lib.hid (R.fwd RW5.out HS6.out)
 have BW6 := Lib.hid (Is.below BW5.out HS6.out (by omega))
 have YA6 := Lib.hid (Rd.fwd EByte.loc YA5.out HS6.out)
 clear HS6 HB5 RV5 BV5 RW5 BW5 YA5
 clear hb
 have YB6 := Lib.hid hyb; clear hyb
 obtain ⟨L, hL⟩ : ∃ L, packT tv = L := ⟨_, rfl⟩
 obtain ⟨M, hM⟩ : ∃ M, packK tw = M := ⟨_, rfl⟩
 rw [hL] at hLP hLL HR1 HR2 HWK YA6
 rw [hM] at hMP hMM HP1 HWW YB6
 (try rw [hL]); (try rw [hM])
 have HPC := Lib.hid (show ∀ j, j < M.length → rdP 20 (M.take j) = .error 1 from fun j hj => by
  have h := HP1.out []
  rw [List.append_nil] at h
  exact (rdP_stb 20).cut h hj)
 clear hL hM
 obtain ⟨q1, k1, y1, hrun, happ, hb1⟩ := copyB w6 L aa ca w6.heap.size YA6.out (Nat.le_refl _) (by omega)
 have hs1 := hb1.size
 go_wp2_with (at_builtin; refine Lib.wpList_append_run _ rfl _ _ _ _ rfl _ _ rfl rfl _ _ hrun ?_)
 refine (laws_at a0 c0 w.heap.size x0 y1 ((F0.out.below EByte.loc HB6.out (Nat.le_refl _)).below EByte.loc (hb1.mono (by omega)) (Nat.le_refl _)) (by omega) hl0).mono ?_
 rintro e y2 ⟨n, rfl, hn0, hn1, hb2⟩
 have hs2 := hb2.size
 have hnw : IntKind.u8.wrap n = n := by rw [IntKind.wrap_u8]; omega
 obtain ⟨hp1, hp2⟩ := happ.cap
 obtain ⟨q2, k2, y3, hrun2, happ2, hb3, _, _, _⟩ := run_appL (P := Tryz.prog) (y2.alloc (.cells #[.int .u8 n] 5)) EByte.elem 22 22 (.int .u8 0) 1 Tryz.underlying22 info_Byte2 rfl w6.heap.size q1 k1 L [] ((happ.agree EByte.elem (fun f hf => hb2.block f hf) (by omega)).agree EByte.elem (fun f hf => (below1 y2 _).block f hf) (by omega)) (by simp; omega) hp1 (some ⟨y2.heap.size, 0, none⟩) 1 [n] [] (Srcs.one ⟨rfl, (Is.new y2 #[.int .u8 n] 5).cell 0 rfl, ⟨hn0, hn1⟩⟩) (by simp) (by simp [maxLen]; omega) (by simp; omega)
 have hb3' : Below w6.heap.size w6 y3 := (hb1.trans (hb2.mono (by omega))).trans (((below1 y2 _).mono (by omega)).trans hb3)
 have hry : Rd EByte 1 y3 y3.heap.size q2 k2 (L ++ [n]) := happ2.rd hb3'.size
 have HRY := Lib.hid hry; clear hry happ happ2 hb1 hb2 hb3 hrun
 have hB4 := Lib.hid (HB6.out.trans (hb3'.mono (by omega)))
 go_wp2_with (at_builtin; refine Lib.wpList_append_run _ rfl _ _ _ _ rfl _ _ rfl rfl _ _ hrun2 ?_)
 have HM1 := Lib.hid (impl_ReadTight_more (L ++ [n]) tv L.length q2 k2 y3.heap.size 20 y3 HRY.out (Nat.le_refl _) (by simp; omega) (by decide) (by decide) ((HENV.out.step hB4.out).more (by have := hB4.out.size; omega)) (HR1.out [n]) (by simp))
 rw [show (L ++ [n]).length = L.length + 1 from by simp] at HM1
 refine HM1.out.mono ?_
 rintro e w7 ⟨rfl, hb4⟩
 have hb : Below w6.heap.size w6 w7 := hb3'.trans (hb4.mono hb3'.size)
 clear hb4 hB4 HRY hrun2 hnw hn0 hn1 hs1 hs2 hp1 hp2 HM1
 have HS7 := Lib.hid (hb)
 have s7 : w6.heap.size ≤ w7.heap.size := HS7.out.size
 have HB7 := Lib.hid (HB6.out.trans (HS7.out.mono (by omega)))
 have RV7 := Lib.hid (R.fwd RV6.out HS7.out)
 have BV7 := Lib.hid (Is.below BV6.out HS7.out (by omega))
 have RW7 := Lib.hid (R.fwd RW6.out HS7.out)
 have BW7 := Lib.hid (Is.below BW6.out HS7.out (by omega))
 have YA7 := Lib.hid (Rd.fwd EByte.loc YA6.out HS7.out)
 have YB7 := Lib.hid (Rd.fwd EByte.loc YB6.out HS7.out)
 clear HS7 HB6 RV6 BV6 RW6 BW6 YA6 YB6
 clear hb hb3'
 obtain ⟨bq, oq, rfl, _, _, _, _⟩ := YA7.out.byte 0 (by omega)
 have hKc := YA7.out.len
 have h1 : (1:Int) ≤ (L.length : Int) := by omega
 have h2 : (L.length : Int) - 1 ≤ (ca : Int) := by omega
 go_wp2_with fail
 obtain ⟨gz, gzE⟩ : ∃ g, w7.heap.size = g := ⟨_, rfl⟩
 generalize hW : w7.alloc (.cells (zV) 26) = w8
 have hbx : Below w7.heap.size w7 w8 := by subst hW; exact below1 _ _
 have BZ8 : Hid (Is w8 gz 26 (zV)) := Lib.hid (by subst hW; rw [← gzE]; exact Is.new _ _ _)
 clear hW
 try rw [gzE]
 have HS8 := Lib.hid (hbx)
 have s8 : w7.heap.size ≤ w8.heap.size := HS8.out.size
 have HB8 := Lib.hid (HB7.out.trans (HS8.out.mono (by omega)))
 have RV8 := Lib.hid (R.fwd RV7.out HS8.out)
 have BV8 := Lib.hid (Is.below BV7.out HS8.out (by omega))
 have RW8 := Lib.hid (R.fwd RW7.out HS8.out)
 have BW8 := Lib.hid (Is.below BW7.out HS8.out (by omega))
 have YA8 := Lib.hid (Rd.fwd EByte.loc YA7.out HS8.out)
 have YB8 := Lib.hid (Rd.fwd EByte.loc YB7.out HS8.out)
 clear HS8 HB7 RV7 BV7 RW7 BW7 YA7 YB7
 clear hbx
 have gzl : gz < w8.heap.size := BZ8.out.lt
 have HE1 := Lib.hid (impl_ReadTight_err (L.take (L.length - 1)) 1 _ ca w8.heap.size 20 w8 (YA8.out.take (L.length - 1)) (Nat.le_refl _) (by rw [List.length_take]; omega) (by decide) (by decide) ((HENV.out.step HB8.out).more (by have := HB8.out.size; omega)) (HR2.out (L.length - 1) (by omega)))
 rw [show (L.take (L.length - 1)).length = L.length - 1 from by rw [List.length_take]; omega] at HE1
 (try rw [show ((L.length : Int) - 1).toNat = L.length - 1 from by omega])
 refine HE1.out.mono ?_
 rintro e w9 ⟨rfl, hb⟩
 clear HE1 hKc; (try clear h1); (try clear h2)
 have HS9 := Lib.hid (hb)
 have s9 : w8.heap.size ≤ w9.heap.size := HS9.out.size
 have HB9 := Lib.hid (HB8.out.trans (HS9.out.mono (by omega)))
 have RV9 := Lib.hid (R.fwd RV8.out HS9.out)
 have BV9 := Lib.hid (Is.below BV8.out HS9.out (by omega))
 have RW9 := Lib.hid (R.fwd RW8.out HS9.out)
 have BW9 := Lib.hid (Is.below BW8.out HS9.out (by omega))
 have YA9 := Lib.hid (Rd.fwd EByte.loc YA8.out HS9.out)
 have YB9 := Lib.hid (Rd.fwd EByte.loc YB8.out HS9.out)
 have BZ9 := Lib.hid (Is.below BZ8.out HS9.out (by omega))
 clear HS9 HB8 RV8 BV8 RW8 BW8 YA8 YB8 BZ8
 clear hb
 obtain ⟨gy, gyE⟩ : ∃ g, w9.heap.size = g := ⟨_, rfl⟩
 obtain ⟨w10, hW⟩ : ∃ v, w9.alloc (.cells (zV) 26) = v := ⟨_, rfl⟩
 have hbx : Below w9.heap.size w9 w10 := by subst hW; exact below1 _ _
 have BY10 : Hid (Is w10 gy 26 (zV)) := Lib.hid (by subst hW; rw [← gyE]; exact Is.new _ _ _)
 have hsz : w10.heap.size = gy + 1 := by rw [← hW, ← gyE]; simp
 have HSZ := Lib.hid hsz; have HW := Lib.hid hW; clear hW hsz
 have HS10 := Lib.hid (hbx)
 have s10 : w9.heap.size ≤ w10.heap.size := HS10.out.size
 have HB10 := Lib.hid (HB9.out.trans (HS10.out.mono (by omega)))
 have RV10 := Lib.hid (R.fwd RV9.out HS10.out)
 have BV10 := Lib.hid (Is.below BV9.out HS10.out (by omega))
 have RW10 := Lib.hid (R.fwd RW9.out HS10.out)
 have BW10 := Lib.hid (Is.below BW9.out HS10.out (by omega))
 have YA10 := Lib.hid (Rd.fwd EByte.loc YA9.out HS10.out)
 have YB10 := Lib.hid (Rd.fwd EByte.loc YB9.out HS10.out)
 have BZ10 := Lib.hid (Is.below BZ9.out HS10.out (by omega))
 clear HS10 HB9 RV9 BV9 RW9 BW9 YA9 YB9 BZ9
 clear hbx
 have gyl : gy < w10.heap.size := BY10.out.lt
 obtain ⟨q1, k1, y1, hrun, happ, hb1⟩ := copyB w10 M ab cb w10.heap.size YB10.out (Nat.le_refl _) (by omega)
 have hs1 := hb1.size
 rw [HSZ.out] at hrun; clear HSZ
 go_wp2_with (at_builtin; try rw [HW.out]; refine Lib.wpList_append_run _ rfl _ _ _ _ rfl _ _ rfl rfl _ _ hrun ?_)
 (try clear HW); (try rw [gyE])
 refine (laws_at a0 c0 w.heap.size x0 y1 ((F0.out.below EByte.loc HB10.out (Nat.le_refl _)).below EByte.loc (hb1.mono (by omega)) (Nat.le_refl _)) (by omega) hl0).mono ?_
 rintro e y2 ⟨n, rfl, hn0, hn1, hb2⟩
 have hs2 := hb2.size
 have hnw : IntKind.u8.wrap n = n := by rw [IntKind.wrap_u8]; omega
 obtain ⟨hp1, hp2⟩ := happ.cap
 obtain ⟨q2, k2, y3, hrun2, happ2, hb3, _, _, _⟩ := run_appL (P := Tryz.prog) (y2.alloc (.cells #[.int .u8 n] 5)) EByte.elem 22 22 (.int .u8 0) 1 Tryz.underlying22 info_Byte2 rfl w10.heap.size q1 k1 M [] ((happ.agree EByte.elem (fun f hf => hb2.block f hf) (by omega)).agree EByte.elem (fun f hf => (below1 y2 _).block f hf) (by omega)) (by simp; omega) hp1 (some ⟨y2.heap.size, 0, none⟩) 1 [n] [] (Srcs.one ⟨rfl, (Is.new y2 #[.int .u8 n] 5).cell 0 rfl, ⟨hn0, hn1⟩⟩) (by simp) (by simp [maxLen]; omega) (by simp; omega)
 have hb3' : Below w10.heap.size w10 y3 := (hb1.trans (hb2.mono (by omega))).trans (((below1 y2 _).mono (by omega)).trans hb3)
 have hry : Rd EByte 1 y3 y3.heap.size q2 k2 (M ++ [n]) := happ2.rd hb3'.size
 have HRY := Lib.hid hry; clear hry happ happ2 hb1 hb2 hb3 hrun
 have hB4 := Lib.hid (HB10.out.trans (hb3'.mono (by omega)))
 go_wp2_with (at_builtin; refine Lib.wpList_append_run _ rfl _ _ _ _ rfl _ _ rfl rfl _ _ hrun2 ?_)
 have HM1 := Lib.hid (impl_ReadPacked_more (M ++ [n]) tw M.length q2 k2 y3.heap.size 20 y3 HRY.out (Nat.le_refl _) (by simp; omega) ⟨by decide, by decide⟩ ((HENV.out.step hB4.out).more (by have := hB4.out.size; omega)) (HP1.out [n]) (by simp))
 rw [show (M ++ [n]).length = M.length + 1 from by simp] at HM1
 refine HM1.out.mono ?_
 rintro e w11 ⟨rfl, hb4⟩
 have hb : Below w10.heap.size w10 w11 := hb3'.trans (hb4.mono hb3'.size)
 clear hb4 hB4 HRY hrun2 hnw hn0 hn1 hs1 hs2 hp1 hp2 HM1
 have HS11 := Lib.hid (hb)
 have s11 : w10.heap.size ≤ w11.heap.size := HS11.out.size
 have HB11 := Lib.hid (HB10.out.trans (HS11.out.mono (by omega)))
 have RV11 := Lib.hid (R.fwd RV10.out HS11.out)
 have BV11 := Lib.hid (Is.below BV10.out HS11.out (by omega))
 have RW11 := Lib.hid (R.fwd RW10.out HS11.out)
 have BW11 := Lib.hid (Is.below BW10.out HS11.out (by omega))
 have YA11 := Lib.hid (Rd.fwd EByte.loc YA10.out HS11.out)
 have YB11 := Lib.hid (Rd.fwd EByte.loc YB10.out HS11.out)
 have BZ11 := Lib.hid (Is.below BZ10.out HS11.out (by omega))
 have BY11 := Lib.hid (Is.below BY10.out HS11.out (by omega))
 clear HS11 HB10 RV10 BV10 RW10 BW10 YA10 YB10 BZ10 BY10
 clear hb hb3'
 obtain ⟨bq, oq, rfl, _, _, _, _⟩ := YB11.out.byte 0 (by omega)
 have hKc := YB11.out.len
 have h1 : (1:Int) ≤ (M.length : Int) := by omega
 have h2 : (M.length : Int) - 1 ≤ (cb : Int) := by omega
 go_wp2_with fail
 obtain ⟨gx, gxE⟩ : ∃ g, w11.heap.size = g := ⟨_, rfl⟩
 generalize hW : w11.alloc (.cells (zV) 26) = w12
 have hbx : Below w11.heap.size w11 w12 := by subst hW; exact below1 _ _
 have BX12 : Hid (Is w12 gx 26 (zV)) := Lib.hid (by subst hW; rw [← gxE]; exact Is.new _ _ _)
 clear hW
 try rw [gxE]
 have HS12 := Lib.hid (hbx)
 have s12 : w11.heap.size ≤ w12.heap.size := HS12.out.size
 have HB12 := Lib.hid (HB11.out.trans (HS12.out.mono (by omega)))
 have RV12 := Lib.hid (R.fwd RV11.out HS12.out)
 have BV12 := Lib.hid (Is.below BV11.out HS12.out (by omega))
 have RW12 := Lib.hid (R.fwd RW11.out HS12.out)
 have BW12 := Lib.hid (Is.below BW11.out HS12.out (by omega))
 have YA12 := Lib.hid (Rd.fwd EByte.loc YA11.out HS12.out)
 have YB12 := Lib.hid (Rd.fwd EByte.loc YB11.out HS12.out)
 have BZ12 := Lib.hid (Is.below BZ11.out HS12.out (by omega))
 have BY12 := Lib.hid (Is.below BY11.out HS12.out (by omega))
 clear HS12 HB11 RV11 BV11 RW11 BW11 YA11 YB11 BZ11 BY11
 clear hbx
 have gxl : gx < w12.heap.size := BX12.out.lt
 have HE1 := Lib.hid (impl_ReadPacked_err (M.take (M.length - 1)) 1 _ cb w12.heap.size 20 w12 (YB12.out.take (M.length - 1)) (Nat.le_refl _) (by rw [List.length_take]; omega) ⟨by decide, by decide⟩ ((HENV.out.step HB12.out).more (by have := HB12.out.size; omega)) (HPC.out (M.length - 1) (by omega)))
 rw [show (M.take (M.length - 1)).length = M.length - 1 from by rw [List.length_take]; omega] at HE1
 (try rw [show ((M.length : Int) - 1).toNat = M.length - 1 from by omega])
 refine HE1.out.mono ?_
 rintro e w13 ⟨rfl, hb⟩
 clear HE1 hKc; (try clear h1); (try clear h2)
 have HS13 := Lib.hid (hb)
 have s13 : w12.heap.size ≤ w13.heap.size := HS13.out.size
 have HB13 := Lib.hid (HB12.out.trans (HS13.out.mono (by omega)))
 have RV13 := Lib.hid (R.fwd RV12.out HS13.out)
 have BV13 := Lib.hid (Is.below BV12.out HS13.out (by omega))
 have RW13 := Lib.hid (R.fwd RW12.out HS13.out)
 have BW13 := Lib.hid (Is.below BW12.out HS13.out (by omega))
 have YA13 := Lib.hid (Rd.fwd EByte.loc YA12.out HS13.out)
 have YB13 := Lib.hid (Rd.fwd EByte.loc YB12.out HS13.out)
 have BZ13 := Lib.hid (Is.below BZ12.out HS13.out (by omega))
 have BY13 := Lib.hid (Is.below BY12.out HS13.out (by omega))
 have BX13 := Lib.hid (Is.below BX12.out HS13.out (by omega))
 clear HS13 HB12 RV12 BV12 RW12 BW12 YA12 YB12 BZ12 BY12 BX12
 clear hb
 go_wp2_with fail
 go_ret
 exact ⟨rfl, HB13.out.trans ((below1 _ _).mono (by omega))⟩
end Go.Proofs.YtggdenkmohnijaaGreatDoor
