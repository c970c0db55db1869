/- Texts of this proof, merged: MrkG, RdrA. No condition beyond what each theorem states. -/
import Derived.Test.YtggdenkmohnijaaGreatDoorZH28
set_option linter.unusedSimpArgs false
set_option linter.unnecessarySimpa false
namespace Go.Proofs.YtggdenkmohnijaaGreatDoor
open Go.ChangeShapes Go.WideShapes Go.ChangeAt Go.RowKit Go.Joins
set_option linter.unusedVariables false
set_option maxRecDepth 100000
def getM (bs : List Int) (p : Int) : (Int × Int) × Int × Int :=
 if 0 ≤ p ∧ p < bs.length then (match markR (bs.drop p.toNat) with | .error c => ((0, 0), 0, c) | .ok (k, n, u) => ((k, n), p + u, 0)) else ((0, 0), 0, 1)
theorem getM_short {bs : List Int} {j : Nat} (hj : j < bs.length) {k n : Int} (h : shortD bs[j] = some (k, n)) : getM bs j = ((k, n), (j : Int) + 1, 0) := by
 unfold getM
 rw [if_pos ⟨by omega, by omega⟩, Int.toNat_natCast, List.drop_eq_getElem_cons hj]
 unfold markR
 dsimp only
 rw [h]; rfl
theorem getM_form {bs : List Int} {j : Nat} (hj : j < bs.length) (h : shortD bs[j] = none) (hf : (formD bs[j]).1 = 0 ∨ bs.length - (j + 1) < (formD bs[j]).2) : getM bs j = ((0, 0), 0, 1) := by
 unfold getM
 rw [if_pos ⟨by omega, by omega⟩, Int.toNat_natCast, List.drop_eq_getElem_cons hj]
 unfold markR
 dsimp only
 rw [h]
 dsimp only
 rw [if_pos (by rw [List.length_drop]; exact hf)]
theorem getM_arg {bs : List Int} {j : Nat} (hj : j < bs.length) (h : shortD bs[j] = none) (hk : (formD bs[j]).1 ≠ 0) (hw : (formD bs[j]).2 ≤ bs.length - (j + 1)) :
  getM bs j = (match argD bs[j] (formD bs[j]).1 (formD bs[j]).2 ((bs.drop (j + 1)).take (formD bs[j]).2) with | .error c => ((0, 0), 0, c) | .ok (k, n, u) => ((k, n), (j : Int) + u, 0)) := by
 unfold getM
 rw [if_pos ⟨by omega, by omega⟩, Int.toNat_natCast, List.drop_eq_getElem_cons hj]
 unfold markR
 dsimp only
 rw [h]
 dsimp only
 rw [if_neg (by rw [List.length_drop]; omega)]
theorem formD_cases (c : Int) : ((formD c).1 = 0 ∧ (formD c).2 = 0) ∨ ((formD c).1 = 3 ∧ (204 ≤ c ∧ c ≤ 211) ∧ ((formD c).2 = 1 ∨ (formD c).2 = 2 ∨ (formD c).2 = 4 ∨ (formD c).2 = 8)) ∨ ((formD c).1 = 4 ∧ c = 202 ∧ (formD c).2 = 4) ∨
  ((formD c).1 = 5 ∧ c = 212 ∧ (formD c).2 = 2) ∨ (((formD c).1 = 7 ∨ (formD c).1 = 8 ∨ (formD c).1 = 9 ∨ (formD c).1 = 10) ∧ (c < 204 ∨ 211 < c) ∧ ((formD c).2 = 1 ∨ (formD c).2 = 2 ∨ (formD c).2 = 4)) := by
 by_cases hin : c = 196 ∨ c = 197 ∨ c = 198 ∨ c = 202 ∨ c = 204 ∨ c = 205 ∨ c = 206 ∨ c = 207 ∨ c = 208 ∨ c = 209 ∨ c = 210 ∨ c = 211 ∨ c = 212 ∨ c = 217 ∨ c = 218 ∨ c = 219 ∨ c = 220 ∨ c = 221 ∨ c = 222 ∨ c = 223
 ·rcases hin with rfl | rfl | rfl | rfl | rfl | rfl | rfl | rfl | rfl | rfl | rfl | rfl | rfl | rfl | rfl | rfl | rfl | rfl | rfl | rfl
  all_goals decide
 ·have HD : formD c = (0, 0) := by
   unfold formD; rw [if_neg (by omega), if_neg (by omega), if_neg (by omega), if_neg (by omega), if_neg (by omega), if_neg (by omega), if_neg (by omega), if_neg (by omega), if_neg (by omega), if_neg (by omega), if_neg (by omega), if_neg (by omega), if_neg (by omega), if_neg (by omega), if_neg (by omega), if_neg (by omega), if_neg (by omega), if_neg (by omega), if_neg (by omega), if_neg (by omega)]
  rw [HD]; exact Or.inl ⟨rfl, rfl⟩
theorem argD3 {c : Int} {w : Nat} {A : List Int} {sg : Bool} (hsg : decide (208 ≤ c ∧ c ≤ 211) = sg) (hc : c ≤ 211) (hA : A.length = w) (h0 : 0 ≤ beN A) : argD c 3 w A = if argOk sg A = true then .ok (3, argN sg A, w + 1) else .error 2 := by
 unfold argD
 rw [if_neg (by decide), if_neg (by decide), if_pos rfl]
 cases sg with
 | true =>
  have h := of_decide_eq_true hsg
  rw [if_pos h.1]
  unfold argOk argN
  simp only [if_true, hA, decide_eq_true_eq]
 | false =>
  have h := of_decide_eq_false hsg
  rw [if_neg (fun hh => h ⟨hh, hc⟩)]
  unfold argOk argN
  simp only [Bool.false_eq_true, if_false, decide_eq_true_eq]
  by_cases hb : beN A ≤ 1000000000000000
  ·rw [if_pos hb, if_pos hb, Go.IntWalk.wrap64_in _ ⟨by omega, by omega⟩]
  ·rw [if_neg hb, if_neg hb]
theorem beN_lt (A : List Int) (hu : ∀ x ∈ A, U8 x) : 0 ≤ beN A ∧ beN A < 256 ^ A.length := by
 refine ⟨beF_nonneg A 0 (Int.le_refl _) hu, ?_⟩
 have := beF_lt A 0 1 (Int.le_refl _) (by decide) hu
 rw [Int.one_mul] at this; exact this
set_option maxHeartbeats 8000000 in
theorem impl_GetMark (bs : List Int) (a : Option Addr) (cap B : Nat) (p : Int) (w : World) (hr : Rd EByte 1 w B a cap bs) (hB : B ≤ w.heap.size) (hp : I64 p) (hl : bs.length ≤ 1099511627776) :
  Calls Tryz.prog 166 #[.slice a bs.length cap, .int .i64 p] w fun ee w' => ee = .returned (.tuple #[.agg (cM (getM bs p).1.1 (getM bs p).1.2), .int .i64 (getM bs p).2.1, .int .i64 (getM bs p).2.2]) ∧ Below w.heap.size w w' := by
 obtain ⟨hp0, hp1⟩ := hp
 obtain ⟨hlc, hcap⟩ := hr.len
 have HU := Lib.hid hr.u8
 have HR := Lib.hid hr; clear hr
 have q0 := Is.new w (cM 0 0) 87
 have ff := fun i => q0.frozen i
 obtain ⟨z0, z1⟩ := q0.cells2
 have lg : w.heap.size < (w.alloc (.cells (cM 0 0) 87)).heap.size := by simp
 by_cases hin : 0 ≤ p ∧ p < bs.length
 case neg =>
  have HD := Lib.hid (show getM bs p = ((0, 0), 0, 1) from if_neg hin)
  rw [HD.out]; clear HD
  have HE := Lib.hid (show decide (((0 : Int) ≤ 1 ∧ (1 : Int) ≤ bs.length) ∧ (0 ≤ p ∧ p ≤ (bs.length : Int) - 1)) = false from decide_eq_false (by omega))
  clear hin
  go_enter Tryz.func166, Tryz.ntmps166
  go_wp2_with fail
  refine (impl_exist a bs.length cap p 1 _ hl ⟨by decide, by decide⟩).mono ?_
  rintro ee w2 ⟨rfl, hb2⟩
  rw [HE.out]
  have p2 := q0.below hb2 lg
  have f2 := fun i => p2.frozen i
  have hs2 : w.heap.size < w2.heap.size := p2.lt
  have HB2 := Lib.hid ((below1 w _).trans (hb2.mono (by simp)))
  obtain ⟨y0, y1⟩ := p2.cells2
  clear z0 z1 ff hb2
  go_wp2_with fail
  obtain ⟨e0, e1⟩ := ((p2.set 0 (.int .i64 0)).set 1 (.int .i64 0)).cells2
  refine bodyPost_ret (v := .tuple #[.agg (cM 0 0), .int .i64 0, .int .i64 1]) (by simp [results, Tryz.results166, go_sem, e0, e1]) rfl ⟨rfl, HB2.out.trans ((below2s _ _ _ _).mono (Nat.le_refl _))⟩
 obtain ⟨j, rfl⟩ : ∃ j : Nat, p = j := ⟨p.toNat, by omega⟩
 have hj : j < bs.length := by omega
 have HE := Lib.hid (show decide (((0 : Int) ≤ 1 ∧ (1 : Int) ≤ bs.length) ∧ (0 ≤ (j : Int) ∧ (j : Int) ≤ (bs.length : Int) - 1)) = true from decide_eq_true (by omega))
 have HGS := Lib.hid (fun (k n : Int) (h : shortD bs[j] = some (k, n)) => getM_short hj h)
 have HGF := Lib.hid (fun (h : shortD bs[j] = none) hf => getM_form hj h hf)
 have HGA := Lib.hid (fun (h : shortD bs[j] = none) hk hw => getM_arg hj h hk hw)
 have HFC := Lib.hid (formD_cases bs[j])
 obtain ⟨b, o, hae, hbl, hcell, hx0, hx1⟩ := HR.out.byte j hj
 subst hae
 obtain ⟨c, hc⟩ : ∃ c, bs[j] = c := ⟨_, rfl⟩
 rw [hc] at HGS HGF HGA HFC hx0 hx1 hcell
 have HCC := Lib.hid hc; clear hc hin hp0 hp1
 obtain ⟨G, hG⟩ : ∃ G, getM bs (j : Int) = G := ⟨_, rfl⟩
 rw [hG] at HGS HGF HGA ⊢
 clear hG
 have hltz : (j : Int) < (bs.length : Int) := by omega
 go_enter Tryz.func166, Tryz.ntmps166
 go_wp2_with fail
 refine (impl_exist (some ⟨b, o, none⟩) bs.length cap (j : Int) 1 _ hl ⟨by decide, by decide⟩).mono ?_
 rintro ee w2 ⟨rfl, hb2⟩
 rw [HE.out]
 have Q2 := Lib.hid (q0.below hb2 lg)
 have hs2 : w.heap.size < w2.heap.size := Q2.out.lt
 have HB2 := Lib.hid ((below1 w _).trans (hb2.mono (by simp)))
 have hc2 : w2.cell? ⟨b, o + j, none⟩ = some (.int .u8 c) := (World.cell?_of_block (HB2.out.block b (by omega))).trans hcell
 have hlb2 : b < w2.heap.size := by omega
 clear z0 z1 ff hb2 q0 lg hcell HE
 go_wp2_with fail
 refine (impl_shortMark c w2 hx0 hx1).mono ?_
 rintro ee w3 ⟨rfl, hb3⟩
 have hs3 := hb3.size
 have HB3 := Lib.hid (HB2.out.trans (hb3.mono (by omega)))
 have Q3 := Lib.hid (Q2.out.below hb3 (by omega))
 have hc3 : w3.cell? ⟨b, o + j, none⟩ = some (.int .u8 c) := (World.cell?_of_block (hb3.block b (by omega))).trans hc2
 clear hb3 hc2 Q2 HB2
 have hlb3 : b < w3.heap.size := by omega
 cases hsd : shortD c with
 | some kn =>
  obtain ⟨k, n⟩ := kn
  have HG := Lib.hid (HGS.out k n hsd)
  have hr0 := Is.new w3 (cM k n) 87
  obtain ⟨m0, m1⟩ := hr0.cells2
  have f3 := fun i => Q3.out.frozen i
  have hs3' : w.heap.size < w3.heap.size := by omega
  obtain ⟨y0, y1⟩ := Q3.out.cells2
  simp only [Option.getD_some, Option.isSome_some]
  go_wp2_with fail
  obtain ⟨e0, e1⟩ := (((Q3.out.set 0 (.int .i64 k)).set 1 (.int .i64 n)).alloc (.cells (cM k n) 87)).cells2
  refine bodyPost_ret (v := .tuple #[.agg (cM k n), .int .i64 ((j : Int) + 1), .int .i64 0]) (by simp [results, Tryz.results166, go_sem, e0, e1]) rfl ⟨by rw [HG.out], (HB3.out.trans ((below2s w3 w.heap.size _ _).mono (Nat.le_refl _))).trans ((below1 _ _).mono (by simp only [size_set]; omega))⟩
 | none =>
  have hr0 := Is.new w3 (cM 0 0) 87
  obtain ⟨m0, m1⟩ := hr0.cells2
  have Q4 := Lib.hid (Q3.out.alloc (.cells (cM 0 0) 87))
  have HB4 := Lib.hid (HB3.out.trans ((below1 w3 (.cells (cM 0 0) 87)).mono (by omega)))
  have hc4 : (w3.alloc (.cells (cM 0 0) 87)).cell? ⟨b, o + j, none⟩ = some (.int .u8 c) := (World.cell?_of_block ((below1 w3 _).block b hlb3)).trans hc3
  have HF := Lib.hid (HGF.out hsd); have HA := Lib.hid (HGA.out hsd)
  clear HGF HGA HGS hc3 Q3 HB3
  simp only [Option.getD_none, Option.isSome_none]
  go_wp2_with fail
  generalize w3.alloc (.cells (cM 0 0) 87) = w4 at *
  refine (impl_markForm c w4 hx0 hx1).mono ?_
  rintro ee w5 ⟨rfl, hb5⟩
  have hs4 : w.heap.size < w4.heap.size := Q4.out.lt
  have hs5 := hb5.size
  have HB5 := Lib.hid (HB4.out.trans (hb5.mono (by omega)))
  have Q5 := Lib.hid (Q4.out.below hb5 (by omega))
  have hc5 : w5.cell? ⟨b, o + j, none⟩ = some (.int .u8 c) := (World.cell?_of_block (hb5.block b (by omega))).trans hc4
  have hlb5 : b < w5.heap.size := by omega
  clear hc4 Q4 HB4 m0 m1 hr0 hb5
  obtain ⟨kd, wd, hkw⟩ : ∃ kd wd, formD c = (kd, wd) := ⟨_, _, rfl⟩
  rw [hkw] at HF HA HFC ⊢
  dsimp only at HF HA HFC ⊢
  clear hkw
  by_cases hk0 : kd = 0
  ·subst hk0
   have HG := Lib.hid (HF.out (Or.inl rfl))
   have f5 := fun i => Q5.out.frozen i
   obtain ⟨y0, y1⟩ := Q5.out.cells2
   have l5 := Q5.out.lt
   go_wp2_with fail
   obtain ⟨e0, e1⟩ := ((Q5.out.set 0 (.int .i64 0)).set 1 (.int .i64 0)).cells2
   refine bodyPost_ret (v := .tuple #[.agg (cM 0 0), .int .i64 0, .int .i64 1]) (by simp [results, Tryz.results166, go_sem, e0, e1]) rfl ⟨by rw [HG.out], HB5.out.trans ((below2s _ _ _ _).mono (Nat.le_refl _))⟩
  have hk0b : (kd == 0) = false := by simpa using hk0
  obtain ⟨J, hJ⟩ : ∃ J, j + 1 = J := ⟨_, rfl⟩
  have hji : (j : Int) + 1 = (J : Int) := by omega
  have HK0 := Lib.hid hk0; clear hk0
  rw [hJ] at HF HA
  have hJl : J ≤ bs.length := by omega
  have hwd8 : wd ≤ 8 := by have := HFC.out; omega
  by_cases hw : wd ≤ bs.length - J
  case neg =>
   have HG := Lib.hid (HF.out (Or.inr (by omega)))
   have HE := Lib.hid (show decide (((0 : Int) ≤ (wd : Int) ∧ (wd : Int) ≤ bs.length) ∧ (0 ≤ (J : Int) ∧ (J : Int) ≤ (bs.length : Int) - wd)) = false from decide_eq_false (by omega))
   clear hw
   go_wp2_with fail
   refine (impl_exist (some ⟨b, o, none⟩) bs.length cap (J : Int) wd _ hl ⟨by omega, by omega⟩).mono ?_
   rintro ee w6 ⟨rfl, hb6⟩
   rw [HE.out]
   have Q6 := Lib.hid (Q5.out.below hb6 (by omega))
   have HB6 := Lib.hid (HB5.out.trans (hb6.mono (by omega)))
   have f5 := fun i => Q6.out.frozen i
   obtain ⟨y0, y1⟩ := Q6.out.cells2
   have l5 := Q6.out.lt
   go_wp2_with fail
   obtain ⟨e0, e1⟩ := ((Q6.out.set 0 (.int .i64 0)).set 1 (.int .i64 0)).cells2
   refine bodyPost_ret (v := .tuple #[.agg (cM 0 0), .int .i64 0, .int .i64 1]) (by simp [results, Tryz.results166, go_sem, e0, e1]) rfl ⟨by rw [HG.out], HB6.out.trans ((below2s _ _ _ _).mono (Nat.le_refl _))⟩
  have HE := Lib.hid (show decide (((0 : Int) ≤ (wd : Int) ∧ (wd : Int) ≤ bs.length) ∧ (0 ≤ (J : Int) ∧ (J : Int) ≤ (bs.length : Int) - wd)) = true from decide_eq_true (by omega))
  have hwp : 0 < wd := by have := HFC.out; have := HK0.out; omega
  obtain ⟨E, hE⟩ : ∃ E, J + wd = E := ⟨_, rfl⟩
  have hei : (J : Int) + (wd : Int) = (E : Int) := by omega
  have hEl : E ≤ bs.length := by omega
  have hJE : J < E := by omega
  have hEJ : E - J = wd := by omega
  have HG := Lib.hid (HA.out HK0.out hw)
  obtain ⟨sg, hsg⟩ : ∃ sg, decide (208 ≤ c ∧ c ≤ 211) = sg := ⟨_, rfl⟩
  have HSG := Lib.hid hsg; clear hsg
  have hlen : ((bs.drop J).take wd).length = wd := by rw [List.length_take, List.length_drop]; omega
  have HARG := Lib.hid (fun (W : World) (hR : Rd EByte 1 W B (some ⟨b, o, none⟩) cap bs) (hWB : B ≤ W.heap.size) => (show Calls Tryz.prog 226 #[.slice (some ⟨b, o + J, none⟩) wd (cap - J), .bool sg] W fun ee w' => ee = .returned (.tuple #[.int .i64 (argN sg ((bs.drop J).take wd)), .bool (argOk sg ((bs.drop J).take wd))]) ∧ w' = W from by
   have := impl_argumentQ ((bs.drop J).take wd) (some ⟨b, o + J, none⟩) (cap - J) B sg W (hR.mid J wd (cap - J) (by omega) (by omega) (by unfold maxLen; omega)) hWB (by rw [hlen]; have := HFC.out; have := HK0.out; omega)
   rw [hlen] at this; exact this))
  have HLEN := Lib.hid hlen
  have HHE := Lib.hid hE; have HHJ := Lib.hid hJ; have HEJ := Lib.hid hEJ
  clear hw hlen hE hJ HA HF hJl
  go_wp2_with fail
  refine (impl_exist (some ⟨b, o, none⟩) bs.length cap (J : Int) wd _ hl ⟨by omega, by omega⟩).mono ?_
  rintro ee w6 ⟨rfl, hb6⟩
  rw [HE.out]
  have hs6 := hb6.size
  have Q6 := Lib.hid (Q5.out.below hb6 (by omega))
  have HB6 := Lib.hid (HB5.out.trans (hb6.mono (by omega)))
  have hlb6 : b < w6.heap.size := by omega
  clear hc5 Q5 HB5 hb6 HE
  go_upto_region 11 with (fail)
  have hJC : ¬ cap = J := by omega
  have hI0 : (0 : Int) ≤ (J : Int) := by omega
  have hI1 : (J : Int) ≤ (E : Int) := by omega
  have hJw : IntKind.i64.wrap (J : Int) = (J : Int) := by rw [Go.IntWalk.i64_left, Go.IntWalk.wrap64_in _ ⟨by omega, by omega⟩]
  have hEJv := HEJ.out
  have hJE2 : J ≤ E := by omega
  have hEc2 : E ≤ cap := by omega
  go_quiet (first | (go_at_call 125; exact Calls.quiet_of_same ((impl_withinE _ _ _ _).mono (fun e w' h => ⟨h.1.trans (congrArg Ending.returned (congrArg Value.bool HSG.out)), h.2⟩))) | (go_at_call 226; exact Calls.quiet_of_same (HARG.out _ ((HR.out.below EByte.loc (HB6.out.trans (below_drewN _ _ _)) hB)) (Nat.le_trans hB (HB6.out.trans (below_drewN _ _ _)).size))))
  have Q7 := Lib.hid (Q6.out.agree (w' := w6.drewN nq) rfl)
  have HB7 := Lib.hid (HB6.out.trans (below_drewN w.heap.size w6 nq))
  have hlb7 : b < (w6.drewN nq).heap.size := hlb6
  clear Q6 HB6 hlb6 hs6
  generalize w6.drewN nq = w7 at *
  have HAU := Lib.hid (show ∀ x ∈ (bs.drop J).take wd, U8 x from fun x hx => HU.out x (List.mem_of_mem_drop (List.mem_of_mem_take hx)))
  have HA0 := Lib.hid (show 0 < wd → ((bs.drop J).take wd).getD 0 0 = bs.getD J 0 from fun h => by simp [List.getD_eq_getElem?_getD, List.getElem?_take, List.getElem?_drop, h])
  have HA1 := Lib.hid (show 1 < wd → ((bs.drop J).take wd).getD 1 0 = bs.getD (J + 1) 0 from fun h => by simp [List.getD_eq_getElem?_getD, List.getElem?_take, List.getElem?_drop, h])
  have HRD7 := Lib.hid (HR.out.below EByte.loc HB7.out hB)
  clear HARG
  obtain ⟨A, hA⟩ : ∃ A, (bs.drop J).take wd = A := ⟨_, rfl⟩
  rw [hA] at HG HAU HLEN HA0 HA1 ⊢
  clear hA
  have HBN := Lib.hid (beN_lt A HAU.out)
  have hnb := HBN.out.1
  have HEL := Lib.hid hEl
  clear hI0 hI1 hJw hEJv hJE2 hEc2 hJC hei hJE hEl
  rcases HFC.out with ⟨h, _⟩ | ⟨rfl, hcr, _⟩ | ⟨rfl, rfl, rfl⟩ | ⟨rfl, rfl, rfl⟩ | ⟨hk, hcr, hwd⟩
  ·exact absurd h HK0.out
  ·have HD := Lib.hid (argD3 HSG.out hcr.2 HLEN.out hnb)
   rw [HD.out] at HG
   obtain ⟨ok, hok⟩ : ∃ ok, argOk sg A = ok := ⟨_, rfl⟩
   rw [hok] at HG ⊢
   obtain ⟨n, hn⟩ : ∃ n, argN sg A = n := ⟨_, rfl⟩
   rw [hn] at HG ⊢
   clear hok hn HD
   cases ok with
   | true =>
    have HGN := Lib.hid (show G = ((3, n), (E : Int), 0) from by rw [HG.out]; simp only [if_true]; rw [← HHE.out, ← HHJ.out]; simp; omega)
    clear HG
    have f7 := fun i => Q7.out.frozen i
    obtain ⟨y0, y1⟩ := Q7.out.cells2
    have l7 := Q7.out.lt
    go_wp2_with fail
    obtain ⟨e0, e1⟩ := ((Q7.out.set 0 (.int .i64 3)).set 1 (.int .i64 n)).cells2
    refine bodyPost_ret (v := .tuple #[.agg (cM 3 n), .int .i64 (E : Int), .int .i64 0]) (by simp [results, Tryz.results166, go_sem, e0, e1]) rfl ⟨by rw [HGN.out], HB7.out.trans ((below2s _ _ _ _).mono (Nat.le_refl _))⟩
   | false =>
    have HGN := Lib.hid (show G = ((0, 0), 0, 2) from by rw [HG.out]; simp)
    clear HG
    have f7 := fun i => Q7.out.frozen i
    obtain ⟨y0, y1⟩ := Q7.out.cells2
    have l7 := Q7.out.lt
    go_wp2_with fail
    obtain ⟨e0, e1⟩ := ((Q7.out.set 0 (.int .i64 0)).set 1 (.int .i64 0)).cells2
    refine bodyPost_ret (v := .tuple #[.agg (cM 0 0), .int .i64 0, .int .i64 2]) (by simp [results, Tryz.results166, go_sem, e0, e1]) rfl ⟨by rw [HGN.out], HB7.out.trans ((below2s _ _ _ _).mono (Nat.le_refl _))⟩
  ·obtain rfl : sg = false := by rw [← HSG.out]; decide
   have hn2 := HBN.out.2
   rw [HLEN.out] at hn2
   have HN := Lib.hid (show argN false A = beN A from by unfold argN; simp only [Bool.false_eq_true, if_false]; exact Go.IntWalk.wrap64_in _ ⟨by omega, by omega⟩)
   rw [HN.out]
   have HGN := Lib.hid (show G = (match (if (bitsFltD (beN A)).2 = true then (.ok (4, fltBitsD (bitsFltD (beN A)).1.1 (bitsFltD (beN A)).1.2, 5) : Except Int (Int × Int × Nat)) else .error 1) with | .error c => ((0, 0), 0, c) | .ok (k, n, u) => ((k, n), (j : Int) + u, 0)) from HG.out)
   clear HG
   have hI64 : I64 (beN A) := ⟨by omega, by omega⟩
   have HI := Lib.hid (bitsFltD_i64 (beN A))
   have HI64 := Lib.hid hI64
   go_wp2_with fail
   refine (impl_BitsFlt (beN A) _ HI64.out).mono ?_
   rintro ee w8 ⟨rfl, hb8⟩
   obtain ⟨⟨⟨m, x⟩, ok⟩, hbf⟩ : ∃ r, bitsFltD (beN A) = r := ⟨_, rfl⟩
   rw [hbf] at HGN HI ⊢
   dsimp only at HGN HI ⊢
   clear hbf HN
   have hs8 := hb8.size
   have Q8 := Lib.hid (Q7.out.below hb8 Q7.out.lt)
   have HB8 := Lib.hid (HB7.out.trans (hb8.mono (Nat.le_of_lt Q7.out.lt)))
   have HF9 := Lib.hid (Is.new w8 (cF m x) 61)
   have Q9 := Lib.hid (Q8.out.alloc (.cells (cF m x) 61))
   have HB9 := Lib.hid (HB8.out.trans ((below1 w8 (.cells (cF m x) 61)).mono (Nat.le_of_lt Q8.out.lt)))
   cases ok with
   | false =>
    have HGM := Lib.hid (show G = ((0, 0), 0, 1) from HGN.out)
    clear HGN
    have f8 := fun i => Q8.out.frozen i
    obtain ⟨y0, y1⟩ := Q8.out.cells2
    have l8 := Q8.out.lt
    go_wp2_with fail
    obtain ⟨e0, e1⟩ := (((Q8.out.set 0 (.int .i64 0)).set 1 (.int .i64 0)).alloc (.cells (cF m x) 61)).cells2
    refine bodyPost_ret (v := .tuple #[.agg (cM 0 0), .int .i64 0, .int .i64 1]) (by simp [results, Tryz.results166, go_sem, e0, e1]) rfl ⟨by rw [HGM.out], (HB8.out.trans ((below2s w8 w.heap.size _ _).mono (Nat.le_refl _))).trans ((below1 _ _).mono (by simp only [size_set]; exact Nat.le_of_lt Q8.out.lt))⟩
   | true =>
    have HGM := Lib.hid (show G = ((4, fltBitsD m x), (E : Int), 0) from by rw [HGN.out]; simp only [if_true]; rw [← HHE.out, ← HHJ.out]; simp; omega)
    clear HGN
    go_wp2_with fail
    refine (impl_FltBits m x _ HI.out.1 HI.out.2).mono ?_
    rintro ee w10 ⟨rfl, hb10⟩
    have Q10 := Lib.hid (Q9.out.below hb10 Q9.out.lt)
    have HB10 := Lib.hid (HB9.out.trans (hb10.mono (Nat.le_of_lt Q9.out.lt)))
    clear hb10
    have HFB := Lib.hid (fltBitsD_in m x)
    generalize fltBitsD m x = fb at *
    have f10 := fun i => Q10.out.frozen i
    obtain ⟨y0, y1⟩ := Q10.out.cells2
    have l10 := Q10.out.lt
    go_wp2_with fail
    obtain ⟨e0, e1⟩ := ((Q10.out.set 0 (.int .i64 4)).set 1 (.int .i64 fb)).cells2
    refine bodyPost_ret (v := .tuple #[.agg (cM 4 fb), .int .i64 (E : Int), .int .i64 0]) (by simp [results, Tryz.results166, go_sem, e0, e1]) rfl ⟨by rw [HGM.out], HB10.out.trans ((below2s _ _ _ _).mono (Nat.le_refl _))⟩
  ·obtain rfl : sg = false := by rw [← HSG.out]; decide
   obtain ⟨J2, hJ2⟩ : ∃ J2, J + 1 = J2 := ⟨_, rfl⟩
   have hJl : J < bs.length := by have := HHE.out; have := HEL.out; omega
   have hJl2 : J2 < bs.length := by have := HHE.out; have := HEL.out; omega
   have hj2 : (j : Int) + 2 = (J2 : Int) := by have := HHJ.out; omega
   obtain ⟨b1, o1, hae1, _, hcl1, hu10, hu11⟩ := HRD7.out.byte J hJl
   cases hae1
   obtain ⟨b2, o2, hae2, _, hcl2, hu20, hu21⟩ := HRD7.out.byte J2 hJl2
   cases hae2
   have HX := Lib.hid (HA0.out (by decide)); have HY := Lib.hid (HA1.out (by decide))
   rw [hJ2] at HY
   have HGN := Lib.hid (show G = (match (if A.getD 0 0 = 1 ∧ A.getD 1 0 ≤ 2 then (.ok (5, A.getD 1 0, 3) : Except Int (Int × Int × Nat)) else .error 1) with | .error c => ((0, 0), 0, c) | .ok (k, n, u) => ((k, n), (j : Int) + u, 0)) from HG.out)
   rw [HX.out, HY.out, List.getD_eq_getElem?_getD, List.getD_eq_getElem?_getD, List.getElem?_eq_getElem hJl, List.getElem?_eq_getElem hJl2, Option.getD_some, Option.getD_some] at HGN
   clear HG HX HY HA0 HA1
   generalize bs[J] = x at *
   generalize bs[J2] = y at *
   have hlj : (J : Int) < (bs.length : Int) := by omega
   have hlj2 : (J2 : Int) < (bs.length : Int) := by omega
   by_cases hx1 : x = 1
   ·have hxb : (x != 1) = false := by simp [hx1]
    by_cases hy2 : y ≤ 2
    ·have HGM := Lib.hid (show G = ((5, y), (E : Int), 0) from by rw [HGN.out, if_pos ⟨hx1, hy2⟩]; rw [← HHE.out, ← HHJ.out]; simp; omega)
     have hy2b : ¬ 2 < y := by omega
     clear HGN hx1 hJ2
     have f7 := fun i => Q7.out.frozen i
     obtain ⟨y0, y1⟩ := Q7.out.cells2
     have l7 := Q7.out.lt
     go_wp2_with fail
     obtain ⟨e0, e1⟩ := ((Q7.out.set 0 (.int .i64 5)).set 1 (.int .i64 y)).cells2
     refine bodyPost_ret (v := .tuple #[.agg (cM 5 y), .int .i64 (E : Int), .int .i64 0]) (by simp [results, Tryz.results166, go_sem, e0, e1]) rfl ⟨by rw [HGM.out], HB7.out.trans ((below2s _ _ _ _).mono (Nat.le_refl _))⟩
    ·have HGM := Lib.hid (show G = ((0, 0), 0, 1) from by rw [HGN.out, if_neg (fun h => hy2 h.2)])
     have hy2b : 2 < y := by omega
     clear HGN hx1 hJ2
     have f7 := fun i => Q7.out.frozen i
     obtain ⟨y0, y1⟩ := Q7.out.cells2
     have l7 := Q7.out.lt
     go_wp2_with fail
     obtain ⟨e0, e1⟩ := ((Q7.out.set 0 (.int .i64 0)).set 1 (.int .i64 0)).cells2
     refine bodyPost_ret (v := .tuple #[.agg (cM 0 0), .int .i64 0, .int .i64 1]) (by simp [results, Tryz.results166, go_sem, e0, e1]) rfl ⟨by rw [HGM.out], HB7.out.trans ((below2s _ _ _ _).mono (Nat.le_refl _))⟩
   ·have hxb : (x != 1) = true := by simp [hx1]
    have HGM := Lib.hid (show G = ((0, 0), 0, 1) from by rw [HGN.out, if_neg (fun h => hx1 h.1)])
    clear HGN hx1 hJ2
    have f7 := fun i => Q7.out.frozen i
    obtain ⟨y0, y1⟩ := Q7.out.cells2
    have l7 := Q7.out.lt
    go_wp2_with fail
    obtain ⟨e0, e1⟩ := ((Q7.out.set 0 (.int .i64 0)).set 1 (.int .i64 0)).cells2
    refine bodyPost_ret (v := .tuple #[.agg (cM 0 0), .int .i64 0, .int .i64 1]) (by simp [results, Tryz.results166, go_sem, e0, e1]) rfl ⟨by rw [HGM.out], HB7.out.trans ((below2s _ _ _ _).mono (Nat.le_refl _))⟩
  ·obtain rfl : sg = false := by rw [← HSG.out]; exact decide_eq_false (by omega)
   have hn2 := HBN.out.2
   rw [HLEN.out] at hn2
   have hn3 : beN A < 4294967296 := by rcases hwd with rfl | rfl | rfl <;> omega
   have HN := Lib.hid (show argN false A = beN A from by unfold argN; simp only [Bool.false_eq_true, if_false]; exact Go.IntWalk.wrap64_in _ ⟨by omega, by omega⟩)
   rw [HN.out]
   have HGN := Lib.hid (show G = (match (if beN A ≤ 65535 then (.ok (kd, beN A, wd + 1) : Except Int (Int × Int × Nat)) else .error 2) with | .error c => ((0, 0), 0, c) | .ok (k, n, u) => ((k, n), (j : Int) + u, 0)) from by rw [HG.out]; unfold argD; rw [if_neg (by omega), if_neg (by omega), if_neg (by omega)])
   clear HG HN hn2
   generalize beN A = n at *
   have k5 : (kd == 5) = false := by simp; omega
   have k4 : (kd == 4) = false := by simp; omega
   have k3 : (kd == 3) = false := by simp; omega
   by_cases hb : n ≤ 65535
   ·have HGM := Lib.hid (show G = ((kd, n), (E : Int), 0) from by rw [HGN.out, if_pos hb]; rw [← HHE.out, ← HHJ.out]; simp; omega)
    have hbb : ¬ 65535 < n := by omega
    clear HGN
    have f7 := fun i => Q7.out.frozen i
    obtain ⟨y0, y1⟩ := Q7.out.cells2
    have l7 := Q7.out.lt
    go_wp2_with fail
    obtain ⟨e0, e1⟩ := ((Q7.out.set 0 (.int .i64 kd)).set 1 (.int .i64 n)).cells2
    refine bodyPost_ret (v := .tuple #[.agg (cM kd n), .int .i64 (E : Int), .int .i64 0]) (by simp [results, Tryz.results166, go_sem, e0, e1]) rfl ⟨by rw [HGM.out], HB7.out.trans ((below2s _ _ _ _).mono (Nat.le_refl _))⟩
   ·have HGM := Lib.hid (show G = ((0, 0), 0, 2) from by rw [HGN.out, if_neg hb])
    have hbb : 65535 < n := by omega
    clear HGN
    have f7 := fun i => Q7.out.frozen i
    obtain ⟨y0, y1⟩ := Q7.out.cells2
    have l7 := Q7.out.lt
    go_wp2_with fail
    obtain ⟨e0, e1⟩ := ((Q7.out.set 0 (.int .i64 0)).set 1 (.int .i64 0)).cells2
    refine bodyPost_ret (v := .tuple #[.agg (cM 0 0), .int .i64 0, .int .i64 2]) (by simp [results, Tryz.results166, go_sem, e0, e1]) rfl ⟨by rw [HGM.out], HB7.out.trans ((below2s _ _ _ _).mono (Nat.le_refl _))⟩
theorem getM_markR (bs : List Int) (p : Nat) (hp : p ≤ bs.length) : getM bs p = (match markR (bs.drop p) with | .error c => ((0, 0), 0, c) | .ok (k, n, u) => ((k, n), (p : Int) + u, 0)) := by
 unfold getM
 by_cases h : p < bs.length
 ·rw [if_pos ⟨by omega, by omega⟩, Int.toNat_natCast]; first | done | rfl
 ·rw [if_neg (by omega), List.drop_eq_nil_of_le (by omega)]; first | done | rfl
theorem shortD_in {c k n : Int} (h : shortD c = some (k, n)) (h0 : 0 ≤ c) (h1 : c ≤ 255) : (-256 ≤ n ∧ n ≤ 255) ∧ ((k = 1 ∨ k = 2 ∨ k = 3) ∨ ((k = 7 ∨ k = 9 ∨ k = 10) ∧ 0 ≤ n)) := by
 unfold shortD at h
 repeat' split at h
 all_goals first | (cases h; omega) | cases h
theorem markR_in {l : List Int} (hu : ∀ x ∈ l, U8 x) {k n : Int} {u : Nat} (h : markR l = .ok (k, n, u)) : (1 ≤ u ∧ u ≤ l.length) ∧ I64 n ∧ (k = 1 ∨ k = 2 ∨ k = 3 ∨ k = 4 ∨ k = 5 ∨ ((k = 7 ∨ k = 8 ∨ k = 9 ∨ k = 10) ∧ 0 ≤ n ∧ n ≤ 65535)) := by
 cases l with
 | nil => cases h
 | cons c r =>
  unfold markR at h
  dsimp only at h
  have hc := hu c (by simp)
  cases hs : shortD c with
  | some kn =>
   obtain ⟨k', n'⟩ := kn
   rw [hs] at h
   cases h
   have := shortD_in hs hc.1 hc.2
   exact ⟨⟨Nat.le_refl _, by simp⟩, ⟨by omega, by omega⟩, by omega⟩
  | none =>
   rw [hs] at h
   dsimp only at h
   by_cases hf : (formD c).1 = 0 ∨ r.length < (formD c).2
   ·rw [if_pos hf] at h; cases h
   rw [if_neg hf] at h
   have hfc := formD_cases c
   have hA := beN_lt (r.take (formD c).2) (fun x hx => hu x (by simp [List.mem_of_mem_take hx]))
   have hlen : (r.take (formD c).2).length = (formD c).2 := by rw [List.length_take]; omega
   rw [hlen] at hA
   have hlr : (formD c).2 ≤ r.length := by omega
   obtain ⟨kd, wd, hkw⟩ : ∃ kd wd, formD c = (kd, wd) := ⟨_, _, rfl⟩
   rw [hkw] at h hfc hA hlr hf
   dsimp only at h hfc hA hlr hf
   have hll : (c :: r).length = r.length + 1 := rfl
   unfold argD at h
   rcases hfc with ⟨hz, _⟩ | ⟨rfl, hcr, hwd⟩ | ⟨rfl, _, rfl⟩ | ⟨rfl, _, rfl⟩ | ⟨hk, hcr, hwd⟩
   ·omega
   ·rw [if_neg (by decide), if_neg (by decide), if_pos rfl] at h
    split at h
    ·split at h
     ·cases h; refine ⟨⟨by omega, by omega⟩, ⟨by omega, by omega⟩, by omega⟩
     ·cases h
    ·split at h
     ·cases h; refine ⟨⟨by omega, by omega⟩, ⟨by omega, by omega⟩, by omega⟩
     ·cases h
   ·rw [if_neg (by decide), if_pos rfl] at h
    split at h
    ·cases h
     have := fltBitsD_in (bitsFltD (beN (r.take 4))).1.1 (bitsFltD (beN (r.take 4))).1.2
     refine ⟨⟨by omega, by omega⟩, ⟨by omega, by omega⟩, by omega⟩
    ·cases h
   ·rw [if_pos rfl] at h
    split at h
    ·rename_i hc2
     cases h
     have hu1 : 0 ≤ (r.take 2).getD 1 0 := by
      rw [List.getD_eq_getElem?_getD]
      cases he : (r.take 2)[1]? with
      | none => simp
      | some x => exact (hu x (by have := List.mem_of_getElem? he; simp [List.mem_of_mem_take this])).1
     refine ⟨⟨by omega, by omega⟩, ⟨by omega, by omega⟩, by omega⟩
    ·cases h
   ·rw [if_neg (by omega), if_neg (by omega), if_neg (by omega)] at h
    split at h
    ·cases h; refine ⟨⟨by omega, by omega⟩, ⟨by omega, by omega⟩, by omega⟩
    ·cases h
theorem markR_err {l : List Int} {c : Int} (h : markR l = .error c) : c = 1 ∨ c = 2 := by
 cases l with
 | nil => cases h; exact Or.inl rfl
 | cons b r =>
  unfold markR at h
  dsimp only at h
  cases hs : shortD b with
  | some kn => obtain ⟨k', n'⟩ := kn; rw [hs] at h; cases h
  | none =>
   rw [hs] at h
   dsimp only at h
   split at h
   ·cases h; exact Or.inl rfl
   ·unfold argD at h
    repeat' split at h
    all_goals first | (cases h; done) | (cases h; exact Or.inl rfl) | (cases h; exact Or.inr rfl)
def Pr (w : World) (A : Nat) (a : Option Addr) (cap : Nat) (bs : List Int) (p c : Int) : Prop := Is w A 85 #[.slice a bs.length cap, .int .i64 p, .int .i64 c] ∧ Rd EByte 1 w A a cap bs
theorem Pr.below {w w' : World} {A n : Nat} {a : Option Addr} {cap : Nat} {bs : List Int} {p c : Int} (h : Pr w A a cap bs p c) (hb : Below n w w') (hn : A < n) : Pr w' A a cap bs p c := ⟨h.1.below hb hn, h.2.below EByte.loc hb (Nat.le_of_lt hn)⟩
theorem Pr.lt {w : World} {A : Nat} {a : Option Addr} {cap : Nat} {bs : List Int} {p c : Int} (h : Pr w A a cap bs p c) : A < w.heap.size := h.1.lt
theorem Pr.at {w : World} {A : Nat} {a : Option Addr} {cap : Nat} {bs : List Int} {p c : Int} (h : Pr w A a cap bs p c) (q : Int) : Pr (w.setCell ⟨A, 1, none⟩ (.int .i64 q)) A a cap bs q c :=
 ⟨h.1.set 1 _, h.2.below EByte.loc ((Below.refl A w).setCell (p := ⟨A, 1, none⟩) (Nat.le_refl _) _) (Nat.le_refl _)⟩
theorem Pr.code {w : World} {A : Nat} {a : Option Addr} {cap : Nat} {bs : List Int} {p c : Int} (h : Pr w A a cap bs p c) (q : Int) : Pr (w.setCell ⟨A, 2, none⟩ (.int .i64 q)) A a cap bs p q :=
 ⟨h.1.set 2 _, h.2.below EByte.loc ((Below.refl A w).setCell (p := ⟨A, 2, none⟩) (Nat.le_refl _) _) (Nat.le_refl _)⟩
theorem Pr.miss {w : World} {A : Nat} {a : Option Addr} {cap : Nat} {bs : List Int} {p c : Int} (h : Pr w A a cap bs p c) (g i : Nat) (hg : A < g) (v : Value) : Pr (w.setCell ⟨g, i, none⟩ v) A a cap bs p c :=
 h.below ((Below.refl g w).setCell (p := ⟨g, i, none⟩) (Nat.le_refl _) _) hg
set_option maxHeartbeats 4000000 in
theorem impl_pfail (A : Nat) (a : Option Addr) (cap : Nat) (bs : List Int) (p c0 c : Int) (w : World) (hp : Pr w A a cap bs p c0) :
  Calls Tryz.prog 165 #[.pointer (some ⟨A, 0, none⟩), .int .i64 c] w fun e w' => e = .returned (.agg zV) ∧ Pr w' A a cap bs p c ∧ Kp A w w' := by
 have hlA := hp.lt
 have HP := Lib.hid (hp.below (below1 w (.cells zV 26)) hlA)
 have HI := Lib.hid (Is.new w zV 26)
 have HK := Lib.hid (Kp.alloc (w := w) (Nat.le_of_lt hlA) (.cells zV 26))
 have hA1 : A < (w.alloc (.cells zV 26)).heap.size := by simp; omega
 have HP0 := Lib.hid hp
 clear hp
 have ff := fun i => HP.out.1.frozen i
 obtain ⟨z0, z1, z2⟩ := HP.out.1.cells3
 go_enter Tryz.func165, Tryz.ntmps165
 go_wp2_with fail
 have hi := Is.new (w.setCell ⟨A, 2, none⟩ (.int .i64 c)) zV 26
 rw [size_set] at hi
 obtain ⟨e0, e1, e2, e3, e4⟩ := hi.cells5
 have h1 := HP0.out.code c
 refine bodyPost_ret (v := .agg zV) (by simp [results, Tryz.results165, go_sem, e0, e1, e2, e3, e4]) rfl ⟨rfl, h1.below (below1 _ _) h1.lt, (Kp.cell 2 _).trans (Kp.alloc (Nat.le_of_lt h1.lt) _)⟩
theorem wfK' {k n : Int} (hk : k = 1 ∨ k = 2 ∨ k = 3 ∨ k = 4 ∨ k = 5 ∨ ((k = 7 ∨ k = 8 ∨ k = 9 ∨ k = 10) ∧ 0 ≤ n ∧ n ≤ 65535)) (hn : I64 n) : Wf (.mk k n 0 ⟨#[]⟩ []) := ⟨by show I64 k; exact ⟨by omega, by omega⟩, hn, ⟨by show (-9223372036854775808 : Int) ≤ 0; decide, by show (0 : Int) ≤ 9223372036854775807; decide⟩, by show (⟨#[]⟩ : ByteArray).size ≤ maxLen; exact Nat.zero_le _⟩
theorem wfK2 {n x : Int} (h1 : I64 n) (h2 : I64 x) : Wf (.mk 4 n x ⟨#[]⟩ []) := ⟨by show I64 4; exact ⟨by decide, by decide⟩, h1, h2, by show (⟨#[]⟩ : ByteArray).size ≤ maxLen; exact Nat.zero_le _⟩
theorem wfK3 {k : Int} {s : ByteArray} (h : k = 7 ∨ k = 8) (hs : s.size ≤ 65535) : Wf (.mk k 0 0 s []) := ⟨by show I64 k; exact ⟨by omega, by omega⟩, by show I64 0; exact ⟨by decide, by decide⟩, by show I64 0; exact ⟨by decide, by decide⟩, by show s.size ≤ maxLen; unfold maxLen; omega⟩
theorem conv_rd (w : World) (B : Nat) (b o cap : Nat) (l : List Int) (h : Rd EByte 1 w B (some ⟨b, o, none⟩) cap l) : (convert 22 9 (.slice (some ⟨b, o, none⟩) l.length cap)).run Tryz.prog w = .ok (.string (strOfNums l)) w :=
 run_convert_bytes_arg w 22 5 Tryz.underlying22 Tryz.underlying5 b o l.length cap l rfl (fun i hi => by
  obtain ⟨b', o', hae, _, hc, _⟩ := h.byte i hi
  cases hae
  rw [hc, List.getD_eq_getElem?_getD, List.getElem?_eq_getElem hi]; rfl) 9 Tryz.underlying9
def RdO (A : Nat) (a : Option Addr) (cap : Nat) (bs : List Int) (p : Nat) (w : World) (r : Except Int (T × Nat)) (e : Ending) (w' : World) : Prop :=
 (∃ t u a' cap', r = .ok (t, u) ∧ e = .returned (.agg (cV t a' cap')) ∧ Wf t ∧ p + u ≤ bs.length ∧ Pr w' A a cap bs ((p + u : Nat) : Int) 0 ∧ App TV 5 26 True w' w.heap.size w'.heap.size a' cap' t.l ∧ Kp A w w') ∨
 (∃ c q, r = .error c ∧ (c = 1 ∨ c = 2) ∧ e = .returned (.agg zV) ∧ Pr w' A a cap bs q c ∧ Kp A w w')
end Go.Proofs.YtggdenkmohnijaaGreatDoor
