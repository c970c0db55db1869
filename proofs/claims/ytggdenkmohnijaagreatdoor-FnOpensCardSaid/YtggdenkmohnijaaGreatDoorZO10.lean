/- Texts of this proof, merged: DecF2, FltD, NearP, FltN. No condition beyond what each theorem states. -/
import Derived.Test.YtggdenkmohnijaaGreatDoorZO9
set_option linter.unusedSimpArgs false
set_option linter.unnecessarySimpa false
namespace Go.Proofs.YtggdenkmohnijaaGreatDoor
open Go.ChangeShapes Go.WideShapes Go.ChangeAt Go.RowKit Go.Joins
set_option linter.unusedVariables false
set_option maxRecDepth 100000
def stripD : Nat → Int → Int × Nat
 | 0, n => (n, 0)
 | m + 1, n => if n.tmod 10 = 0 then stripD m (n.tdiv 10) else (n, m + 1)
theorem stripD_zero (n : Int) : stripD 0 n = (n, 0) := rfl
theorem stripD_no (m : Nat) (n : Int) (h : n.tmod 10 ≠ 0) : stripD m n = (n, m) := by
 cases m with
 | zero => rfl
 | succ m => rw [stripD, if_neg h]
theorem stripD_yes (m : Nat) (n : Int) (hm : 0 < m) (h : n.tmod 10 = 0) : stripD m n = stripD (m - 1) (n.tdiv 10) := by
 cases m with
 | zero => omega
 | succ m => rw [stripD, if_pos h]; rfl
theorem stripD_le (m : Nat) : ∀ n : Int, (stripD m n).2 ≤ m := by
 induction m with
 | zero => intro n; simp [stripD]
 | succ m ih =>
  intro n
  rw [stripD]
  split
  ·have := ih (n.tdiv 10); omega
  ·simp
def decNewD (n : Int) (m : Nat) : (Int × Int) × Bool :=
 if 17 < digN n then ((0, 0), false)
 else if n = 0 then ((0, 0), true)
 else if decOk (stripD m n).1 (-((stripD m n).2 : Int)) then (((stripD m n).1, -((stripD m n).2 : Int)), true) else ((0, 0), false)
theorem Is.cells2b {w : World} {g : Nat} {e : TypeId} {v0 v1 : Value} (h : Is w g e #[v0, v1]) : w.cell? ⟨g, 0, none⟩ = some v0 ∧ w.cell? ⟨g, 1, none⟩ = some v1 := ⟨h.cell 0 rfl, h.cell 1 rfl⟩
set_option maxHeartbeats 4000000 in
theorem spec_DecNew (n : Int) (m : Nat) (w : World) (hn : I64 n) (hm : m ≤ 40) :
  Calls Tryz.prog 246 #[.int .i64 n, .int .i64 (-(m : Int))] w fun e w' => e = .returned (.tuple #[.agg (cF (decNewD n m).1.1 (decNewD n m).1.2), .bool (decNewD n m).2]) ∧ Below w.heap.size w w' := by
 have HN := Lib.hid hn
 obtain ⟨hn0, hn1⟩ := hn
 have hdl := digN_le n ⟨hn0, hn1⟩
 have q0 := Is.new w (cF 0 0) 100
 have D40 := Lib.hid (show decide ((-40 : Int) ≤ (-(m : Int)) ∧ (-(m : Int)) ≤ 40) = true from decide_eq_true ⟨by omega, by omega⟩)
 have lg : w.heap.size < (w.alloc (.cells (cF 0 0) 100)).heap.size := by simp
 by_cases h17 : 17 < digN n
 ·have HD := Lib.hid (show decNewD n m = ((0, 0), false) from if_pos h17)
  go_enter Tryz.func246, Tryz.ntmps246
  go_wp2_with (go_at_call 188; refine (spec_Digits _ _ HN.out).mono ?_; rintro e w2 ⟨rfl, hb⟩; have p2 := q0.below hb lg; obtain ⟨z0, z1⟩ := p2.cells2b; have ff := fun i => p2.frozen i; have hl2 : w.heap.size < w2.heap.size := Nat.lt_of_lt_of_le lg hb.size; have HB2 := Lib.hid (below_step (below1 w _) hb (by simp)))
  obtain ⟨e0, e1⟩ := ((p2.set 0 (.int .i64 (0))).set 1 (.int .i64 (0))).cells2b
  refine bodyPost_ret (v := .tuple #[.agg #[.int .i64 (0), .int .i64 (0)], .bool false]) (by simp [results, Tryz.results246, go_sem, e0, e1]) rfl ⟨by rw [HD.out], HB2.out.trans ((below2s _ _ _ _).mono (Nat.le_refl _))⟩
 by_cases h0 : n = 0
 ·have HD := Lib.hid (show decNewD n m = ((0, 0), true) from (if_neg h17).trans (if_pos h0))
  subst h0
  go_enter Tryz.func246, Tryz.ntmps246
  go_wp2_with (first | (go_at_call 188; refine (spec_Digits _ _ HN.out).mono ?_; rintro e w2 ⟨rfl, hb⟩; have p2 := q0.below hb lg; have hl2 : w.heap.size < w2.heap.size := Nat.lt_of_lt_of_le lg hb.size; have HB2 := Lib.hid (below_step (below1 w _) hb (by simp)); clear hb) | (go_at_call 74; refine (spec_l1In _ _ _ _).mono ?_; rintro e w3 ⟨rfl, hb⟩; rw [D40.out]; have p3 := p2.below hb hl2; obtain ⟨z0, z1⟩ := p3.cells2b; have ff := fun i => p3.frozen i; have hl3 : w.heap.size < w3.heap.size := Nat.lt_of_lt_of_le hl2 hb.size; have HB3 := Lib.hid (HB2.out.trans (hb.mono HB2.out.size)); clear hb))
  obtain ⟨e0, e1⟩ := ((p3.set 0 (.int .i64 (0))).set 1 (.int .i64 (0))).cells2b
  refine bodyPost_ret (v := .tuple #[.agg #[.int .i64 (0), .int .i64 (0)], .bool true]) (by simp [results, Tryz.results246, go_sem, e0, e1]) rfl ⟨by rw [HD.out], HB3.out.trans ((below2s _ _ _ _).mono (Nat.le_refl _))⟩
 have HX := Lib.hid (show decNewD n m = if decOk (stripD m n).1 (-((stripD m n).2 : Int)) then (((stripD m n).1, -((stripD m n).2 : Int)), true) else ((0, 0), false) from (if_neg h17).trans (if_neg h0))
 have h0' : (n == 0) = false := by simpa using h0
 go_enter Tryz.func246, Tryz.ntmps246
 go_wp2_with (first | (go_at_call 188; refine (spec_Digits _ _ HN.out).mono ?_; rintro e w2 ⟨rfl, hb⟩; have p2 := q0.below hb lg; have hl2 : w.heap.size < w2.heap.size := Nat.lt_of_lt_of_le lg hb.size; have HB2 := Lib.hid (below_step (below1 w _) hb (by simp)); clear hb) | (go_at_call 74; refine (spec_l1In _ _ _ _).mono ?_; rintro e w3 ⟨rfl, hb⟩; rw [D40.out]; have p3 := p2.below hb hl2; have hl3 : w.heap.size < w3.heap.size := Nat.lt_of_lt_of_le hl2 hb.size; have HB3 := Lib.hid (HB2.out.trans (hb.mono HB2.out.size)); clear hb))
 go_loopw [0, 1] (fun nv xv wr => ∃ (n2 : Int) (m2 : Nat), nv = .int .i64 n2 ∧ xv = .int .i64 (-(m2 : Int)) ∧ -9223372036854775808 ≤ n2 ∧ n2 ≤ 9223372036854775807 ∧ m2 ≤ 40 ∧ Hid (stripD m n = stripD m2 n2) ∧ Below w3.heap.size w3 wr) (fun _ xv _ => (-(intOf xv)).toNat)
 case atStart => exact ⟨n, m, rfl, rfl, hn0, hn1, hm, rfl, Below.refl _ _⟩
 case round =>
  obtain ⟨n2, m2, rfl, rfl, hn2a, hn2b, hm2, HS, hb⟩ := hrel
  have hbs := hb.size
  by_cases hgo : n2.tmod 10 = 0 ∧ 0 < m2
  ·obtain ⟨hg1, hg2⟩ := hgo
   have HE := Lib.hid (show stripD m n = stripD (m2 - 1) (n2.tdiv 10) from HS.out.trans (stripD_yes m2 n2 hg2 hg1))
   have ht := tdiv_abs n2
   have hg1' : (n2.tmod 10 == 0) = true := by simp [hg1]
   have hxl : -(m2 : Int) < 0 := by omega
   go_wp2_with fail
   go_roundw
   case rel => exact ⟨n2.tdiv 10, m2 - 1, by first | rfl | go_num, by go_num, by omega, by omega, by omega, HE.out, hb⟩
   case measure => simp only [intOf]; first | omega | (simp; omega)
  ·have HE := Lib.hid (show stripD m n = (n2, m2) from HS.out.trans (by
    by_cases hz : m2 = 0
    ·rw [hz, stripD_zero]
    ·exact stripD_no _ _ (fun h => hgo ⟨h, by omega⟩)))
   have hmm : ¬ (-(m2 : Int) > 0) := by omega
   have HXX := Lib.hid (show decNewD n m = if decOk n2 (-(m2 : Int)) then ((n2, -(m2 : Int)), true) else ((0, 0), false) from by rw [HX.out, HE.out])
   have p4 := p3.below hb hl3
   have HB4 := Lib.hid (HB3.out.trans (hb.mono HB3.out.size))
   have hl4 : w.heap.size < wr.heap.size := by omega
   rename World => w4
   have hstop : ((n2.tmod 10 == 0) = false ∧ -(m2 : Int) < 0) ∨ ((n2.tmod 10 == 0) = false ∧ ¬ (-(m2 : Int) < 0)) ∨ ((n2.tmod 10 == 0) = true ∧ ¬ (-(m2 : Int) < 0)) := by
    by_cases hz : n2.tmod 10 = 0
    ·right; right; exact ⟨by simp [hz], fun h => hgo ⟨hz, by omega⟩⟩
    ·by_cases hy : -(m2 : Int) < 0
     ·left; exact ⟨by simp [hz], hy⟩
     ·right; left; exact ⟨by simp [hz], hy⟩
   clear HX HE HS hgo
   rcases hstop with ⟨hst, hst2⟩ | ⟨hst, hst2⟩ | ⟨hst, hst2⟩
   all_goals
    go_wp2_with fail
    go_loopw [0, 1] (fun nv xv wr => nv = .int .i64 n2 ∧ xv = .int .i64 (-(m2 : Int)) ∧ Below w4.heap.size w4 wr) (fun _ _ _ => 0)
    case atStart => exact ⟨rfl, rfl, Below.refl _ _⟩
    case round =>
     obtain ⟨rfl, rfl, hb5⟩ := hrel
     have hbs5 := hb5.size
     have p5 := p4.below hb5 hl4
     have HB5 := Lib.hid (HB4.out.trans (hb5.mono HB4.out.size))
     have hl5 : w.heap.size < wr.heap.size := by omega
     go_wp2_with fail
     have q6 := Is.new wr (cF n2 (-(m2 : Int))) 100
     have p6 := p5.alloc (.cells (cF n2 (-(m2 : Int))) 100)
     refine (spec_DecOk n2 (-(m2 : Int)) _ ⟨hn2a, hn2b⟩ ⟨by omega, by omega⟩).mono ?_
     rintro e w6 ⟨rfl, hb6⟩
     have q7 := q6.below hb6 (by simp)
     have p7 := p6.below hb6 (by simp; omega)
     obtain ⟨z0, z1⟩ := p7.cells2b
     have ff := fun i => p7.frozen i
     obtain ⟨y0, y1⟩ := q7.cells2b
     have HB6 := Lib.hid (HB5.out.trans ((below_step (below1 wr _) hb6 (by simp)).mono (by omega)))
     have hl6 : w.heap.size < w6.heap.size := by have := hb6.size; simp at this; omega
     have hl7 : wr.heap.size < w6.heap.size := by have := hb6.size; simp at this; omega
     clear hb6
     by_cases hdo : decOk n2 (-(m2 : Int))
     ·have HD := Lib.hid (HXX.out.trans (if_pos hdo))
      rw [decide_eq_true hdo]
      clear hdo
      go_wp2_with fail
      obtain ⟨e0, e1⟩ := ((p7.set 0 (.int .i64 (n2))).set 1 (.int .i64 (-(m2 : Int)))).cells2b
      refine bodyPost_ret (v := .tuple #[.agg #[.int .i64 (n2), .int .i64 (-(m2 : Int))], .bool true]) (by simp [results, Tryz.results246, go_sem, e0, e1]) rfl ⟨by rw [HD.out], HB6.out.trans ((below2s _ _ _ _).mono (Nat.le_refl _))⟩
     ·have HD := Lib.hid (HXX.out.trans (if_neg hdo))
      rw [decide_eq_false hdo]
      clear hdo
      go_wp2_with fail
      obtain ⟨e0, e1⟩ := ((p7.set 0 (.int .i64 (0))).set 1 (.int .i64 (0))).cells2b
      refine bodyPost_ret (v := .tuple #[.agg #[.int .i64 (0), .int .i64 (0)], .bool false]) (by simp [results, Tryz.results246, go_sem, e0, e1]) rfl ⟨by rw [HD.out], HB6.out.trans ((below2s _ _ _ _).mono (Nat.le_refl _))⟩
theorem spec_DecNewA (n : Int) (m : Nat) (a b : Int) (w : World) (ha : a = n) (hb : b = -(m : Int)) (hn : I64 n) (hm : m ≤ 40) :
  Calls Tryz.prog 246 #[.int .i64 a, .int .i64 b] w fun e w' => e = .returned (.tuple #[.agg (cF (decNewD n m).1.1 (decNewD n m).1.2), .bool (decNewD n m).2]) ∧ Below w.heap.size w w' := by
 rw [ha, hb]; exact spec_DecNew n m w hn hm
def fltDecD (m e : Int) : Int × Int := if ¬ fltOk m e then (0, 0) else if 0 ≤ e then (wrap64 (m * 2 ^ e.toNat), 0) else (decNewD (m * (5 ^ (-e).toNat : Nat)) (-e).toNat).1
theorem fltOk_small {m e : Int} (h : fltOk m e) : -65535 ≤ m ∧ m ≤ 65535 ∧ -16 ≤ e ∧ e ≤ 46 := by
 rcases h with ⟨rfl, rfl⟩ | ⟨_, h1, _, h2, h3 | h3⟩ <;> omega
theorem five_le {k : Nat} (h : k ≤ 16) : 5 ^ k ≤ 152587890625 := by
 have h1 : 5 ^ k ≤ 5 ^ 16 := Nat.pow_le_pow_right (by omega) h
 have h2 : (5 : Nat) ^ 16 = 152587890625 := by decide
 omega
theorem mul_box {m : Int} {P : Nat} (h0 : -65535 ≤ m) (h1 : m ≤ 65535) (hP : P ≤ 152587890625) : -10000000000000000 ≤ m * (P : Int) ∧ m * (P : Int) ≤ 10000000000000000 := by
 have hp : (0 : Int) ≤ (P : Int) := by omega
 have a := Int.mul_le_mul_of_nonneg_right h1 hp
 have b := Int.mul_le_mul_of_nonneg_right h0 hp
 omega
theorem stripD_abs (k : Nat) : ∀ n : Int, (stripD k n).1.natAbs ≤ n.natAbs := by
 induction k with
 | zero => intro n; simp [stripD]
 | succ k ih =>
  intro n
  rw [stripD]
  split
  ·have h1 := ih (n.tdiv 10)
   have h2 := tdiv_abs n
   omega
  ·simp
theorem decNewD_box (n : Int) (k : Nat) (hk : k ≤ 40) (h : I64 n) : I64 (decNewD n k).1.1 ∧ -40 ≤ (decNewD n k).1.2 ∧ (decNewD n k).1.2 ≤ 0 := by
 have h1 := stripD_abs k n
 have h2 := stripD_le k n
 obtain ⟨ha, hb⟩ := h
 unfold decNewD
 split
 ·exact ⟨⟨by simp, by simp⟩, by simp, by simp⟩
 ·split
  ·exact ⟨⟨by simp, by simp⟩, by simp, by simp⟩
  ·split
   ·rename_i h17 h0 hd
    have hbox : (stripD k n).1.natAbs < 100000000000000000 := by
     rcases hd with ⟨_, d1, d2⟩ | ⟨_, _, d3, _⟩
     ·omega
     ·have h3 := Lib.lt_pow_nDigits (stripD k n).1.natAbs
      have h4 : 10 ^ (Lib.nDigits (stripD k n).1.natAbs) ≤ 10 ^ 17 := Nat.pow_le_pow_right (by omega) d3
      have h5 : (10 : Nat) ^ 17 = 100000000000000000 := by decide
      omega
    refine ⟨⟨?_, ?_⟩, ?_, ?_⟩
    ·show _ ≤ (stripD k n).1; omega
    ·show (stripD k n).1 ≤ _; omega
    ·show -40 ≤ -((stripD k n).2 : Int); omega
    ·show -((stripD k n).2 : Int) ≤ 0; omega
   ·exact ⟨⟨by simp, by simp⟩, by simp, by simp⟩
theorem wrap_box (n : Int) : I64 (wrap64 n) := by
 unfold I64 wrap64
 constructor <;> (first | omega | (simp; omega) | (split <;> omega))
theorem fltDecD_box (m e : Int) : I64 (fltDecD m e).1 ∧ -40 ≤ (fltDecD m e).2 ∧ (fltDecD m e).2 ≤ 0 := by
 unfold fltDecD
 split
 ·exact ⟨⟨by simp, by simp⟩, by simp, by simp⟩
 ·rename_i h
  have hs := fltOk_small (Decidable.not_not.1 h)
  split
  ·exact ⟨wrap_box _, by simp, by simp⟩
  ·have h5 := five_le (k := (-e).toNat) (by omega)
   have h6 := mul_box hs.1 hs.2.1 h5
   exact decNewD_box _ _ (by omega) ⟨by omega, by omega⟩
set_option maxHeartbeats 4000000 in
theorem spec_FltDec (m e : Int) (w : World) (hm : I64 m) (he : I64 e) :
  Calls Tryz.prog 206 #[.agg (cF m e)] w fun ee w' => ee = .returned (.agg (cF (fltDecD m e).1 (fltDecD m e).2)) ∧ Below w.heap.size w w' := by
 have HM := Lib.hid hm
 have HE := Lib.hid he
 obtain ⟨hm0, hm1⟩ := hm
 obtain ⟨he0, he1⟩ := he
 go_enter Tryz.func206, Tryz.ntmps206
 go_wp2_with fail
 generalize hW : (w.alloc (Obj.cells (cF m e) 61)).alloc (Obj.cells (cF 0 0) 100) = W0
 have q1 : Is W0 w.heap.size 61 (cF m e) := by subst hW; exact (Is.new _ _ _).alloc _
 have q2 : Is W0 (w.heap.size + 1) 100 (cF 0 0) := by subst hW; exact Is.new2 _ _ _ _
 have H0 := Lib.hid (show Below w.heap.size w W0 from by subst hW; exact below2 _ _ _)
 have hs0 : W0.heap.size = w.heap.size + 2 := by subst hW; simp
 clear hW
 refine (spec_FltOk m e W0 HM.out HE.out).mono ?_
 rintro ee w2 ⟨rfl, hb2⟩
 have hs2 := hb2.size
 have p1 := q1.below hb2 (by omega)
 have p2 := q2.below hb2 (by omega)
 have HB2 := Lib.hid (H0.out.trans (hb2.mono (by omega))); clear hb2
 obtain ⟨x0, x1⟩ := p1.cells2b
 obtain ⟨z0, z1⟩ := p2.cells2b
 have ff := fun i => p2.frozen i
 have l1 : w.heap.size < w2.heap.size := by omega
 have l2 : w.heap.size + 1 < w2.heap.size := by omega
 by_cases hok : fltOk m e
 ·have hs := fltOk_small hok
  rw [decide_eq_true hok]
  by_cases h0 : 0 ≤ e
  ·have HD := Lib.hid (show fltDecD m e = (wrap64 (m * 2 ^ e.toNat), 0) from (if_neg (fun h => h hok)).trans (if_pos h0))
   have hmin : min e.toNat 64 = e.toNat := by omega
   clear hok
   go_wp2_with fail
   obtain ⟨e0, e1⟩ := ((p2.set 0 (.int .i64 (wrap64 (m * 2 ^ e.toNat)))).set 1 (.int .i64 0)).cells2b
   refine bodyPost_ret (v := .agg #[.int .i64 (wrap64 (m * 2 ^ e.toNat)), .int .i64 0]) (by simp [results, Tryz.results206, go_sem, e0, e1]) rfl ⟨by rw [HD.out], HB2.out.trans ((below2s _ _ _ _).mono (by omega))⟩
  ·obtain ⟨k, hk⟩ : ∃ k : Nat, e = -(k : Int) := ⟨(-e).toNat, by omega⟩
   have HD := Lib.hid (show fltDecD m e = (decNewD (m * (5 ^ k : Nat)) k).1 from by
    have e1 : (-e).toNat = k := by omega
    unfold fltDecD; rw [if_neg (fun h => h hok), if_neg h0, e1])
   have hP5 := Lib.hid (five_le (k := k) (by omega))
   obtain ⟨P, hP⟩ : ∃ P, 5 ^ k = P := ⟨_, rfl⟩
   have hP5b := hP5.out
   rw [hP] at hP5b HD
   have hmb := mul_box hs.1 hs.2.1 hP5b
   have HPP := Lib.hid hP; clear hP
   have hneg : ¬ (-(k : Int) ≥ 0) := by omega
   subst hk
   clear hok h0
   obtain ⟨dn, hdn⟩ : ∃ d, decNewD (m * (P : Int)) k = d := ⟨_, rfl⟩
   have HDN := Lib.hid hdn; rw [hdn] at HD; clear hdn
   have PK := Lib.hid (And.intro p2 (And.intro HB2.out HD.out))
   clear q1 q2 p1 p2 H0 HB2 HD HM HE ff z0 z1 hs0 hs2 hm0 hm1 he0 he1
   go_wp2_with fail
   refine tkW (w2.heap.size) w2 (fun hHeld => ?_)
   refine tkS 0 19 rfl ?_
   refine tkS 1 20 rfl ?_
   refine tkS 2 21 rfl ?_
   refine tkS 3 22 rfl ?_
   refine tkS 4 23 rfl ?_
   refine tkS 7 26 rfl ?_
   refine tkS 8 27 rfl ?_
   refine tkR [5, 13] ?_
   refine tkC 24 rfl (fun K hK => ?_) ?_
   focus (go_simp; (first | (go_at_call 247; refine (spec_Pow5 k _ _ (by first | rfl | omega | (rw [Go.IntWalk.i64_left]; exact Go.IntWalk.wrap64_in _ ⟨by omega, by omega⟩) | exact Go.IntWalk.wrap64_in _ ⟨by omega, by omega⟩) (by omega)).mono ?_; rintro e w3 ⟨rfl, hb3⟩; rw [HPP.out]; (first | (have p8 := (Is.drew (Is.new w2 (cF 0 0) 100)).below hb3 (by simp only [World.size_drew, size_alloc]; omega)) | skip); have hsz3 : w2.heap.size ≤ w3.heap.size := (by have := hb3.size; first | omega | (simp only [World.size_drew, size_alloc] at this; omega))) | (go_at_call 246; refine (spec_DecNewA (m * (P : Int)) k _ _ _ (by first | rfl | omega | (rw [Go.IntWalk.i64_left]; exact Go.IntWalk.wrap64_in _ ⟨by omega, by omega⟩) | exact Go.IntWalk.wrap64_in _ ⟨by omega, by omega⟩) (by first | rfl | omega | (rw [Go.IntWalk.i64_left]; exact Go.IntWalk.wrap64_in _ ⟨by omega, by omega⟩) | exact Go.IntWalk.wrap64_in _ ⟨by omega, by omega⟩) ⟨by omega, by omega⟩ (by omega)).mono ?_; rintro e w4 ⟨rfl, hb4⟩; rw [HDN.out]; (first | (have p8 := p8.below hb4 (by have := hb3.size; first | omega | (simp only [World.size_drew, size_alloc] at this; omega) | (simp only [World.size_drew, size_alloc] at this ⊢; omega)); have f8 := (fun i => p8.frozen i); obtain ⟨y0, y1⟩ := p8.cells2b) | (have p8 := (Is.new w3 (cF 0 0) 100).below hb4 (by simp); have f8 := (fun i => p8.frozen i); obtain ⟨y0, y1⟩ := p8.cells2b) | skip); have hsz4 : w2.heap.size ≤ w4.heap.size := (by have := hb4.size; first | omega | (simp only [World.size_drew, size_alloc] at this; omega)))); go_wp2_with fail; refine tkK hK (fun hHeld => ?_); clear hK K)
   refine tkS 6 25 rfl ?_
   refine tkR [9, 13] ?_
   refine tkC 28 rfl (fun K hK => ?_) ?_
   focus (go_simp; (first | (go_at_call 247; refine (spec_Pow5 k _ _ (by first | rfl | omega | (rw [Go.IntWalk.i64_left]; exact Go.IntWalk.wrap64_in _ ⟨by omega, by omega⟩) | exact Go.IntWalk.wrap64_in _ ⟨by omega, by omega⟩) (by omega)).mono ?_; rintro e w3 ⟨rfl, hb3⟩; rw [HPP.out]; (first | (have p8 := (Is.drew (Is.new w2 (cF 0 0) 100)).below hb3 (by simp only [World.size_drew, size_alloc]; omega)) | skip); have hsz3 : w2.heap.size ≤ w3.heap.size := (by have := hb3.size; first | omega | (simp only [World.size_drew, size_alloc] at this; omega))) | (go_at_call 246; refine (spec_DecNewA (m * (P : Int)) k _ _ _ (by first | rfl | omega | (rw [Go.IntWalk.i64_left]; exact Go.IntWalk.wrap64_in _ ⟨by omega, by omega⟩) | exact Go.IntWalk.wrap64_in _ ⟨by omega, by omega⟩) (by first | rfl | omega | (rw [Go.IntWalk.i64_left]; exact Go.IntWalk.wrap64_in _ ⟨by omega, by omega⟩) | exact Go.IntWalk.wrap64_in _ ⟨by omega, by omega⟩) ⟨by omega, by omega⟩ (by omega)).mono ?_; rintro e w4 ⟨rfl, hb4⟩; rw [HDN.out]; (first | (have p8 := p8.below hb4 (by have := hb3.size; first | omega | (simp only [World.size_drew, size_alloc] at this; omega) | (simp only [World.size_drew, size_alloc] at this ⊢; omega)); have f8 := (fun i => p8.frozen i); obtain ⟨y0, y1⟩ := p8.cells2b) | (have p8 := (Is.new w3 (cF 0 0) 100).below hb4 (by simp); have f8 := (fun i => p8.frozen i); obtain ⟨y0, y1⟩ := p8.cells2b) | skip); have hsz4 : w2.heap.size ≤ w4.heap.size := (by have := hb4.size; first | omega | (simp only [World.size_drew, size_alloc] at this; omega)))); go_wp2_with fail; refine tkK hK (fun hHeld => ?_); clear hK K)
   refine tkS 10 18 rfl ?_
   refine tkS 11 29 rfl ?_
   refine tkS 12 30 rfl ?_
   refine tkA 13 3 rfl (fun K hK => ?_)
   focus (go_simp; go_wp2_with fail; refine tkK hK (fun hHeld => ?_) (hS := (kpA (by assumption))); clear hK K)
   refine tkB 14 rfl (fun K hK => ?_)
   focus (go_simp; go_wp2_with fail; refine tkK hK (fun hHeld => ?_) (hS := (by first | exact kpA (by assumption) | (clear hHeld; exact kpA (by assumption)))); clear hK K)
   refine tkS 15 4 rfl ?_
   refine tkE ?_
   rotate_left 1
   refine tkC 3 rfl (fun K hK => ?_) AllReadyH.nil
   focus (go_simp; go_wp2_with fail; refine tkK hK (fun hHeld => ?_) (hS := (kpA (by assumption))); clear hK K)
   refine tkA 9 28 rfl (fun K hK => ?_)
   focus (go_simp; (first | (go_at_call 247; refine (spec_Pow5 k _ _ (by first | rfl | omega | (rw [Go.IntWalk.i64_left]; exact Go.IntWalk.wrap64_in _ ⟨by omega, by omega⟩) | exact Go.IntWalk.wrap64_in _ ⟨by omega, by omega⟩) (by omega)).mono ?_; rintro e w3 ⟨rfl, hb3⟩; rw [HPP.out]; (first | (have p8 := (Is.drew (Is.new w2 (cF 0 0) 100)).below hb3 (by simp only [World.size_drew, size_alloc]; omega)) | skip); have hsz3 : w2.heap.size ≤ w3.heap.size := (by have := hb3.size; first | omega | (simp only [World.size_drew, size_alloc] at this; omega))) | (go_at_call 246; refine (spec_DecNewA (m * (P : Int)) k _ _ _ (by first | rfl | omega | (rw [Go.IntWalk.i64_left]; exact Go.IntWalk.wrap64_in _ ⟨by omega, by omega⟩) | exact Go.IntWalk.wrap64_in _ ⟨by omega, by omega⟩) (by first | rfl | omega | (rw [Go.IntWalk.i64_left]; exact Go.IntWalk.wrap64_in _ ⟨by omega, by omega⟩) | exact Go.IntWalk.wrap64_in _ ⟨by omega, by omega⟩) ⟨by omega, by omega⟩ (by omega)).mono ?_; rintro e w4 ⟨rfl, hb4⟩; rw [HDN.out]; (first | (have p8 := p8.below hb4 (by have := hb3.size; first | omega | (simp only [World.size_drew, size_alloc] at this; omega) | (simp only [World.size_drew, size_alloc] at this ⊢; omega)); have f8 := (fun i => p8.frozen i); obtain ⟨y0, y1⟩ := p8.cells2b) | (have p8 := (Is.new w3 (cF 0 0) 100).below hb4 (by simp); have f8 := (fun i => p8.frozen i); obtain ⟨y0, y1⟩ := p8.cells2b) | skip); have hsz4 : w2.heap.size ≤ w4.heap.size := (by have := hb4.size; first | omega | (simp only [World.size_drew, size_alloc] at this; omega)))); go_wp2_with fail; refine tkK hK (fun hHeld => ?_); clear hK K)
   refine tkS 10 18 rfl ?_
   refine tkS 11 29 rfl ?_
   refine tkS 12 30 rfl ?_
   refine tkB 14 rfl (fun K hK => ?_)
   focus (go_simp; go_wp2_with fail; refine tkK hK (fun hHeld => ?_) (hS := (by exact keep_step (by assumption) (below2s _ _ _ _) (by omega))); clear hK K)
   refine tkS 15 4 rfl ?_
   refine tkE ?_
   rotate_left 1
   refine tkC 3 rfl (fun K hK => ?_) AllReadyH.nil
   focus (go_simp; go_wp2_with fail; refine tkK hK (fun hHeld => ?_) (hS := (kpA (by assumption))); clear hK K)
   refine tkA 5 24 rfl (fun K hK => ?_)
   focus (go_simp; (first | (go_at_call 247; refine (spec_Pow5 k _ _ (by first | rfl | omega | (rw [Go.IntWalk.i64_left]; exact Go.IntWalk.wrap64_in _ ⟨by omega, by omega⟩) | exact Go.IntWalk.wrap64_in _ ⟨by omega, by omega⟩) (by omega)).mono ?_; rintro e w3 ⟨rfl, hb3⟩; rw [HPP.out]; (first | (have p8 := (Is.drew (Is.new w2 (cF 0 0) 100)).below hb3 (by simp only [World.size_drew, size_alloc]; omega)) | skip); have hsz3 : w2.heap.size ≤ w3.heap.size := (by have := hb3.size; first | omega | (simp only [World.size_drew, size_alloc] at this; omega))) | (go_at_call 246; refine (spec_DecNewA (m * (P : Int)) k _ _ _ (by first | rfl | omega | (rw [Go.IntWalk.i64_left]; exact Go.IntWalk.wrap64_in _ ⟨by omega, by omega⟩) | exact Go.IntWalk.wrap64_in _ ⟨by omega, by omega⟩) (by first | rfl | omega | (rw [Go.IntWalk.i64_left]; exact Go.IntWalk.wrap64_in _ ⟨by omega, by omega⟩) | exact Go.IntWalk.wrap64_in _ ⟨by omega, by omega⟩) ⟨by omega, by omega⟩ (by omega)).mono ?_; rintro e w4 ⟨rfl, hb4⟩; rw [HDN.out]; (first | (have p8 := p8.below hb4 (by have := hb3.size; first | omega | (simp only [World.size_drew, size_alloc] at this; omega) | (simp only [World.size_drew, size_alloc] at this ⊢; omega)); have f8 := (fun i => p8.frozen i); obtain ⟨y0, y1⟩ := p8.cells2b) | (have p8 := (Is.new w3 (cF 0 0) 100).below hb4 (by simp); have f8 := (fun i => p8.frozen i); obtain ⟨y0, y1⟩ := p8.cells2b) | skip); have hsz4 : w2.heap.size ≤ w4.heap.size := (by have := hb4.size; first | omega | (simp only [World.size_drew, size_alloc] at this; omega)))); go_wp2_with fail; refine tkK hK (fun hHeld => ?_); clear hK K)
   refine tkS 6 25 rfl ?_
   refine tkA 9 28 rfl (fun K hK => ?_)
   focus (go_simp; (first | (go_at_call 247; refine (spec_Pow5 k _ _ (by first | rfl | omega | (rw [Go.IntWalk.i64_left]; exact Go.IntWalk.wrap64_in _ ⟨by omega, by omega⟩) | exact Go.IntWalk.wrap64_in _ ⟨by omega, by omega⟩) (by omega)).mono ?_; rintro e w3 ⟨rfl, hb3⟩; rw [HPP.out]; (first | (have p8 := (Is.drew (Is.new w2 (cF 0 0) 100)).below hb3 (by simp only [World.size_drew, size_alloc]; omega)) | skip); have hsz3 : w2.heap.size ≤ w3.heap.size := (by have := hb3.size; first | omega | (simp only [World.size_drew, size_alloc] at this; omega))) | (go_at_call 246; refine (spec_DecNewA (m * (P : Int)) k _ _ _ (by first | rfl | omega | (rw [Go.IntWalk.i64_left]; exact Go.IntWalk.wrap64_in _ ⟨by omega, by omega⟩) | exact Go.IntWalk.wrap64_in _ ⟨by omega, by omega⟩) (by first | rfl | omega | (rw [Go.IntWalk.i64_left]; exact Go.IntWalk.wrap64_in _ ⟨by omega, by omega⟩) | exact Go.IntWalk.wrap64_in _ ⟨by omega, by omega⟩) ⟨by omega, by omega⟩ (by omega)).mono ?_; rintro e w4 ⟨rfl, hb4⟩; rw [HDN.out]; (first | (have p8 := p8.below hb4 (by have := hb3.size; first | omega | (simp only [World.size_drew, size_alloc] at this; omega) | (simp only [World.size_drew, size_alloc] at this ⊢; omega)); have f8 := (fun i => p8.frozen i); obtain ⟨y0, y1⟩ := p8.cells2b) | (have p8 := (Is.new w3 (cF 0 0) 100).below hb4 (by simp); have f8 := (fun i => p8.frozen i); obtain ⟨y0, y1⟩ := p8.cells2b) | skip); have hsz4 : w2.heap.size ≤ w4.heap.size := (by have := hb4.size; first | omega | (simp only [World.size_drew, size_alloc] at this; omega)))); go_wp2_with fail; refine tkK hK (fun hHeld => ?_); clear hK K)
   refine tkS 10 18 rfl ?_
   refine tkS 11 29 rfl ?_
   refine tkS 12 30 rfl ?_
   refine tkB 14 rfl (fun K hK => ?_)
   focus (go_simp; go_wp2_with fail; refine tkK hK (fun hHeld => ?_) (hS := (by exact keep_step (by assumption) (below2s _ _ _ _) (by omega))); clear hK K)
   refine tkS 15 4 rfl ?_
   refine tkE ?_
   all_goals
    have HB8 := Lib.hid (show Below w2.heap.size w2 _ from (‹_ ∧ Below (w2.heap.size) w2 _›).2)
    first
     | have hI8 := (p8.set 0 (.int .i64 dn.1.1)).set 1 (.int .i64 dn.1.2)
     | have hI8 := Is.new w4 (cF dn.1.1 dn.1.2) 100
    obtain ⟨p2, HB2, HD⟩ := PK.out
    obtain ⟨zo0, zo1⟩ := p2.cells2b
    obtain ⟨i0, i1⟩ := hI8.cells2b
    have p9 := p2.below HB8.out (by omega)
    obtain ⟨z0, z1⟩ := p9.cells2b
    have ff := fun i => p9.frozen i
    have hs9 := HB8.out.size
    have hl9 := p9.lt
    have hl8 := hI8.lt
    go_wp2_with fail
    obtain ⟨e0, e1⟩ := ((p9.set 0 (.int .i64 dn.1.1)).set 1 (.int .i64 dn.1.2)).cells2b
    refine bodyPost_ret (v := .agg #[.int .i64 dn.1.1, .int .i64 dn.1.2]) (by simp [results, Tryz.results206, go_sem, e0, e1]) rfl ⟨by rw [HD], (HB2.trans (HB8.out.mono HB2.size)).trans ((below2s _ _ _ _).mono (by omega))⟩
 ·have HD := Lib.hid (show fltDecD m e = (0, 0) from if_pos hok)
  rw [decide_eq_false hok]
  clear hok
  go_wp2_with fail
  obtain ⟨e0, e1⟩ := ((p2.set 0 (.int .i64 0)).set 1 (.int .i64 0)).cells2b
  refine bodyPost_ret (v := .agg #[.int .i64 0, .int .i64 0]) (by simp [results, Tryz.results206, go_sem, e0, e1]) rfl ⟨by rw [HD.out], HB2.out.trans ((below2s _ _ _ _).mono (by omega))⟩
def stripE : Nat → Int → Int → Int × Int
 | 0, m, e => (m, e)
 | k + 1, m, e => if m.tmod 2 = 0 then stripE k (m.tdiv 2) (e + 1) else (m, e)
theorem stripE_no (k : Nat) (m e : Int) (h : m.tmod 2 ≠ 0) : stripE k m e = (m, e) := by
 cases k with
 | zero => rfl
 | succ k => rw [stripE, if_neg h]
theorem stripE_yes (k : Nat) (m e : Int) (hk : 0 < k) (h : m.tmod 2 = 0) : stripE k m e = stripE (k - 1) (m.tdiv 2) (e + 1) := by
 cases k with
 | zero => omega
 | succ k => rw [stripE, if_pos h]; rfl
theorem tdiv2_abs (m : Int) (h : m.tmod 2 = 0) : (m.tdiv 2).natAbs * 2 = m.natAbs ∧ m = m.tdiv 2 * 2 := by
 have h1 := Int.mul_tdiv_add_tmod m 2
 omega
def fltNewD (m e : Int) : (Int × Int) × Bool :=
 if ¬ ((-1000000000000000 ≤ m ∧ m ≤ 1000000000000000) ∧ (-100 ≤ e ∧ e ≤ 100)) then ((0, 0), false)
 else if m = 0 then ((0, 0), true)
 else if fltOk (stripE 64 m e).1 (stripE 64 m e).2 then (((stripE 64 m e).1, (stripE 64 m e).2), true) else ((0, 0), false)
theorem fltNewD_go (m e : Int) (h : (-1000000000000000 ≤ m ∧ m ≤ 1000000000000000) ∧ (-100 ≤ e ∧ e ≤ 100)) (h0 : m ≠ 0) :
  fltNewD m e = if fltOk (stripE 64 m e).1 (stripE 64 m e).2 then (((stripE 64 m e).1, (stripE 64 m e).2), true) else ((0, 0), false) := by
 unfold fltNewD; rw [if_neg (fun hh => hh h), if_neg h0]
theorem fltNewD_ok (m e : Int) : fltOk (fltNewD m e).1.1 (fltNewD m e).1.2 := by
 unfold fltNewD
 split
 ·exact Or.inl ⟨rfl, rfl⟩
 split
 ·exact Or.inl ⟨rfl, rfl⟩
 split
 ·assumption
 ·exact Or.inl ⟨rfl, rfl⟩
set_option maxHeartbeats 4000000 in
theorem impl_FltNew (m e : Int) (w : World) (hm : I64 m) (he : I64 e) :
  Calls Tryz.prog 227 #[.int .i64 m, .int .i64 e] w fun ee w' => ee = .returned (.tuple #[.agg (cF (fltNewD m e).1.1 (fltNewD m e).1.2), .bool (fltNewD m e).2]) ∧ Below w.heap.size w w' := by
 obtain ⟨hm0, hm1⟩ := hm
 obtain ⟨he0, he1⟩ := he
 have q0 := Is.new w (cF 0 0) 61
 have lg : w.heap.size < (w.alloc (.cells (cF 0 0) 61)).heap.size := by simp
 by_cases hA : -1000000000000000 ≤ m ∧ m ≤ 1000000000000000
 case neg =>
  have HD := Lib.hid (show fltNewD m e = ((0, 0), false) from if_pos (fun h => hA h.1))
  have DA := Lib.hid (show decide (-1000000000000000 ≤ m ∧ m ≤ 1000000000000000) = false from decide_eq_false hA)
  clear hA
  go_enter Tryz.func227, Tryz.ntmps227
  go_wp2_with (go_at_call 125; refine (impl_within _ _ _ _).mono ?_; rintro ee w2 ⟨rfl, hb⟩; rw [DA.out]; have p2 := q0.below hb lg; obtain ⟨z0, z1⟩ := p2.cells2b; have ff := fun i => p2.frozen i; have hl2 : w.heap.size < w2.heap.size := Nat.lt_of_lt_of_le lg hb.size; have HB2 := Lib.hid (below_step (below1 w _) hb (by simp)))
  obtain ⟨e0, e1⟩ := ((p2.set 0 (.int .i64 (0))).set 1 (.int .i64 (0))).cells2b
  refine bodyPost_ret (v := .tuple #[.agg #[.int .i64 (0), .int .i64 (0)], .bool false]) (by simp [results, Tryz.results227, go_sem, e0, e1]) rfl ⟨by rw [HD.out], HB2.out.trans ((below2s _ _ _ _).mono (Nat.le_refl _))⟩
 have DA := Lib.hid (show decide (-1000000000000000 ≤ m ∧ m ≤ 1000000000000000) = true from decide_eq_true hA)
 by_cases hE : -100 ≤ e ∧ e ≤ 100
 case neg =>
  have HD := Lib.hid (show fltNewD m e = ((0, 0), false) from if_pos (fun h => hE h.2))
  have DE := Lib.hid (show decide (-100 ≤ e ∧ e ≤ 100) = false from decide_eq_false hE)
  clear hA hE
  go_enter Tryz.func227, Tryz.ntmps227
  go_wp2_with fail
  refine (impl_within m _ _ _).mono ?_
  rintro ee w2 ⟨rfl, hb⟩
  rw [DA.out]
  have p2 := q0.below hb lg
  have hl2 : w.heap.size < w2.heap.size := Nat.lt_of_lt_of_le lg hb.size
  have HB2 := Lib.hid (below_step (below1 w _) hb (by simp))
  clear hb
  go_wp2_with fail
  refine (impl_within e _ _ _).mono ?_
  rintro ee w3 ⟨rfl, hb⟩
  rw [DE.out]
  have p3 := p2.below hb hl2
  obtain ⟨z0, z1⟩ := p3.cells2b
  have ff := fun i => p3.frozen i
  have hl3 : w.heap.size < w3.heap.size := Nat.lt_of_lt_of_le hl2 hb.size
  have HB3 := Lib.hid (HB2.out.trans (hb.mono HB2.out.size))
  clear hb
  go_wp2_with fail
  obtain ⟨e0, e1⟩ := ((p3.set 0 (.int .i64 (0))).set 1 (.int .i64 (0))).cells2b
  refine bodyPost_ret (v := .tuple #[.agg #[.int .i64 (0), .int .i64 (0)], .bool false]) (by simp [results, Tryz.results227, go_sem, e0, e1]) rfl ⟨by rw [HD.out], HB3.out.trans ((below2s _ _ _ _).mono (Nat.le_refl _))⟩
 have DE := Lib.hid (show decide (-100 ≤ e ∧ e ≤ 100) = true from decide_eq_true hE)
 by_cases h0 : m = 0
 ·have HD := Lib.hid (show fltNewD m e = ((0, 0), true) from (if_neg (fun hh => hh ⟨hA, hE⟩)).trans (if_pos h0))
  subst h0
  clear hA hE
  go_enter Tryz.func227, Tryz.ntmps227
  go_wp2_with fail
  refine (impl_within 0 _ _ _).mono ?_
  rintro ee w2 ⟨rfl, hb⟩
  rw [DA.out]
  have p2 := q0.below hb lg
  have hl2 : w.heap.size < w2.heap.size := Nat.lt_of_lt_of_le lg hb.size
  have HB2 := Lib.hid (below_step (below1 w _) hb (by simp))
  clear hb
  go_wp2_with fail
  refine (impl_within e _ _ _).mono ?_
  rintro ee w3 ⟨rfl, hb⟩
  rw [DE.out]
  have p3 := p2.below hb hl2
  obtain ⟨z0, z1⟩ := p3.cells2b
  have ff := fun i => p3.frozen i
  have hl3 : w.heap.size < w3.heap.size := Nat.lt_of_lt_of_le hl2 hb.size
  have HB3 := Lib.hid (HB2.out.trans (hb.mono HB2.out.size))
  clear hb
  go_wp2_with fail
  obtain ⟨e0, e1⟩ := ((p3.set 0 (.int .i64 (0))).set 1 (.int .i64 (0))).cells2b
  refine bodyPost_ret (v := .tuple #[.agg #[.int .i64 (0), .int .i64 (0)], .bool true]) (by simp [results, Tryz.results227, go_sem, e0, e1]) rfl ⟨by rw [HD.out], HB3.out.trans ((below2s _ _ _ _).mono (Nat.le_refl _))⟩
 have HX := Lib.hid (fltNewD_go m e ⟨hA, hE⟩ h0)
 have h0' : (m == 0) = false := by simpa using h0
 have hpow : m.natAbs < 2 ^ 64 := by rw [show (2 : Nat) ^ 64 = 18446744073709551616 from by decide]; omega
 go_enter Tryz.func227, Tryz.ntmps227
 go_wp2_with fail
 refine (impl_within m _ _ _).mono ?_
 rintro ee w2 ⟨rfl, hb⟩
 rw [DA.out]
 have p2 := q0.below hb lg
 have hl2 : w.heap.size < w2.heap.size := Nat.lt_of_lt_of_le lg hb.size
 have HB2 := Lib.hid (below_step (below1 w _) hb (by simp))
 clear hb
 go_wp2_with fail
 refine (impl_within e _ _ _).mono ?_
 rintro ee w3 ⟨rfl, hb⟩
 rw [DE.out]
 have p3 := p2.below hb hl2
 have hl3 : w.heap.size < w3.heap.size := Nat.lt_of_lt_of_le hl2 hb.size
 have HB3 := Lib.hid (HB2.out.trans (hb.mono HB2.out.size))
 clear hb
 go_wp2_with fail
 go_loopw [0, 1] (fun nv xv wr => ∃ (n2 e2 : Int) (k : Nat), nv = .int .i64 n2 ∧ xv = .int .i64 e2 ∧ n2 ≠ 0 ∧ (-1000000000000000 ≤ n2 ∧ n2 ≤ 1000000000000000) ∧ (-100 ≤ e2 ∧ e2 + k = e + 64 ∧ e2 ≤ 164) ∧ Hid (n2.natAbs < 2 ^ k) ∧ Hid (stripE 64 m e = stripE k n2 e2) ∧ Below w3.heap.size w3 wr) (fun nv _ _ => (intOf nv).natAbs)
 case atStart => exact ⟨m, e, 64, rfl, rfl, h0, hA, by omega, Lib.hid hpow, Lib.hid rfl, Below.refl _ _⟩
 case round =>
  obtain ⟨n2, e2, k, rfl, rfl, hn0, ⟨hn2a, hn2b⟩, ⟨he2a, he2b, he2c⟩, HK, HS, hb⟩ := hrel
  have hbs := hb.size
  by_cases hg1 : n2.tmod 2 = 0
  ·have ht := (tdiv2_abs n2 hg1).1
   have hk : 0 < k := by
    have := HK.out
    by_cases hz : k = 0
    ·subst hz; simp at this; omega
    ·omega
   have HE := Lib.hid (show stripE 64 m e = stripE (k - 1) (n2.tdiv 2) (e2 + 1) from HS.out.trans (stripE_yes k n2 e2 hk hg1))
   have HK2 := Lib.hid (show (n2.tdiv 2).natAbs < 2 ^ (k - 1) from by
    have h1 := HK.out
    rw [show k = (k - 1) + 1 from by omega, Nat.pow_succ] at h1; omega)
   have hg1' : (n2.tmod 2 == 0) = true := by simp [hg1]
   go_wp2_with fail
   go_roundw
   case rel => exact ⟨n2.tdiv 2, e2 + 1, k - 1, by first | rfl | go_num, by go_num, by omega, by omega, by omega, HK2, HE, hb⟩
   case measure => simp only [intOf]; first | omega | (simp; omega)
  ·have HE := Lib.hid (show stripE 64 m e = (n2, e2) from HS.out.trans (stripE_no _ _ _ hg1))
   have HXX := Lib.hid (show fltNewD m e = if fltOk n2 e2 then ((n2, e2), true) else ((0, 0), false) from by rw [HX.out, HE.out])
   have hg1' : (n2.tmod 2 == 0) = false := by simpa using hg1
   have p4 := p3.below hb hl3
   have HB4 := Lib.hid (HB3.out.trans (hb.mono HB3.out.size))
   have hl4 : w.heap.size < wr.heap.size := by omega
   clear HX HE HS HK
   rename World => w4
   go_wp2_with fail
   have q6 := Is.new w4 (cF n2 e2) 61
   have p6 := p4.alloc (.cells (cF n2 e2) 61)
   refine (impl_FltOk n2 e2 _ ⟨by omega, by omega⟩ ⟨by omega, by omega⟩).mono ?_
   rintro ee w6 ⟨rfl, hb6⟩
   have q7 := q6.below hb6 (by simp)
   have p7 := p6.below hb6 (by simp; omega)
   obtain ⟨z0, z1⟩ := p7.cells2b
   have ff := fun i => p7.frozen i
   obtain ⟨y0, y1⟩ := q7.cells2b
   have HB6 := Lib.hid (HB4.out.trans ((below_step (below1 w4 _) hb6 (by simp)).mono (by omega)))
   have hl6 : w.heap.size < w6.heap.size := by have := hb6.size; simp at this; omega
   have hl7 : w4.heap.size < w6.heap.size := by have := hb6.size; simp at this; omega
   clear hb6
   by_cases hdo : fltOk n2 e2
   ·have HD := Lib.hid (HXX.out.trans (if_pos hdo))
    rw [decide_eq_true hdo]
    clear hdo
    go_wp2_with fail
    obtain ⟨e0, e1⟩ := ((p7.set 0 (.int .i64 (n2))).set 1 (.int .i64 e2)).cells2b
    refine bodyPost_ret (v := .tuple #[.agg #[.int .i64 (n2), .int .i64 e2], .bool true]) (by simp [results, Tryz.results227, go_sem, e0, e1]) rfl ⟨by rw [HD.out], HB6.out.trans ((below2s _ _ _ _).mono (Nat.le_refl _))⟩
   ·have HD := Lib.hid (HXX.out.trans (if_neg hdo))
    rw [decide_eq_false hdo]
    clear hdo
    go_wp2_with fail
    obtain ⟨e0, e1⟩ := ((p7.set 0 (.int .i64 (0))).set 1 (.int .i64 (0))).cells2b
    refine bodyPost_ret (v := .tuple #[.agg #[.int .i64 (0), .int .i64 (0)], .bool false]) (by simp [results, Tryz.results227, go_sem, e0, e1]) rfl ⟨by rw [HD.out], HB6.out.trans ((below2s _ _ _ _).mono (Nat.le_refl _))⟩
end Go.Proofs.YtggdenkmohnijaaGreatDoor
