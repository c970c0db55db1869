/- Texts of this proof, merged: Big3, Big4, DecF. No condition beyond what each theorem states. -/
import Derived.Test.YtggdenkmohnijaaGreatDoorZO8
set_option linter.unusedSimpArgs false
set_option linter.unnecessarySimpa false
namespace Go.Proofs.YtggdenkmohnijaaGreatDoor
open Go.ChangeShapes Go.WideShapes Go.ChangeAt Go.RowKit Go.Joins
set_option linter.unusedVariables false
set_option maxRecDepth 100000
abbrev cH (m n k : Int) : Array Value := #[Value.int IntKind.i64 m, Value.int IntKind.i64 n, Value.int IntKind.i64 k]
set_option maxHeartbeats 4000000 in
theorem spec_HeadOk (m n k : Int) (w : World) : Calls Tryz.prog 90 #[.agg (cH m n k)] w fun e w' => e = .returned (.bool (decide (headOk m n k))) ∧ Below w.heap.size w w' := by
 have q0 := Is.new w (cH m n k) 56
 obtain ⟨c0, c1, c2⟩ := q0.cells3
 have lg : w.heap.size < (w.alloc (.cells (cH m n k) 56)).heap.size := by simp
 by_cases hm : 0 ≤ m ∧ m ≤ 7
 case neg =>
  have HD := Lib.hid (show decide (headOk m n k) = false from decide_eq_false (fun h => hm h.1))
  have DM := Lib.hid (show decide (0 ≤ m ∧ m ≤ 7) = false from decide_eq_false hm)
  clear hm
  rw [HD.out]
  go_enter Tryz.func90, Tryz.ntmps90
  go_wp2_with (go_at_call 74; refine (spec_l1InE _ _ _ _).mono ?_; rintro ee w2 ⟨rfl, rfl⟩; rw [DM.out])
  go_ret
  exact ⟨rfl, by go_grown⟩
 have DM := Lib.hid (show decide (0 ≤ m ∧ m ≤ 7) = true from decide_eq_true hm)
 by_cases hn : 0 ≤ n ∧ n ≤ 1000000000000000
 case neg =>
  have HD := Lib.hid (show decide (headOk m n k) = false from decide_eq_false (fun h => hn h.2.1))
  have DN := Lib.hid (show decide (0 ≤ n ∧ n ≤ 1000000000000000) = false from decide_eq_false hn)
  clear hm hn
  rw [HD.out]
  go_enter Tryz.func90, Tryz.ntmps90
  go_wp2_with (go_at_call 74; refine (spec_l1InE _ _ _ _).mono ?_; rintro ee w2 ⟨rfl, rfl⟩; first | rw [DM.out] | rw [DN.out])
  go_ret
  exact ⟨rfl, by go_grown⟩
 have DN := Lib.hid (show decide (0 ≤ n ∧ n ≤ 1000000000000000) = true from decide_eq_true hn)
 by_cases hw : k = 0
 ·subst hw
  have HD := Lib.hid (show decide (headOk m n 0) = decide (n ≤ 23) from decide_eq_decide.2 (by unfold headOk; omega))
  clear hm hn
  rw [HD.out]
  go_enter Tryz.func90, Tryz.ntmps90
  go_wp2_with (go_at_call 74; refine (spec_l1InE _ _ _ _).mono ?_; rintro ee w2 ⟨rfl, rfl⟩; first | rw [DM.out] | rw [DN.out])
  all_goals
   go_ret
   exact ⟨ret_b (by first | rfl | simp_all), by go_grown⟩
 by_cases hw : k = 1 ∨ k = 2 ∨ k = 4 ∨ k = 8
 ·have HD := Lib.hid (show decide (headOk m n k) = decide (widthD n ≤ k) from decide_eq_decide.2 (by unfold headOk; omega))
  clear hm hn
  rw [HD.out]
  obtain rfl | rfl | rfl | rfl := hw
  all_goals
   go_enter Tryz.func90, Tryz.ntmps90
   go_wp2_with (first | (go_at_call 74; refine (spec_l1InE _ _ _ _).mono ?_; rintro ee w2 ⟨rfl, rfl⟩; first | rw [DM.out] | rw [DN.out]))
   generalize hW : w.alloc _ = W0 at *
   have hb0 : Below w.heap.size w W0 := by rw [← hW]; exact below1 _ _
   have HB0 := Lib.hid hb0
   have hs0 := hb0.size
   have lg2 : w.heap.size + 1 ≤ W0.heap.size := by omega
   clear hb0 q0 hW
   refine tkW (w.heap.size + 1) W0 (fun hHeld => ?_)
   refine tkS 0 25 rfl ?_
   refine tkS 1 26 rfl ?_
   refine tkS 3 28 rfl ?_
   refine tkS 4 29 rfl ?_
   refine tkA 2 27 rfl (fun K hK => ?_)
   go_simp; (first | (go_at_call 133; refine (spec_WidthFor _ _).mono ?_; rintro ee w2 ⟨rfl, hb2⟩)); go_wp2_with fail; refine tkK hK (fun hHeld => ?_); clear hK K
   refine tkS 5 30 rfl ?_
   refine tkS 6 2 rfl ?_
   refine tkE ?_
   have HB2 := Lib.hid ((‹_ ∧ Below (w.heap.size + 1) W0 _›).2)
   go_wp2_with fail
   go_ret
   exact ⟨ret_b (by first | rfl | simp_all), HB0.out.trans (HB2.out.mono (by omega))⟩
 by_cases hw2 : k = -1
 ·subst hw2
  have HD := Lib.hid (show decide (headOk m n (-1)) = (n == 0 && m != 0 && m != 1 && m != 6) from by rw [Bool.eq_iff_iff]; simp only [decide_eq_true_iff, Bool.and_eq_true, beq_iff_eq, bne_iff_ne]; unfold headOk; omega)
  clear hm hn
  rw [HD.out]
  go_enter Tryz.func90, Tryz.ntmps90
  go_wp2_with (go_at_call 74; refine (spec_l1InE _ _ _ _).mono ?_; rintro ee w2 ⟨rfl, rfl⟩; first | rw [DM.out] | rw [DN.out])
  all_goals
   go_ret
   exact ⟨ret_b (by first | rfl | simp_all), by go_grown⟩
 ·have HD := Lib.hid (show decide (headOk m n k) = false from decide_eq_false (by unfold headOk; omega))
  have hwa : ¬ k = 1 := by omega
  have hwb : ¬ k = 2 := by omega
  have hwc : ¬ k = 4 := by omega
  have hwd : ¬ k = 8 := by omega
  clear hm hn hw
  rw [HD.out]
  go_enter Tryz.func90, Tryz.ntmps90
  go_wp2_with (go_at_call 74; refine (spec_l1InE _ _ _ _).mono ?_; rintro ee w2 ⟨rfl, rfl⟩; first | rw [DM.out] | rw [DN.out])
  all_goals
   go_ret
   exact ⟨ret_b (by first | rfl | simp_all), by go_grown⟩
set_option maxHeartbeats 4000000 in
theorem impl_HeadOk (m n k : Int) (w : World) (hn64 : I64 n) : Calls Tryz.prog 160 #[.agg (cH m n k)] w fun e w' => e = .returned (.bool (decide (headOk m n k))) ∧ Below w.heap.size w w' := by
 have HN := Lib.hid hn64
 have q0 := Is.new w (cH m n k) 56
 obtain ⟨c0, c1, c2⟩ := q0.cells3
 have lg : w.heap.size < (w.alloc (.cells (cH m n k) 56)).heap.size := by simp
 by_cases hm : 0 ≤ m ∧ m ≤ 7
 case neg =>
  have HD := Lib.hid (show decide (headOk m n k) = false from decide_eq_false (fun h => hm h.1))
  have DM := Lib.hid (show decide (0 ≤ m ∧ m ≤ 7) = false from decide_eq_false hm)
  clear hm hn64
  rw [HD.out]
  go_enter Tryz.func160, Tryz.ntmps160
  go_wp2_with (go_at_call 125; refine (impl_withinE _ _ _ _).mono ?_; rintro ee w2 ⟨rfl, rfl⟩; rw [DM.out])
  go_ret
  exact ⟨rfl, by go_grown⟩
 have DM := Lib.hid (show decide (0 ≤ m ∧ m ≤ 7) = true from decide_eq_true hm)
 by_cases hw : k = 0
 ·subst hw
  have HD := Lib.hid (show decide (headOk m n 0) = decide (0 ≤ n ∧ n ≤ 23) from decide_eq_decide.2 (by unfold headOk; omega))
  clear hm hn64
  rw [HD.out]
  go_enter Tryz.func160, Tryz.ntmps160
  go_wp2_with (go_at_call 125; refine (impl_withinE _ _ _ _).mono ?_; rintro ee w2 ⟨rfl, rfl⟩; first | rw [DM.out] | skip)
  go_ret
  exact ⟨ret_b (by rw [Bool.decide_and]), by go_grown⟩
 by_cases hw2 : k = -1
 ·subst hw2
  have HD := Lib.hid (show decide (headOk m n (-1)) = (n == 0 && decide (2 ≤ m) && m != 6) from by rw [Bool.eq_iff_iff]; simp only [decide_eq_true_iff, Bool.and_eq_true, beq_iff_eq, bne_iff_ne]; unfold headOk; omega)
  clear hm hn64
  rw [HD.out]
  go_enter Tryz.func160, Tryz.ntmps160
  go_wp2_with (go_at_call 125; refine (impl_withinE _ _ _ _).mono ?_; rintro ee w2 ⟨rfl, rfl⟩; first | rw [DM.out] | skip)
  all_goals
   go_ret
   exact ⟨ret_b (by first | rfl | (simp [*]; done) | (subst_vars; simp; done) | (subst_vars; simp; omega)), by go_grown⟩
 by_cases hw3 : k = 1 ∨ k = 2 ∨ k = 4 ∨ k = 8
 ·have hkb := Lib.hid ((okW_iff k).2 hw3)
  by_cases hn : 0 ≤ n ∧ n ≤ 1000000000000000
  ·have DN := Lib.hid (show decide (0 ≤ n ∧ n ≤ 1000000000000000) = true from decide_eq_true hn)
   have HD := Lib.hid (show decide (headOk m n k) = decide (fitW n k) from decide_eq_decide.2 ⟨fun h => (widthD_fit n k hn.1 hw3).2 (by unfold headOk at h; omega), fun h => by have h2 := (widthD_fit n k hn.1 hw3).1 h; unfold headOk; omega⟩)
   have HW := Lib.hid hw3
   clear hm hn64 hn hw3
   rw [HD.out]
   go_enter Tryz.func160, Tryz.ntmps160
   go_wp2_with (first | (go_at_call 125; refine (impl_withinE _ _ _ _).mono ?_; rintro ee w2 ⟨rfl, rfl⟩; first | rw [DM.out] | rw [DN.out]) | (go_at_call 219; refine (impl_isWidthE _ _).mono ?_; rintro ee w2 ⟨rfl, rfl⟩; rw [hkb.out]) | (go_at_call 220; refine (impl_fitsIntoE _ _ _ HW.out HN.out).mono ?_; rintro ee w2 ⟨rfl, rfl⟩))
   go_ret
   exact ⟨rfl, by go_grown⟩
  ·have DN := Lib.hid (show decide (0 ≤ n ∧ n ≤ 1000000000000000) = false from decide_eq_false hn)
   have HD := Lib.hid (show decide (headOk m n k) = false from decide_eq_false (fun h => hn h.2.1))
   clear hm hn64 hn hw3
   rw [HD.out]
   go_enter Tryz.func160, Tryz.ntmps160
   go_wp2_with (first | (go_at_call 125; refine (impl_withinE _ _ _ _).mono ?_; rintro ee w2 ⟨rfl, rfl⟩; first | rw [DM.out] | rw [DN.out]) | (go_at_call 219; refine (impl_isWidthE _ _).mono ?_; rintro ee w2 ⟨rfl, rfl⟩; rw [hkb.out]))
   go_ret
   exact ⟨rfl, by go_grown⟩
 ·have HD := Lib.hid (show decide (headOk m n k) = false from decide_eq_false (by unfold headOk; omega))
  have hkb : Hid (okW k = false) := Lib.hid (by cases h : okW k with | false => rfl | true => exact absurd ((okW_iff k).1 h) hw3)
  clear hm hn64 hw3
  rw [HD.out]
  go_enter Tryz.func160, Tryz.ntmps160
  go_wp2_with (first | (go_at_call 125; refine (impl_withinE _ _ _ _).mono ?_; rintro ee w2 ⟨rfl, rfl⟩; rw [DM.out]) | (go_at_call 219; refine (impl_isWidthE _ _).mono ?_; rintro ee w2 ⟨rfl, rfl⟩; rw [hkb.out]))
  go_ret
  exact ⟨rfl, by go_grown⟩
theorem impl_info (m n k : Int) (w : World) : Calls Tryz.prog 237 #[.agg (cH m n k)] w fun e w' => e = .returned (.int .i64 (infoD n k)) ∧ Below w.heap.size w w' := by
 have q0 := Is.new w (cH m n k) 56
 obtain ⟨c0, c1, c2⟩ := q0.cells3
 have lg : w.heap.size < (w.alloc (.cells (cH m n k) 56)).heap.size := by simp
 have HD := Lib.hid (show infoD n k = if k = 0 then n else if k = 1 then 24 else if k = 2 then 25 else if k = 4 then 26 else if k = 8 then 27 else 31 from rfl)
 by_cases h0 : k = 0
 ·subst h0
  go_enter Tryz.func237, Tryz.ntmps237
  go_wp2
  go_ret
  exact ⟨rfl, by go_grown⟩
 by_cases h1 : k = 1
 ·subst h1
  go_enter Tryz.func237, Tryz.ntmps237
  go_wp2
  go_ret
  exact ⟨rfl, by go_grown⟩
 by_cases h2 : k = 2
 ·subst h2
  go_enter Tryz.func237, Tryz.ntmps237
  go_wp2
  go_ret
  exact ⟨rfl, by go_grown⟩
 by_cases h3 : k = 4
 ·subst h3
  go_enter Tryz.func237, Tryz.ntmps237
  go_wp2
  go_ret
  exact ⟨rfl, by go_grown⟩
 by_cases h4 : k = 8
 ·subst h4
  go_enter Tryz.func237, Tryz.ntmps237
  go_wp2
  go_ret
  exact ⟨rfl, by go_grown⟩
 go_enter Tryz.func237, Tryz.ntmps237
 go_wp2
 go_ret
 exact ⟨ret_i (by rw [HD.out, if_neg h0, if_neg h1, if_neg h2, if_neg h3, if_neg h4]), by go_grown⟩
theorem headFor_neg (m n k : Int) (hk : (if ¬ (0 ≤ n ∧ n ≤ 23) then widthD n else 0) = k) : headForD m n = if headOk m n k then (m, n, k) else (0, 0, 0) := by
 unfold headForD
 by_cases h : n < 0
 ·rw [if_neg (by unfold headOk; omega), if_neg (by unfold headOk; omega)]
 ·have : (if 23 < n then widthD n else 0) = k := by
   rw [← hk]
   by_cases h2 : 23 < n
   ·rw [if_pos h2, if_pos (by omega)]
   ·rw [if_neg h2, if_neg (by omega)]
  rw [this]
set_option maxHeartbeats 4000000 in
theorem spec_HeadFor (m n : Int) (w : World) (hn : I64 n) : Calls Tryz.prog 75 #[.int .i64 m, .int .i64 n] w fun e w' => e = .returned (.agg (cH (headForD m n).1 (headForD m n).2.1 (headForD m n).2.2)) ∧ Below w.heap.size w w' := by
 obtain ⟨k, hk⟩ : ∃ k, (if 23 < n then widthD n else 0) = k := ⟨_, rfl⟩
 obtain ⟨bb, hbb⟩ : ∃ b, decide (headOk m n k) = b := ⟨_, rfl⟩
 have HD := Lib.hid (show headForD m n = if bb = true then (m, n, k) else (0, 0, 0) from by unfold headForD; rw [hk, ← hbb]; simp only [decide_eq_true_eq])
 have HBB := Lib.hid hbb
 have HN := Lib.hid hn
 clear hbb hn
 go_enter Tryz.func75, Tryz.ntmps75
 go_upto_if 10 with (fail)
 generalize hW : (w.alloc (Obj.cells (cH 0 0 0) 56)).alloc (Obj.cells (cH m n 0) 56) = W0
 have q1 : Is W0 w.heap.size 56 (cH 0 0 0) := by subst hW; exact (Is.new _ _ _).alloc _
 have q2 : Is W0 (w.heap.size + 1) 56 (cH m n 0) := by subst hW; exact Is.new2 _ _ _ _
 have H0 := Lib.hid (show Below w.heap.size w W0 from by subst hW; exact below2 _ _ _)
 have hs0 : W0.heap.size = w.heap.size + 2 := by subst hW; simp
 clear hW
 go_cut [] (fun wx => Hid (Is wx w.heap.size 56 (cH 0 0 0)) ∧ Hid (Is wx (w.heap.size + 1) 56 (cH m n k)) ∧ Hid (Below w.heap.size w wx))
 case first =>
  by_cases h23 : 23 < n
  ·have HK := Lib.hid (show widthD n = k from by rw [← hk, if_pos h23])
   obtain ⟨c0, c1, c2⟩ := q2.cells3
   have ff := fun i => q2.frozen i
   have Q1 := Lib.hid q1; have Q2 := Lib.hid q2
   have hl1 : w.heap.size + 1 < W0.heap.size := by omega
   clear q1 q2 hk
   all_goals
    go_wp2_with (go_at_call 133; refine (spec_WidthForE n _).mono ?_; rintro ee w2 ⟨rfl, rfl⟩; rw [HK.out])
    go_meet
    case rel => exact ⟨Lib.hid (Q1.out.miss _ 2 (by omega) _), Lib.hid (Q2.out.set 2 (.int .i64 k)), Lib.hid (H0.out.trans ((below1s _ _ 2 _).mono (by omega)))⟩
  ·have HK := Lib.hid (show 0 = k from by rw [← hk, if_neg h23])
   have Q1 := Lib.hid q1; have Q2 := Lib.hid q2
   clear q1 q2 hk
   go_wp2_with fail
   go_meet
   case rel => exact ⟨Q1, Lib.hid (by rw [← HK.out]; exact Q2.out), H0⟩
 case rest =>
  clear q1 q2 H0 hs0
  obtain ⟨Q1, Q2, H1⟩ := hcut
  rename World => wx
  have hl1 := Q2.out.lt
  obtain ⟨c0, c1, c2⟩ := Q2.out.cells3
  go_wp2_with fail
  refine (spec_HeadOk m n k wx).mono ?_
  rintro ee w2 ⟨rfl, hb2⟩
  rw [HBB.out]
  have r1 := Q1.out.below hb2 (by omega)
  have r2 := Q2.out.below hb2 (by omega)
  have hs2 := hb2.size
  have H2 := Lib.hid (H1.out.trans (hb2.mono (by have := H1.out.size; omega)))
  obtain ⟨d0, d1, d2⟩ := r1.cells3
  obtain ⟨f0, f1, f2⟩ := r2.cells3
  have ff := fun i => r1.frozen i
  have hl2 : w.heap.size < w2.heap.size := by omega
  have hl3 : w.heap.size + 1 < w2.heap.size := by omega
  clear c0 c1 c2 hb2
  have R1 := Lib.hid r1
  clear r1 r2
  cases bb with
  | false =>
   have HD2 := Lib.hid (show headForD m n = (0, 0, 0) from HD.out)
   go_wp2_with fail
   obtain ⟨e0, e1, e2⟩ := (((R1.out.set 0 (.int .i64 0)).set 1 (.int .i64 0)).set 2 (.int .i64 0)).cells3
   refine bodyPost_ret (v := .agg #[.int .i64 0, .int .i64 0, .int .i64 0]) (by simp [results, Tryz.results75, go_sem, e0, e1, e2]) rfl ⟨by rw [HD2.out], H2.out.trans (below3s _ _ _ _ _)⟩
  | true =>
   have HD2 := Lib.hid (show headForD m n = (m, n, k) from HD.out)
   go_wp2_with fail
   obtain ⟨e0, e1, e2⟩ := (((R1.out.set 0 (.int .i64 m)).set 1 (.int .i64 n)).set 2 (.int .i64 k)).cells3
   refine bodyPost_ret (v := .agg #[.int .i64 m, .int .i64 n, .int .i64 k]) (by simp [results, Tryz.results75, go_sem, e0, e1, e2]) rfl ⟨by rw [HD2.out], H2.out.trans (below3s _ _ _ _ _)⟩
set_option maxHeartbeats 4000000 in
theorem impl_HeadFor (m n : Int) (w : World) (hn : I64 n) : Calls Tryz.prog 190 #[.int .i64 m, .int .i64 n] w fun e w' => e = .returned (.agg (cH (headForD m n).1 (headForD m n).2.1 (headForD m n).2.2)) ∧ Below w.heap.size w w' := by
 obtain ⟨k, hk⟩ : ∃ k, (if ¬ (0 ≤ n ∧ n ≤ 23) then widthD n else 0) = k := ⟨_, rfl⟩
 obtain ⟨bb, hbb⟩ : ∃ b, decide (headOk m n k) = b := ⟨_, rfl⟩
 have HD := Lib.hid (show headForD m n = if bb = true then (m, n, k) else (0, 0, 0) from by rw [headFor_neg m n k hk, ← hbb]; simp only [decide_eq_true_eq])
 have HBB := Lib.hid hbb
 have HN := Lib.hid hn
 clear hbb hn
 go_enter Tryz.func190, Tryz.ntmps190
 go_upto_if 11 with (go_at_call 125; refine (impl_withinE _ _ _ _).mono ?_; rintro ee w2 ⟨rfl, rfl⟩)
 generalize hW : (w.alloc (Obj.cells (cH 0 0 0) 56)).alloc (Obj.cells (cH m n 0) 56) = W0
 have q1 : Is W0 w.heap.size 56 (cH 0 0 0) := by subst hW; exact (Is.new _ _ _).alloc _
 have q2 : Is W0 (w.heap.size + 1) 56 (cH m n 0) := by subst hW; exact Is.new2 _ _ _ _
 have H0 := Lib.hid (show Below w.heap.size w W0 from by subst hW; exact below2 _ _ _)
 have hs0 : W0.heap.size = w.heap.size + 2 := by subst hW; simp
 clear hW
 go_cut [] (fun wx => Hid (Is wx w.heap.size 56 (cH 0 0 0)) ∧ Hid (Is wx (w.heap.size + 1) 56 (cH m n k)) ∧ Hid (Below w.heap.size w wx))
 case first =>
  by_cases h23 : ¬ (0 ≤ n ∧ n ≤ 23)
  ·have HK := Lib.hid (show widthD n = k from by rw [← hk, if_pos h23])
   obtain ⟨c0, c1, c2⟩ := q2.cells3
   have ff := fun i => q2.frozen i
   have Q1 := Lib.hid q1; have Q2 := Lib.hid q2
   have hl1 : w.heap.size + 1 < W0.heap.size := by omega
   clear q1 q2 hk
   rcases (show n < 0 ∨ (0 ≤ n ∧ 23 < n) by omega) with hh | ⟨hh, hh2⟩
   all_goals
    clear h23
    first | simp only [show decide (0 ≤ n) = false from decide_eq_false (by omega), Bool.not_false, Bool.true_or] | simp only [show decide (0 ≤ n) = true from decide_eq_true (by omega), show decide (n ≤ 23) = false from decide_eq_false (by omega), Bool.not_true, Bool.not_false, Bool.false_or]
    go_wp2_with (go_at_call 236; refine (impl_WidthForE n _ HN.out).mono ?_; rintro ee w2 ⟨rfl, rfl⟩; rw [HK.out])
    go_meet
    case rel => exact ⟨Lib.hid (Q1.out.miss _ 2 (by omega) _), Lib.hid (Q2.out.set 2 (.int .i64 k)), Lib.hid (H0.out.trans ((below1s _ _ 2 _).mono (by omega)))⟩
  ·simp only [show decide (0 ≤ n) = true from decide_eq_true (by omega), show decide (n ≤ 23) = true from decide_eq_true (by omega), Bool.not_true, Bool.false_or]
   have HK := Lib.hid (show 0 = k from by rw [← hk, if_neg h23])
   have Q1 := Lib.hid q1; have Q2 := Lib.hid q2
   clear q1 q2 hk
   go_wp2_with fail
   go_meet
   case rel => exact ⟨Q1, Lib.hid (by rw [← HK.out]; exact Q2.out), H0⟩
 case rest =>
  clear q1 q2 H0 hs0
  obtain ⟨Q1, Q2, H1⟩ := hcut
  rename World => wx
  have hl1 := Q2.out.lt
  obtain ⟨c0, c1, c2⟩ := Q2.out.cells3
  go_wp2_with fail
  refine (impl_HeadOk m n k wx HN.out).mono ?_
  rintro ee w2 ⟨rfl, hb2⟩
  rw [HBB.out]
  have r1 := Q1.out.below hb2 (by omega)
  have r2 := Q2.out.below hb2 (by omega)
  have hs2 := hb2.size
  have H2 := Lib.hid (H1.out.trans (hb2.mono (by have := H1.out.size; omega)))
  obtain ⟨d0, d1, d2⟩ := r1.cells3
  obtain ⟨f0, f1, f2⟩ := r2.cells3
  have ff := fun i => r1.frozen i
  have hl2 : w.heap.size < w2.heap.size := by omega
  have hl3 : w.heap.size + 1 < w2.heap.size := by omega
  clear c0 c1 c2 hb2
  have R1 := Lib.hid r1
  clear r1 r2
  cases bb with
  | false =>
   have HD2 := Lib.hid (show headForD m n = (0, 0, 0) from HD.out)
   go_wp2_with fail
   obtain ⟨e0, e1, e2⟩ := (((R1.out.set 0 (.int .i64 0)).set 1 (.int .i64 0)).set 2 (.int .i64 0)).cells3
   refine bodyPost_ret (v := .agg #[.int .i64 0, .int .i64 0, .int .i64 0]) (by simp [results, Tryz.results190, go_sem, e0, e1, e2]) rfl ⟨by rw [HD2.out], H2.out.trans (below3s _ _ _ _ _)⟩
  | true =>
   have HD2 := Lib.hid (show headForD m n = (m, n, k) from HD.out)
   go_wp2_with fail
   obtain ⟨e0, e1, e2⟩ := (((R1.out.set 0 (.int .i64 m)).set 1 (.int .i64 n)).set 2 (.int .i64 k)).cells3
   refine bodyPost_ret (v := .agg #[.int .i64 m, .int .i64 n, .int .i64 k]) (by simp [results, Tryz.results190, go_sem, e0, e1, e2]) rfl ⟨by rw [HD2.out], H2.out.trans (below3s _ _ _ _ _)⟩
theorem Below.ofBox {w w' : World} {o : Obj} (h : Below (w.alloc o).heap.size (w.alloc o) w') : Below w.heap.size w w' := (below1 w o).trans (h.mono (by simp))
theorem fltBits_pos {m e : Int} (h : fltOk m e) (hm : ¬ m < 0) : fltBitsD m e = 65536 * (e + 16) + m := by
 unfold fltBitsD; rw [if_pos h, if_neg hm]; omega
theorem fltBits_neg {m e : Int} (h : fltOk m e) (hm : m < 0) : fltBitsD m e = 16777216 + 65536 * (e + 16) - m := by
 unfold fltBitsD; rw [if_pos h, if_pos hm]; omega
theorem fltOk_in {m e : Int} (h : fltOk m e) : -65535 ≤ m ∧ m ≤ 65535 ∧ -16 ≤ e ∧ e ≤ 46 := by
 rcases h with ⟨rfl, rfl⟩ | ⟨h1, h2, h3, h4, h5⟩
 ·omega
 ·omega
set_option maxHeartbeats 2000000 in
theorem spec_FltBits (m e : Int) (w : World) (hm : I64 m) (he : I64 e) : Calls Tryz.prog 76 #[.agg (cF m e)] w fun ee w' => ee = .returned (.int .i64 (fltBitsD m e)) ∧ Below w.heap.size w w' := by
 have q0 := Is.new w (cF m e) 61
 obtain ⟨c0, c1⟩ := q0.cells2
 have lg : w.heap.size < (w.alloc (.cells (cF m e) 61)).heap.size := by simp
 obtain ⟨bb, hbb⟩ : ∃ b, decide (fltOk m e) = b := ⟨_, rfl⟩
 have HBB := Lib.hid hbb; clear hbb
 go_enter Tryz.func76, Tryz.ntmps76
 go_wp2_with fail
 refine (spec_FltOk m e _ hm he).mono ?_
 rintro ee w2 ⟨rfl, hb2⟩
 rw [HBB.out]
 have HB2 := Lib.hid (Below.ofBox hb2)
 have p2 := q0.below hb2 lg
 obtain ⟨d0, d1⟩ := p2.cells2
 have lg2 : w.heap.size < w2.heap.size := p2.lt
 clear c0 c1 lg q0 p2 hb2
 cases bb with
 | false =>
  have HE := Lib.hid (show fltBitsD m e = -1 from if_neg (of_decide_eq_false HBB.out))
  go_wp2_with fail
  go_ret
  exact ⟨ret_i HE.out.symm, HB2.out⟩
 | true =>
  have hok := of_decide_eq_true HBB.out
  obtain ⟨i1, i2, i3, i4⟩ := fltOk_in hok
  by_cases hm0 : m < 0
  ·have HE := Lib.hid (fltBits_neg hok hm0)
   have e1 : e - -16 = e + 16 := by omega
   clear hok hm he
   go_wp2_with fail
   go_ret
   exact ⟨ret_i (by rw [HE.out]; try omega), HB2.out⟩
  ·have HE := Lib.hid (fltBits_pos hok hm0)
   clear hok hm he
   go_wp2_with fail
   go_ret
   exact ⟨ret_i (by rw [HE.out]; try omega), HB2.out⟩
set_option maxHeartbeats 2000000 in
theorem impl_FltBits (m e : Int) (w : World) (hm : I64 m) (he : I64 e) : Calls Tryz.prog 131 #[.agg (cF m e)] w fun ee w' => ee = .returned (.int .i64 (fltBitsD m e)) ∧ Below w.heap.size w w' := by
 have q0 := Is.new w (cF m e) 61
 obtain ⟨c0, c1⟩ := q0.cells2
 have lg : w.heap.size < (w.alloc (.cells (cF m e) 61)).heap.size := by simp
 obtain ⟨bb, hbb⟩ : ∃ b, decide (fltOk m e) = b := ⟨_, rfl⟩
 have HBB := Lib.hid hbb; clear hbb
 go_enter Tryz.func131, Tryz.ntmps131
 go_wp2_with fail
 refine (impl_FltOk m e _ hm he).mono ?_
 rintro ee w2 ⟨rfl, hb2⟩
 rw [HBB.out]
 have HB2 := Lib.hid (Below.ofBox hb2)
 have p2 := q0.below hb2 lg
 obtain ⟨d0, d1⟩ := p2.cells2
 have lg2 : w.heap.size < w2.heap.size := p2.lt
 clear c0 c1 lg q0 p2 hb2
 cases bb with
 | false =>
  have HE := Lib.hid (show fltBitsD m e = -1 from if_neg (of_decide_eq_false HBB.out))
  go_wp2_with fail
  go_ret
  exact ⟨ret_i HE.out.symm, HB2.out⟩
 | true =>
  have hok := of_decide_eq_true HBB.out
  obtain ⟨i1, i2, i3, i4⟩ := fltOk_in hok
  by_cases hm0 : m < 0
  ·have HE := Lib.hid (fltBits_neg hok hm0)
   have hmx : max m (-m) = -m := by omega
   clear hok hm he
   go_wp2_with fail
   go_ret
   exact ⟨ret_i (by rw [HE.out]; try omega), HB2.out⟩
  ·have HE := Lib.hid (fltBits_pos hok hm0)
   have hmx : max m (-m) = m := by omega
   clear hok hm he
   go_wp2_with fail
   go_ret
   exact ⟨ret_i (by rw [HE.out]; try omega), HB2.out⟩
theorem AppL.less {α : Type} {E : World → Nat → Nat → α → List Nat → Prop} {n : Nat} {e : TypeId} {w : World} {rlo rlo' cap : Nat} {a : Option Addr} {l : List α} (h : AppL E n e w rlo a cap l []) (hl : rlo' ≤ rlo) : AppL E n e w rlo' a cap l [] := by
 rcases h with h | ⟨g, cur, h0, h1, h2, h3, h4, h5, h6, _⟩
 ·exact Or.inl h
 ·exact Or.inr ⟨g, cur, h0, Nat.le_trans hl h1, h2, h3, h4, h5, h6, by simp⟩
theorem ret_sl {a : Option Addr} {c x y : Nat} (h : x = y) : Ending.returned (.slice a x c) = .returned (.slice a y c) := by rw [h]
theorem spec_PutBigL (len : Nat) (b : List Int) (n k : Int) (a : Option Addr) (cap B : Nat) (w : World) (hl : len = b.length) (hr : Rd EByte 1 w B a cap b) (hf : fitW n k) (hn : n ≤ 9223372036854775807) (hz : b.length ≤ 1099511627776) (hB : B ≤ w.heap.size) :
  Calls Tryz.prog 132 #[.slice a len cap, .int .i64 n, .int .i64 k] w fun e w' => ∃ a' cap', e = .returned (.slice a' (b ++ bigL n k.toNat).length cap') ∧ AppL EByte 1 5 w' w.heap.size a' cap' (b ++ bigL n k.toNat) [] ∧ Below w.heap.size w w' := by
 subst hl; exact spec_PutBig b n k a cap B w hr hf hn hz hB
set_option maxHeartbeats 4000000 in
theorem spec_PutHead (b : List Int) (m n k : Int) (a : Option Addr) (cap B : Nat) (w : World) (hr : Rd EByte 1 w B a cap b) (hn : I64 n) (hz : b.length ≤ 1073741824) (hB : B ≤ w.heap.size) :
  Calls Tryz.prog 73 #[.slice a b.length cap, .agg (cH m n k)] w fun e w' => ∃ a' cap', e = .returned (.slice a' (b ++ headL m n k).length cap') ∧ AppL EByte 1 5 w' w.heap.size a' cap' (b ++ headL m n k) [] ∧ Below w.heap.size w w' := by
 have q0 := Is.new w (cH m n k) 56
 have hb0 := below1 w (.cells (cH m n k) 56)
 obtain ⟨a1, c1, w1, hrun, happ, hb1⟩ := copyB (w.alloc (.cells (cH m n k) 56)) b a cap B (hr.below EByte.loc hb0 hB) (by simp; omega) (by omega)
 have lg : w.heap.size < (w.alloc (.cells (cH m n k) 56)).heap.size := by simp
 have q1 := q0.below hb1 lg
 have HA1 : Hid (AppL EByte 1 5 w1 (w.heap.size + 1) a1 c1 b []) := Lib.hid (by rw [size_alloc] at happ; exact happ)
 have HB1 := Lib.hid (hb0.trans (hb1.mono (by omega)))
 have hs1 := HB1.out.size
 obtain ⟨c10, c11, c12⟩ := q1.cells3
 have lg1 : w.heap.size < w1.heap.size := q1.lt
 have Q1 := Lib.hid q1
 obtain ⟨bb, hbb⟩ : ∃ r, decide (headOk m n k) = r := ⟨_, rfl⟩
 have HBB := Lib.hid hbb
 have HN := Lib.hid hn
 clear hbb happ hb1 hb0 q0 q1 hr hn lg
 go_enter Tryz.func73, Tryz.ntmps73
 rw [size_alloc] at hrun
 go_upto_region 2 with (at_builtin; refine Lib.wpList_append_run _ rfl _ _ _ _ rfl _ _ rfl rfl _ _ hrun ?_)
 clear hrun
 go_wp2_with fail
 refine (spec_HeadOk m n k w1).mono ?_
 rintro ee w2 ⟨rfl, hb2⟩
 rw [HBB.out]
 have q2 := Q1.out.below hb2 lg1
 obtain ⟨d0, d1, d2⟩ := q2.cells3
 have lg2 : w.heap.size < w2.heap.size := q2.lt
 have HA2 := Lib.hid (HA1.out.agree EByte.elem (fun f hf => hb2.block f hf) (by omega))
 have HB2 := Lib.hid (HB1.out.trans (hb2.mono hs1))
 have hs2 := HB2.out.size
 have Q2 := Lib.hid q2
 clear c10 c11 c12 hb2 q2
 cases bb with
 | false =>
  have HE := Lib.hid (show b ++ headL m n k = b from by unfold headL; rw [if_neg (of_decide_eq_false HBB.out), List.append_nil])
  go_wp2_with fail
  go_ret
  exact ⟨a1, c1, by rw [HE.out]; rfl, by rw [HE.out]; exact HA2.out.less (by omega), HB2.out⟩
 | true =>
  have hok := of_decide_eq_true HBB.out
  have hin := infoD_in hok
  have HE := Lib.hid (show b ++ headL m n k = (b ++ [32 * m + infoD n k]) ++ bigL n k.toNat from by unfold headL; rw [if_pos hok, List.append_assoc]; rfl)
  have HF := Lib.hid (fun h => headOk_fit hok h)
  obtain ⟨hm, hn2, hkk⟩ := hok
  have hk6 : k = 0 ∨ k = 1 ∨ k = 2 ∨ k = 4 ∨ k = 8 ∨ k = -1 := by omega
  have HID := Lib.hid (show infoD n k = if k = 0 then n else if k = 1 then 24 else if k = 2 then 25 else if k = 4 then 26 else if k = 8 then 27 else 31 from rfl)
  obtain ⟨I, hI⟩ : ∃ I, infoD n k = I := ⟨_, rfl⟩
  rw [hI] at HE hin HID
  clear hkk hI
  go_upto_block 0 with (fail)
  go_cut [6] (fun iv wx => iv = .int .i64 I ∧ wx = w2)
  case first =>
   obtain rfl | rfl | rfl | rfl | rfl | rfl := hk6
   all_goals
    have h := HID.out
    simp only [if_true, reduceIte, Int.reduceEq] at h
    go_wp2_with fail
    go_meet
    case rel => exact ⟨by first | rfl | (rw [h]; done) | (rw [← h]; done) | simp [h], rfl⟩
  case rest =>
   obtain ⟨rfl, hww⟩ := hcut
   subst hww
   rename World => w2
   have hwu : IntKind.u8.wrap (32 * m + I) = 32 * m + I := by rw [IntKind.wrap_u8]; omega
   have HU : Hid (U8 (32 * m + I)) := Lib.hid (by unfold U8; omega)
   have HNw := Lib.hid (HA2.out.agree EByte.elem (fun f hf => (below1 w2 (.cells #[Value.int IntKind.u8 (32 * m + I)] 5)).block f hf) (by omega))
   have H3 := Lib.hid (HB2.out.trans ((below1 w2 (.cells #[Value.int IntKind.u8 (32 * m + I)] 5)).mono hs2))
   by_cases hk0 : 0 < k
   ·have HFW := Lib.hid (HF.out hk0)
    go_wp2_with (at_builtin; refine wpList_appX EByte.elem rfl _ _ 22 rfl (.int .u8 0) 1 Tryz.underlying22 info_Byte2 rfl (w.heap.size + 1) a1 c1 b [] rfl HNw.out (by simp only [size_alloc]; omega) w2.heap.size 0 1 1 [32 * m + I] [] rfl rfl ⟨[], [], rfl, ⟨rfl, (Is.new w2 #[.int .u8 (32 * m + I)] 5).cell 0 rfl, HU.out⟩, rfl⟩ (by simp) (by omega) (by unfold maxLen; omega) (by omega) ?_; intro ar2 cr2 w3 happ3 hb3 hout3 hrow3 hsz3; have hx3 : Below (w.heap.size + 1) w2 w3 := ((below1 w2 _).mono (by omega)).trans hb3; have q3 := Q2.out.below hx3 (by omega); obtain ⟨f0, f1, f2⟩ := q3.cells3; have lg3 := q3.lt; clear q3; have HA3 := Lib.hid happ3; have HX3 := Lib.hid hx3; clear happ3 hb3 hout3 hrow3 hsz3 hx3)
    have HB3 := Lib.hid (HB2.out.trans (HX3.out.mono (by omega)))
    refine (spec_PutBigL (b.length + 1) (b ++ [32 * m + I]) n k ar2 cr2 w3.heap.size w3 (by simp) (HA3.out.rd (by omega)) HFW.out HN.out.2 (by simp; omega) (Nat.le_refl _)).mono ?_
    rintro ee w4 ⟨a4, c4, rfl, happ4, hb4⟩
    have HA4 := Lib.hid happ4
    have HB4 := Lib.hid (HB3.out.trans (hb4.mono (by omega)))
    clear happ4 hb4
    go_wp2_with fail
    go_ret
    exact ⟨a4, c4, ret_sl (by rw [HE.out, List.length_append, List.length_append, List.length_singleton]; omega), by rw [HE.out]; exact HA4.out.less (by omega), HB4.out⟩
   ·have HE2 : Hid (b ++ headL m n k = b ++ [32 * m + I]) := Lib.hid (by rw [HE.out, show k.toNat = 0 from by omega, bigL, List.append_nil])
    go_wp2_with (at_builtin; refine wpList_appX EByte.elem rfl _ _ 22 rfl (.int .u8 0) 1 Tryz.underlying22 info_Byte2 rfl (w.heap.size + 1) a1 c1 b [] rfl HNw.out (by simp only [size_alloc]; omega) w2.heap.size 0 1 1 [32 * m + I] [] rfl rfl ⟨[], [], rfl, ⟨rfl, (Is.new w2 #[.int .u8 (32 * m + I)] 5).cell 0 rfl, HU.out⟩, rfl⟩ (by simp) (by omega) (by unfold maxLen; omega) (by omega) ?_; intro ar2 cr2 w3 happ3 hb3 hout3 hrow3 hsz3; have hx3 : Below (w.heap.size + 1) w2 w3 := ((below1 w2 _).mono (by omega)).trans hb3; have q3 := Q2.out.below hx3 (by omega); obtain ⟨f0, f1, f2⟩ := q3.cells3; have lg3 := q3.lt; clear q3; have HA3 := Lib.hid happ3; have HX3 := Lib.hid hx3; clear happ3 hb3 hout3 hrow3 hsz3 hx3)
    have HB3 := Lib.hid (HB2.out.trans (HX3.out.mono (by omega)))
    go_ret
    exact ⟨ar2, cr2, ret_sl (by have h := congrArg List.length HE2.out; simp only [List.length_append, List.length_singleton] at h ⊢; omega), by rw [HE2.out]; exact HA3.out.less (by omega), HB3.out⟩
theorem pow_mono {b j k : Nat} (hb : 1 ≤ b) (h : j ≤ k) : b ^ j ≤ b ^ k := Nat.pow_le_pow_right hb h
theorem pow_step {b j k : Nat} (hb : 1 ≤ b) (h : j < k) (hk : b ^ k ≤ 9223372036854775807) : (b ^ j : Nat) * b ≤ 9223372036854775807 := by
 rw [← Nat.pow_succ]; exact Nat.le_trans (pow_mono hb h) hk
theorem spec_Pow (b k : Nat) (w : World) (hb : b = 2 ∨ b = 5 ∨ b = 10) (hk2 : k ≤ 17) :
  Calls Tryz.prog 247 #[.int .i64 b, .int .i64 k] w fun e w' => e = .returned (.int .i64 (b ^ k : Nat)) ∧ Below w.heap.size w w' := by
 have hb1 : 1 ≤ b := by omega
 have hk : b ^ k ≤ 9223372036854775807 := by
  have h1 : b ^ k ≤ 10 ^ k := Nat.pow_le_pow_left (by omega) k
  have h2 : 10 ^ k ≤ 10 ^ 17 := Nat.pow_le_pow_right (by omega) hk2
  have h3 : (10 : Nat) ^ 17 = 100000000000000000 := by decide
  omega
 have HD := Lib.hid (show decide ((0 : Int) ≤ (k : Int) ∧ (k : Int) ≤ 17) = true from decide_eq_true ⟨by omega, by omega⟩)
 have HKK := Lib.hid hk; clear hk
 obtain ⟨P, hP⟩ : ∃ P, b ^ k = P := ⟨_, rfl⟩
 have HPP := Lib.hid hP; rw [hP]; clear hP
 obtain rfl | rfl | rfl := hb
 all_goals
  go_enter Tryz.func247, Tryz.ntmps247
  go_wp2_with (go_at_call 74; refine (spec_l1In _ _ _ _).mono ?_; rintro e w2 ⟨rfl, hb2⟩; rw [HD.out]; have HB2 := Lib.hid hb2)
  go_loopw [5, 6] (fun o i wr => ∃ (j p : Nat), j ≤ k ∧ i = .int .i64 j ∧ o = .int .i64 p ∧ Hid (p = _ ^ j) ∧ Below w.heap.size w wr) (fun _ i _ => k - (intOf i).toNat)
  case atStart => exact ⟨0, 1, Nat.zero_le _, rfl, rfl, by show _ = _; exact (Nat.pow_zero _).symm, HB2.out⟩
  case round =>
   obtain ⟨j, p, hj, rfl, rfl, HP, hb'⟩ := hrel
   by_cases hlt : j < k
   ·have h1 := pow_step hb1 hlt HKK.out
    rw [← HP.out] at h1
    have HQ := Lib.hid (show p * _ = _ ^ (j + 1) from by rw [Nat.pow_succ, ← HP.out])
    go_wp2_with fail
    go_roundw
    case rel => exact ⟨j + 1, _, by omega, by go_num, by go_num, HQ.out, hb'⟩
    case measure => simp [intOf]; omega
   ·have HE := Lib.hid (show p = P from by rw [HP.out, ← HPP.out, show j = k from by omega])
    go_wp2_with fail
    go_ret
    exact ⟨by rw [← HE.out]; rfl, hb'⟩
theorem spec_Pow5 (k : Nat) (kk : Int) (w : World) (h : kk = k) (hk2 : k ≤ 16) :
  Calls Tryz.prog 247 #[.int .i64 5, .int .i64 kk] w fun e w' => e = .returned (.int .i64 (5 ^ k : Nat)) ∧ Below w.heap.size w w' := by
 subst h; exact spec_Pow 5 k w (by omega) (by omega)
end Go.Proofs.YtggdenkmohnijaaGreatDoor
