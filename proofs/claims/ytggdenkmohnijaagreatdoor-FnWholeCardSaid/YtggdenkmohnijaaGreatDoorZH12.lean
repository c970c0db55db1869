/- Texts of this proof, merged: Mark2, FitsK, AppT, MarkP. No condition beyond what each theorem states. -/
import Derived.Test.YtggdenkmohnijaaGreatDoorZH11
set_option linter.unusedSimpArgs false
set_option linter.unnecessarySimpa false
namespace Go.Proofs.YtggdenkmohnijaaGreatDoor
open Go.ChangeShapes Go.WideShapes Go.ChangeAt Go.RowKit Go.Joins
set_option linter.unusedVariables false
set_option maxRecDepth 100000
def bitsFltD (n : Int) : (Int × Int) × Bool := if 0 ≤ n ∧ n ≤ 33554431 then fltNewD (if 16777216 ≤ n then -(n % 65536) else n % 65536) (n / 65536 % 256 - 16) else ((0, 0), false)
def markOkD (k n : Int) : Bool :=
 if k = 1 then decide (n = 0) else if k = 2 then decide (0 ≤ n ∧ n ≤ 1) else if k = 3 then decide (-1000000000000000 ≤ n ∧ n ≤ 1000000000000000)
 else if k = 4 then ((bitsFltD n).2 && decide (fltBitsD (bitsFltD n).1.1 (bitsFltD n).1.2 = n)) else if k = 5 then decide (0 ≤ n ∧ n ≤ 2)
 else if k = 7 ∨ k = 8 ∨ k = 9 ∨ k = 10 then decide (0 ≤ n ∧ n ≤ 65535) else false
def markForD (t : T) : Int × Int :=
 if t.k = 1 ∨ t.k = 2 ∨ t.k = 3 ∨ t.k = 5 then (t.k, t.n) else if t.k = 4 then (4, fltBitsD t.n t.x) else if t.k = 7 ∨ t.k = 8 then (t.k, t.s.size)
 else if t.k = 9 then (9, t.l.length) else if t.k = 10 then (10, ((t.l.length / 2 : Nat) : Int)) else (0, 0)
theorem bitsFltD_i64 (n : Int) : I64 (bitsFltD n).1.1 ∧ I64 (bitsFltD n).1.2 := by
 unfold bitsFltD
 split
 ·have h := fltOk_in (fltNewD_ok (if 16777216 ≤ n then -(n % 65536) else n % 65536) (n / 65536 % 256 - 16))
  exact ⟨⟨by omega, by omega⟩, ⟨by omega, by omega⟩⟩
 ·exact ⟨⟨by decide, by decide⟩, ⟨by decide, by decide⟩⟩
abbrev cM (k n : Int) : Array Value := #[Value.int IntKind.i64 k, Value.int IntKind.i64 n]
set_option maxHeartbeats 4000000 in
theorem impl_BitsFlt (n : Int) (w : World) (hn : I64 n) :
  Calls Tryz.prog 167 #[.int .i64 n] w fun ee w' => ee = .returned (.tuple #[.agg (cF (bitsFltD n).1.1 (bitsFltD n).1.2), .bool (bitsFltD n).2]) ∧ Below w.heap.size w w' := by
 have q0 := Is.new w (cF 0 0) 61
 have ff := fun i => q0.frozen i
 obtain ⟨z0, z1⟩ := q0.cells2
 have lg : w.heap.size < (w.alloc (.cells (cF 0 0) 61)).heap.size := by simp
 by_cases hA : 0 ≤ n ∧ n ≤ 33554431
 case neg =>
  have HD := Lib.hid (show bitsFltD n = ((0, 0), false) from if_neg hA)
  have DA := Lib.hid (show decide (0 ≤ n ∧ n ≤ 33554431) = false from decide_eq_false hA)
  clear hA
  go_enter Tryz.func167, Tryz.ntmps167
  go_wp2_with (go_at_call 125; refine (impl_withinE _ _ _ _).mono ?_; rintro ee w2 ⟨rfl, rfl⟩; rw [DA.out])
  obtain ⟨e0, e1⟩ := q0.cells2
  refine bodyPost_ret (v := .tuple #[.agg #[.int .i64 (0), .int .i64 (0)], .bool false]) (by simp [results, Tryz.results167, go_sem, e0, e1]) rfl ⟨by rw [HD.out], below1 _ _⟩
 have DA := Lib.hid (show decide (0 ≤ n ∧ n ≤ 33554431) = true from decide_eq_true hA)
 have HD0 := Lib.hid (show bitsFltD n = fltNewD (if 16777216 ≤ n then -(n % 65536) else n % 65536) (n / 65536 % 256 - 16) from if_pos hA)
 obtain ⟨a0, a1⟩ := hA
 have t1 : Int.tmod n 65536 = n % 65536 := Int.tmod_eq_emod_of_nonneg a0
 have t2 : Int.tdiv n 65536 = n / 65536 := Int.tdiv_eq_ediv_of_nonneg a0
 have t3 : Int.tmod (n / 65536) 256 = n / 65536 % 256 := Int.tmod_eq_emod_of_nonneg (by omega)
 have T1 := Lib.hid t1; have T2 := Lib.hid t2; have T3 := Lib.hid t3
 by_cases hS : 16777216 ≤ n
 all_goals
  have HD := Lib.hid HD0.out
  first | rw [if_pos hS] at HD | rw [if_neg hS] at HD
  clear HD0
  go_enter Tryz.func167, Tryz.ntmps167
  go_wp2_with (go_at_call 125; refine (impl_withinE _ _ _ _).mono ?_; rintro ee w2 ⟨rfl, rfl⟩; rw [DA.out])
  (try simp only [T1.out, T2.out, T3.out])
  refine (impl_FltNew _ (n / 65536 % 256 - 16) _ ⟨by omega, by omega⟩ ⟨by omega, by omega⟩).mono ?_
  rintro ee w2 ⟨rfl, hb2⟩
  rw [← HD.out]
  obtain ⟨⟨⟨x, y⟩, ok⟩, hxy⟩ : ∃ r, bitsFltD n = r := ⟨_, rfl⟩
  rw [hxy]
  have HXY := Lib.hid hxy; clear hxy
  have p2 := q0.below hb2 lg
  have ff2 := fun i => p2.frozen i
  obtain ⟨y0, y1⟩ := p2.cells2
  have hl2 : w.heap.size < w2.heap.size := p2.lt
  have HB2 := Lib.hid ((below1 w _).trans (hb2.mono (by simp)))
  clear z0 z1 ff hb2 q0 lg
  go_wp2_with fail
  obtain ⟨e0, e1⟩ := ((p2.set 0 (.int .i64 x)).set 1 (.int .i64 y)).cells2
  refine bodyPost_ret (v := .tuple #[.agg #[.int .i64 x, .int .i64 y], .bool ok]) (by simp [results, Tryz.results167, go_sem, e0, e1]) rfl ⟨by rw [HXY.out], HB2.out.trans ((below2s _ _ _ _).mono (Nat.le_refl _))⟩
set_option maxHeartbeats 4000000 in
theorem impl_MarkFor (t : T) (a : Option Addr) (cap B : Nat) (w : World) (hr : R w B a cap t.l) (hwf : Wf t) (hB : B ≤ w.heap.size) :
  Calls Tryz.prog 149 #[.agg (cV t a cap)] w fun e w' => e = .returned (.agg (cM (markForD t).1 (markForD t).2)) ∧ Below w.heap.size w w' := by
 obtain ⟨k, n, x, s, l⟩ := t
 obtain ⟨hwk, hwn, hwx, hws⟩ := hwf
 obtain ⟨hl1, hl2⟩ := hr.len
 have HN := Lib.hid hwn
 have HX := Lib.hid hwx
 simp only [cV, T.k, T.n, T.x, T.s, T.l] at hwk hwn hwx hws hl1 hl2 HN HX ⊢
 have q1 := (Is.new w (cV (.mk k n x s l) a cap) 26).alloc (.cells (cM 0 0) 87)
 have q2 := Is.new2 w (.cells (cV (.mk k n x s l) a cap) 26) (cM 0 0) 87
 have H0 := Lib.hid (below2 w (.cells (cV (.mk k n x s l) a cap) 26) (.cells (cM 0 0) 87))
 simp only [cV, T.k, T.n, T.x, T.s, T.l] at q1 q2 H0
 obtain ⟨c0, c1, c2', c3, c4⟩ := q1.cells5
 obtain ⟨z0, z1⟩ := q2.cells2
 have ff := fun i => q2.frozen i
 have lg := q1.lt
 have lg2 := q2.lt
 have hq : Int.tdiv (l.length : Int) 2 = ((l.length / 2 : Nat) : Int) := by rw [Int.tdiv_eq_ediv_of_nonneg (by omega)]; omega
 clear hwn hwx hws hr
 by_cases h1 : k = 1 ∨ k = 2 ∨ k = 3 ∨ k = 5
 ·have HD := Lib.hid (show markForD (.mk k n x s l) = (k, n) from if_pos h1)
  obtain rfl | rfl | rfl | rfl := h1
  ·go_enter Tryz.func149, Tryz.ntmps149
   go_wp2_with fail
   obtain ⟨e0, e1⟩ := (Is.new2 w (.cells #[.int .i64 1, .int .i64 n, .int .i64 x, .string s, .slice a l.length cap] 26) #[.int .i64 1, .int .i64 n] 87).cells2
   refine bodyPost_ret (v := .agg #[.int .i64 (1), .int .i64 n]) (by simp [results, Tryz.results149, go_sem, e0, e1]) rfl ⟨by rw [HD.out], below2 _ _ _⟩
  ·go_enter Tryz.func149, Tryz.ntmps149
   go_wp2_with fail
   obtain ⟨e0, e1⟩ := (Is.new2 w (.cells #[.int .i64 2, .int .i64 n, .int .i64 x, .string s, .slice a l.length cap] 26) #[.int .i64 2, .int .i64 n] 87).cells2
   refine bodyPost_ret (v := .agg #[.int .i64 (2), .int .i64 n]) (by simp [results, Tryz.results149, go_sem, e0, e1]) rfl ⟨by rw [HD.out], below2 _ _ _⟩
  ·go_enter Tryz.func149, Tryz.ntmps149
   go_wp2_with fail
   obtain ⟨e0, e1⟩ := (Is.new2 w (.cells #[.int .i64 3, .int .i64 n, .int .i64 x, .string s, .slice a l.length cap] 26) #[.int .i64 3, .int .i64 n] 87).cells2
   refine bodyPost_ret (v := .agg #[.int .i64 (3), .int .i64 n]) (by simp [results, Tryz.results149, go_sem, e0, e1]) rfl ⟨by rw [HD.out], below2 _ _ _⟩
  ·go_enter Tryz.func149, Tryz.ntmps149
   go_wp2_with fail
   obtain ⟨e0, e1⟩ := (Is.new2 w (.cells #[.int .i64 5, .int .i64 n, .int .i64 x, .string s, .slice a l.length cap] 26) #[.int .i64 5, .int .i64 n] 87).cells2
   refine bodyPost_ret (v := .agg #[.int .i64 (5), .int .i64 n]) (by simp [results, Tryz.results149, go_sem, e0, e1]) rfl ⟨by rw [HD.out], below2 _ _ _⟩
 by_cases h4 : k = 4
 ·have HD := Lib.hid (show markForD (.mk k n x s l) = (4, fltBitsD n x) from (if_neg h1).trans (if_pos h4))
  subst h4
  go_enter Tryz.func149, Tryz.ntmps149
  go_wp2_with fail
  refine (impl_FltBits n x _ HN.out HX.out).mono ?_
  rintro e w3 ⟨rfl, hb3⟩
  have P3 := q2.below hb3 (by simp)
  have ff3 := fun i => P3.frozen i
  obtain ⟨y0, y1⟩ := P3.cells2
  have hl3 := P3.lt
  have HB3 := Lib.hid (H0.out.trans (hb3.mono (by simp; omega)))
  clear hb3
  go_wp2_with fail
  obtain ⟨e0, e1⟩ := ((P3.set 0 (.int .i64 4)).set 1 (.int .i64 (fltBitsD n x))).cells2
  refine bodyPost_ret (v := .agg #[.int .i64 4, .int .i64 (fltBitsD n x)]) (by simp [results, Tryz.results149, go_sem, e0, e1]) rfl ⟨by rw [HD.out], HB3.out.trans ((below2s _ _ _ _).mono (by omega))⟩
 by_cases h7 : k = 7 ∨ k = 8
 ·have HD := Lib.hid (show markForD (.mk k n x s l) = (k, (s.size : Int)) from (if_neg h1).trans ((if_neg h4).trans (if_pos h7)))
  obtain rfl | rfl := h7
  ·go_enter Tryz.func149, Tryz.ntmps149
   go_wp2_with fail
   obtain ⟨e0, e1⟩ := (Is.new2 w (.cells #[.int .i64 7, .int .i64 n, .int .i64 x, .string s, .slice a l.length cap] 26) #[.int .i64 7, .int .i64 s.size] 87).cells2
   refine bodyPost_ret (v := .agg #[.int .i64 (7), .int .i64 s.size]) (by simp [results, Tryz.results149, go_sem, e0, e1]) rfl ⟨by rw [HD.out], below2 _ _ _⟩
  ·go_enter Tryz.func149, Tryz.ntmps149
   go_wp2_with fail
   obtain ⟨e0, e1⟩ := (Is.new2 w (.cells #[.int .i64 8, .int .i64 n, .int .i64 x, .string s, .slice a l.length cap] 26) #[.int .i64 8, .int .i64 s.size] 87).cells2
   refine bodyPost_ret (v := .agg #[.int .i64 (8), .int .i64 s.size]) (by simp [results, Tryz.results149, go_sem, e0, e1]) rfl ⟨by rw [HD.out], below2 _ _ _⟩
 by_cases h9 : k = 9
 ·have HD := Lib.hid (show markForD (.mk k n x s l) = (9, (l.length : Int)) from (if_neg h1).trans ((if_neg h4).trans ((if_neg h7).trans (if_pos h9))))
  subst h9
  go_enter Tryz.func149, Tryz.ntmps149
  go_wp2_with fail
  obtain ⟨e0, e1⟩ := (Is.new2 w (.cells #[.int .i64 9, .int .i64 n, .int .i64 x, .string s, .slice a l.length cap] 26) #[.int .i64 9, .int .i64 l.length] 87).cells2
  refine bodyPost_ret (v := .agg #[.int .i64 9, .int .i64 l.length]) (by simp [results, Tryz.results149, go_sem, e0, e1]) rfl ⟨by rw [HD.out], below2 _ _ _⟩
 by_cases h10 : k = 10
 ·have HD := Lib.hid (show markForD (.mk k n x s l) = (10, ((l.length / 2 : Nat) : Int)) from (if_neg h1).trans ((if_neg h4).trans ((if_neg h7).trans ((if_neg h9).trans (if_pos h10)))))
  subst h10
  go_enter Tryz.func149, Tryz.ntmps149
  go_wp2_with fail
  obtain ⟨e0, e1⟩ := (Is.new2 w (.cells #[.int .i64 10, .int .i64 n, .int .i64 x, .string s, .slice a l.length cap] 26) #[.int .i64 10, .int .i64 ((l.length / 2 : Nat) : Int)] 87).cells2
  refine bodyPost_ret (v := .agg #[.int .i64 10, .int .i64 ((l.length / 2 : Nat) : Int)]) (by simp [results, Tryz.results149, go_sem, e0, e1]) rfl ⟨by rw [HD.out], below2 _ _ _⟩
 have HD := Lib.hid (show markForD (.mk k n x s l) = (0, 0) from (if_neg h1).trans ((if_neg h4).trans ((if_neg h7).trans ((if_neg h9).trans (if_neg h10)))))
 have g1 : ¬ k = 1 := by omega
 have g2 : ¬ k = 2 := by omega
 have g3 : ¬ k = 3 := by omega
 have g5 : ¬ k = 5 := by omega
 have g7 : ¬ k = 7 := by omega
 have g8 : ¬ k = 8 := by omega
 go_enter Tryz.func149, Tryz.ntmps149
 go_wp2_with fail
 obtain ⟨e0, e1⟩ := (Is.new2 w (.cells #[.int .i64 k, .int .i64 n, .int .i64 x, .string s, .slice a l.length cap] 26) #[.int .i64 0, .int .i64 0] 87).cells2
 refine bodyPost_ret (v := .agg #[.int .i64 0, .int .i64 0]) (by simp [results, Tryz.results149, go_sem, e0, e1]) rfl ⟨by rw [HD.out], below2 _ _ _⟩
set_option maxHeartbeats 4000000 in
theorem impl_MarkOk (k n : Int) (w : World) (hn : I64 n) :
  Calls Tryz.prog 148 #[.agg (cM k n)] w fun e w' => e = .returned (.bool (markOkD k n)) ∧ Below w.heap.size w w' := by
 have q0 := Is.new w (cM k n) 87
 obtain ⟨c0, c1⟩ := q0.cells2
 have lg : w.heap.size < (w.alloc (.cells (cM k n) 87)).heap.size := by simp
 have HN := Lib.hid hn
 clear hn
 by_cases h1 : k = 1
 ·have HD := Lib.hid (show markOkD k n = decide (n = 0) from if_pos h1)
  subst h1
  go_enter Tryz.func148, Tryz.ntmps148
  go_wp2_with fail
  go_ret
  exact ⟨ret_b (by rw [HD.out]; first | done | rfl | simp), by go_grown⟩
 by_cases h2 : k = 2
 ·have HD := Lib.hid (show markOkD k n = decide (0 ≤ n ∧ n ≤ 1) from (if_neg h1).trans (if_pos h2))
  subst h2
  go_enter Tryz.func148, Tryz.ntmps148
  go_wp2_with (go_at_call 125; refine (impl_withinE _ _ _ _).mono ?_; rintro ee w2 ⟨rfl, rfl⟩)
  all_goals
   go_ret
   exact ⟨ret_b (by rw [HD.out]; first | done | rfl | exact (Bool.decide_and _ _).symm | (rw [Bool.eq_iff_iff]; simp only [beq_iff_eq, bne_iff_ne, decide_eq_true_iff, Bool.or_eq_true, true_iff, iff_true]; omega)), by go_grown⟩
 by_cases h3 : k = 3
 ·have HD := Lib.hid (show markOkD k n = decide (-1000000000000000 ≤ n ∧ n ≤ 1000000000000000) from (if_neg h1).trans ((if_neg h2).trans (if_pos h3)))
  subst h3
  go_enter Tryz.func148, Tryz.ntmps148
  go_wp2_with (go_at_call 125; refine (impl_withinE _ _ _ _).mono ?_; rintro ee w2 ⟨rfl, rfl⟩)
  go_ret
  exact ⟨ret_b (by rw [HD.out]; first | done | rfl | exact (Bool.decide_and _ _).symm), by go_grown⟩
 by_cases h4 : k = 4
 ·have HD := Lib.hid (show markOkD k n = ((bitsFltD n).2 && decide (fltBitsD (bitsFltD n).1.1 (bitsFltD n).1.2 = n)) from (if_neg h1).trans ((if_neg h2).trans ((if_neg h3).trans (if_pos h4))))
  have HI := Lib.hid (bitsFltD_i64 n)
  subst h4
  have CB := Lib.hid (fun W => impl_BitsFlt n W HN.out)
  obtain ⟨⟨⟨x, y⟩, ok⟩, hxy⟩ : ∃ r, bitsFltD n = r := ⟨_, rfl⟩
  rw [hxy] at HD HI CB
  simp only at HI CB HD
  clear hxy
  go_enter Tryz.func148, Tryz.ntmps148
  go_wp2_with fail
  refine (CB.out _).mono ?_
  rintro ee w2 ⟨rfl, hb2⟩
  have p2 := q0.below hb2 lg
  have HB2 := Lib.hid ((below1 w _).trans (hb2.mono (by simp)))
  have q3 := Is.new w2 (cF x y) 61
  have p3 := p2.alloc (.cells (cF x y) 61)
  obtain ⟨d0, d1⟩ := p3.cells2
  obtain ⟨f0, f1⟩ := q3.cells2
  have l2 := p2.lt
  have l3 := q3.lt
  have l4 := p3.lt
  clear c0 c1 hb2 q0
  cases ok with
  | false =>
   have hok : (false && decide (fltBitsD x y = n)) = false := rfl
   go_wp2_with fail
   go_quiet (fail)
   go_wp2_with fail
   go_ret
   exact ⟨ret_b (by rw [HD.out]; rfl), (HB2.out.trans ((below1 w2 (.cells (cF x y) 61)).mono (by omega))).trans (below_drewN _ _ _)⟩
  | true =>
   go_wp2_with fail
   generalize hW : w2.alloc (.cells (cF x y) 61) = W0 at *
   have hb0 : Below w2.heap.size w2 W0 := by rw [← hW]; exact below1 _ _
   have HB0 := Lib.hid (HB2.out.trans (hb0.mono (by omega)))
   clear hW hb0
   go_region_held3 (fun w' => (∀ b o, b < W0.heap.size → w'.cell? ⟨b, o, none⟩ = W0.cell? ⟨b, o, none⟩) ∧ Below (W0.heap.size) W0 w') (first | exact kpZ | assumption | exact kpD (by assumption) | exact kpB (by assumption) (by assumption) | exact kpC (by assumption) (by assumption) | exact kpA (by assumption)) (first | (go_at_call 131; refine (impl_FltBits x y _ HI.out.1 HI.out.2).mono ?_; rintro ee w4 ⟨rfl, hb4⟩))
   have hBB := (‹_ ∧ Below (W0.heap.size) W0 _›).2
   have hs9 := HB0.out.size
   go_wp2_with fail
   go_ret
   exact ⟨ret_b (by rw [HD.out]; first | rfl | simp), HB0.out.trans (hBB.mono (by omega))⟩
 by_cases h5 : k = 5
 ·have HD := Lib.hid (show markOkD k n = decide (0 ≤ n ∧ n ≤ 2) from (if_neg h1).trans ((if_neg h2).trans ((if_neg h3).trans ((if_neg h4).trans (if_pos h5)))))
  subst h5
  go_enter Tryz.func148, Tryz.ntmps148
  go_wp2_with (go_at_call 125; refine (impl_withinE _ _ _ _).mono ?_; rintro ee w2 ⟨rfl, rfl⟩)
  go_ret
  exact ⟨ret_b (by rw [HD.out]; first | done | rfl | exact (Bool.decide_and _ _).symm), by go_grown⟩
 by_cases h7 : k = 7 ∨ k = 8 ∨ k = 9 ∨ k = 10
 ·have HD := Lib.hid (show markOkD k n = decide (0 ≤ n ∧ n ≤ 65535) from (if_neg h1).trans ((if_neg h2).trans ((if_neg h3).trans ((if_neg h4).trans ((if_neg h5).trans (if_pos h7))))))
  obtain rfl | rfl | rfl | rfl := h7
  all_goals
   go_enter Tryz.func148, Tryz.ntmps148
   go_wp2_with (go_at_call 125; refine (impl_withinE _ _ _ _).mono ?_; rintro ee w2 ⟨rfl, rfl⟩)
   go_ret
   exact ⟨ret_b (by rw [HD.out]; first | done | rfl | exact (Bool.decide_and _ _).symm), by go_grown⟩
 have HD := Lib.hid (show markOkD k n = false from (if_neg h1).trans ((if_neg h2).trans ((if_neg h3).trans ((if_neg h4).trans ((if_neg h5).trans (if_neg h7))))))
 have g7 : ¬ k = 7 := by omega
 have g8 : ¬ k = 8 := by omega
 have g9 : ¬ k = 9 := by omega
 have g10 : ¬ k = 10 := by omega
 go_enter Tryz.func148, Tryz.ntmps148
 go_wp2_with fail
 go_ret
 exact ⟨ret_b (by rw [HD.out]; first | done | rfl | exact (Bool.decide_and _ _).symm), by go_grown⟩
theorem markForD_i64 (t : T) (hwf : Wf t) (hsz : T.sz t ≤ 1048576) : I64 (markForD t).2 := by
 have h1 := T.length_le_szL t.l
 have h2 := sz_list t
 have h3 := sz_string t
 have h4 := fltBitsD_in t.n t.x
 obtain ⟨_, hn, _, _⟩ := hwf
 unfold markForD
 repeat' split
 all_goals first
  | exact hn
  | exact ⟨by simp only; omega, by simp only; omega⟩
def packB (t : T) : Bool := (decide (t.k ≠ 6) && decide (t.k ≠ 11)) && (onceB t && markOkD (markForD t).1 (markForD t).2)
theorem packB_6 {t : T} (h : t.k = 6) : packB t = false := by unfold packB; rw [h]; rfl
theorem packB_11 {t : T} (h : t.k = 11) : packB t = false := by unfold packB; rw [h]; rfl
theorem packB_else {t : T} (h : ¬ t.k = 6) (h2 : ¬ t.k = 11) : packB t = (onceB t && markOkD (markForD t).1 (markForD t).2) := by unfold packB; rw [decide_eq_true h, decide_eq_true h2]; rfl
set_option maxHeartbeats 2000000 in
theorem impl_pack (t : T) (a : Option Addr) (cap B : Nat) (w : World) (hr : R w B a cap t.l) (hwf : Wf t) (hsz : T.sz t ≤ 1048576) (he : Env B w) (hB : B ≤ w.heap.size) :
  Calls Tryz.prog 146 #[.agg (cV t a cap)] w fun e w' => e = .returned (.bool (packB t)) ∧ Below w.heap.size w w' := by
 have hlc : t.l.length ≤ 1073741824 := by have := T.length_le_szL t.l; have := sz_list t; omega
 have HR := Lib.hid hr; clear hr
 have HTN := Lib.hid (fun W (h : R W B a cap t.l) (hb : B ≤ W.heap.size) => impl_OnceEach t a cap B W h hb hlc)
 have HMF := Lib.hid (fun W (h : R W B a cap t.l) (hb : B ≤ W.heap.size) => impl_MarkFor t a cap B W h hwf hb)
 have HMI := Lib.hid (markForD_i64 t hwf hsz)
 have q0 := Is.new w (cV t a cap) 26
 have H0 := Lib.hid (below1 w (.cells (cV t a cap) 26))
 have lg : w.heap.size < (w.alloc (.cells (cV t a cap) 26)).heap.size := by simp
 clear hwf he
 by_cases h6 : t.k = 6
 ·have HD := Lib.hid (packB_6 h6)
  obtain ⟨k, n, x, s, l⟩ := t
  simp only [T.k, T.n, T.x, T.s, T.l, cV] at *
  subst h6
  go_enter Tryz.func146, Tryz.ntmps146
  go_wp2_with fail
  go_ret
  exact ⟨ret_b (by rw [HD.out]), below1 _ _⟩
 by_cases h11 : t.k = 11
 ·have HD := Lib.hid (packB_11 h11)
  obtain ⟨k, n, x, s, l⟩ := t
  simp only [T.k, T.n, T.x, T.s, T.l, cV] at *
  subst h11
  go_enter Tryz.func146, Tryz.ntmps146
  go_wp2_with fail
  go_ret
  exact ⟨ret_b (by rw [HD.out]), below1 _ _⟩
 have HD := Lib.hid (packB_else h6 h11)
 obtain ⟨o1, ho1⟩ : ∃ r, onceB t = r := ⟨_, rfl⟩
 obtain ⟨⟨mk, mn⟩, hmk⟩ : ∃ r, markForD t = r := ⟨_, rfl⟩
 rw [ho1] at HD HTN
 rw [hmk] at HD HMF HMI
 simp only at HD HMF HMI
 clear ho1 hmk
 obtain ⟨k, n, x, s, l⟩ := t
 simp only [T.k, T.n, T.x, T.s, T.l, cV] at *
 have g6 : (k != 6) = true := by simp [h6]
 have g11 : (k != 11) = true := by simp [h11]
 go_enter Tryz.func146, Tryz.ntmps146
 go_wp2_with fail
 refine (HTN.out _ (HR.out.below H0.out hB) (by simp; omega)).mono ?_
 rintro e w2 ⟨rfl, hb2⟩
 have HB2 := Lib.hid (below_step H0.out hb2 (by simp))
 have p2 := q0.below hb2 lg
 obtain ⟨y0, y1, y2, y3, y4⟩ := p2.cells5
 have hlt3 : w.heap.size < w2.heap.size := p2.lt
 clear hb2
 cases o1 with
 | false =>
  go_wp2_with fail
  go_ret
  exact ⟨ret_b (by rw [HD.out]; rfl), HB2.out⟩
 | true =>
  go_wp2_with fail
  refine (HMF.out _ (HR.out.below HB2.out hB) (by omega)).mono ?_
  rintro e w3 ⟨rfl, hb3⟩
  have HB3 := Lib.hid (HB2.out.trans (hb3.mono HB2.out.size))
  clear hb3
  go_wp2_with fail
  refine (impl_MarkOk mk mn _ HMI.out).mono ?_
  rintro e w4 ⟨rfl, hb4⟩
  have HB4 := Lib.hid (HB3.out.trans (hb4.mono HB3.out.size))
  clear hb4
  go_wp2_with fail
  go_ret
  exact ⟨ret_b (by rw [HD.out]; rfl), HB4.out⟩
set_option maxHeartbeats 2000000 in
theorem every_pack (hp : ∀ t : T, ∀ (a : Option Addr) (cap B : Nat) (w : World), R w B a cap t.l → Wf t → T.sz t ≤ 1048576 → Env B w → B ≤ w.heap.size → Calls Tryz.prog 146 #[.agg (cV t a cap)] w fun e v => e = .returned (.bool (packB t)) ∧ Below w.heap.size w v) :
  ∀ t : T, ∀ (a : Option Addr) (cap B : Nat) (w : World), R w B a cap t.l → Wf t → T.sz t ≤ 1048576 → Env B w → B ≤ w.heap.size →
  Calls Tryz.prog 66 #[.agg (cV t a cap), .func (.func 146) #[] #[]] w fun e w' => e = .returned (.bool (allB packB t)) ∧ Below w.heap.size w w' := by
 have HP := Lib.hid hp; clear hp
 intro t
 induction t using T.ind with
 | h k n x s l ih =>
  intro a cap B w hr hwf hsz henv hB
  have IH := Lib.hid ih; clear ih
  have HPT := Lib.hid (fun W h1 h2 h3 h4 => HP.out (.mk k n x s l) a cap B W h1 hwf hsz h3 h4 : ∀ W, R W B a cap l → True → Env B W → B ≤ W.heap.size → _)
  have HALL := Lib.hid (allB_eq packB (.mk k n x s l))
  simp only [cV, T.k, T.n, T.x, T.s, T.l] at hr HPT ⊢
  rw [sz_of] at hsz
  obtain ⟨hlc, hcap⟩ := hr.len
  have HR := Lib.hid hr; clear hr
  have HE := Lib.hid henv; clear henv hwf
  have hmf : ∀ (fn : Fn) (first cap : Array Value) (w : World), (Instr.makeFunc fn first cap).run Tryz.prog w = .ok (.func fn first cap) w := fun _ _ _ _ => rfl
  go_enter Tryz.func66, Tryz.ntmps66
  go_wp2_with fail
  generalize hW : (w.alloc (Obj.cells #[Value.int IntKind.i64 k, Value.int IntKind.i64 n, Value.int IntKind.i64 x, Value.string s, Value.slice a l.length cap] 26)).alloc (Obj.cells #[.func (.func 146) #[] #[]] 33) = W0
  have q1 : Is W0 w.heap.size 26 #[Value.int IntKind.i64 k, Value.int IntKind.i64 n, Value.int IntKind.i64 x, Value.string s, Value.slice a l.length cap] := by subst hW; exact (Is.new _ _ _).alloc _
  have q2 : Is W0 (w.heap.size + 1) 33 #[.func (.func 146) #[] #[]] := by subst hW; exact Is.new2 _ _ _ _
  have H0 := Lib.hid (show Below w.heap.size w W0 from by subst hW; exact below2 _ _ _)
  have hs0 : W0.heap.size = w.heap.size + 2 := by subst hW; simp
  clear hW
  refine (HPT.out W0 (HR.out.below H0.out hB) trivial (HE.out.step (H0.out.mono hB)) (by omega)).mono ?_
  rintro e w2 ⟨rfl, hb2⟩
  have hs2 := hb2.size
  have p1 := q1.below hb2 (by omega)
  have p2 := q2.below hb2 (by omega)
  obtain ⟨r0, r1, r2, r3, r4⟩ := p1.cells5
  have l1 : w.heap.size < w2.heap.size := by omega
  have HB2 := Lib.hid (H0.out.trans (hb2.mono (by omega)))
  clear HPT
  cases hv : packB (.mk k n x s l) with
  | false =>
   have HD := Lib.hid (show allB packB (.mk k n x s l) = false from by rw [HALL.out, hv]; rfl)
   clear hv HALL
   go_wp2_with fail
   go_ret
   exact ⟨ret_b (by rw [HD.out]), HB2.out⟩
  | true =>
   have HD := Lib.hid (show allB packB (.mk k n x s l) = !(l.any fun x => !allB packB x) from by rw [HALL.out, hv]; simp only [T.l, Bool.true_and]; exact (any_not_all _ _).symm)
   clear hv HALL
   have H1 : ∀ t ∈ l, ∀ (a : Option Addr) (cap : Nat) (w' : World), Below w2.heap.size w2 w' → R w' B a cap t.l → Wf t → Calls Tryz.prog 119 #[.agg (cV t a cap), .pointer (some ⟨w.heap.size + 1, 0, none⟩)] w' fun e v => e = .returned (.bool (!allB packB t)) ∧ Below w'.heap.size w' v := by
    intro t ht a3 cap3 w' hb3 hr3 hwf3
    obtain ⟨i, hi, rfl⟩ := List.mem_iff_getElem.1 ht
    have hszi := T.sz_get l i hi
    have hs3 := hb3.size
    have t2 := p2.below hb3 (by omega)
    have c0 := t2.cell 0 rfl
    simp only [List.getElem_toArray, List.getElem_cons_zero] at c0
    have l2 : w.heap.size + 1 < w'.heap.size := by omega
    have HWF := Lib.hid hwf3; clear hwf3
    have HR3 := Lib.hid hr3; clear hr3
    have HB3 := Lib.hid (HB2.out.trans (hb3.mono (by omega)))
    clear hb3 p1 q1 q2 r0 r1 r2 r3 r4 ht
    go_enter Tryz.func119, Tryz.ntmps119
    go_wp2_with fail
    refine (IH.out l[i] (List.getElem_mem hi) a3 cap3 B _ (HR3.out.below (below1 _ _) (by omega)) HWF.out (by omega) (HE.out.step ((HB3.out.mono hB).trans ((below1 _ _).mono (by omega)))) (by simp; omega)).mono ?_
    rintro e w5 ⟨rfl, hb5⟩
    go_wp2_with fail
    go_ret
    exact ⟨rfl, below_step (below1 _ _) hb5 (by simp)⟩
   have cC := has_every_1 (fun x => !allB packB x) (w.heap.size + 1) l a cap B w2 (HR.out.below HB2.out hB) (by omega) H1
   have CC := Lib.hid cC; clear cC H1
   generalize (l.any fun x => !allB packB x) = r at *
   go_wp2_with fail
   refine CC.out.mono ?_
   rintro e w6 ⟨rfl, hb6⟩
   go_wp2_with fail
   go_ret
   exact ⟨ret_b (by rw [HD.out]), HB2.out.trans (hb6.mono (by omega))⟩
set_option maxHeartbeats 1000000 in
theorem impl_FitsPacked (t : T) (a : Option Addr) (cap B : Nat) (w : World) (hr : R w B a cap t.l) (hwf : Wf t) (hsz : T.sz t ≤ 1048576) (he : Env B w) (hB : B ≤ w.heap.size) :
  Calls Tryz.prog 88 #[.agg (cV t a cap)] w fun e w' => e = .returned (.bool (allB ownB t && allB packB t)) ∧ Below w.heap.size w w' := by
 have HR := Lib.hid hr; clear hr
 have HE := Lib.hid he; clear he
 have HWF := Lib.hid hwf; clear hwf
 have H0 := Lib.hid (below1 w (.cells (cV t a cap) 26))
 have q0 := Is.new w (cV t a cap) 26
 go_enter Tryz.func88, Tryz.ntmps88
 go_wp2_with fail
 refine (impl_ValOk t a cap B _ (HR.out.below H0.out hB) HWF.out hsz (HE.out.step (H0.out.mono hB)) (by simp; omega)).mono ?_
 rintro e w1 ⟨rfl, hb1⟩
 have HB1 := Lib.hid (below_step H0.out hb1 (by simp))
 have p1 := q0.below hb1 (by simp)
 obtain ⟨r0, r1, r2, r3, r4⟩ := p1.cells5
 have l1 : w.heap.size < w1.heap.size := by have := hb1.size; simp at this; omega
 clear hb1
 cases hv : allB ownB t with
 | false =>
  have HV := Lib.hid hv; clear hv
  go_wp2_with fail
  go_ret
  exact ⟨ret_b (by rw [HV.out]; rfl), HB1.out⟩
 | true =>
  have HV := Lib.hid hv; clear hv
  have HC := Lib.hid (every_pack (fun t a cap B w h1 h2 h3 h4 h5 => impl_pack t a cap B w h1 h2 h3 h4 h5) t a cap B w1 (HR.out.below HB1.out hB) HWF.out hsz (HE.out.step (HB1.out.mono hB)) (by omega))
  go_wp2_with fail
  refine HC.out.mono ?_
  rintro e w2 ⟨rfl, hb2⟩
  go_wp2_with fail
  go_ret
  exact ⟨ret_b (by rw [HV.out]; rfl), HB1.out.trans (hb2.mono HB1.out.size)⟩
theorem run_appStr {P : Program} (w : World) (t u ty : TypeId) {e : TypeId} (ht : P.underlying t = some (.slice e)) (hu : P.underlying u = some .string) (hinfo : (P.info? e).map (fun i => (i.zero, i.size, i.bytes)) = some (some (.int .u8 0), 1, 1))
  (rlo : Nat) (a : Option Addr) (cap : Nat) (l : List Int) (hl : ∀ x ∈ l, U8 x) (happ : AppL EByte 1 e w rlo a cap l []) (hlo : rlo ≤ w.heap.size) (s : ByteArray) (hbytes : l.length + s.size ≤ 140737488355328) :
  ∃ a' cap' w', (Builtin.append_ #[t, u] ty #[.slice a l.length cap, .string s]).run P w = .ok (.slice a' (l ++ byteL s).length cap') w' ∧ AppL EByte 1 e w' rlo a' cap' (l ++ byteL s) [] ∧ Below rlo w w' ∧
   (∀ f, f < w.heap.size → (∀ k, (Value.slice a l.length cap).ownBlock = some k → f ≠ k) → w'.heap[f]? = w.heap[f]?) ∧ w.heap.size ≤ w'.heap.size := by
 obtain ⟨i, hi', hz0, hz1, hz2⟩ := info_parts hinfo
 obtain ⟨xs, q1, q2, q3⟩ := happ.owns
 have hxs : xs = l.map (Value.int .u8) := by
  rcases happ with ⟨rfl, rfl, rfl, _⟩ | ⟨g, cur, rfl, h1, h3, h4, h5, h6, h7, h8⟩
  ·exact List.eq_nil_of_length_eq_zero (by simpa using q2)
  ·apply List.ext_getElem?
   intro j
   by_cases hj : j < l.length
   ·obtain ⟨F', hv, _⟩ := h7.get j hj
    have := q3 g rfl j (by omega)
    rw [← this]
    have hv2 := hv.2.1
    rw [Nat.mul_one] at hv2
    rw [hv2]; simp [hj]
   ·rw [List.getElem?_eq_none (by omega), List.getElem?_eq_none (by simp; omega)]
 subst hxs
 obtain ⟨v', w', hrun, hown, hgr, _⟩ := Lib.run_append_own_string (P := P) w rlo t u ty e i ht hu hi' hz0 hz1 hz2 (.slice a l.length cap) l.length (l.map (Value.int .u8)) q1 s (by unfold maxLen; omega) hbytes hlo
 rw [← byteL_cells, ← List.map_append] at hown
 obtain ⟨a', cap', rfl, happ'⟩ := appL_bytes (fun x hx => by rcases List.mem_append.1 hx with h | h; exact hl x h; exact byteL_u8 s x h) (by rw [List.length_append, byteL_len]) hown
 have hlow : ∀ k, (Value.slice a l.length cap).ownBlock = some k → rlo ≤ k := fun k hk => (by
  rcases happ with ⟨rfl, rfl, rfl, _⟩ | ⟨g, cur, rfl, k1, _⟩
  ·simp [Value.ownBlock] at hk
  ·simp only [Value.ownBlock, Option.some.injEq] at hk; omega)
 exact ⟨a', cap', w', hrun, happ', ⟨hgr.os, hgr.tape, hgr.output, hgr.size, fun f hf => hgr.block f (by omega) (fun e => by have := hlow f e.symm; omega)⟩, fun f hf hne => hgr.block f hf (fun e => hne f e.symm rfl), hgr.size⟩
def intW (n : Int) : Nat := if -128 ≤ n then 1 else if -32768 ≤ n then 2 else if -2147483648 ≤ n then 4 else 8
def bitsW (w : Int) : Int := if w = 1 then 1 else if w = 2 then 2 else if w = 4 then 3 else 4
def putIntL (n : Int) : List Int :=
 if -32 ≤ n ∧ n ≤ 127 then [n % 256] else if 0 ≤ n then (203 + bitsW (widthD n)) :: bigL n (widthD n).toNat else (207 + bitsW (intW n)) :: bigL n (intW n)
def putManyL (n few base short long : Int) : List Int :=
 if n < few then [base + n] else if n < 256 ∧ 0 < short then short :: bigL n 1 else long :: bigL n 2
def markL (k n : Int) : List Int :=
 if markOkD k n = false then [] else if k = 1 then [192] else if k = 2 then [194 + n] else if k = 3 then putIntL n else if k = 4 then 202 :: bigL n 4
 else if k = 5 then [212, 1, n] else if k = 7 then putManyL n 32 160 217 218 else if k = 8 then putManyL n 0 0 196 197 else if k = 9 then putManyL n 16 144 0 220 else putManyL n 16 128 0 222
mutual
def packK : T → List Int
 | .mk k n x s l =>
  if markOkD (markForD (.mk k n x s l)).1 (markForD (.mk k n x s l)).2 = false then []
  else markL (markForD (.mk k n x s l)).1 (markForD (.mk k n x s l)).2 ++ (if k = 7 ∨ k = 8 then byteL s else if k = 9 ∨ k = 10 then packKs l else [])
def packKs : List T → List Int
 | [] => []
 | t :: r => packK t ++ packKs r
end
theorem packKs_append (a b : List T) : packKs (a ++ b) = packKs a ++ packKs b := by
 induction a with
 | nil => rfl
 | cons t r ih => rw [List.cons_append, packKs, packKs, ih, List.append_assoc]
theorem packKs_succ (l : List T) (j : Nat) (h : j < l.length) : packKs (l.take (j + 1)) = packKs (l.take j) ++ packK l[j] := by
 rw [take_snoc l j h, packKs_append]; simp [packKs]
theorem putIntL_len (n : Int) : (putIntL n).length ≤ 9 := by
 unfold putIntL
 split
 ·simp
 split
 ·rw [List.length_cons, bigL_len]; unfold widthD; rw [if_neg (by omega)]; repeat' split
  all_goals simp
 ·rw [List.length_cons, bigL_len]; unfold intW; repeat' split
  all_goals simp
theorem putManyL_len (n few base short long : Int) : (putManyL n few base short long).length ≤ 3 := by
 unfold putManyL
 split
 ·simp
 split
 ·rw [List.length_cons, bigL_len]; omega
 ·rw [List.length_cons, bigL_len]; omega
theorem markL_len (k n : Int) : (markL k n).length ≤ 9 := by
 have h1 := putIntL_len n
 have h2 := putManyL_len n 32 160 217 218
 have h3 := putManyL_len n 0 0 196 197
 have h4 := putManyL_len n 16 144 0 220
 have h5 := putManyL_len n 16 128 0 222
 unfold markL
 repeat' split
 all_goals first
  | omega
  | (simp; done)
  | (rw [List.length_cons, bigL_len]; omega)
theorem packK_len : ∀ t : T, (packK t).length ≤ 9 + 10 * T.sz t := by
 apply T.ind
 intro k n x s l ih
 have hl : ∀ r : List T, (∀ t ∈ r, t ∈ l) → (packKs r).length ≤ 10 * T.szL r := by
  intro r
  induction r with
  | nil => intro _; simp [packKs]
  | cons t r ihr =>
   intro hm
   have h1 := ih t (hm t (List.mem_cons_self ..))
   have h2 := ihr (fun u hu => hm u (List.mem_cons_of_mem _ hu))
   rw [packKs, List.length_append]; simp only [T.szL]; omega
 have hl2 := hl l (fun _ h => h)
 have hb := byteL_len s
 have hm := markL_len (markForD (.mk k n x s l)).1 (markForD (.mk k n x s l)).2
 rw [packK]
 simp only [T.sz]
 split
 ·simp
 ·rw [List.length_append]
  split
  ·omega
  split
  ·omega
  ·simp only [List.length_nil]; omega
theorem packKs_len (l : List T) : (packKs l).length ≤ 10 * T.szL l := by
 induction l with
 | nil => simp [packKs]
 | cons t r ih => rw [packKs, List.length_append]; simp only [T.szL]; have := packK_len t; omega
theorem row_laid (W : World) (e : TypeId) : ∀ (vs pre : List Int), (∀ v ∈ vs, U8 v) → Row EByte 1 (W.alloc (.cells ((pre ++ vs).map (Value.int .u8)).toArray e)) W.heap.size pre.length vs []
 | [], _, _ => rfl
 | v :: r, pre, hu => by
  refine ⟨[], [], rfl, ⟨rfl, ?_, hu v (List.mem_cons_self ..)⟩, ?_⟩
  ·exact (Is.new W _ e).cell _ (by simp)
  ·have := row_laid W e r (pre ++ [v]) (fun x hx => hu x (List.mem_cons_of_mem _ hx))
   rw [List.append_assoc] at this
   simpa using this
section
variable {e : TypeId}
theorem wpList_bytes {P : Program} {W : World} {cs : Array Value} {ops : Array Oper} {rest : List Oper} {o : Oper} {act : Act} {Q : Exit → Act → World → Prop} (hgd : o.guard = none) (s x : Operand) (t : TypeId)
  (ho : o.op = .call { callee := .builtin .append, args := #[s, x], argTypes := #[t, t] }) (ht : P.underlying t = some (.slice e)) (hinfo : (P.info? e).map (fun i => (i.zero, i.size, i.bytes)) = some (some (.int .u8 0), 1, 1))
  (rlo : Nat) (a : Option Addr) (len cap : Nat) (l : List Int) (hs : act.eval s = .slice a len cap) (hlen : len = l.length) (happ : AppL EByte 1 e W rlo a cap l []) (hlo : rlo ≤ W.heap.size) (vs : List Int) (g m c : Nat)
  (hx : act.eval x = .slice (some ⟨g, 0, none⟩) m c) (hg : g = W.heap.size) (hm : m = vs.length) (hcs : cs = (vs.map (Value.int .u8)).toArray) (hu : ∀ v ∈ vs, U8 v) (hne : 0 < vs.length) (hz : l.length + vs.length ≤ 1099511627776)
  (h : ∀ a' cap' w', AppL EByte 1 e w' rlo a' cap' (l ++ vs) [] → Below rlo W w' → wpList P ops Q rest (act.put o.dst (.slice a' (l ++ vs).length cap')) w') : wpList P ops Q (o :: rest) act (W.alloc (.cells cs e)) := by
 subst hlen hm hcs hg
 have hr := row_laid W e vs [] hu
 rw [List.nil_append] at hr
 exact wpList_appX EByte.elem hgd s x t ho (.int .u8 0) 1 ht hinfo rfl rlo a cap l [] hs (happ.agree EByte.elem (fun f hf => (below1 W _).block f hf) hlo) (by rw [size_alloc]; omega) W.heap.size 0 vs.length c vs [] hx rfl hr (by simp) hne (by unfold maxLen; omega) (by omega) (fun a' cap' w' h1 h2 _ _ _ => h a' cap' w' h1 (((below1 W _).mono hlo).trans h2))
end
end Go.Proofs.YtggdenkmohnijaaGreatDoor
