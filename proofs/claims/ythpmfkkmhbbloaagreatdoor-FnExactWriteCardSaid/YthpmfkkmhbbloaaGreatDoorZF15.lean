/- Texts of this proof, merged: Mark2. No condition beyond what each theorem states. -/
import Derived.Test.YthpmfkkmhbbloaaGreatDoorRows
import Derived.WalkKit
import Derived.ProofKit
import Derived.OpenShut
import Derived.Handy
import Derived.Lib.Hide
import Derived.Lib.SmallJoins
import Derived.Deep.RegionHeld3
import Derived.Deep.QuietTactic
import Derived.BigQuiet
import Derived.Test.YthpmfkkmhbbloaaGreatDoorZF1
import Derived.Test.YthpmfkkmhbbloaaGreatDoorZF2
import Derived.Test.YthpmfkkmhbbloaaGreatDoorZF3
import Derived.Test.YthpmfkkmhbbloaaGreatDoorZF7
import Derived.Test.YthpmfkkmhbbloaaGreatDoorZF9
import Derived.Test.YthpmfkkmhbbloaaGreatDoorZF10
import Derived.Test.YthpmfkkmhbbloaaGreatDoorZF4
import Derived.Test.YthpmfkkmhbbloaaGreatDoorZF5
import Derived.Test.YthpmfkkmhbbloaaGreatDoorZF14
import Derived.Test.YthpmfkkmhbbloaaGreatDoorZF11
import Derived.Test.YthpmfkkmhbbloaaGreatDoorZF12
set_option linter.unusedSimpArgs false
set_option linter.unnecessarySimpa false
namespace Go.Proofs.YthpmfkkmhbbloaaGreatDoor
open Go.ChangeShapes Go.WideShapes Go.ChangeAt Go.RowKit Go.Joins
set_option linter.unusedVariables false
set_option maxRecDepth 100000
/-! ### Marks: no program in sight -/
def bitsFltD (n : Int) : (Int × Int) × Bool := if 0 ≤ n ∧ n ≤ 33554431 then fltNewD (if 16777216 ≤ n then -(n % 65536) else n % 65536) (n / 65536 % 256 - 16) else ((0, 0), false)
def markOkD (k n : Int) : Bool :=
  if k = 1 then decide (n = 0) else if k = 2 then decide (0 ≤ n ∧ n ≤ 1) else if k = 3 then decide (-1000000000000000 ≤ n ∧ n ≤ 1000000000000000)
  else if k = 4 then ((bitsFltD n).2 && decide (fltBitsD (bitsFltD n).1.1 (bitsFltD n).1.2 = n)) else if k = 5 then decide (0 ≤ n ∧ n ≤ 2)
  else if k = 7 ∨ k = 8 ∨ k = 9 ∨ k = 10 then decide (0 ≤ n ∧ n ≤ 65535) else false
def markForD (t : T) : Int × Int :=
  if t.k = 1 ∨ t.k = 2 ∨ t.k = 3 ∨ t.k = 5 then (t.k, t.n) else if t.k = 4 then (4, fltBitsD t.n t.x) else if t.k = 7 ∨ t.k = 8 then (t.k, t.s.size)
  else if t.k = 9 then (9, t.l.length) else if t.k = 10 then (10, ((t.l.length / 2 : Nat) : Int)) else (0, 0)
theorem bitsFltD_i64 (n : Int) : I64 (bitsFltD n).1.1 ∧ I64 (bitsFltD n).1.2 := by
  unfold bitsFltD
  split
  · have h := fltOk_in (fltNewD_ok (if 16777216 ≤ n then -(n % 65536) else n % 65536) (n / 65536 % 256 - 16))
    exact ⟨⟨by omega, by omega⟩, ⟨by omega, by omega⟩⟩
  · exact ⟨⟨by decide, by decide⟩, ⟨by decide, by decide⟩⟩
abbrev cM (k n : Int) : Array Value := #[Value.int IntKind.i64 k, Value.int IntKind.i64 n]
set_option maxHeartbeats 4000000 in
theorem spec_BitsFlt (n : Int) (w : World) (hn : I64 n) :
    Calls Tryz.prog 103 #[.int .i64 n] w fun ee w' => ee = .returned (.tuple #[.agg (cF (bitsFltD n).1.1 (bitsFltD n).1.2), .bool (bitsFltD n).2]) ∧ Below w.heap.size w w' := by
  have q0 := Is.new w (cF 0 0) 56
  have ff := fun i => q0.frozen i
  obtain ⟨z0, z1⟩ := q0.cells2
  have lg : w.heap.size < (w.alloc (.cells (cF 0 0) 56)).heap.size := by simp
  by_cases hA : 0 ≤ n ∧ n ≤ 33554431
  case neg =>
    have HD := Lib.hid (show bitsFltD n = ((0, 0), false) from if_neg hA)
    have DA := Lib.hid (show decide (0 ≤ n ∧ n ≤ 33554431) = false from decide_eq_false hA)
    clear hA
    go_enter Tryz.func103, Tryz.ntmps103
    go_wp2_with (go_at_call 63; refine (spec_l1InE _ _ _ _).mono ?_; rintro ee w2 ⟨rfl, rfl⟩; rw [DA.out])
    obtain ⟨e0, e1⟩ := q0.cells2
    refine bodyPost_ret (v := .tuple #[.agg #[.int .i64 (0), .int .i64 (0)], .bool false]) (by simp [results, Tryz.results103, go_sem, e0, e1]) rfl ⟨by rw [HD.out], below1 _ _⟩
  have DA := Lib.hid (show decide (0 ≤ n ∧ n ≤ 33554431) = true from decide_eq_true hA)
  have HD0 := Lib.hid (show bitsFltD n = fltNewD (if 16777216 ≤ n then -(n % 65536) else n % 65536) (n / 65536 % 256 - 16) from if_pos hA)
  obtain ⟨a0, a1⟩ := hA
  have t1 : Int.tmod n 65536 = n % 65536 := Int.tmod_eq_emod_of_nonneg a0
  have t2 : Int.tdiv n 65536 = n / 65536 := Int.tdiv_eq_ediv_of_nonneg a0
  have t3 : Int.tmod (n / 65536) 256 = n / 65536 % 256 := Int.tmod_eq_emod_of_nonneg (by omega)
  have T1 := Lib.hid t1; have T2 := Lib.hid t2; have T3 := Lib.hid t3
  by_cases hS : 16777216 ≤ n
  all_goals
    have HD := Lib.hid HD0.out
    first | rw [if_pos hS] at HD | rw [if_neg hS] at HD
    clear HD0
    go_enter Tryz.func103, Tryz.ntmps103
    go_wp2_with (go_at_call 63; refine (spec_l1InE _ _ _ _).mono ?_; rintro ee w2 ⟨rfl, rfl⟩; rw [DA.out])
    (try simp only [T1.out, T2.out, T3.out])
    refine (spec_FltNew _ (n / 65536 % 256 - 16) _ ⟨by omega, by omega⟩ ⟨by omega, by omega⟩).mono ?_
    rintro ee w2 ⟨rfl, hb2⟩
    rw [← HD.out]
    obtain ⟨⟨⟨x, y⟩, ok⟩, hxy⟩ : ∃ r, bitsFltD n = r := ⟨_, rfl⟩
    rw [hxy]
    have HXY := Lib.hid hxy; clear hxy
    have p2 := q0.below hb2 lg
    have ff2 := fun i => p2.frozen i
    obtain ⟨y0, y1⟩ := p2.cells2
    have hl2 : w.heap.size < w2.heap.size := p2.lt
    have HB2 := Lib.hid ((below1 w _).trans (hb2.mono (by simp)))
    clear z0 z1 ff hb2 q0 lg
    go_wp2_with fail
    obtain ⟨e0, e1⟩ := ((p2.set 0 (.int .i64 x)).set 1 (.int .i64 y)).cells2
    refine bodyPost_ret (v := .tuple #[.agg #[.int .i64 x, .int .i64 y], .bool ok]) (by simp [results, Tryz.results103, go_sem, e0, e1]) rfl ⟨by rw [HXY.out], HB2.out.trans ((below2s _ _ _ _).mono (Nat.le_refl _))⟩
set_option maxHeartbeats 4000000 in
theorem spec_MarkFor (t : T) (a : Option Addr) (cap B : Nat) (w : World) (hr : R w B a cap t.l) (hwf : Wf t) (hB : B ≤ w.heap.size) :
    Calls Tryz.prog 71 #[.agg (cV t a cap)] w fun e w' => e = .returned (.agg (cM (markForD t).1 (markForD t).2)) ∧ Below w.heap.size w w' := by
  obtain ⟨k, n, x, s, l⟩ := t
  obtain ⟨hwk, hwn, hwx, hws⟩ := hwf
  obtain ⟨hl1, hl2⟩ := hr.len
  have HN := Lib.hid hwn
  have HX := Lib.hid hwx
  simp only [cV, T.k, T.n, T.x, T.s, T.l] at hwk hwn hwx hws hl1 hl2 HN HX ⊢
  have q1 := (Is.new w (cV (.mk k n x s l) a cap) 29).alloc (.cells (cM 0 0) 49)
  have q2 := Is.new2 w (.cells (cV (.mk k n x s l) a cap) 29) (cM 0 0) 49
  have H0 := Lib.hid (below2 w (.cells (cV (.mk k n x s l) a cap) 29) (.cells (cM 0 0) 49))
  simp only [cV, T.k, T.n, T.x, T.s, T.l] at q1 q2 H0
  obtain ⟨c0, c1, c2', c3, c4⟩ := q1.cells5
  obtain ⟨z0, z1⟩ := q2.cells2
  have ff := fun i => q2.frozen i
  have lg := q1.lt
  have lg2 := q2.lt
  have hq : Int.tdiv (l.length : Int) 2 = ((l.length / 2 : Nat) : Int) := by rw [Int.tdiv_eq_ediv_of_nonneg (by omega)]; omega
  clear hwn hwx hws hr
  by_cases h1 : k = 1 ∨ k = 2 ∨ k = 3 ∨ k = 5
  · have HD := Lib.hid (show markForD (.mk k n x s l) = (k, n) from if_pos h1)
    obtain rfl | rfl | rfl | rfl := h1
    · go_enter Tryz.func71, Tryz.ntmps71
      go_wp2_with fail
      obtain ⟨e0, e1⟩ := (Is.new2 w (.cells #[.int .i64 1, .int .i64 n, .int .i64 x, .string s, .slice a l.length cap] 29) #[.int .i64 1, .int .i64 n] 49).cells2
      refine bodyPost_ret (v := .agg #[.int .i64 (1), .int .i64 n]) (by simp [results, Tryz.results71, go_sem, e0, e1]) rfl ⟨by rw [HD.out], below2 _ _ _⟩
    · go_enter Tryz.func71, Tryz.ntmps71
      go_wp2_with fail
      obtain ⟨e0, e1⟩ := (Is.new2 w (.cells #[.int .i64 2, .int .i64 n, .int .i64 x, .string s, .slice a l.length cap] 29) #[.int .i64 2, .int .i64 n] 49).cells2
      refine bodyPost_ret (v := .agg #[.int .i64 (2), .int .i64 n]) (by simp [results, Tryz.results71, go_sem, e0, e1]) rfl ⟨by rw [HD.out], below2 _ _ _⟩
    · go_enter Tryz.func71, Tryz.ntmps71
      go_wp2_with fail
      obtain ⟨e0, e1⟩ := (Is.new2 w (.cells #[.int .i64 3, .int .i64 n, .int .i64 x, .string s, .slice a l.length cap] 29) #[.int .i64 3, .int .i64 n] 49).cells2
      refine bodyPost_ret (v := .agg #[.int .i64 (3), .int .i64 n]) (by simp [results, Tryz.results71, go_sem, e0, e1]) rfl ⟨by rw [HD.out], below2 _ _ _⟩
    · go_enter Tryz.func71, Tryz.ntmps71
      go_wp2_with fail
      obtain ⟨e0, e1⟩ := (Is.new2 w (.cells #[.int .i64 5, .int .i64 n, .int .i64 x, .string s, .slice a l.length cap] 29) #[.int .i64 5, .int .i64 n] 49).cells2
      refine bodyPost_ret (v := .agg #[.int .i64 (5), .int .i64 n]) (by simp [results, Tryz.results71, go_sem, e0, e1]) rfl ⟨by rw [HD.out], below2 _ _ _⟩
  by_cases h4 : k = 4
  · have HD := Lib.hid (show markForD (.mk k n x s l) = (4, fltBitsD n x) from (if_neg h1).trans (if_pos h4))
    subst h4
    go_enter Tryz.func71, Tryz.ntmps71
    go_wp2_with fail
    generalize hW : (w.alloc (Obj.cells _ 29)).alloc (Obj.cells _ 49) = W0 at *
    have hs0 : W0.heap.size = w.heap.size + 2 := by rw [← hW]; simp
    clear hW
    refine wp_region_held_drew (S := fun w' => (∀ b o, b < w.heap.size + 1 → w'.cell? ⟨b, o, none⟩ = W0.cell? ⟨b, o, none⟩) ∧ Below (w.heap.size + 1) W0 w') (by kernel_rfl) (by first | exact ⟨fun _ _ _ => rfl, (Below.refl _ _).drew⟩ | exact keep_step (by assumption) (Below.drew (Below.refl _ _)) (Nat.le_refl _) | exact keep_step (by assumption) (by assumption) (by first | omega | (simp only [World.size_drew]; omega) | (simp only [size_alloc]; omega) | (simp only [World.size_drew, size_alloc]; omega) | (have := (‹(_ ∧ Below (w.heap.size + 1) W0 _)›).2.size; first | omega | (simp only [World.size_drew]; omega) | (simp only [size_alloc]; omega) | (simp only [World.size_drew, size_alloc]; omega) | (simp only [World.size_drew] at this; omega) | (simp only [size_alloc] at this; omega) | (simp only [World.size_drew, size_alloc] at this; omega)))) (fun hHeld => ?_)
    refine wpAnyH_take (i := 0) (oi := ⟨some 17, _, _, _, _, _⟩) (v := ?_) rfl (by kernel_rfl) (by kernel_rfl) (by kernel_rfl) (fun _ _ _ h => h) (Or.inl ⟨by rfl, ?_⟩) (by assumption) ?_
    rotate_left 1
    · (intro w hSw; (try dsimp only at hSw); go_simp; try (with_reducible rfl))
    try simp only [Act.put, List.setIfInBounds_toArray, List.set_cons_zero, List.set_cons_succ]
    refine wpAnyH_take (i := 1) (oi := ⟨some 18, _, _, _, _, _⟩) (v := ?_) rfl (by kernel_rfl) (by kernel_rfl) (by kernel_rfl) (fun _ _ _ h => h) (Or.inl ⟨by rfl, ?_⟩) (by assumption) ?_
    rotate_left 1
    · (intro w hSw; (try dsimp only at hSw); go_simp; try (with_reducible rfl))
    try simp only [Act.put, List.setIfInBounds_toArray, List.set_cons_zero, List.set_cons_succ]
    refine wpAnyH_take (i := 2) (oi := ⟨some 19, _, _, _, _, _⟩) (v := ?_) rfl (by kernel_rfl) (by kernel_rfl) (by kernel_rfl) (fun _ _ _ h => h) (Or.inl ⟨by rfl, ?_⟩) (by assumption) ?_
    rotate_left 1
    · (intro w hSw; (try dsimp only at hSw); go_simp; try (with_reducible rfl))
    try simp only [Act.put, List.setIfInBounds_toArray, List.set_cons_zero, List.set_cons_succ]
    refine wpAnyH_take (i := 3) (oi := ⟨some 20, _, _, _, _, _⟩) (v := ?_) rfl (by kernel_rfl) (by kernel_rfl) (by kernel_rfl) (fun _ _ _ h => h) (Or.inl ⟨by rfl, ?_⟩) (by assumption) ?_
    rotate_left 1
    · (intro w hSw; (try dsimp only at hSw); go_simp; try (with_reducible rfl))
    try simp only [Act.put, List.setIfInBounds_toArray, List.set_cons_zero, List.set_cons_succ]
    refine wpAnyH_take (i := 4) (oi := ⟨some 21, _, _, _, _, _⟩) (v := ?_) rfl (by kernel_rfl) (by kernel_rfl) (by kernel_rfl) (fun _ _ _ h => h) (Or.inl ⟨by rfl, ?_⟩) (by assumption) ?_
    rotate_left 1
    · (intro w hSw; (try dsimp only at hSw); go_simp; try (with_reducible rfl))
    try simp only [Act.put, List.setIfInBounds_toArray, List.set_cons_zero, List.set_cons_succ]
    refine wpAnyH_take (i := 5) (oi := ⟨some 22, _, _, _, _, _⟩) (v := ?_) rfl (by kernel_rfl) (by kernel_rfl) (by kernel_rfl) (fun _ _ _ h => h) (Or.inl ⟨by rfl, ?_⟩) (by assumption) ?_
    rotate_left 1
    · (intro w hSw; (try dsimp only at hSw); go_simp; try (with_reducible rfl))
    try simp only [Act.put, List.setIfInBounds_toArray, List.set_cons_zero, List.set_cons_succ]
    refine wpAnyH_take (i := 6) (oi := ⟨some 23, _, _, _, _, _⟩) (v := ?_) rfl (by kernel_rfl) (by kernel_rfl) (by kernel_rfl) (fun _ _ _ h => h) (Or.inl ⟨by rfl, ?_⟩) (by assumption) ?_
    rotate_left 1
    · (intro w hSw; (try dsimp only at hSw); go_simp; try (with_reducible rfl))
    try simp only [Act.put, List.setIfInBounds_toArray, List.set_cons_zero, List.set_cons_succ]
    refine wpAnyH_ready (rs := [7]) (by kernel_rfl) (by simp) ?_
    refine AllReadyH.cons (o := ⟨some 24, _, _, _, _, _⟩) rfl (fun K hK => ?_) AllReadyH.nil
    go_simp
    ((go_at_call 88; refine (spec_FltBits n x _ HN.out HX.out).mono ?_; rintro e w3 ⟨rfl, hb3⟩; have hsz3 := hb3.size; (try simp only [World.size_drew] at hsz3); have P3 := q2.agree (show w3.heap[w.heap.size + 1]? = W0.heap[w.heap.size + 1]? from hb3.block _ (by first | omega | (simp only [World.size_drew]; omega))); have ff3 := fun i => P3.frozen i; obtain ⟨y0, y1⟩ := P3.cells2; have hl3 := P3.lt))
    go_wp2_with fail
    refine hK.out _ _ (by first | exact ⟨fun _ _ _ => rfl, (Below.refl _ _).drew⟩ | exact keep_step (by assumption) (Below.drew (Below.refl _ _)) (Nat.le_refl _) | exact keep_step (by assumption) (by assumption) (by first | omega | (simp only [World.size_drew]; omega) | (simp only [size_alloc]; omega) | (simp only [World.size_drew, size_alloc]; omega) | (have := (‹(_ ∧ Below (w.heap.size + 1) W0 _)›).2.size; first | omega | (simp only [World.size_drew]; omega) | (simp only [size_alloc]; omega) | (simp only [World.size_drew, size_alloc]; omega) | (simp only [World.size_drew] at this; omega) | (simp only [size_alloc] at this; omega) | (simp only [World.size_drew, size_alloc] at this; omega)))) (fun hHeld => ?_)
    clear hK K
    try simp only [Act.put, List.setIfInBounds_toArray, List.set_cons_zero, List.set_cons_succ]
    refine wpAnyH_take (i := 8) (oi := ⟨some 25, _, _, _, _, _⟩) (v := ?_) rfl (by kernel_rfl) (by kernel_rfl) (by kernel_rfl) (fun _ _ _ h => h) (Or.inl ⟨by rfl, ?_⟩) (by assumption) ?_
    rotate_left 1
    · (intro w hSw; (try dsimp only at hSw); go_simp; try (with_reducible rfl))
    try simp only [Act.put, List.setIfInBounds_toArray, List.set_cons_zero, List.set_cons_succ]
    refine wpAnyH_ready (rs := [9]) (by kernel_rfl) (by simp) ?_
    refine AllReadyH.cons (o := ⟨none, _, _, _, _, _⟩) rfl (fun K hK => ?_) AllReadyH.nil
    focus (go_simp; go_wp2_with fail; refine hK.out _ _ (by exact keep_step (by assumption) (below2s _ _ _ _) (by omega)) (fun hHeld => ?_); clear hK K; try simp only [Act.put])
    refine wpAnyH_done (by kernel_rfl) ?_ _
    have hBB := (‹_ ∧ Below (w.heap.size + 1) W0 _›).2
    go_wp2_with fail
    obtain ⟨e0, e1⟩ := ((P3.set 0 (.int .i64 4)).set 1 (.int .i64 (fltBitsD n x))).cells2
    refine bodyPost_ret (v := .agg #[.int .i64 4, .int .i64 (fltBitsD n x)]) (by simp [results, Tryz.results71, go_sem, e0, e1]) rfl ⟨by rw [HD.out], H0.out.trans (hBB.mono (by omega))⟩
  by_cases h7 : k = 7 ∨ k = 8
  · have HD := Lib.hid (show markForD (.mk k n x s l) = (k, (s.size : Int)) from (if_neg h1).trans ((if_neg h4).trans (if_pos h7)))
    obtain rfl | rfl := h7
    · go_enter Tryz.func71, Tryz.ntmps71
      go_wp2_with fail
      obtain ⟨e0, e1⟩ := (Is.new2 w (.cells #[.int .i64 7, .int .i64 n, .int .i64 x, .string s, .slice a l.length cap] 29) #[.int .i64 7, .int .i64 s.size] 49).cells2
      refine bodyPost_ret (v := .agg #[.int .i64 (7), .int .i64 s.size]) (by simp [results, Tryz.results71, go_sem, e0, e1]) rfl ⟨by rw [HD.out], below2 _ _ _⟩
    · go_enter Tryz.func71, Tryz.ntmps71
      go_wp2_with fail
      obtain ⟨e0, e1⟩ := (Is.new2 w (.cells #[.int .i64 8, .int .i64 n, .int .i64 x, .string s, .slice a l.length cap] 29) #[.int .i64 8, .int .i64 s.size] 49).cells2
      refine bodyPost_ret (v := .agg #[.int .i64 (8), .int .i64 s.size]) (by simp [results, Tryz.results71, go_sem, e0, e1]) rfl ⟨by rw [HD.out], below2 _ _ _⟩
  by_cases h9 : k = 9
  · have HD := Lib.hid (show markForD (.mk k n x s l) = (9, (l.length : Int)) from (if_neg h1).trans ((if_neg h4).trans ((if_neg h7).trans (if_pos h9))))
    subst h9
    go_enter Tryz.func71, Tryz.ntmps71
    go_wp2_with fail
    obtain ⟨e0, e1⟩ := (Is.new2 w (.cells #[.int .i64 9, .int .i64 n, .int .i64 x, .string s, .slice a l.length cap] 29) #[.int .i64 9, .int .i64 l.length] 49).cells2
    refine bodyPost_ret (v := .agg #[.int .i64 9, .int .i64 l.length]) (by simp [results, Tryz.results71, go_sem, e0, e1]) rfl ⟨by rw [HD.out], below2 _ _ _⟩
  by_cases h10 : k = 10
  · have HD := Lib.hid (show markForD (.mk k n x s l) = (10, ((l.length / 2 : Nat) : Int)) from (if_neg h1).trans ((if_neg h4).trans ((if_neg h7).trans ((if_neg h9).trans (if_pos h10)))))
    subst h10
    go_enter Tryz.func71, Tryz.ntmps71
    go_wp2_with fail
    obtain ⟨e0, e1⟩ := (Is.new2 w (.cells #[.int .i64 10, .int .i64 n, .int .i64 x, .string s, .slice a l.length cap] 29) #[.int .i64 10, .int .i64 ((l.length / 2 : Nat) : Int)] 49).cells2
    refine bodyPost_ret (v := .agg #[.int .i64 10, .int .i64 ((l.length / 2 : Nat) : Int)]) (by simp [results, Tryz.results71, go_sem, e0, e1]) rfl ⟨by rw [HD.out], below2 _ _ _⟩
  have HD := Lib.hid (show markForD (.mk k n x s l) = (0, 0) from (if_neg h1).trans ((if_neg h4).trans ((if_neg h7).trans ((if_neg h9).trans (if_neg h10)))))
  have g1 : ¬ k = 1 := by omega
  have g2 : ¬ k = 2 := by omega
  have g3 : ¬ k = 3 := by omega
  have g5 : ¬ k = 5 := by omega
  have g7 : ¬ k = 7 := by omega
  have g8 : ¬ k = 8 := by omega
  go_enter Tryz.func71, Tryz.ntmps71
  go_wp2_with fail
  obtain ⟨e0, e1⟩ := (Is.new2 w (.cells #[.int .i64 k, .int .i64 n, .int .i64 x, .string s, .slice a l.length cap] 29) #[.int .i64 0, .int .i64 0] 49).cells2
  refine bodyPost_ret (v := .agg #[.int .i64 0, .int .i64 0]) (by simp [results, Tryz.results71, go_sem, e0, e1]) rfl ⟨by rw [HD.out], below2 _ _ _⟩
set_option maxHeartbeats 4000000 in
theorem spec_MarkOk (k n : Int) (w : World) (hn : I64 n) :
    Calls Tryz.prog 70 #[.agg (cM k n)] w fun e w' => e = .returned (.bool (markOkD k n)) ∧ Below w.heap.size w w' := by
  have q0 := Is.new w (cM k n) 49
  obtain ⟨c0, c1⟩ := q0.cells2
  have lg : w.heap.size < (w.alloc (.cells (cM k n) 49)).heap.size := by simp
  have HN := Lib.hid hn
  clear hn
  by_cases h1 : k = 1
  · have HD := Lib.hid (show markOkD k n = decide (n = 0) from if_pos h1)
    subst h1
    go_enter Tryz.func70, Tryz.ntmps70
    go_wp2_with fail
    go_ret
    exact ⟨ret_b (by rw [HD.out]; first | done | rfl | simp), by go_grown⟩
  by_cases h2 : k = 2
  · have HD := Lib.hid (show markOkD k n = decide (0 ≤ n ∧ n ≤ 1) from (if_neg h1).trans (if_pos h2))
    subst h2
    go_enter Tryz.func70, Tryz.ntmps70
    go_wp2_with (go_at_call 63; refine (spec_l1InE _ _ _ _).mono ?_; rintro ee w2 ⟨rfl, rfl⟩)
    all_goals
      go_ret
      exact ⟨ret_b (by rw [HD.out]; first | done | rfl | exact (Bool.decide_and _ _).symm | (rw [Bool.eq_iff_iff]; simp only [beq_iff_eq, bne_iff_ne, decide_eq_true_iff, Bool.or_eq_true, true_iff, iff_true]; omega)), by go_grown⟩
  by_cases h3 : k = 3
  · have HD := Lib.hid (show markOkD k n = decide (-1000000000000000 ≤ n ∧ n ≤ 1000000000000000) from (if_neg h1).trans ((if_neg h2).trans (if_pos h3)))
    subst h3
    go_enter Tryz.func70, Tryz.ntmps70
    go_wp2_with (go_at_call 63; refine (spec_l1InE _ _ _ _).mono ?_; rintro ee w2 ⟨rfl, rfl⟩)
    go_ret
    exact ⟨ret_b (by rw [HD.out]; first | done | rfl | exact (Bool.decide_and _ _).symm), by go_grown⟩
  by_cases h4 : k = 4
  · have HD := Lib.hid (show markOkD k n = ((bitsFltD n).2 && decide (fltBitsD (bitsFltD n).1.1 (bitsFltD n).1.2 = n)) from (if_neg h1).trans ((if_neg h2).trans ((if_neg h3).trans (if_pos h4))))
    have HI := Lib.hid (bitsFltD_i64 n)
    subst h4
    have CB := Lib.hid (fun W => spec_BitsFlt n W HN.out)
    obtain ⟨⟨⟨x, y⟩, ok⟩, hxy⟩ : ∃ r, bitsFltD n = r := ⟨_, rfl⟩
    rw [hxy] at HD HI CB
    simp only at HI CB HD
    clear hxy
    go_enter Tryz.func70, Tryz.ntmps70
    go_wp2_with fail
    refine (CB.out _).mono ?_
    rintro ee w2 ⟨rfl, hb2⟩
    have p2 := q0.below hb2 lg
    have HB2 := Lib.hid ((below1 w _).trans (hb2.mono (by simp)))
    have q3 := Is.new w2 (cF x y) 56
    have p3 := p2.alloc (.cells (cF x y) 56)
    obtain ⟨d0, d1⟩ := p3.cells2
    obtain ⟨f0, f1⟩ := q3.cells2
    have l2 := p2.lt
    have l3 := q3.lt
    have l4 := p3.lt
    clear c0 c1 hb2 q0
    cases ok with
    | false =>
      have hok : (false && decide (fltBitsD x y = n)) = false := rfl
      go_wp2_with fail
      go_quiet (fail)
      go_wp2_with fail
      go_ret
      exact ⟨ret_b (by rw [HD.out]; rfl), (HB2.out.trans ((below1 w2 (.cells (cF x y) 56)).mono (by omega))).trans (below_drewN _ _ _)⟩
    | true =>
      go_wp2_with fail
      generalize hW : w2.alloc (.cells (cF x y) 56) = W0 at *
      have hb0 : Below w2.heap.size w2 W0 := by rw [← hW]; exact below1 _ _
      have HB0 := Lib.hid (HB2.out.trans (hb0.mono (by omega)))
      clear hW hb0
      go_region_held3 (fun w' => (∀ b o, b < W0.heap.size → w'.cell? ⟨b, o, none⟩ = W0.cell? ⟨b, o, none⟩) ∧ Below (W0.heap.size) W0 w') (first | exact ⟨fun _ _ _ => rfl, (Below.refl _ _).drew⟩ | exact keep_step (by assumption) (Below.drew (Below.refl _ _)) (Nat.le_refl _) | exact keep_step (by assumption) (by assumption) (by first | omega | (simp only [World.size_drew]; omega) | (simp only [size_alloc]; omega) | (simp only [World.size_drew, size_alloc]; omega) | (have := (‹(_ ∧ Below (W0.heap.size) W0 _)›).2.size; first | omega | (simp only [World.size_drew]; omega) | (simp only [size_alloc]; omega) | (simp only [World.size_drew, size_alloc]; omega) | (simp only [World.size_drew] at this; omega) | (simp only [size_alloc] at this; omega) | (simp only [World.size_drew, size_alloc] at this; omega))) | exact keep_step (by assumption) (below1 _ _) (by first | omega | (simp only [World.size_drew]; omega) | (simp only [size_alloc]; omega) | (simp only [World.size_drew, size_alloc]; omega) | (have := (‹(_ ∧ Below (W0.heap.size) W0 _)›).2.size; first | omega | (simp only [World.size_drew]; omega) | (simp only [size_alloc]; omega) | (simp only [World.size_drew, size_alloc]; omega) | (simp only [World.size_drew] at this; omega) | (simp only [size_alloc] at this; omega) | (simp only [World.size_drew, size_alloc] at this; omega)))) (first | (go_at_call 88; refine (spec_FltBits x y _ HI.out.1 HI.out.2).mono ?_; rintro ee w4 ⟨rfl, hb4⟩))
      have hBB := (‹_ ∧ Below (W0.heap.size) W0 _›).2
      have hs9 := HB0.out.size
      go_wp2_with fail
      go_ret
      exact ⟨ret_b (by rw [HD.out]; first | rfl | simp), HB0.out.trans (hBB.mono (by omega))⟩
  by_cases h5 : k = 5
  · have HD := Lib.hid (show markOkD k n = decide (0 ≤ n ∧ n ≤ 2) from (if_neg h1).trans ((if_neg h2).trans ((if_neg h3).trans ((if_neg h4).trans (if_pos h5)))))
    subst h5
    go_enter Tryz.func70, Tryz.ntmps70
    go_wp2_with (go_at_call 63; refine (spec_l1InE _ _ _ _).mono ?_; rintro ee w2 ⟨rfl, rfl⟩)
    go_ret
    exact ⟨ret_b (by rw [HD.out]; first | done | rfl | exact (Bool.decide_and _ _).symm), by go_grown⟩
  by_cases h7 : k = 7 ∨ k = 8 ∨ k = 9 ∨ k = 10
  · have HD := Lib.hid (show markOkD k n = decide (0 ≤ n ∧ n ≤ 65535) from (if_neg h1).trans ((if_neg h2).trans ((if_neg h3).trans ((if_neg h4).trans ((if_neg h5).trans (if_pos h7))))))
    obtain rfl | rfl | rfl | rfl := h7
    all_goals
      go_enter Tryz.func70, Tryz.ntmps70
      go_wp2_with (go_at_call 63; refine (spec_l1InE _ _ _ _).mono ?_; rintro ee w2 ⟨rfl, rfl⟩)
      go_ret
      exact ⟨ret_b (by rw [HD.out]; first | done | rfl | exact (Bool.decide_and _ _).symm), by go_grown⟩
  have HD := Lib.hid (show markOkD k n = false from (if_neg h1).trans ((if_neg h2).trans ((if_neg h3).trans ((if_neg h4).trans ((if_neg h5).trans (if_neg h7))))))
  have g7 : ¬ k = 7 := by omega
  have g8 : ¬ k = 8 := by omega
  have g9 : ¬ k = 9 := by omega
  have g10 : ¬ k = 10 := by omega
  go_enter Tryz.func70, Tryz.ntmps70
  go_wp2_with fail
  go_ret
  exact ⟨ret_b (by rw [HD.out]; first | done | rfl | exact (Bool.decide_and _ _).symm), by go_grown⟩
set_option maxHeartbeats 4000000 in
theorem impl_BitsFlt (n : Int) (w : World) (hn : I64 n) :
    Calls Tryz.prog 80 #[.int .i64 n] w fun ee w' => ee = .returned (.tuple #[.agg (cF (bitsFltD n).1.1 (bitsFltD n).1.2), .bool (bitsFltD n).2]) ∧ Below w.heap.size w w' := by
  have q0 := Is.new w (cF 0 0) 56
  have ff := fun i => q0.frozen i
  obtain ⟨z0, z1⟩ := q0.cells2
  have lg : w.heap.size < (w.alloc (.cells (cF 0 0) 56)).heap.size := by simp
  by_cases hA : 0 ≤ n ∧ n ≤ 33554431
  case neg =>
    have HD := Lib.hid (show bitsFltD n = ((0, 0), false) from if_neg hA)
    have DA := Lib.hid (show decide (0 ≤ n ∧ n ≤ 33554431) = false from decide_eq_false hA)
    clear hA
    go_enter Tryz.func80, Tryz.ntmps80
    go_wp2_with (go_at_call 79; refine (impl_withinE _ _ _ _).mono ?_; rintro ee w2 ⟨rfl, rfl⟩; rw [DA.out])
    obtain ⟨e0, e1⟩ := q0.cells2
    refine bodyPost_ret (v := .tuple #[.agg #[.int .i64 (0), .int .i64 (0)], .bool false]) (by simp [results, Tryz.results80, go_sem, e0, e1]) rfl ⟨by rw [HD.out], below1 _ _⟩
  have DA := Lib.hid (show decide (0 ≤ n ∧ n ≤ 33554431) = true from decide_eq_true hA)
  have HD0 := Lib.hid (show bitsFltD n = fltNewD (if 16777216 ≤ n then -(n % 65536) else n % 65536) (n / 65536 % 256 - 16) from if_pos hA)
  obtain ⟨a0, a1⟩ := hA
  have t1 : Int.tmod n 65536 = n % 65536 := Int.tmod_eq_emod_of_nonneg a0
  have t2 : Int.tdiv n 65536 = n / 65536 := Int.tdiv_eq_ediv_of_nonneg a0
  have t3 : Int.tmod (n / 65536) 256 = n / 65536 % 256 := Int.tmod_eq_emod_of_nonneg (by omega)
  have T1 := Lib.hid t1; have T2 := Lib.hid t2; have T3 := Lib.hid t3
  by_cases hS : 16777216 ≤ n
  all_goals
    have HD := Lib.hid HD0.out
    first | rw [if_pos hS] at HD | rw [if_neg hS] at HD
    clear HD0
    go_enter Tryz.func80, Tryz.ntmps80
    go_wp2_with (go_at_call 79; refine (impl_withinE _ _ _ _).mono ?_; rintro ee w2 ⟨rfl, rfl⟩; rw [DA.out])
    (try simp only [T1.out, T2.out, T3.out])
    refine (impl_FltNew _ (n / 65536 % 256 - 16) _ ⟨by omega, by omega⟩ ⟨by omega, by omega⟩).mono ?_
    rintro ee w2 ⟨rfl, hb2⟩
    rw [← HD.out]
    obtain ⟨⟨⟨x, y⟩, ok⟩, hxy⟩ : ∃ r, bitsFltD n = r := ⟨_, rfl⟩
    rw [hxy]
    have HXY := Lib.hid hxy; clear hxy
    have p2 := q0.below hb2 lg
    have ff2 := fun i => p2.frozen i
    obtain ⟨y0, y1⟩ := p2.cells2
    have hl2 : w.heap.size < w2.heap.size := p2.lt
    have HB2 := Lib.hid ((below1 w _).trans (hb2.mono (by simp)))
    clear z0 z1 ff hb2 q0 lg
    go_wp2_with fail
    obtain ⟨e0, e1⟩ := ((p2.set 0 (.int .i64 x)).set 1 (.int .i64 y)).cells2
    refine bodyPost_ret (v := .tuple #[.agg #[.int .i64 x, .int .i64 y], .bool ok]) (by simp [results, Tryz.results80, go_sem, e0, e1]) rfl ⟨by rw [HXY.out], HB2.out.trans ((below2s _ _ _ _).mono (Nat.le_refl _))⟩
set_option maxHeartbeats 4000000 in
theorem impl_MarkFor (t : T) (a : Option Addr) (cap B : Nat) (w : World) (hr : R w B a cap t.l) (hwf : Wf t) (hB : B ≤ w.heap.size) :
    Calls Tryz.prog 51 #[.agg (cV t a cap)] w fun e w' => e = .returned (.agg (cM (markForD t).1 (markForD t).2)) ∧ Below w.heap.size w w' := by
  obtain ⟨k, n, x, s, l⟩ := t
  obtain ⟨hwk, hwn, hwx, hws⟩ := hwf
  obtain ⟨hl1, hl2⟩ := hr.len
  have HN := Lib.hid hwn
  have HX := Lib.hid hwx
  simp only [cV, T.k, T.n, T.x, T.s, T.l] at hwk hwn hwx hws hl1 hl2 HN HX ⊢
  have q1 := (Is.new w (cV (.mk k n x s l) a cap) 29).alloc (.cells (cM 0 0) 49)
  have q2 := Is.new2 w (.cells (cV (.mk k n x s l) a cap) 29) (cM 0 0) 49
  have H0 := Lib.hid (below2 w (.cells (cV (.mk k n x s l) a cap) 29) (.cells (cM 0 0) 49))
  simp only [cV, T.k, T.n, T.x, T.s, T.l] at q1 q2 H0
  obtain ⟨c0, c1, c2', c3, c4⟩ := q1.cells5
  obtain ⟨z0, z1⟩ := q2.cells2
  have ff := fun i => q2.frozen i
  have lg := q1.lt
  have lg2 := q2.lt
  have hq : Int.tdiv (l.length : Int) 2 = ((l.length / 2 : Nat) : Int) := by rw [Int.tdiv_eq_ediv_of_nonneg (by omega)]; omega
  clear hwn hwx hws hr
  by_cases h1 : k = 1 ∨ k = 2 ∨ k = 3 ∨ k = 5
  · have HD := Lib.hid (show markForD (.mk k n x s l) = (k, n) from if_pos h1)
    obtain rfl | rfl | rfl | rfl := h1
    · go_enter Tryz.func51, Tryz.ntmps51
      go_wp2_with fail
      obtain ⟨e0, e1⟩ := (Is.new2 w (.cells #[.int .i64 1, .int .i64 n, .int .i64 x, .string s, .slice a l.length cap] 29) #[.int .i64 1, .int .i64 n] 49).cells2
      refine bodyPost_ret (v := .agg #[.int .i64 (1), .int .i64 n]) (by simp [results, Tryz.results51, go_sem, e0, e1]) rfl ⟨by rw [HD.out], below2 _ _ _⟩
    · go_enter Tryz.func51, Tryz.ntmps51
      go_wp2_with fail
      obtain ⟨e0, e1⟩ := (Is.new2 w (.cells #[.int .i64 2, .int .i64 n, .int .i64 x, .string s, .slice a l.length cap] 29) #[.int .i64 2, .int .i64 n] 49).cells2
      refine bodyPost_ret (v := .agg #[.int .i64 (2), .int .i64 n]) (by simp [results, Tryz.results51, go_sem, e0, e1]) rfl ⟨by rw [HD.out], below2 _ _ _⟩
    · go_enter Tryz.func51, Tryz.ntmps51
      go_wp2_with fail
      obtain ⟨e0, e1⟩ := (Is.new2 w (.cells #[.int .i64 3, .int .i64 n, .int .i64 x, .string s, .slice a l.length cap] 29) #[.int .i64 3, .int .i64 n] 49).cells2
      refine bodyPost_ret (v := .agg #[.int .i64 (3), .int .i64 n]) (by simp [results, Tryz.results51, go_sem, e0, e1]) rfl ⟨by rw [HD.out], below2 _ _ _⟩
    · go_enter Tryz.func51, Tryz.ntmps51
      go_wp2_with fail
      obtain ⟨e0, e1⟩ := (Is.new2 w (.cells #[.int .i64 5, .int .i64 n, .int .i64 x, .string s, .slice a l.length cap] 29) #[.int .i64 5, .int .i64 n] 49).cells2
      refine bodyPost_ret (v := .agg #[.int .i64 (5), .int .i64 n]) (by simp [results, Tryz.results51, go_sem, e0, e1]) rfl ⟨by rw [HD.out], below2 _ _ _⟩
  by_cases h4 : k = 4
  · have HD := Lib.hid (show markForD (.mk k n x s l) = (4, fltBitsD n x) from (if_neg h1).trans (if_pos h4))
    subst h4
    go_enter Tryz.func51, Tryz.ntmps51
    go_wp2_with fail
    refine (impl_FltBits n x _ HN.out HX.out).mono ?_
    rintro e w3 ⟨rfl, hb3⟩
    have P3 := q2.below hb3 (by simp)
    have ff3 := fun i => P3.frozen i
    obtain ⟨y0, y1⟩ := P3.cells2
    have hl3 := P3.lt
    have HB3 := Lib.hid (H0.out.trans (hb3.mono (by simp; omega)))
    clear hb3
    go_wp2_with fail
    obtain ⟨e0, e1⟩ := ((P3.set 0 (.int .i64 4)).set 1 (.int .i64 (fltBitsD n x))).cells2
    refine bodyPost_ret (v := .agg #[.int .i64 4, .int .i64 (fltBitsD n x)]) (by simp [results, Tryz.results51, go_sem, e0, e1]) rfl ⟨by rw [HD.out], HB3.out.trans ((below2s _ _ _ _).mono (by omega))⟩
  by_cases h7 : k = 7 ∨ k = 8
  · have HD := Lib.hid (show markForD (.mk k n x s l) = (k, (s.size : Int)) from (if_neg h1).trans ((if_neg h4).trans (if_pos h7)))
    obtain rfl | rfl := h7
    · go_enter Tryz.func51, Tryz.ntmps51
      go_wp2_with fail
      obtain ⟨e0, e1⟩ := (Is.new2 w (.cells #[.int .i64 7, .int .i64 n, .int .i64 x, .string s, .slice a l.length cap] 29) #[.int .i64 7, .int .i64 s.size] 49).cells2
      refine bodyPost_ret (v := .agg #[.int .i64 (7), .int .i64 s.size]) (by simp [results, Tryz.results51, go_sem, e0, e1]) rfl ⟨by rw [HD.out], below2 _ _ _⟩
    · go_enter Tryz.func51, Tryz.ntmps51
      go_wp2_with fail
      obtain ⟨e0, e1⟩ := (Is.new2 w (.cells #[.int .i64 8, .int .i64 n, .int .i64 x, .string s, .slice a l.length cap] 29) #[.int .i64 8, .int .i64 s.size] 49).cells2
      refine bodyPost_ret (v := .agg #[.int .i64 (8), .int .i64 s.size]) (by simp [results, Tryz.results51, go_sem, e0, e1]) rfl ⟨by rw [HD.out], below2 _ _ _⟩
  by_cases h9 : k = 9
  · have HD := Lib.hid (show markForD (.mk k n x s l) = (9, (l.length : Int)) from (if_neg h1).trans ((if_neg h4).trans ((if_neg h7).trans (if_pos h9))))
    subst h9
    go_enter Tryz.func51, Tryz.ntmps51
    go_wp2_with fail
    obtain ⟨e0, e1⟩ := (Is.new2 w (.cells #[.int .i64 9, .int .i64 n, .int .i64 x, .string s, .slice a l.length cap] 29) #[.int .i64 9, .int .i64 l.length] 49).cells2
    refine bodyPost_ret (v := .agg #[.int .i64 9, .int .i64 l.length]) (by simp [results, Tryz.results51, go_sem, e0, e1]) rfl ⟨by rw [HD.out], below2 _ _ _⟩
  by_cases h10 : k = 10
  · have HD := Lib.hid (show markForD (.mk k n x s l) = (10, ((l.length / 2 : Nat) : Int)) from (if_neg h1).trans ((if_neg h4).trans ((if_neg h7).trans ((if_neg h9).trans (if_pos h10)))))
    subst h10
    go_enter Tryz.func51, Tryz.ntmps51
    go_wp2_with fail
    obtain ⟨e0, e1⟩ := (Is.new2 w (.cells #[.int .i64 10, .int .i64 n, .int .i64 x, .string s, .slice a l.length cap] 29) #[.int .i64 10, .int .i64 ((l.length / 2 : Nat) : Int)] 49).cells2
    refine bodyPost_ret (v := .agg #[.int .i64 10, .int .i64 ((l.length / 2 : Nat) : Int)]) (by simp [results, Tryz.results51, go_sem, e0, e1]) rfl ⟨by rw [HD.out], below2 _ _ _⟩
  have HD := Lib.hid (show markForD (.mk k n x s l) = (0, 0) from (if_neg h1).trans ((if_neg h4).trans ((if_neg h7).trans ((if_neg h9).trans (if_neg h10)))))
  have g1 : ¬ k = 1 := by omega
  have g2 : ¬ k = 2 := by omega
  have g3 : ¬ k = 3 := by omega
  have g5 : ¬ k = 5 := by omega
  have g7 : ¬ k = 7 := by omega
  have g8 : ¬ k = 8 := by omega
  go_enter Tryz.func51, Tryz.ntmps51
  go_wp2_with fail
  obtain ⟨e0, e1⟩ := (Is.new2 w (.cells #[.int .i64 k, .int .i64 n, .int .i64 x, .string s, .slice a l.length cap] 29) #[.int .i64 0, .int .i64 0] 49).cells2
  refine bodyPost_ret (v := .agg #[.int .i64 0, .int .i64 0]) (by simp [results, Tryz.results51, go_sem, e0, e1]) rfl ⟨by rw [HD.out], below2 _ _ _⟩
set_option maxHeartbeats 4000000 in
theorem impl_MarkOk (k n : Int) (w : World) (hn : I64 n) :
    Calls Tryz.prog 50 #[.agg (cM k n)] w fun e w' => e = .returned (.bool (markOkD k n)) ∧ Below w.heap.size w w' := by
  have q0 := Is.new w (cM k n) 49
  obtain ⟨c0, c1⟩ := q0.cells2
  have lg : w.heap.size < (w.alloc (.cells (cM k n) 49)).heap.size := by simp
  have HN := Lib.hid hn
  clear hn
  by_cases h1 : k = 1
  · have HD := Lib.hid (show markOkD k n = decide (n = 0) from if_pos h1)
    subst h1
    go_enter Tryz.func50, Tryz.ntmps50
    go_wp2_with fail
    go_ret
    exact ⟨ret_b (by rw [HD.out]; first | done | rfl | simp), by go_grown⟩
  by_cases h2 : k = 2
  · have HD := Lib.hid (show markOkD k n = decide (0 ≤ n ∧ n ≤ 1) from (if_neg h1).trans (if_pos h2))
    subst h2
    go_enter Tryz.func50, Tryz.ntmps50
    go_wp2_with (go_at_call 79; refine (impl_withinE _ _ _ _).mono ?_; rintro ee w2 ⟨rfl, rfl⟩)
    all_goals
      go_ret
      exact ⟨ret_b (by rw [HD.out]; first | done | rfl | exact (Bool.decide_and _ _).symm | (rw [Bool.eq_iff_iff]; simp only [beq_iff_eq, bne_iff_ne, decide_eq_true_iff, Bool.or_eq_true, true_iff, iff_true]; omega)), by go_grown⟩
  by_cases h3 : k = 3
  · have HD := Lib.hid (show markOkD k n = decide (-1000000000000000 ≤ n ∧ n ≤ 1000000000000000) from (if_neg h1).trans ((if_neg h2).trans (if_pos h3)))
    subst h3
    go_enter Tryz.func50, Tryz.ntmps50
    go_wp2_with (go_at_call 79; refine (impl_withinE _ _ _ _).mono ?_; rintro ee w2 ⟨rfl, rfl⟩)
    go_ret
    exact ⟨ret_b (by rw [HD.out]; first | done | rfl | exact (Bool.decide_and _ _).symm), by go_grown⟩
  by_cases h4 : k = 4
  · have HD := Lib.hid (show markOkD k n = ((bitsFltD n).2 && decide (fltBitsD (bitsFltD n).1.1 (bitsFltD n).1.2 = n)) from (if_neg h1).trans ((if_neg h2).trans ((if_neg h3).trans (if_pos h4))))
    have HI := Lib.hid (bitsFltD_i64 n)
    subst h4
    have CB := Lib.hid (fun W => impl_BitsFlt n W HN.out)
    obtain ⟨⟨⟨x, y⟩, ok⟩, hxy⟩ : ∃ r, bitsFltD n = r := ⟨_, rfl⟩
    rw [hxy] at HD HI CB
    simp only at HI CB HD
    clear hxy
    go_enter Tryz.func50, Tryz.ntmps50
    go_wp2_with fail
    refine (CB.out _).mono ?_
    rintro ee w2 ⟨rfl, hb2⟩
    have p2 := q0.below hb2 lg
    have HB2 := Lib.hid ((below1 w _).trans (hb2.mono (by simp)))
    have q3 := Is.new w2 (cF x y) 56
    have p3 := p2.alloc (.cells (cF x y) 56)
    obtain ⟨d0, d1⟩ := p3.cells2
    obtain ⟨f0, f1⟩ := q3.cells2
    have l2 := p2.lt
    have l3 := q3.lt
    have l4 := p3.lt
    clear c0 c1 hb2 q0
    cases ok with
    | false =>
      have hok : (false && decide (fltBitsD x y = n)) = false := rfl
      go_wp2_with fail
      go_quiet (fail)
      go_wp2_with fail
      go_ret
      exact ⟨ret_b (by rw [HD.out]; rfl), (HB2.out.trans ((below1 w2 (.cells (cF x y) 56)).mono (by omega))).trans (below_drewN _ _ _)⟩
    | true =>
      go_wp2_with fail
      generalize hW : w2.alloc (.cells (cF x y) 56) = W0 at *
      have hb0 : Below w2.heap.size w2 W0 := by rw [← hW]; exact below1 _ _
      have HB0 := Lib.hid (HB2.out.trans (hb0.mono (by omega)))
      clear hW hb0
      go_region_held3 (fun w' => (∀ b o, b < W0.heap.size → w'.cell? ⟨b, o, none⟩ = W0.cell? ⟨b, o, none⟩) ∧ Below (W0.heap.size) W0 w') (first | exact ⟨fun _ _ _ => rfl, (Below.refl _ _).drew⟩ | exact keep_step (by assumption) (Below.drew (Below.refl _ _)) (Nat.le_refl _) | exact keep_step (by assumption) (by assumption) (by first | omega | (simp only [World.size_drew]; omega) | (simp only [size_alloc]; omega) | (simp only [World.size_drew, size_alloc]; omega) | (have := (‹(_ ∧ Below (W0.heap.size) W0 _)›).2.size; first | omega | (simp only [World.size_drew]; omega) | (simp only [size_alloc]; omega) | (simp only [World.size_drew, size_alloc]; omega) | (simp only [World.size_drew] at this; omega) | (simp only [size_alloc] at this; omega) | (simp only [World.size_drew, size_alloc] at this; omega))) | exact keep_step (by assumption) (below1 _ _) (by first | omega | (simp only [World.size_drew]; omega) | (simp only [size_alloc]; omega) | (simp only [World.size_drew, size_alloc]; omega) | (have := (‹(_ ∧ Below (W0.heap.size) W0 _)›).2.size; first | omega | (simp only [World.size_drew]; omega) | (simp only [size_alloc]; omega) | (simp only [World.size_drew, size_alloc]; omega) | (simp only [World.size_drew] at this; omega) | (simp only [size_alloc] at this; omega) | (simp only [World.size_drew, size_alloc] at this; omega)))) (first | (go_at_call 81; refine (impl_FltBits x y _ HI.out.1 HI.out.2).mono ?_; rintro ee w4 ⟨rfl, hb4⟩))
      have hBB := (‹_ ∧ Below (W0.heap.size) W0 _›).2
      have hs9 := HB0.out.size
      go_wp2_with fail
      go_ret
      exact ⟨ret_b (by rw [HD.out]; first | rfl | simp), HB0.out.trans (hBB.mono (by omega))⟩
  by_cases h5 : k = 5
  · have HD := Lib.hid (show markOkD k n = decide (0 ≤ n ∧ n ≤ 2) from (if_neg h1).trans ((if_neg h2).trans ((if_neg h3).trans ((if_neg h4).trans (if_pos h5)))))
    subst h5
    go_enter Tryz.func50, Tryz.ntmps50
    go_wp2_with (go_at_call 79; refine (impl_withinE _ _ _ _).mono ?_; rintro ee w2 ⟨rfl, rfl⟩)
    go_ret
    exact ⟨ret_b (by rw [HD.out]; first | done | rfl | exact (Bool.decide_and _ _).symm), by go_grown⟩
  by_cases h7 : k = 7 ∨ k = 8 ∨ k = 9 ∨ k = 10
  · have HD := Lib.hid (show markOkD k n = decide (0 ≤ n ∧ n ≤ 65535) from (if_neg h1).trans ((if_neg h2).trans ((if_neg h3).trans ((if_neg h4).trans ((if_neg h5).trans (if_pos h7))))))
    obtain rfl | rfl | rfl | rfl := h7
    all_goals
      go_enter Tryz.func50, Tryz.ntmps50
      go_wp2_with (go_at_call 79; refine (impl_withinE _ _ _ _).mono ?_; rintro ee w2 ⟨rfl, rfl⟩)
      go_ret
      exact ⟨ret_b (by rw [HD.out]; first | done | rfl | exact (Bool.decide_and _ _).symm), by go_grown⟩
  have HD := Lib.hid (show markOkD k n = false from (if_neg h1).trans ((if_neg h2).trans ((if_neg h3).trans ((if_neg h4).trans ((if_neg h5).trans (if_neg h7))))))
  have g7 : ¬ k = 7 := by omega
  have g8 : ¬ k = 8 := by omega
  have g9 : ¬ k = 9 := by omega
  have g10 : ¬ k = 10 := by omega
  go_enter Tryz.func50, Tryz.ntmps50
  go_wp2_with fail
  go_ret
  exact ⟨ret_b (by rw [HD.out]; first | done | rfl | exact (Bool.decide_and _ _).symm), by go_grown⟩
end Go.Proofs.YthpmfkkmhbbloaaGreatDoor
