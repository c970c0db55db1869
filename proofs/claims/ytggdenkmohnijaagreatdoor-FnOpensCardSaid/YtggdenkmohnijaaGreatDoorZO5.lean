/- Texts of this proof, merged: ValF3, OwnT, OwnS. No condition beyond what each theorem states. -/
import Derived.Test.YtggdenkmohnijaaGreatDoorZO4
set_option linter.unusedSimpArgs false
set_option linter.unnecessarySimpa false
namespace Go.Proofs.YtggdenkmohnijaaGreatDoor
open Go.ChangeShapes Go.WideShapes Go.ChangeAt Go.RowKit Go.Joins
set_option linter.unusedVariables false
set_option maxRecDepth 100000
set_option maxHeartbeats 2000000 in
theorem impl_FltOk (m x : Int) (w : World) (hm : I64 m) (hx : I64 x) :
  Calls Tryz.prog 144 #[.agg (cF m x)] w fun e w' => e = .returned (.bool (decide (fltOk m x))) ∧ Below w.heap.size w w' := by
 obtain ⟨hm0, hm1⟩ := hm
 obtain ⟨hx0, hx1⟩ := hx
 have hl : w.heap.size < (w.alloc (.cells (cF m x) 61)).heap.size := by simp
 have H0 := Lib.hid (below1 w (.cells (cF m x) 61))
 have q0 := Is.new w (cF m x) 61
 by_cases h0 : m = 0
 ·subst h0
  by_cases h1 : x = 0
  ·subst h1
   have HD := Lib.hid (show decide (fltOk 0 0) = true from decide_eq_true (Or.inl ⟨rfl, rfl⟩))
   go_enter Tryz.func144, Tryz.ntmps144
   go_wp2_with fail
   go_ret
   exact ⟨ret_b (by rw [HD.out]), H0.out⟩
  ·have HD := Lib.hid (show decide (fltOk 0 x) = false from decide_eq_false (by rintro (h | h); exact h1 h.2; exact h.1 rfl))
   go_enter Tryz.func144, Tryz.ntmps144
   go_wp2_with fail
   go_ret
   exact ⟨ret_b (by rw [HD.out]; simp [h1]), H0.out⟩
 by_cases h1 : m.tmod 2 = 0
 ·have HD := Lib.hid (show decide (fltOk m x) = false from decide_eq_false (by rintro (h | h); exact h0 h.1; exact h.2.2.1 h1))
  go_enter Tryz.func144, Tryz.ntmps144
  go_wp2_with fail
  go_ret
  exact ⟨ret_b (by rw [HD.out]), H0.out⟩
 by_cases h2 : -65535 ≤ m ∧ m ≤ 65535
 ·have D2 := Lib.hid (show decide ((-65535 : Int) ≤ m ∧ m ≤ 65535) = true from decide_eq_true h2)
  by_cases h3 : x < -16
  ·have HD := Lib.hid (show decide (fltOk m x) = false from decide_eq_false (by rintro (h | h); exact h0 h.1; have := h.2.2.2.1; omega))
   go_enter Tryz.func144, Tryz.ntmps144
   go_wp2_with (go_at_call 125; refine (impl_within _ _ _ _).mono ?_; rintro e w2 ⟨rfl, hb⟩; rw [D2.out]; have HB2 := Lib.hid (below_step H0.out hb (by simp)); have q2 := q0.below hb hl; obtain ⟨r0, r1⟩ := q2.cells2; have hl2 : w.heap.size < w2.heap.size := Nat.lt_of_lt_of_le hl hb.size; clear hb)
   go_ret
   exact ⟨ret_b (by rw [HD.out]), HB2.out⟩
  have h3' : -16 ≤ x := by omega
  have h3d : decide (x < -16) = false := decide_eq_false h3
  by_cases h4 : x ≤ 30
  ·have HD := Lib.hid (show decide (fltOk m x) = true from decide_eq_true (Or.inr ⟨h0, h2, h1, by omega, Or.inl h4⟩))
   go_enter Tryz.func144, Tryz.ntmps144
   go_wp2_with (go_at_call 125; refine (impl_within _ _ _ _).mono ?_; rintro e w2 ⟨rfl, hb⟩; rw [D2.out]; have HB2 := Lib.hid (below_step H0.out hb (by simp)); have q2 := q0.below hb hl; obtain ⟨r0, r1⟩ := q2.cells2; have hl2 : w.heap.size < w2.heap.size := Nat.lt_of_lt_of_le hl hb.size; clear hb)
   go_ret
   exact ⟨ret_b (by rw [HD.out]), HB2.out⟩
  by_cases h5 : x ≤ 46
  ·obtain ⟨bb, hbb⟩ : ∃ bb, decide (-65535 ≤ m * 2 ^ (x - 30).toNat ∧ m * 2 ^ (x - 30).toNat ≤ 65535) = bb := ⟨_, rfl⟩
   have HD := Lib.hid ((fltOk_big (m := m) (e := x) (x - 30).toNat (by omega) (by omega) h0 h2 h1).trans hbb)
   obtain rfl | rfl | rfl | rfl | rfl | rfl | rfl | rfl | rfl | rfl | rfl | rfl | rfl | rfl | rfl | rfl : x = 31 ∨ x = 32 ∨ x = 33 ∨ x = 34 ∨ x = 35 ∨ x = 36 ∨ x = 37 ∨ x = 38 ∨ x = 39 ∨ x = 40 ∨ x = 41 ∨ x = 42 ∨ x = 43 ∨ x = 44 ∨ x = 45 ∨ x = 46 := by omega
   all_goals
    simp only [Int.reduceSub, Int.reduceToNat, Int.reducePow] at hbb
    have HBB := Lib.hid hbb; clear hbb
    go_enter Tryz.func144, Tryz.ntmps144
    go_wp2_with (go_at_call 125; refine (impl_within _ _ _ _).mono ?_; rintro e w2 ⟨rfl, hb⟩; first | (rw [D2.out]; have HB2 := Lib.hid (below_step H0.out hb (by simp)); have q2 := q0.below hb hl; obtain ⟨r0, r1⟩ := q2.cells2; have hl2 : w.heap.size < w2.heap.size := Nat.lt_of_lt_of_le hl hb.size; clear hb) | (rw [HBB.out]; have HB3 := Lib.hid (below_step HB2.out hb HB2.out.size)))
    go_ret
    exact ⟨ret_b (by rw [HD.out]), HB3.out⟩
  ·have HD := Lib.hid (show decide (fltOk m x) = false from decide_eq_false (by rintro (h | h); exact h0 h.1; have := h.2.2.2.2; omega))
   go_enter Tryz.func144, Tryz.ntmps144
   go_wp2_with (go_at_call 125; refine (impl_within _ _ _ _).mono ?_; rintro e w2 ⟨rfl, hb⟩; rw [D2.out]; have HB2 := Lib.hid (below_step H0.out hb (by simp)); have q2 := q0.below hb hl; obtain ⟨r0, r1⟩ := q2.cells2; have hl2 : w.heap.size < w2.heap.size := Nat.lt_of_lt_of_le hl hb.size; clear hb)
   go_ret
   exact ⟨ret_b (by rw [HD.out]), HB2.out⟩
 ·have D2 := Lib.hid (show decide ((-65535 : Int) ≤ m ∧ m ≤ 65535) = false from decide_eq_false h2)
  have HD := Lib.hid (show decide (fltOk m x) = false from decide_eq_false (by rintro (h | h); exact h0 h.1; exact h2 h.2.1))
  go_enter Tryz.func144, Tryz.ntmps144
  go_wp2_with (go_at_call 125; refine (impl_within _ _ _ _).mono ?_; rintro e w2 ⟨rfl, hb⟩; rw [D2.out]; have HB2 := Lib.hid (below_step H0.out hb (by simp)); clear hb)
  go_ret
  exact ⟨ret_b (by rw [HD.out]), HB2.out⟩
set_option maxHeartbeats 2000000 in
theorem spec_FltOk (m x : Int) (w : World) (hm : I64 m) (hx : I64 x) :
  Calls Tryz.prog 122 #[.agg (cF m x)] w fun e w' => e = .returned (.bool (decide (fltOk m x))) ∧ Below w.heap.size w w' := by
 obtain ⟨hm0, hm1⟩ := hm
 obtain ⟨hx0, hx1⟩ := hx
 have hl : w.heap.size < (w.alloc (.cells (cF m x) 61)).heap.size := by simp
 have H0 := Lib.hid (below1 w (.cells (cF m x) 61))
 have q0 := Is.new w (cF m x) 61
 by_cases h0 : m = 0
 ·subst h0
  by_cases h1 : x = 0
  ·subst h1
   have HD := Lib.hid (show decide (fltOk 0 0) = true from decide_eq_true (Or.inl ⟨rfl, rfl⟩))
   go_enter Tryz.func122, Tryz.ntmps122
   go_wp2_with fail
   go_ret
   exact ⟨ret_b (by rw [HD.out]), H0.out⟩
  ·have HD := Lib.hid (show decide (fltOk 0 x) = false from decide_eq_false (by rintro (h | h); exact h1 h.2; exact h.1 rfl))
   go_enter Tryz.func122, Tryz.ntmps122
   go_wp2_with fail
   go_ret
   exact ⟨ret_b (by rw [HD.out]; simp [h1]), H0.out⟩
 by_cases h2 : -65535 ≤ m ∧ m ≤ 65535
 ·have D2 := Lib.hid (show decide ((-65535 : Int) ≤ m ∧ m ≤ 65535) = true from decide_eq_true h2)
  by_cases h1 : m.tmod 2 = 0
  ·have HD := Lib.hid (show decide (fltOk m x) = false from decide_eq_false (by rintro (h | h); exact h0 h.1; exact h.2.2.1 h1))
   go_enter Tryz.func122, Tryz.ntmps122
   go_wp2_with (go_at_call 74; refine (spec_l1In _ _ _ _).mono ?_; rintro e w2 ⟨rfl, hb⟩; first | (rw [D2.out]; have HB2 := Lib.hid (below_step H0.out hb (by simp)); have q2 := q0.below hb hl; obtain ⟨r0, r1⟩ := q2.cells2; have hl2 : w.heap.size < w2.heap.size := Nat.lt_of_lt_of_le hl hb.size; clear hb) | (rw [D3.out]; have HB3 := Lib.hid (below_step HB2.out hb HB2.out.size); have q3 := q2.below hb hl2; obtain ⟨s0, s1⟩ := q3.cells2; have hl3 : w.heap.size < w2.heap.size := Nat.lt_of_lt_of_le hl2 hb.size; clear hb) | (rw [HBB.out]; have HB4 := Lib.hid (below_step HB3.out hb HB3.out.size)))
   go_ret
   exact ⟨ret_b (by rw [HD.out]), HB2.out⟩
  by_cases h3 : -16 ≤ x ∧ x ≤ 45
  ·have D3 := Lib.hid (show decide ((-16 : Int) ≤ x ∧ x ≤ 45) = true from decide_eq_true h3)
   by_cases h4 : x ≤ 30
   ·have HD := Lib.hid (show decide (fltOk m x) = true from decide_eq_true (Or.inr ⟨h0, h2, h1, by omega, Or.inl h4⟩))
    go_enter Tryz.func122, Tryz.ntmps122
    go_wp2_with (go_at_call 74; refine (spec_l1In _ _ _ _).mono ?_; rintro e w2 ⟨rfl, hb⟩; first | (rw [D2.out]; have HB2 := Lib.hid (below_step H0.out hb (by simp)); have q2 := q0.below hb hl; obtain ⟨r0, r1⟩ := q2.cells2; have hl2 : w.heap.size < w2.heap.size := Nat.lt_of_lt_of_le hl hb.size; clear hb) | (rw [D3.out]; have HB3 := Lib.hid (below_step HB2.out hb HB2.out.size); have q3 := q2.below hb hl2; obtain ⟨s0, s1⟩ := q3.cells2; have hl3 : w.heap.size < w2.heap.size := Nat.lt_of_lt_of_le hl2 hb.size; clear hb) | (rw [HBB.out]; have HB4 := Lib.hid (below_step HB3.out hb HB3.out.size)))
    go_ret
    exact ⟨ret_b (by rw [HD.out]), HB3.out⟩
   ·obtain ⟨bb, hbb⟩ : ∃ bb, decide (-65535 ≤ m * 2 ^ (x - 30).toNat ∧ m * 2 ^ (x - 30).toNat ≤ 65535) = bb := ⟨_, rfl⟩
    have HD := Lib.hid ((fltOk_big (m := m) (e := x) (x - 30).toNat (by omega) (by omega) h0 h2 h1).trans hbb)
    obtain rfl | rfl | rfl | rfl | rfl | rfl | rfl | rfl | rfl | rfl | rfl | rfl | rfl | rfl | rfl : x = 31 ∨ x = 32 ∨ x = 33 ∨ x = 34 ∨ x = 35 ∨ x = 36 ∨ x = 37 ∨ x = 38 ∨ x = 39 ∨ x = 40 ∨ x = 41 ∨ x = 42 ∨ x = 43 ∨ x = 44 ∨ x = 45 := by omega
    all_goals
     simp only [Int.reduceSub, Int.reduceToNat, Int.reducePow] at hbb
     have HBB := Lib.hid hbb; clear hbb
     go_enter Tryz.func122, Tryz.ntmps122
     go_wp2_with (go_at_call 74; refine (spec_l1In _ _ _ _).mono ?_; rintro e w2 ⟨rfl, hb⟩; first | (rw [D2.out]; have HB2 := Lib.hid (below_step H0.out hb (by simp)); have q2 := q0.below hb hl; obtain ⟨r0, r1⟩ := q2.cells2; have hl2 : w.heap.size < w2.heap.size := Nat.lt_of_lt_of_le hl hb.size; clear hb) | (rw [D3.out]; have HB3 := Lib.hid (below_step HB2.out hb HB2.out.size); have q3 := q2.below hb hl2; obtain ⟨s0, s1⟩ := q3.cells2; have hl3 : w.heap.size < w2.heap.size := Nat.lt_of_lt_of_le hl2 hb.size; clear hb) | (rw [HBB.out]; have HB4 := Lib.hid (below_step HB3.out hb HB3.out.size)))
     go_ret
     exact ⟨ret_b (by rw [HD.out]), HB4.out⟩
  ·have D3 := Lib.hid (show decide ((-16 : Int) ≤ x ∧ x ≤ 45) = false from decide_eq_false h3)
   have HD := Lib.hid (show decide (fltOk m x) = false from decide_eq_false (by
    rintro (h | h); exact h0 h.1
    have e46 := h.2.2.2.2
    by_cases h46 : x = 46
    ·subst h46
     rcases e46 with h | h
     ·omega
     ·simp only [Int.reduceSub, Int.reduceToNat, Int.reducePow] at h; omega
    ·omega))
   go_enter Tryz.func122, Tryz.ntmps122
   go_wp2_with (go_at_call 74; refine (spec_l1In _ _ _ _).mono ?_; rintro e w2 ⟨rfl, hb⟩; first | (rw [D2.out]; have HB2 := Lib.hid (below_step H0.out hb (by simp)); have q2 := q0.below hb hl; obtain ⟨r0, r1⟩ := q2.cells2; have hl2 : w.heap.size < w2.heap.size := Nat.lt_of_lt_of_le hl hb.size; clear hb) | (rw [D3.out]; have HB3 := Lib.hid (below_step HB2.out hb HB2.out.size); have q3 := q2.below hb hl2; obtain ⟨s0, s1⟩ := q3.cells2; have hl3 : w.heap.size < w2.heap.size := Nat.lt_of_lt_of_le hl2 hb.size; clear hb) | (rw [HBB.out]; have HB4 := Lib.hid (below_step HB3.out hb HB3.out.size)))
   go_ret
   exact ⟨ret_b (by rw [HD.out]), HB3.out⟩
 ·have D2 := Lib.hid (show decide ((-65535 : Int) ≤ m ∧ m ≤ 65535) = false from decide_eq_false h2)
  have HD := Lib.hid (show decide (fltOk m x) = false from decide_eq_false (by rintro (h | h); exact h0 h.1; exact h2 h.2.1))
  go_enter Tryz.func122, Tryz.ntmps122
  go_wp2_with (go_at_call 74; refine (spec_l1In _ _ _ _).mono ?_; rintro e w2 ⟨rfl, hb⟩; first | (rw [D2.out]; have HB2 := Lib.hid (below_step H0.out hb (by simp)); have q2 := q0.below hb hl; obtain ⟨r0, r1⟩ := q2.cells2; have hl2 : w.heap.size < w2.heap.size := Nat.lt_of_lt_of_le hl hb.size; clear hb) | (rw [D3.out]; have HB3 := Lib.hid (below_step HB2.out hb HB2.out.size); have q3 := q2.below hb hl2; obtain ⟨s0, s1⟩ := q3.cells2; have hl3 : w.heap.size < w2.heap.size := Nat.lt_of_lt_of_le hl2 hb.size; clear hb) | (rw [HBB.out]; have HB4 := Lib.hid (below_step HB3.out hb HB3.out.size)))
  go_ret
  exact ⟨ret_b (by rw [HD.out]), HB2.out⟩
def ownQ (k n x : Int) (s : ByteArray) (m : Nat) : Prop :=
  (k = 7 ∨ k = 8 ∨ s.toList = []) ∧ (k = 4 ∨ k = 6 ∨ x = 0) ∧ (9 ≤ k ∨ m = 0) ∧
  ((k = 1 ∧ n = 0) ∨ (k = 2 ∧ (n = 0 ∨ n = 1)) ∨ (k = 3 ∧ -1000000000000000 ≤ n ∧ n ≤ 1000000000000000) ∨ (k = 4 ∧ fltOk n x) ∨ (k = 5 ∧ 0 ≤ n ∧ n ≤ 2) ∨ (k = 6 ∧ x < 0 ∧ decOk n x) ∨
   (k = 7 ∧ n = 0 ∧ Lib.validD s.data.toList = true) ∨ (k = 8 ∧ n = 0) ∨ (k = 9 ∧ n = 0) ∨ (k = 10 ∧ n = 0 ∧ m % 2 = 0) ∨ (k = 11 ∧ (0 ≤ n ∧ n ≤ 1000000000000000) ∧ m = 1))
instance (k n x : Int) (s : ByteArray) (m : Nat) : Decidable (ownQ k n x s m) := by unfold ownQ; exact inferInstance
abbrev ownP (t : T) : Prop := ownQ t.k t.n t.x t.s t.l.length
theorem ownQ_out (k n x : Int) (s : ByteArray) (m : Nat) (h : k < 1 ∨ 11 < k) : ¬ ownQ k n x s m := by unfold ownQ; omega
theorem own1 (n x : Int) (s : ByteArray) (m : Nat) : ownQ 1 n x s m ↔ s.toList = [] ∧ x = 0 ∧ m = 0 ∧ n = 0 := by
 unfold ownQ
 by_cases hs : s.toList = []
 all_goals simp only [hs, true_and, false_and, and_true, or_false, or_true, iff_self, false_iff, not_false_eq_true]
 all_goals first | omega | (simp; done) | (simp; omega)
theorem own2 (n x : Int) (s : ByteArray) (m : Nat) : ownQ 2 n x s m ↔ s.toList = [] ∧ x = 0 ∧ m = 0 ∧ (n = 0 ∨ n = 1) := by
 unfold ownQ
 by_cases hs : s.toList = []
 all_goals simp only [hs, true_and, false_and, and_true, or_false, or_true, iff_self, false_iff, not_false_eq_true]
 all_goals first | omega | (simp; done) | (simp; omega)
theorem own3 (n x : Int) (s : ByteArray) (m : Nat) : ownQ 3 n x s m ↔ s.toList = [] ∧ x = 0 ∧ m = 0 ∧ (-1000000000000000 ≤ n ∧ n ≤ 1000000000000000) := by
 unfold ownQ
 by_cases hs : s.toList = []
 all_goals simp only [hs, true_and, false_and, and_true, or_false, or_true, iff_self, false_iff, not_false_eq_true]
 all_goals first | omega | (simp; done) | (simp; omega)
theorem own4 (n x : Int) (s : ByteArray) (m : Nat) : ownQ 4 n x s m ↔ s.toList = [] ∧ m = 0 ∧ fltOk n x := by
 unfold ownQ
 by_cases hs : s.toList = []
 all_goals simp only [hs, true_and, false_and, and_true, or_false, or_true, iff_self, false_iff, not_false_eq_true]
 all_goals by_cases hf : fltOk n x
 all_goals simp only [hf, true_and, false_and, and_true, and_false, or_false, or_true]
 all_goals first | omega | (simp; done) | (simp; omega)
theorem own5 (n x : Int) (s : ByteArray) (m : Nat) : ownQ 5 n x s m ↔ s.toList = [] ∧ x = 0 ∧ m = 0 ∧ (0 ≤ n ∧ n ≤ 2) := by
 unfold ownQ
 by_cases hs : s.toList = []
 all_goals simp only [hs, true_and, false_and, and_true, or_false, or_true, iff_self, false_iff, not_false_eq_true]
 all_goals first | omega | (simp; done) | (simp; omega)
theorem own6 (n x : Int) (s : ByteArray) (m : Nat) : ownQ 6 n x s m ↔ s.toList = [] ∧ m = 0 ∧ (x < 0 ∧ decOk n x) := by
 unfold ownQ
 by_cases hs : s.toList = []
 all_goals simp only [hs, true_and, false_and, and_true, or_false, or_true, iff_self, false_iff, not_false_eq_true]
 all_goals by_cases hf : decOk n x
 all_goals simp only [hf, true_and, false_and, and_true, and_false, or_false, or_true]
 all_goals first | omega | (simp; done) | (simp; omega)
theorem own7 (n x : Int) (s : ByteArray) (m : Nat) : ownQ 7 n x s m ↔ x = 0 ∧ m = 0 ∧ (n = 0 ∧ Lib.validD s.data.toList = true) := by
 unfold ownQ
 by_cases hf : Lib.validD s.data.toList = true
 all_goals simp only [hf, true_and, false_and, and_true, and_false, or_false, or_true]
 all_goals first | omega | (simp; done) | (simp; omega)
theorem own8 (n x : Int) (s : ByteArray) (m : Nat) : ownQ 8 n x s m ↔ x = 0 ∧ m = 0 ∧ n = 0 := by
 unfold ownQ
 all_goals first | omega | (simp; done) | (simp; omega)
theorem own9 (n x : Int) (s : ByteArray) (m : Nat) : ownQ 9 n x s m ↔ s.toList = [] ∧ x = 0 ∧ n = 0 := by
 unfold ownQ
 by_cases hs : s.toList = []
 all_goals simp only [hs, true_and, false_and, and_true, or_false, or_true, iff_self, false_iff, not_false_eq_true]
 all_goals first | omega | (simp; done) | (simp; omega)
theorem own10 (n x : Int) (s : ByteArray) (m : Nat) : ownQ 10 n x s m ↔ s.toList = [] ∧ x = 0 ∧ (n = 0 ∧ m % 2 = 0) := by
 unfold ownQ
 by_cases hs : s.toList = []
 all_goals simp only [hs, true_and, false_and, and_true, or_false, or_true, iff_self, false_iff, not_false_eq_true]
 all_goals first | omega | (simp; done) | (simp; omega)
theorem own11 (n x : Int) (s : ByteArray) (m : Nat) : ownQ 11 n x s m ↔ s.toList = [] ∧ x = 0 ∧ ((0 ≤ n ∧ n ≤ 1000000000000000) ∧ m = 1) := by
 unfold ownQ
 by_cases hs : s.toList = []
 all_goals simp only [hs, true_and, false_and, and_true, or_false, or_true, iff_self, false_iff, not_false_eq_true]
 all_goals first | omega | (simp; done) | (simp; omega)
set_option maxHeartbeats 4000000 in
theorem impl_own_1 (n x : Int) (s : ByteArray) (a : Option Addr) (m cap : Nat) (w : World) (hlc : m ≤ cap) (hcap : cap ≤ 9223372036854775807) (hn : I64 n) (hx : I64 x) :
  Calls Tryz.prog 86 #[.agg #[Value.int IntKind.i64 1, Value.int IntKind.i64 n, Value.int IntKind.i64 x, Value.string s, Value.slice a m cap]] w fun e w' => e = .returned (.bool (decide (ownQ 1 n x s m))) ∧ Below w.heap.size w w' := by
 have HN := Lib.hid hn; have HX := Lib.hid hx
 obtain ⟨hn0, hn1⟩ := hn; obtain ⟨hx0, hx1⟩ := hx
 go_enter Tryz.func86, Tryz.ntmps86
 go_wp2_with fail
 all_goals
  go_ret
  refine ⟨ret_b ?_, by first | exact below1 _ _ | exact below_step (below1 _ _) hb (by simp)⟩
  first | (exact (decide_eq_false (fun h => absurd ((own1 n x s m).1 h).1 (by assumption))).symm) | (exact (decide_eq_false (fun h => by have g := (own1 n x s m).1 h; have g2 := g.2; omega)).symm) | (exact (decide_eq_decide.2 ((own1 n x s m).trans ⟨fun h => by have g := h.2; omega, fun h => ⟨by assumption, by omega, by omega, by omega⟩⟩)).symm) | (exact (decide_eq_true ((own1 n x s m).2 ⟨by assumption, by omega, by omega, by omega⟩)).symm)
set_option maxHeartbeats 4000000 in
theorem impl_own_2 (n x : Int) (s : ByteArray) (a : Option Addr) (m cap : Nat) (w : World) (hlc : m ≤ cap) (hcap : cap ≤ 9223372036854775807) (hn : I64 n) (hx : I64 x) :
  Calls Tryz.prog 86 #[.agg #[Value.int IntKind.i64 2, Value.int IntKind.i64 n, Value.int IntKind.i64 x, Value.string s, Value.slice a m cap]] w fun e w' => e = .returned (.bool (decide (ownQ 2 n x s m))) ∧ Below w.heap.size w w' := by
 have HN := Lib.hid hn; have HX := Lib.hid hx
 obtain ⟨hn0, hn1⟩ := hn; obtain ⟨hx0, hx1⟩ := hx
 go_enter Tryz.func86, Tryz.ntmps86
 go_wp2_with fail
 all_goals
  go_ret
  refine ⟨ret_b ?_, by first | exact below1 _ _ | exact below_step (below1 _ _) hb (by simp)⟩
  first | (exact (decide_eq_false (fun h => absurd ((own2 n x s m).1 h).1 (by assumption))).symm) | (exact (decide_eq_false (fun h => by have g := (own2 n x s m).1 h; have g2 := g.2; omega)).symm) | (exact (decide_eq_decide.2 ((own2 n x s m).trans ⟨fun h => by have g := h.2; omega, fun h => ⟨by assumption, by omega, by omega, by omega⟩⟩)).symm) | (exact (decide_eq_true ((own2 n x s m).2 ⟨by assumption, by omega, by omega, by omega⟩)).symm) | (exact Bool.eq_iff_iff.2 ⟨fun h => decide_eq_true ((own2 n x s m).2 ⟨by assumption, by omega, by omega, by simpa using h⟩), fun h => by have g := ((own2 n x s m).1 (of_decide_eq_true h)).2.2.2; simpa using g⟩)
set_option maxHeartbeats 4000000 in
theorem impl_own_3 (n x : Int) (s : ByteArray) (a : Option Addr) (m cap : Nat) (w : World) (hlc : m ≤ cap) (hcap : cap ≤ 9223372036854775807) (hn : I64 n) (hx : I64 x) :
  Calls Tryz.prog 86 #[.agg #[Value.int IntKind.i64 3, Value.int IntKind.i64 n, Value.int IntKind.i64 x, Value.string s, Value.slice a m cap]] w fun e w' => e = .returned (.bool (decide (ownQ 3 n x s m))) ∧ Below w.heap.size w w' := by
 have HN := Lib.hid hn; have HX := Lib.hid hx
 obtain ⟨hn0, hn1⟩ := hn; obtain ⟨hx0, hx1⟩ := hx
 obtain ⟨bb, hbb⟩ : ∃ bb, decide ((-1000000000000000 : Int) ≤ n ∧ n ≤ 1000000000000000) = bb := ⟨_, rfl⟩
 (have HBB := Lib.hid hbb; clear hbb)
 go_enter Tryz.func86, Tryz.ntmps86
 go_wp2_with (go_at_call 125; refine (impl_within _ _ _ _).mono ?_; rintro e w2 ⟨rfl, hb⟩; rw [HBB.out])
 all_goals
  go_ret
  refine ⟨ret_b ?_, by first | exact below1 _ _ | exact below_step (below1 _ _) hb (by simp)⟩
  first | (exact (decide_eq_false (fun h => absurd ((own3 n x s m).1 h).1 (by assumption))).symm) | (exact (decide_eq_false (fun h => by have g := (own3 n x s m).1 h; have g2 := g.2; omega)).symm) | (exact HBB.out.symm.trans (decide_eq_decide.2 ((own3 n x s m).trans ⟨fun h => h.2.2.2, fun h => ⟨by assumption, by omega, by omega, h⟩⟩)).symm)
set_option maxHeartbeats 4000000 in
theorem impl_own_4 (n x : Int) (s : ByteArray) (a : Option Addr) (m cap : Nat) (w : World) (hlc : m ≤ cap) (hcap : cap ≤ 9223372036854775807) (hn : I64 n) (hx : I64 x) :
  Calls Tryz.prog 86 #[.agg #[Value.int IntKind.i64 4, Value.int IntKind.i64 n, Value.int IntKind.i64 x, Value.string s, Value.slice a m cap]] w fun e w' => e = .returned (.bool (decide (ownQ 4 n x s m))) ∧ Below w.heap.size w w' := by
 have HN := Lib.hid hn; have HX := Lib.hid hx
 obtain ⟨hn0, hn1⟩ := hn; obtain ⟨hx0, hx1⟩ := hx
 go_enter Tryz.func86, Tryz.ntmps86
 go_wp2_with (go_at_call 144; refine (impl_FltOk _ _ _ HN.out HX.out).mono ?_; rintro e w2 ⟨rfl, hb⟩)
 all_goals
  go_ret
  refine ⟨ret_b ?_, by first | exact below1 _ _ | exact below_step (below1 _ _) hb (by simp)⟩
  first | (exact (decide_eq_false (fun h => absurd ((own4 n x s m).1 h).1 (by assumption))).symm) | (exact (decide_eq_false (fun h => by have g := (own4 n x s m).1 h; have g1 := g.2.1; omega)).symm) | (exact (decide_eq_decide.2 ((own4 n x s m).trans ⟨fun h => h.2.2, fun h => ⟨by assumption, by omega, h⟩⟩)).symm)
set_option maxHeartbeats 4000000 in
theorem impl_own_5 (n x : Int) (s : ByteArray) (a : Option Addr) (m cap : Nat) (w : World) (hlc : m ≤ cap) (hcap : cap ≤ 9223372036854775807) (hn : I64 n) (hx : I64 x) :
  Calls Tryz.prog 86 #[.agg #[Value.int IntKind.i64 5, Value.int IntKind.i64 n, Value.int IntKind.i64 x, Value.string s, Value.slice a m cap]] w fun e w' => e = .returned (.bool (decide (ownQ 5 n x s m))) ∧ Below w.heap.size w w' := by
 have HN := Lib.hid hn; have HX := Lib.hid hx
 obtain ⟨hn0, hn1⟩ := hn; obtain ⟨hx0, hx1⟩ := hx
 obtain ⟨bb, hbb⟩ : ∃ bb, decide ((0 : Int) ≤ n ∧ n ≤ 2) = bb := ⟨_, rfl⟩
 (have HBB := Lib.hid hbb; clear hbb)
 go_enter Tryz.func86, Tryz.ntmps86
 go_wp2_with (go_at_call 125; refine (impl_within _ _ _ _).mono ?_; rintro e w2 ⟨rfl, hb⟩; rw [HBB.out])
 all_goals
  go_ret
  refine ⟨ret_b ?_, by first | exact below1 _ _ | exact below_step (below1 _ _) hb (by simp)⟩
  first | (exact (decide_eq_false (fun h => absurd ((own5 n x s m).1 h).1 (by assumption))).symm) | (exact (decide_eq_false (fun h => by have g := (own5 n x s m).1 h; have g2 := g.2; omega)).symm) | (exact HBB.out.symm.trans (decide_eq_decide.2 ((own5 n x s m).trans ⟨fun h => h.2.2.2, fun h => ⟨by assumption, by omega, by omega, h⟩⟩)).symm)
set_option maxHeartbeats 4000000 in
theorem impl_own_6 (n x : Int) (s : ByteArray) (a : Option Addr) (m cap : Nat) (w : World) (hlc : m ≤ cap) (hcap : cap ≤ 9223372036854775807) (hn : I64 n) (hx : I64 x) (htab : Lib.TabBelow Tryz.prog w.heap.size w "internal/strconv.uint64pow10" .u64 Lib.pow10Tab) :
  Calls Tryz.prog 86 #[.agg #[Value.int IntKind.i64 6, Value.int IntKind.i64 n, Value.int IntKind.i64 x, Value.string s, Value.slice a m cap]] w fun e w' => e = .returned (.bool (decide (ownQ 6 n x s m))) ∧ Below w.heap.size w w' := by
 have HN := Lib.hid hn; have HX := Lib.hid hx
 obtain ⟨hn0, hn1⟩ := hn; obtain ⟨hx0, hx1⟩ := hx
 have HT := Lib.hid htab; clear htab
 go_enter Tryz.func86, Tryz.ntmps86
 go_wp2_with (go_at_call 145; refine (impl_DecOk _ _ _ HN.out HX.out (fun W hW => HT.out W ((below1 _ _).trans (hW.mono (by simp))))).mono ?_; rintro e w2 ⟨rfl, hb⟩)
 all_goals
  go_ret
  refine ⟨ret_b ?_, by first | exact below1 _ _ | exact below_step (below1 _ _) hb (by simp)⟩
  first | (exact (decide_eq_false (fun h => absurd ((own6 n x s m).1 h).1 (by assumption))).symm) | (exact (decide_eq_false (fun h => by have g := (own6 n x s m).1 h; have g1 := g.2.1; have g2 := g.2.2.1; omega)).symm) | (exact (decide_eq_decide.2 ((own6 n x s m).trans ⟨fun h => h.2.2.2, fun h => ⟨by assumption, by omega, by omega, h⟩⟩)).symm)
set_option maxHeartbeats 4000000 in
theorem impl_own_7 (n x : Int) (s : ByteArray) (a : Option Addr) (m cap : Nat) (w : World) (hlc : m ≤ cap) (hcap : cap ≤ 9223372036854775807) (hn : I64 n) (hx : I64 x) (hss : s.size ≤ 4611686018427387903) (hU : UtfBelow w.heap.size w) :
  Calls Tryz.prog 86 #[.agg #[Value.int IntKind.i64 7, Value.int IntKind.i64 n, Value.int IntKind.i64 x, Value.string s, Value.slice a m cap]] w fun e w' => e = .returned (.bool (decide (ownQ 7 n x s m))) ∧ Below w.heap.size w w' := by
 have HN := Lib.hid hn; have HX := Lib.hid hx
 obtain ⟨hn0, hn1⟩ := hn; obtain ⟨hx0, hx1⟩ := hx
 have HU := Lib.hid hU; clear hU
 go_enter Tryz.func86, Tryz.ntmps86
 go_wp2_with (go_at_call 143; refine (impl_TextOk _ _ hss (HU.out _ (below1 _ _))).mono ?_; rintro e w2 ⟨rfl, hb⟩)
 all_goals
  go_ret
  refine ⟨ret_b ?_, by first | exact below1 _ _ | exact below_step (below1 _ _) hb (by simp)⟩
  first | (exact (decide_eq_false (fun h => by have g := (own7 n x s m).1 h; have g1 := g.1; have g2 := g.2.1; have g3 := g.2.2.1; omega)).symm) | (exact (Bool.eq_iff_iff.2 ⟨fun h => decide_eq_true ((own7 n x s m).2 ⟨by omega, by omega, by omega, h⟩), fun h => ((own7 n x s m).1 (of_decide_eq_true h)).2.2.2⟩))
set_option maxHeartbeats 4000000 in
theorem impl_own_8 (n x : Int) (s : ByteArray) (a : Option Addr) (m cap : Nat) (w : World) (hlc : m ≤ cap) (hcap : cap ≤ 9223372036854775807) (hn : I64 n) (hx : I64 x) :
  Calls Tryz.prog 86 #[.agg #[Value.int IntKind.i64 8, Value.int IntKind.i64 n, Value.int IntKind.i64 x, Value.string s, Value.slice a m cap]] w fun e w' => e = .returned (.bool (decide (ownQ 8 n x s m))) ∧ Below w.heap.size w w' := by
 have HN := Lib.hid hn; have HX := Lib.hid hx
 obtain ⟨hn0, hn1⟩ := hn; obtain ⟨hx0, hx1⟩ := hx
 go_enter Tryz.func86, Tryz.ntmps86
 go_wp2_with fail
 all_goals
  go_ret
  refine ⟨ret_b ?_, by first | exact below1 _ _ | exact below_step (below1 _ _) hb (by simp)⟩
  first | (exact (decide_eq_false (fun h => by have g := (own8 n x s m).1 h; omega)).symm) | (exact (decide_eq_decide.2 ((own8 n x s m).trans ⟨fun h => by have g := h; omega, fun h => ⟨by omega, by omega, by omega⟩⟩)).symm) | (exact (decide_eq_true ((own8 n x s m).2 ⟨by omega, by omega, by omega⟩)).symm)
set_option maxHeartbeats 4000000 in
theorem impl_own_9 (n x : Int) (s : ByteArray) (a : Option Addr) (m cap : Nat) (w : World) (hlc : m ≤ cap) (hcap : cap ≤ 9223372036854775807) (hn : I64 n) (hx : I64 x) :
  Calls Tryz.prog 86 #[.agg #[Value.int IntKind.i64 9, Value.int IntKind.i64 n, Value.int IntKind.i64 x, Value.string s, Value.slice a m cap]] w fun e w' => e = .returned (.bool (decide (ownQ 9 n x s m))) ∧ Below w.heap.size w w' := by
 have HN := Lib.hid hn; have HX := Lib.hid hx
 obtain ⟨hn0, hn1⟩ := hn; obtain ⟨hx0, hx1⟩ := hx
 go_enter Tryz.func86, Tryz.ntmps86
 go_wp2_with fail
 all_goals
  go_ret
  refine ⟨ret_b ?_, by first | exact below1 _ _ | exact below_step (below1 _ _) hb (by simp)⟩
  first | (exact (decide_eq_false (fun h => absurd ((own9 n x s m).1 h).1 (by assumption))).symm) | (exact (decide_eq_false (fun h => by have g := (own9 n x s m).1 h; have g2 := g.2; omega)).symm) | (exact (decide_eq_decide.2 ((own9 n x s m).trans ⟨fun h => by have g := h.2; omega, fun h => ⟨by assumption, by omega, by omega⟩⟩)).symm) | (exact (decide_eq_true ((own9 n x s m).2 ⟨by assumption, by omega, by omega⟩)).symm)
set_option maxHeartbeats 4000000 in
theorem impl_own_10 (n x : Int) (s : ByteArray) (a : Option Addr) (m cap : Nat) (w : World) (hlc : m ≤ cap) (hcap : cap ≤ 9223372036854775807) (hn : I64 n) (hx : I64 x) :
  Calls Tryz.prog 86 #[.agg #[Value.int IntKind.i64 10, Value.int IntKind.i64 n, Value.int IntKind.i64 x, Value.string s, Value.slice a m cap]] w fun e w' => e = .returned (.bool (decide (ownQ 10 n x s m))) ∧ Below w.heap.size w w' := by
 have HN := Lib.hid hn; have HX := Lib.hid hx
 obtain ⟨hn0, hn1⟩ := hn; obtain ⟨hx0, hx1⟩ := hx
 go_enter Tryz.func86, Tryz.ntmps86
 go_wp2_with fail
 all_goals
  go_ret
  refine ⟨ret_b ?_, by first | exact below1 _ _ | exact below_step (below1 _ _) hb (by simp)⟩
  first | (exact (decide_eq_false (fun h => absurd ((own10 n x s m).1 h).1 (by assumption))).symm) | (exact (decide_eq_false (fun h => by have g := (own10 n x s m).1 h; have g2 := g.2; omega)).symm) | (exact (decide_eq_decide.2 ((own10 n x s m).trans ⟨fun h => by have g := h.2; omega, fun h => ⟨by assumption, by omega, by omega⟩⟩)).symm) | (exact (decide_eq_true ((own10 n x s m).2 ⟨by assumption, by omega, by omega⟩)).symm)
set_option maxHeartbeats 4000000 in
theorem impl_own_11 (n x : Int) (s : ByteArray) (a : Option Addr) (m cap : Nat) (w : World) (hlc : m ≤ cap) (hcap : cap ≤ 9223372036854775807) (hn : I64 n) (hx : I64 x) :
  Calls Tryz.prog 86 #[.agg #[Value.int IntKind.i64 11, Value.int IntKind.i64 n, Value.int IntKind.i64 x, Value.string s, Value.slice a m cap]] w fun e w' => e = .returned (.bool (decide (ownQ 11 n x s m))) ∧ Below w.heap.size w w' := by
 have HN := Lib.hid hn; have HX := Lib.hid hx
 obtain ⟨hn0, hn1⟩ := hn; obtain ⟨hx0, hx1⟩ := hx
 obtain ⟨bb, hbb⟩ : ∃ bb, decide ((0 : Int) ≤ n ∧ n ≤ 1000000000000000) = bb := ⟨_, rfl⟩
 rcases bb with _ | _
 all_goals (have HBB := Lib.hid hbb; clear hbb)
 all_goals go_enter Tryz.func86, Tryz.ntmps86
 all_goals go_wp2_with (go_at_call 125; refine (impl_within _ _ _ _).mono ?_; rintro e w2 ⟨rfl, hb⟩; rw [HBB.out]; have q2 := (Is.new w _ 26).below hb (by simp); obtain ⟨r0, r1, r2, r3, r4⟩ := q2.cells5; have hl2 : w.heap.size < w2.heap.size := Nat.lt_of_lt_of_le (by simp) hb.size)
 all_goals
  go_ret
  refine ⟨ret_b ?_, by first | exact below1 _ _ | exact below_step (below1 _ _) hb (by simp)⟩
  first | (exact (decide_eq_false (fun h => absurd ((own11 n x s m).1 h).1 (by assumption))).symm) | (exact (decide_eq_false (fun h => by have g := (own11 n x s m).1 h; have g2 := g.2; omega)).symm) | (exact (decide_eq_false (fun h => by have g := (own11 n x s m).1 h; have g2 := g.2.2.1; have g3 := of_decide_eq_false HBB.out; exact g3 g2)).symm) | (exact (decide_eq_decide.2 ((own11 n x s m).trans ⟨fun h => by have g := h.2.2.2; omega, fun h => ⟨by assumption, by omega, of_decide_eq_true HBB.out, by omega⟩⟩)).symm) | (exact (decide_eq_true ((own11 n x s m).2 ⟨by assumption, by omega, of_decide_eq_true HBB.out, by omega⟩)).symm)
set_option maxHeartbeats 4000000 in
theorem impl_own_o (k n x : Int) (s : ByteArray) (a : Option Addr) (m cap : Nat) (w : World) (hlc : m ≤ cap) (hcap : cap ≤ 9223372036854775807) (hn : I64 n) (hx : I64 x) (hk : k < 1 ∨ 11 < k) :
  Calls Tryz.prog 86 #[.agg #[Value.int IntKind.i64 k, Value.int IntKind.i64 n, Value.int IntKind.i64 x, Value.string s, Value.slice a m cap]] w fun e w' => e = .returned (.bool (decide (ownQ k n x s m))) ∧ Below w.heap.size w w' := by
 have HN := Lib.hid hn; have HX := Lib.hid hx
 obtain ⟨hn0, hn1⟩ := hn; obtain ⟨hx0, hx1⟩ := hx
 go_enter Tryz.func86, Tryz.ntmps86
 go_wp2_with fail
 all_goals
  go_ret
  refine ⟨ret_b ?_, by first | exact below1 _ _ | exact below_step (below1 _ _) hb (by simp)⟩
  exact (decide_eq_false (ownQ_out _ _ _ _ _ hk)).symm
theorem impl_ownOk (t : T) (a : Option Addr) (cap : Nat) (w : World) (hlc : t.l.length ≤ cap) (hcap : cap ≤ 9223372036854775807) (hwf : Wf t) (hss : t.s.size ≤ 4611686018427387903)
  (htab : Lib.TabBelow Tryz.prog w.heap.size w "internal/strconv.uint64pow10" .u64 Lib.pow10Tab) (hU : UtfBelow w.heap.size w) :
  Calls Tryz.prog 86 #[.agg (cV t a cap)] w fun e w' => e = .returned (.bool (decide (ownP t))) ∧ Below w.heap.size w w' := by
 obtain ⟨k, n, x, s, l⟩ := t
 obtain ⟨hk, hn, hx, _⟩ := hwf
 simp only [T.k, T.n, T.x, T.s, T.l, cV, ownP] at *
 have hcases : k = 1 ∨ k = 2 ∨ k = 3 ∨ k = 4 ∨ k = 5 ∨ k = 6 ∨ k = 7 ∨ k = 8 ∨ k = 9 ∨ k = 10 ∨ k = 11 ∨ (k < 1 ∨ 11 < k) := by omega
 obtain rfl | rfl | rfl | rfl | rfl | rfl | rfl | rfl | rfl | rfl | rfl | hko := hcases
 ·exact impl_own_1 n x s a l.length cap w hlc hcap hn hx
 ·exact impl_own_2 n x s a l.length cap w hlc hcap hn hx
 ·exact impl_own_3 n x s a l.length cap w hlc hcap hn hx
 ·exact impl_own_4 n x s a l.length cap w hlc hcap hn hx
 ·exact impl_own_5 n x s a l.length cap w hlc hcap hn hx
 ·exact impl_own_6 n x s a l.length cap w hlc hcap hn hx htab
 ·exact impl_own_7 n x s a l.length cap w hlc hcap hn hx hss hU
 ·exact impl_own_8 n x s a l.length cap w hlc hcap hn hx
 ·exact impl_own_9 n x s a l.length cap w hlc hcap hn hx
 ·exact impl_own_10 n x s a l.length cap w hlc hcap hn hx
 ·exact impl_own_11 n x s a l.length cap w hlc hcap hn hx
 ·exact impl_own_o k n x s a l.length cap w hlc hcap hn hx hko
mutual
def allB (p : T → Bool) : T → Bool | .mk k n x s l => p (.mk k n x s l) && allBs p l
def allBs (p : T → Bool) : List T → Bool | [] => true | t :: r => allB p t && allBs p r
end
theorem allBs_all (p : T → Bool) (l : List T) : allBs p l = l.all (allB p) := by
 induction l with
 | nil => rfl
 | cons t r ih => simp [allBs, ih]
theorem allB_eq (p : T → Bool) (t : T) : allB p t = (p t && t.l.all (allB p)) := by
 cases t; simp only [allB, allBs_all, T.l]
abbrev ownB (t : T) : Bool := decide (ownP t)
theorem sz_string (t : T) : t.s.size ≤ T.sz t := by cases t; simp only [T.s, T.sz]; omega
theorem sz_list (t : T) : T.szL t.l ≤ T.sz t := by cases t; simp only [T.l, T.sz]; omega
theorem sz_of (k n x : Int) (s : ByteArray) (l : List T) : T.sz (.mk k n x s l) = s.size + T.szL l := by simp only [T.sz]
end Go.Proofs.YtggdenkmohnijaaGreatDoor
