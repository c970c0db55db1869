/- Texts of this proof, merged: ValF3, OwnT, OwnS. No condition beyond what each theorem states. -/
import Derived.Test.YtggdenkmohnijaaGreatDoorZT3
set_option linter.unusedSimpArgs false
set_option linter.unnecessarySimpa false
namespace Go.Proofs.YtggdenkmohnijaaGreatDoor
open Go.ChangeShapes Go.WideShapes Go.ChangeAt Go.RowKit Go.Joins
set_option linter.unusedVariables false
set_option maxRecDepth 100000
set_option maxHeartbeats 2000000 in
theorem impl_FltOk (m x : Int) (w : World) (hm : I64 m) (hx : I64 x) :
    Calls Tryz.prog 144 #[.agg (cF m x)] w fun e w' => e = .returned (.bool (decide (fltOk m x))) ∧ Below w.heap.size w w' := by
  obtain ⟨hm0, hm1⟩ := hm
  obtain ⟨hx0, hx1⟩ := hx
  have hl : w.heap.size < (w.alloc (.cells (cF m x) 61)).heap.size := by simp
  have H0 := Lib.hid (below1 w (.cells (cF m x) 61))
  have q0 := Is.new w (cF m x) 61
  by_cases h0 : m = 0
  · subst h0
    by_cases h1 : x = 0
    · subst h1
      have HD := Lib.hid (show decide (fltOk 0 0) = true from decide_eq_true (Or.inl ⟨rfl, rfl⟩))
      go_enter Tryz.func144, Tryz.ntmps144
      go_wp2_with fail
      go_ret
      exact ⟨ret_b (by rw [HD.out]), H0.out⟩
    · have HD := Lib.hid (show decide (fltOk 0 x) = false from decide_eq_false (by rintro (h | h); exact h1 h.2; exact h.1 rfl))
      go_enter Tryz.func144, Tryz.ntmps144
      go_wp2_with fail
      go_ret
      exact ⟨ret_b (by rw [HD.out]; simp [h1]), H0.out⟩
  by_cases h1 : m.tmod 2 = 0
  · have HD := Lib.hid (show decide (fltOk m x) = false from decide_eq_false (by rintro (h | h); exact h0 h.1; exact h.2.2.1 h1))
    go_enter Tryz.func144, Tryz.ntmps144
    go_wp2_with fail
    go_ret
    exact ⟨ret_b (by rw [HD.out]), H0.out⟩
  by_cases h2 : -65535 ≤ m ∧ m ≤ 65535
  · have D2 := Lib.hid (show decide ((-65535 : Int) ≤ m ∧ m ≤ 65535) = true from decide_eq_true h2)
    by_cases h3 : x < -16
    · have HD := Lib.hid (show decide (fltOk m x) = false from decide_eq_false (by rintro (h | h); exact h0 h.1; have := h.2.2.2.1; omega))
      go_enter Tryz.func144, Tryz.ntmps144
      go_wp2_with (go_at_call 125; refine (impl_within _ _ _ _).mono ?_; rintro e w2 ⟨rfl, hb⟩; rw [D2.out]; have HB2 := Lib.hid (below_step H0.out hb (by simp)); have q2 := q0.below hb hl; obtain ⟨r0, r1⟩ := q2.cells2; have hl2 : w.heap.size < w2.heap.size := Nat.lt_of_lt_of_le hl hb.size; clear hb)
      go_ret
      exact ⟨ret_b (by rw [HD.out]), HB2.out⟩
    have h3' : -16 ≤ x := by omega
    have h3d : decide (x < -16) = false := decide_eq_false h3
    by_cases h4 : x ≤ 30
    · have HD := Lib.hid (show decide (fltOk m x) = true from decide_eq_true (Or.inr ⟨h0, h2, h1, by omega, Or.inl h4⟩))
      go_enter Tryz.func144, Tryz.ntmps144
      go_wp2_with (go_at_call 125; refine (impl_within _ _ _ _).mono ?_; rintro e w2 ⟨rfl, hb⟩; rw [D2.out]; have HB2 := Lib.hid (below_step H0.out hb (by simp)); have q2 := q0.below hb hl; obtain ⟨r0, r1⟩ := q2.cells2; have hl2 : w.heap.size < w2.heap.size := Nat.lt_of_lt_of_le hl hb.size; clear hb)
      go_ret
      exact ⟨ret_b (by rw [HD.out]), HB2.out⟩
    by_cases h5 : x ≤ 46
    · obtain ⟨bb, hbb⟩ : ∃ bb, decide (-65535 ≤ m * 2 ^ (x - 30).toNat ∧ m * 2 ^ (x - 30).toNat ≤ 65535) = bb := ⟨_, rfl⟩
      have HD := Lib.hid ((fltOk_big (m := m) (e := x) (x - 30).toNat (by omega) (by omega) h0 h2 h1).trans hbb)
      obtain rfl | rfl | rfl | rfl | rfl | rfl | rfl | rfl | rfl | rfl | rfl | rfl | rfl | rfl | rfl | rfl : x = 31 ∨ x = 32 ∨ x = 33 ∨ x = 34 ∨ x = 35 ∨ x = 36 ∨ x = 37 ∨ x = 38 ∨ x = 39 ∨ x = 40 ∨ x = 41 ∨ x = 42 ∨ x = 43 ∨ x = 44 ∨ x = 45 ∨ x = 46 := by omega
      all_goals
        simp only [Int.reduceSub, Int.reduceToNat, Int.reducePow] at hbb
        have HBB := Lib.hid hbb; clear hbb
        go_enter Tryz.func144, Tryz.ntmps144
        go_wp2_with (go_at_call 125; refine (impl_within _ _ _ _).mono ?_; rintro e w2 ⟨rfl, hb⟩; first | (rw [D2.out]; have HB2 := Lib.hid (below_step H0.out hb (by simp)); have q2 := q0.below hb hl; obtain ⟨r0, r1⟩ := q2.cells2; have hl2 : w.heap.size < w2.heap.size := Nat.lt_of_lt_of_le hl hb.size; clear hb) | (rw [HBB.out]; have HB3 := Lib.hid (below_step HB2.out hb HB2.out.size)))
        go_ret
        exact ⟨ret_b (by rw [HD.out]), HB3.out⟩
    · have HD := Lib.hid (show decide (fltOk m x) = false from decide_eq_false (by rintro (h | h); exact h0 h.1; have := h.2.2.2.2; omega))
      go_enter Tryz.func144, Tryz.ntmps144
      go_wp2_with (go_at_call 125; refine (impl_within _ _ _ _).mono ?_; rintro e w2 ⟨rfl, hb⟩; rw [D2.out]; have HB2 := Lib.hid (below_step H0.out hb (by simp)); have q2 := q0.below hb hl; obtain ⟨r0, r1⟩ := q2.cells2; have hl2 : w.heap.size < w2.heap.size := Nat.lt_of_lt_of_le hl hb.size; clear hb)
      go_ret
      exact ⟨ret_b (by rw [HD.out]), HB2.out⟩
  · have D2 := Lib.hid (show decide ((-65535 : Int) ≤ m ∧ m ≤ 65535) = false from decide_eq_false h2)
    have HD := Lib.hid (show decide (fltOk m x) = false from decide_eq_false (by rintro (h | h); exact h0 h.1; exact h2 h.2.1))
    go_enter Tryz.func144, Tryz.ntmps144
    go_wp2_with (go_at_call 125; refine (impl_within _ _ _ _).mono ?_; rintro e w2 ⟨rfl, hb⟩; rw [D2.out]; have HB2 := Lib.hid (below_step H0.out hb (by simp)); clear hb)
    go_ret
    exact ⟨ret_b (by rw [HD.out]), HB2.out⟩
set_option maxHeartbeats 2000000 in
theorem spec_FltOk (m x : Int) (w : World) (hm : I64 m) (hx : I64 x) :
    Calls Tryz.prog 122 #[.agg (cF m x)] w fun e w' => e = .returned (.bool (decide (fltOk m x))) ∧ Below w.heap.size w w' := by
  obtain ⟨hm0, hm1⟩ := hm
  obtain ⟨hx0, hx1⟩ := hx
  have hl : w.heap.size < (w.alloc (.cells (cF m x) 61)).heap.size := by simp
  have H0 := Lib.hid (below1 w (.cells (cF m x) 61))
  have q0 := Is.new w (cF m x) 61
  by_cases h0 : m = 0
  · subst h0
    by_cases h1 : x = 0
    · subst h1
      have HD := Lib.hid (show decide (fltOk 0 0) = true from decide_eq_true (Or.inl ⟨rfl, rfl⟩))
      go_enter Tryz.func122, Tryz.ntmps122
      go_wp2_with fail
      go_ret
      exact ⟨ret_b (by rw [HD.out]), H0.out⟩
    · have HD := Lib.hid (show decide (fltOk 0 x) = false from decide_eq_false (by rintro (h | h); exact h1 h.2; exact h.1 rfl))
      go_enter Tryz.func122, Tryz.ntmps122
      go_wp2_with fail
      go_ret
      exact ⟨ret_b (by rw [HD.out]; simp [h1]), H0.out⟩
  by_cases h2 : -65535 ≤ m ∧ m ≤ 65535
  · have D2 := Lib.hid (show decide ((-65535 : Int) ≤ m ∧ m ≤ 65535) = true from decide_eq_true h2)
    by_cases h1 : m.tmod 2 = 0
    · have HD := Lib.hid (show decide (fltOk m x) = false from decide_eq_false (by rintro (h | h); exact h0 h.1; exact h.2.2.1 h1))
      go_enter Tryz.func122, Tryz.ntmps122
      go_wp2_with (go_at_call 74; refine (spec_l1In _ _ _ _).mono ?_; rintro e w2 ⟨rfl, hb⟩; first | (rw [D2.out]; have HB2 := Lib.hid (below_step H0.out hb (by simp)); have q2 := q0.below hb hl; obtain ⟨r0, r1⟩ := q2.cells2; have hl2 : w.heap.size < w2.heap.size := Nat.lt_of_lt_of_le hl hb.size; clear hb) | (rw [D3.out]; have HB3 := Lib.hid (below_step HB2.out hb HB2.out.size); have q3 := q2.below hb hl2; obtain ⟨s0, s1⟩ := q3.cells2; have hl3 : w.heap.size < w2.heap.size := Nat.lt_of_lt_of_le hl2 hb.size; clear hb) | (rw [HBB.out]; have HB4 := Lib.hid (below_step HB3.out hb HB3.out.size)))
      go_ret
      exact ⟨ret_b (by rw [HD.out]), HB2.out⟩
    by_cases h3 : -16 ≤ x ∧ x ≤ 45
    · have D3 := Lib.hid (show decide ((-16 : Int) ≤ x ∧ x ≤ 45) = true from decide_eq_true h3)
      by_cases h4 : x ≤ 30
      · have HD := Lib.hid (show decide (fltOk m x) = true from decide_eq_true (Or.inr ⟨h0, h2, h1, by omega, Or.inl h4⟩))
        go_enter Tryz.func122, Tryz.ntmps122
        go_wp2_with (go_at_call 74; refine (spec_l1In _ _ _ _).mono ?_; rintro e w2 ⟨rfl, hb⟩; first | (rw [D2.out]; have HB2 := Lib.hid (below_step H0.out hb (by simp)); have q2 := q0.below hb hl; obtain ⟨r0, r1⟩ := q2.cells2; have hl2 : w.heap.size < w2.heap.size := Nat.lt_of_lt_of_le hl hb.size; clear hb) | (rw [D3.out]; have HB3 := Lib.hid (below_step HB2.out hb HB2.out.size); have q3 := q2.below hb hl2; obtain ⟨s0, s1⟩ := q3.cells2; have hl3 : w.heap.size < w2.heap.size := Nat.lt_of_lt_of_le hl2 hb.size; clear hb) | (rw [HBB.out]; have HB4 := Lib.hid (below_step HB3.out hb HB3.out.size)))
        go_ret
        exact ⟨ret_b (by rw [HD.out]), HB3.out⟩
      · obtain ⟨bb, hbb⟩ : ∃ bb, decide (-65535 ≤ m * 2 ^ (x - 30).toNat ∧ m * 2 ^ (x - 30).toNat ≤ 65535) = bb := ⟨_, rfl⟩
        have HD := Lib.hid ((fltOk_big (m := m) (e := x) (x - 30).toNat (by omega) (by omega) h0 h2 h1).trans hbb)
        obtain rfl | rfl | rfl | rfl | rfl | rfl | rfl | rfl | rfl | rfl | rfl | rfl | rfl | rfl | rfl : x = 31 ∨ x = 32 ∨ x = 33 ∨ x = 34 ∨ x = 35 ∨ x = 36 ∨ x = 37 ∨ x = 38 ∨ x = 39 ∨ x = 40 ∨ x = 41 ∨ x = 42 ∨ x = 43 ∨ x = 44 ∨ x = 45 := by omega
        all_goals
          simp only [Int.reduceSub, Int.reduceToNat, Int.reducePow] at hbb
          have HBB := Lib.hid hbb; clear hbb
          go_enter Tryz.func122, Tryz.ntmps122
          go_wp2_with (go_at_call 74; refine (spec_l1In _ _ _ _).mono ?_; rintro e w2 ⟨rfl, hb⟩; first | (rw [D2.out]; have HB2 := Lib.hid (below_step H0.out hb (by simp)); have q2 := q0.below hb hl; obtain ⟨r0, r1⟩ := q2.cells2; have hl2 : w.heap.size < w2.heap.size := Nat.lt_of_lt_of_le hl hb.size; clear hb) | (rw [D3.out]; have HB3 := Lib.hid (below_step HB2.out hb HB2.out.size); have q3 := q2.below hb hl2; obtain ⟨s0, s1⟩ := q3.cells2; have hl3 : w.heap.size < w2.heap.size := Nat.lt_of_lt_of_le hl2 hb.size; clear hb) | (rw [HBB.out]; have HB4 := Lib.hid (below_step HB3.out hb HB3.out.size)))
          go_ret
          exact ⟨ret_b (by rw [HD.out]), HB4.out⟩
    · have D3 := Lib.hid (show decide ((-16 : Int) ≤ x ∧ x ≤ 45) = false from decide_eq_false h3)
      have HD := Lib.hid (show decide (fltOk m x) = false from decide_eq_false (by
        rintro (h | h); exact h0 h.1
        have e46 := h.2.2.2.2
        by_cases h46 : x = 46
        · subst h46
          rcases e46 with h | h
          · omega
          · simp only [Int.reduceSub, Int.reduceToNat, Int.reducePow] at h; omega
        · omega))
      go_enter Tryz.func122, Tryz.ntmps122
      go_wp2_with (go_at_call 74; refine (spec_l1In _ _ _ _).mono ?_; rintro e w2 ⟨rfl, hb⟩; first | (rw [D2.out]; have HB2 := Lib.hid (below_step H0.out hb (by simp)); have q2 := q0.below hb hl; obtain ⟨r0, r1⟩ := q2.cells2; have hl2 : w.heap.size < w2.heap.size := Nat.lt_of_lt_of_le hl hb.size; clear hb) | (rw [D3.out]; have HB3 := Lib.hid (below_step HB2.out hb HB2.out.size); have q3 := q2.below hb hl2; obtain ⟨s0, s1⟩ := q3.cells2; have hl3 : w.heap.size < w2.heap.size := Nat.lt_of_lt_of_le hl2 hb.size; clear hb) | (rw [HBB.out]; have HB4 := Lib.hid (below_step HB3.out hb HB3.out.size)))
      go_ret
      exact ⟨ret_b (by rw [HD.out]), HB3.out⟩
  · have D2 := Lib.hid (show decide ((-65535 : Int) ≤ m ∧ m ≤ 65535) = false from decide_eq_false h2)
    have HD := Lib.hid (show decide (fltOk m x) = false from decide_eq_false (by rintro (h | h); exact h0 h.1; exact h2 h.2.1))
    go_enter Tryz.func122, Tryz.ntmps122
    go_wp2_with (go_at_call 74; refine (spec_l1In _ _ _ _).mono ?_; rintro e w2 ⟨rfl, hb⟩; first | (rw [D2.out]; have HB2 := Lib.hid (below_step H0.out hb (by simp)); have q2 := q0.below hb hl; obtain ⟨r0, r1⟩ := q2.cells2; have hl2 : w.heap.size < w2.heap.size := Nat.lt_of_lt_of_le hl hb.size; clear hb) | (rw [D3.out]; have HB3 := Lib.hid (below_step HB2.out hb HB2.out.size); have q3 := q2.below hb hl2; obtain ⟨s0, s1⟩ := q3.cells2; have hl3 : w.heap.size < w2.heap.size := Nat.lt_of_lt_of_le hl2 hb.size; clear hb) | (rw [HBB.out]; have HB4 := Lib.hid (below_step HB3.out hb HB3.out.size)))
    go_ret
    exact ⟨ret_b (by rw [HD.out]), HB2.out⟩
def ownQ (k n x : Int) (s : ByteArray) (m : Nat) : Prop :=
  (k = 7 ∨ k = 8 ∨ s.toList = []) ∧ (k = 4 ∨ k = 6 ∨ x = 0) ∧ (9 ≤ k ∨ m = 0) ∧
  ((k = 1 ∧ n = 0) ∨ (k = 2 ∧ (n = 0 ∨ n = 1)) ∨ (k = 3 ∧ -1000000000000000 ≤ n ∧ n ≤ 1000000000000000) ∨ (k = 4 ∧ fltOk n x) ∨ (k = 5 ∧ 0 ≤ n ∧ n ≤ 2) ∨ (k = 6 ∧ x < 0 ∧ decOk n x) ∨
   (k = 7 ∧ n = 0 ∧ Lib.validD s.data.toList = true) ∨ (k = 8 ∧ n = 0) ∨ (k = 9 ∧ n = 0) ∨ (k = 10 ∧ n = 0 ∧ m % 2 = 0) ∨ (k = 11 ∧ (0 ≤ n ∧ n ≤ 1000000000000000) ∧ m = 1))
instance (k n x : Int) (s : ByteArray) (m : Nat) : Decidable (ownQ k n x s m) := by unfold ownQ; exact inferInstance
abbrev ownP (t : T) : Prop := ownQ t.k t.n t.x t.s t.l.length
theorem ownQ_out (k n x : Int) (s : ByteArray) (m : Nat) (h : k < 1 ∨ 11 < k) : ¬ ownQ k n x s m := by unfold ownQ; omega
theorem own1 (n x : Int) (s : ByteArray) (m : Nat) : ownQ 1 n x s m ↔ s.toList = [] ∧ x = 0 ∧ m = 0 ∧ n = 0 := by
  unfold ownQ
  by_cases hs : s.toList = []
  all_goals simp only [hs, true_and, false_and, and_true, or_false, or_true, iff_self, false_iff, not_false_eq_true]
  all_goals first | omega | (simp; done) | (simp; omega)
theorem own2 (n x : Int) (s : ByteArray) (m : Nat) : ownQ 2 n x s m ↔ s.toList = [] ∧ x = 0 ∧ m = 0 ∧ (n = 0 ∨ n = 1) := by
  unfold ownQ
  by_cases hs : s.toList = []
  all_goals simp only [hs, true_and, false_and, and_true, or_false, or_true, iff_self, false_iff, not_false_eq_true]
  all_goals first | omega | (simp; done) | (simp; omega)
theorem own3 (n x : Int) (s : ByteArray) (m : Nat) : ownQ 3 n x s m ↔ s.toList = [] ∧ x = 0 ∧ m = 0 ∧ (-1000000000000000 ≤ n ∧ n ≤ 1000000000000000) := by
  unfold ownQ
  by_cases hs : s.toList = []
  all_goals simp only [hs, true_and, false_and, and_true, or_false, or_true, iff_self, false_iff, not_false_eq_true]
  all_goals first | omega | (simp; done) | (simp; omega)
theorem own4 (n x : Int) (s : ByteArray) (m : Nat) : ownQ 4 n x s m ↔ s.toList = [] ∧ m = 0 ∧ fltOk n x := by
  unfold ownQ
  by_cases hs : s.toList = []
  all_goals simp only [hs, true_and, false_and, and_true, or_false, or_true, iff_self, false_iff, not_false_eq_true]
  all_goals by_cases hf : fltOk n x
  all_goals simp only [hf, true_and, false_and, and_true, and_false, or_false, or_true]
  all_goals first | omega | (simp; done) | (simp; omega)
theorem own5 (n x : Int) (s : ByteArray) (m : Nat) : ownQ 5 n x s m ↔ s.toList = [] ∧ x = 0 ∧ m = 0 ∧ (0 ≤ n ∧ n ≤ 2) := by
  unfold ownQ
  by_cases hs : s.toList = []
  all_goals simp only [hs, true_and, false_and, and_true, or_false, or_true, iff_self, false_iff, not_false_eq_true]
  all_goals first | omega | (simp; done) | (simp; omega)
theorem own6 (n x : Int) (s : ByteArray) (m : Nat) : ownQ 6 n x s m ↔ s.toList = [] ∧ m = 0 ∧ (x < 0 ∧ decOk n x) := by
  unfold ownQ
  by_cases hs : s.toList = []
  all_goals simp only [hs, true_and, false_and, and_true, or_false, or_true, iff_self, false_iff, not_false_eq_true]
  all_goals by_cases hf : decOk n x
  all_goals simp only [hf, true_and, false_and, and_true, and_false, or_false, or_true]
  all_goals first | omega | (simp; done) | (simp; omega)
theorem own7 (n x : Int) (s : ByteArray) (m : Nat) : ownQ 7 n x s m ↔ x = 0 ∧ m = 0 ∧ (n = 0 ∧ Lib.validD s.data.toList = true) := by
  unfold ownQ
  by_cases hf : Lib.validD s.data.toList = true
  all_goals simp only [hf, true_and, false_and, and_true, and_false, or_false, or_true]
  all_goals first | omega | (simp; done) | (simp; omega)
theorem own8 (n x : Int) (s : ByteArray) (m : Nat) : ownQ 8 n x s m ↔ x = 0 ∧ m = 0 ∧ n = 0 := by
  unfold ownQ
  all_goals first | omega | (simp; done) | (simp; omega)
theorem own9 (n x : Int) (s : ByteArray) (m : Nat) : ownQ 9 n x s m ↔ s.toList = [] ∧ x = 0 ∧ n = 0 := by
  unfold ownQ
  by_cases hs : s.toList = []
  all_goals simp only [hs, true_and, false_and, and_true, or_false, or_true, iff_self, false_iff, not_false_eq_true]
  all_goals first | omega | (simp; done) | (simp; omega)
theorem own10 (n x : Int) (s : ByteArray) (m : Nat) : ownQ 10 n x s m ↔ s.toList = [] ∧ x = 0 ∧ (n = 0 ∧ m % 2 = 0) := by
  unfold ownQ
  by_cases hs : s.toList = []
  all_goals simp only [hs, true_and, false_and, and_true, or_false, or_true, iff_self, false_iff, not_false_eq_true]
  all_goals first | omega | (simp; done) | (simp; omega)
theorem own11 (n x : Int) (s : ByteArray) (m : Nat) : ownQ 11 n x s m ↔ s.toList = [] ∧ x = 0 ∧ ((0 ≤ n ∧ n ≤ 1000000000000000) ∧ m = 1) := by
  unfold ownQ
  by_cases hs : s.toList = []
  all_goals simp only [hs, true_and, false_and, and_true, or_false, or_true, iff_self, false_iff, not_false_eq_true]
  all_goals first | omega | (simp; done) | (simp; omega)
set_option maxHeartbeats 4000000 in
theorem impl_own_1 (n x : Int) (s : ByteArray) (a : Option Addr) (m cap : Nat) (w : World) (hlc : m ≤ cap) (hcap : cap ≤ 9223372036854775807) (hn : I64 n) (hx : I64 x) :
    Calls Tryz.prog 86 #[.agg #[Value.int IntKind.i64 1, Value.int IntKind.i64 n, Value.int IntKind.i64 x, Value.string s, Value.slice a m cap]] w fun e w' => e = .returned (.bool (decide (ownQ 1 n x s m))) ∧ Below w.heap.size w w' := by
  have HN := Lib.hid hn; have HX := Lib.hid hx
  obtain ⟨hn0, hn1⟩ := hn; obtain ⟨hx0, hx1⟩ := hx
  go_enter Tryz.func86, Tryz.ntmps86
  go_wp2_with fail
  all_goals
    go_ret
    refine ⟨ret_b ?_, by first | exact below1 _ _ | exact below_step (below1 _ _) hb (by simp)⟩
    first | (exact (decide_eq_false (fun h => absurd ((own1 n x s m).1 h).1 (by assumption))).symm) | (exact (decide_eq_false (fun h => by have g := (own1 n x s m).1 h; have g2 := g.2; omega)).symm) | (exact (decide_eq_decide.2 ((own1 n x s m).trans ⟨fun h => by have g := h.2; omega, fun h => ⟨by assumption, by omega, by omega, by omega⟩⟩)).symm) | (exact (decide_eq_true ((own1 n x s m).2 ⟨by assumption, by omega, by omega, by omega⟩)).symm)
set_option maxHeartbeats 4000000 in
theorem impl_own_2 (n x : Int) (s : ByteArray) (a : Option Addr) (m cap : Nat) (w : World) (hlc : m ≤ cap) (hcap : cap ≤ 9223372036854775807) (hn : I64 n) (hx : I64 x) :
    Calls Tryz.prog 86 #[.agg #[Value.int IntKind.i64 2, Value.int IntKind.i64 n, Value.int IntKind.i64 x, Value.string s, Value.slice a m cap]] w fun e w' => e = .returned (.bool (decide (ownQ 2 n x s m))) ∧ Below w.heap.size w w' := by
  have HN := Lib.hid hn; have HX := Lib.hid hx
  obtain ⟨hn0, hn1⟩ := hn; obtain ⟨hx0, hx1⟩ := hx
  go_enter Tryz.func86, Tryz.ntmps86
  go_wp2_with fail
  all_goals
    go_ret
    refine ⟨ret_b ?_, by first | exact below1 _ _ | exact below_step (below1 _ _) hb (by simp)⟩
    first | (exact (decide_eq_false (fun h => absurd ((own2 n x s m).1 h).1 (by assumption))).symm) | (exact (decide_eq_false (fun h => by have g := (own2 n x s m).1 h; have g2 := g.2; omega)).symm) | (exact (decide_eq_decide.2 ((own2 n x s m).trans ⟨fun h => by have g := h.2; omega, fun h => ⟨by assumption, by omega, by omega, by omega⟩⟩)).symm) | (exact (decide_eq_true ((own2 n x s m).2 ⟨by assumption, by omega, by omega, by omega⟩)).symm) | (exact Bool.eq_iff_iff.2 ⟨fun h => decide_eq_true ((own2 n x s m).2 ⟨by assumption, by omega, by omega, by simpa using h⟩), fun h => by have g := ((own2 n x s m).1 (of_decide_eq_true h)).2.2.2; simpa using g⟩)
set_option maxHeartbeats 4000000 in
theorem impl_own_3 (n x : Int) (s : ByteArray) (a : Option Addr) (m cap : Nat) (w : World) (hlc : m ≤ cap) (hcap : cap ≤ 9223372036854775807) (hn : I64 n) (hx : I64 x) :
    Calls Tryz.prog 86 #[.agg #[Value.int IntKind.i64 3, Value.int IntKind.i64 n, Value.int IntKind.i64 x, Value.string s, Value.slice a m cap]] w fun e w' => e = .returned (.bool (decide (ownQ 3 n x s m))) ∧ Below w.heap.size w w' := by
  have HN := Lib.hid hn; have HX := Lib.hid hx
  obtain ⟨hn0, hn1⟩ := hn; obtain ⟨hx0, hx1⟩ := hx
  obtain ⟨bb, hbb⟩ : ∃ bb, decide ((-1000000000000000 : Int) ≤ n ∧ n ≤ 1000000000000000) = bb := ⟨_, rfl⟩
  (have HBB := Lib.hid hbb; clear hbb)
  go_enter Tryz.func86, Tryz.ntmps86
  go_wp2_with (go_at_call 125; refine (impl_within _ _ _ _).mono ?_; rintro e w2 ⟨rfl, hb⟩; rw [HBB.out])
  all_goals
    go_ret
    refine ⟨ret_b ?_, by first | exact below1 _ _ | exact below_step (below1 _ _) hb (by simp)⟩
    first | (exact (decide_eq_false (fun h => absurd ((own3 n x s m).1 h).1 (by assumption))).symm) | (exact (decide_eq_false (fun h => by have g := (own3 n x s m).1 h; have g2 := g.2; omega)).symm) | (exact HBB.out.symm.trans (decide_eq_decide.2 ((own3 n x s m).trans ⟨fun h => h.2.2.2, fun h => ⟨by assumption, by omega, by omega, h⟩⟩)).symm)
set_option maxHeartbeats 4000000 in
theorem impl_own_4 (n x : Int) (s : ByteArray) (a : Option Addr) (m cap : Nat) (w : World) (hlc : m ≤ cap) (hcap : cap ≤ 9223372036854775807) (hn : I64 n) (hx : I64 x) :
    Calls Tryz.prog 86 #[.agg #[Value.int IntKind.i64 4, Value.int IntKind.i64 n, Value.int IntKind.i64 x, Value.string s, Value.slice a m cap]] w fun e w' => e = .returned (.bool (decide (ownQ 4 n x s m))) ∧ Below w.heap.size w w' := by
  have HN := Lib.hid hn; have HX := Lib.hid hx
  obtain ⟨hn0, hn1⟩ := hn; obtain ⟨hx0, hx1⟩ := hx
  go_enter Tryz.func86, Tryz.ntmps86
  go_wp2_with (go_at_call 144; refine (impl_FltOk _ _ _ HN.out HX.out).mono ?_; rintro e w2 ⟨rfl, hb⟩)
  all_goals
    go_ret
    refine ⟨ret_b ?_, by first | exact below1 _ _ | exact below_step (below1 _ _) hb (by simp)⟩
    first | (exact (decide_eq_false (fun h => absurd ((own4 n x s m).1 h).1 (by assumption))).symm) | (exact (decide_eq_false (fun h => by have g := (own4 n x s m).1 h; have g1 := g.2.1; omega)).symm) | (exact (decide_eq_decide.2 ((own4 n x s m).trans ⟨fun h => h.2.2, fun h => ⟨by assumption, by omega, h⟩⟩)).symm)
set_option maxHeartbeats 4000000 in
theorem impl_own_5 (n x : Int) (s : ByteArray) (a : Option Addr) (m cap : Nat) (w : World) (hlc : m ≤ cap) (hcap : cap ≤ 9223372036854775807) (hn : I64 n) (hx : I64 x) :
    Calls Tryz.prog 86 #[.agg #[Value.int IntKind.i64 5, Value.int IntKind.i64 n, Value.int IntKind.i64 x, Value.string s, Value.slice a m cap]] w fun e w' => e = .returned (.bool (decide (ownQ 5 n x s m))) ∧ Below w.heap.size w w' := by
  have HN := Lib.hid hn; have HX := Lib.hid hx
  obtain ⟨hn0, hn1⟩ := hn; obtain ⟨hx0, hx1⟩ := hx
  obtain ⟨bb, hbb⟩ : ∃ bb, decide ((0 : Int) ≤ n ∧ n ≤ 2) = bb := ⟨_, rfl⟩
  (have HBB := Lib.hid hbb; clear hbb)
  go_enter Tryz.func86, Tryz.ntmps86
  go_wp2_with (go_at_call 125; refine (impl_within _ _ _ _).mono ?_; rintro e w2 ⟨rfl, hb⟩; rw [HBB.out])
  all_goals
    go_ret
    refine ⟨ret_b ?_, by first | exact below1 _ _ | exact below_step (below1 _ _) hb (by simp)⟩
    first | (exact (decide_eq_false (fun h => absurd ((own5 n x s m).1 h).1 (by assumption))).symm) | (exact (decide_eq_false (fun h => by have g := (own5 n x s m).1 h; have g2 := g.2; omega)).symm) | (exact HBB.out.symm.trans (decide_eq_decide.2 ((own5 n x s m).trans ⟨fun h => h.2.2.2, fun h => ⟨by assumption, by omega, by omega, h⟩⟩)).symm)
set_option maxHeartbeats 4000000 in
theorem impl_own_6 (n x : Int) (s : ByteArray) (a : Option Addr) (m cap : Nat) (w : World) (hlc : m ≤ cap) (hcap : cap ≤ 9223372036854775807) (hn : I64 n) (hx : I64 x) (htab : Lib.TabBelow Tryz.prog w.heap.size w "internal/strconv.uint64pow10" .u64 Lib.pow10Tab) :
    Calls Tryz.prog 86 #[.agg #[Value.int IntKind.i64 6, Value.int IntKind.i64 n, Value.int IntKind.i64 x, Value.string s, Value.slice a m cap]] w fun e w' => e = .returned (.bool (decide (ownQ 6 n x s m))) ∧ Below w.heap.size w w' := by
  have HN := Lib.hid hn; have HX := Lib.hid hx
  obtain ⟨hn0, hn1⟩ := hn; obtain ⟨hx0, hx1⟩ := hx
  have HT := Lib.hid htab; clear htab
  go_enter Tryz.func86, Tryz.ntmps86
  go_wp2_with (go_at_call 145; refine (impl_DecOk _ _ _ HN.out HX.out (fun W hW => HT.out W ((below1 _ _).trans (hW.mono (by simp))))).mono ?_; rintro e w2 ⟨rfl, hb⟩)
  all_goals
    go_ret
    refine ⟨ret_b ?_, by first | exact below1 _ _ | exact below_step (below1 _ _) hb (by simp)⟩
    first | (exact (decide_eq_false (fun h => absurd ((own6 n x s m).1 h).1 (by assumption))).symm) | (exact (decide_eq_false (fun h => by have g := (own6 n x s m).1 h; have g1 := g.2.1; have g2 := g.2.2.1; omega)).symm) | (exact (decide_eq_decide.2 ((own6 n x s m).trans ⟨fun h => h.2.2.2, fun h => ⟨by assumption, by omega, by omega, h⟩⟩)).symm)
set_option maxHeartbeats 4000000 in
theorem impl_own_7 (n x : Int) (s : ByteArray) (a : Option Addr) (m cap : Nat) (w : World) (hlc : m ≤ cap) (hcap : cap ≤ 9223372036854775807) (hn : I64 n) (hx : I64 x) (hss : s.size ≤ 4611686018427387903) (hU : UtfBelow w.heap.size w) :
    Calls Tryz.prog 86 #[.agg #[Value.int IntKind.i64 7, Value.int IntKind.i64 n, Value.int IntKind.i64 x, Value.string s, Value.slice a m cap]] w fun e w' => e = .returned (.bool (decide (ownQ 7 n x s m))) ∧ Below w.heap.size w w' := by
  have HN := Lib.hid hn; have HX := Lib.hid hx
  obtain ⟨hn0, hn1⟩ := hn; obtain ⟨hx0, hx1⟩ := hx
  have HU := Lib.hid hU; clear hU
  go_enter Tryz.func86, Tryz.ntmps86
  go_wp2_with (go_at_call 143; refine (impl_TextOk _ _ hss (HU.out _ (below1 _ _))).mono ?_; rintro e w2 ⟨rfl, hb⟩)
  all_goals
    go_ret
    refine ⟨ret_b ?_, by first | exact below1 _ _ | exact below_step (below1 _ _) hb (by simp)⟩
    first | (exact (decide_eq_false (fun h => by have g := (own7 n x s m).1 h; have g1 := g.1; have g2 := g.2.1; have g3 := g.2.2.1; omega)).symm) | (exact (Bool.eq_iff_iff.2 ⟨fun h => decide_eq_true ((own7 n x s m).2 ⟨by omega, by omega, by omega, h⟩), fun h => ((own7 n x s m).1 (of_decide_eq_true h)).2.2.2⟩))
set_option maxHeartbeats 4000000 in
theorem impl_own_8 (n x : Int) (s : ByteArray) (a : Option Addr) (m cap : Nat) (w : World) (hlc : m ≤ cap) (hcap : cap ≤ 9223372036854775807) (hn : I64 n) (hx : I64 x) :
    Calls Tryz.prog 86 #[.agg #[Value.int IntKind.i64 8, Value.int IntKind.i64 n, Value.int IntKind.i64 x, Value.string s, Value.slice a m cap]] w fun e w' => e = .returned (.bool (decide (ownQ 8 n x s m))) ∧ Below w.heap.size w w' := by
  have HN := Lib.hid hn; have HX := Lib.hid hx
  obtain ⟨hn0, hn1⟩ := hn; obtain ⟨hx0, hx1⟩ := hx
  go_enter Tryz.func86, Tryz.ntmps86
  go_wp2_with fail
  all_goals
    go_ret
    refine ⟨ret_b ?_, by first | exact below1 _ _ | exact below_step (below1 _ _) hb (by simp)⟩
    first | (exact (decide_eq_false (fun h => by have g := (own8 n x s m).1 h; omega)).symm) | (exact (decide_eq_decide.2 ((own8 n x s m).trans ⟨fun h => by have g := h; omega, fun h => ⟨by omega, by omega, by omega⟩⟩)).symm) | (exact (decide_eq_true ((own8 n x s m).2 ⟨by omega, by omega, by omega⟩)).symm)
set_option maxHeartbeats 4000000 in
theorem impl_own_9 (n x : Int) (s : ByteArray) (a : Option Addr) (m cap : Nat) (w : World) (hlc : m ≤ cap) (hcap : cap ≤ 9223372036854775807) (hn : I64 n) (hx : I64 x) :
    Calls Tryz.prog 86 #[.agg #[Value.int IntKind.i64 9, Value.int IntKind.i64 n, Value.int IntKind.i64 x, Value.string s, Value.slice a m cap]] w fun e w' => e = .returned (.bool (decide (ownQ 9 n x s m))) ∧ Below w.heap.size w w' := by
  have HN := Lib.hid hn; have HX := Lib.hid hx
  obtain ⟨hn0, hn1⟩ := hn; obtain ⟨hx0, hx1⟩ := hx
  go_enter Tryz.func86, Tryz.ntmps86
  go_wp2_with fail
  all_goals
    go_ret
    refine ⟨ret_b ?_, by first | exact below1 _ _ | exact below_step (below1 _ _) hb (by simp)⟩
    first | (exact (decide_eq_false (fun h => absurd ((own9 n x s m).1 h).1 (by assumption))).symm) | (exact (decide_eq_false (fun h => by have g := (own9 n x s m).1 h; have g2 := g.2; omega)).symm) | (exact (decide_eq_decide.2 ((own9 n x s m).trans ⟨fun h => by have g := h.2; omega, fun h => ⟨by assumption, by omega, by omega⟩⟩)).symm) | (exact (decide_eq_true ((own9 n x s m).2 ⟨by assumption, by omega, by omega⟩)).symm)
set_option maxHeartbeats 4000000 in
theorem impl_own_10 (n x : Int) (s : ByteArray) (a : Option Addr) (m cap : Nat) (w : World) (hlc : m ≤ cap) (hcap : cap ≤ 9223372036854775807) (hn : I64 n) (hx : I64 x) :
    Calls Tryz.prog 86 #[.agg #[Value.int IntKind.i64 10, Value.int IntKind.i64 n, Value.int IntKind.i64 x, Value.string s, Value.slice a m cap]] w fun e w' => e = .returned (.bool (decide (ownQ 10 n x s m))) ∧ Below w.heap.size w w' := by
  have HN := Lib.hid hn; have HX := Lib.hid hx
  obtain ⟨hn0, hn1⟩ := hn; obtain ⟨hx0, hx1⟩ := hx
  go_enter Tryz.func86, Tryz.ntmps86
  go_wp2_with fail
  all_goals
    go_ret
    refine ⟨ret_b ?_, by first | exact below1 _ _ | exact below_step (below1 _ _) hb (by simp)⟩
    first | (exact (decide_eq_false (fun h => absurd ((own10 n x s m).1 h).1 (by assumption))).symm) | (exact (decide_eq_false (fun h => by have g := (own10 n x s m).1 h; have g2 := g.2; omega)).symm) | (exact (decide_eq_decide.2 ((own10 n x s m).trans ⟨fun h => by have g := h.2; omega, fun h => ⟨by assumption, by omega, by omega⟩⟩)).symm) | (exact (decide_eq_true ((own10 n x s m).2 ⟨by assumption, by omega, by omega⟩)).symm)
set_option maxHeartbeats 4000000 in
theorem impl_own_11 (n x : Int) (s : ByteArray) (a : Option Addr) (m cap : Nat) (w : World) (hlc : m ≤ cap) (hcap : cap ≤ 9223372036854775807) (hn : I64 n) (hx : I64 x) :
    Calls Tryz.prog 86 #[.agg #[Value.int IntKind.i64 11, Value.int IntKind.i64 n, Value.int IntKind.i64 x, Value.string s, Value.slice a m cap]] w fun e w' => e = .returned (.bool (decide (ownQ 11 n x s m))) ∧ Below w.heap.size w w' := by
  have HN := Lib.hid hn; have HX := Lib.hid hx
  obtain ⟨hn0, hn1⟩ := hn; obtain ⟨hx0, hx1⟩ := hx
  obtain ⟨bb, hbb⟩ : ∃ bb, decide ((0 : Int) ≤ n ∧ n ≤ 1000000000000000) = bb := ⟨_, rfl⟩
  rcases bb with _ | _
  all_goals (have HBB := Lib.hid hbb; clear hbb)
  all_goals go_enter Tryz.func86, Tryz.ntmps86
  all_goals go_wp2_with (go_at_call 125; refine (impl_within _ _ _ _).mono ?_; rintro e w2 ⟨rfl, hb⟩; rw [HBB.out]; have q2 := (Is.new w _ 26).below hb (by simp); obtain ⟨r0, r1, r2, r3, r4⟩ := q2.cells5; have hl2 : w.heap.size < w2.heap.size := Nat.lt_of_lt_of_le (by simp) hb.size)
  all_goals
    go_ret
    refine ⟨ret_b ?_, by first | exact below1 _ _ | exact below_step (below1 _ _) hb (by simp)⟩
    first | (exact (decide_eq_false (fun h => absurd ((own11 n x s m).1 h).1 (by assumption))).symm) | (exact (decide_eq_false (fun h => by have g := (own11 n x s m).1 h; have g2 := g.2; omega)).symm) | (exact (decide_eq_false (fun h => by have g := (own11 n x s m).1 h; have g2 := g.2.2.1; have g3 := of_decide_eq_false HBB.out; exact g3 g2)).symm) | (exact (decide_eq_decide.2 ((own11 n x s m).trans ⟨fun h => by have g := h.2.2.2; omega, fun h => ⟨by assumption, by omega, of_decide_eq_true HBB.out, by omega⟩⟩)).symm) | (exact (decide_eq_true ((own11 n x s m).2 ⟨by assumption, by omega, of_decide_eq_true HBB.out, by omega⟩)).symm)
set_option maxHeartbeats 4000000 in
theorem impl_own_o (k n x : Int) (s : ByteArray) (a : Option Addr) (m cap : Nat) (w : World) (hlc : m ≤ cap) (hcap : cap ≤ 9223372036854775807) (hn : I64 n) (hx : I64 x) (hk : k < 1 ∨ 11 < k) :
    Calls Tryz.prog 86 #[.agg #[Value.int IntKind.i64 k, Value.int IntKind.i64 n, Value.int IntKind.i64 x, Value.string s, Value.slice a m cap]] w fun e w' => e = .returned (.bool (decide (ownQ k n x s m))) ∧ Below w.heap.size w w' := by
  have HN := Lib.hid hn; have HX := Lib.hid hx
  obtain ⟨hn0, hn1⟩ := hn; obtain ⟨hx0, hx1⟩ := hx
  go_enter Tryz.func86, Tryz.ntmps86
  go_wp2_with fail
  all_goals
    go_ret
    refine ⟨ret_b ?_, by first | exact below1 _ _ | exact below_step (below1 _ _) hb (by simp)⟩
    exact (decide_eq_false (ownQ_out _ _ _ _ _ hk)).symm
theorem impl_ownOk (t : T) (a : Option Addr) (cap : Nat) (w : World) (hlc : t.l.length ≤ cap) (hcap : cap ≤ 9223372036854775807) (hwf : Wf t) (hss : t.s.size ≤ 4611686018427387903)
    (htab : Lib.TabBelow Tryz.prog w.heap.size w "internal/strconv.uint64pow10" .u64 Lib.pow10Tab) (hU : UtfBelow w.heap.size w) :
    Calls Tryz.prog 86 #[.agg (cV t a cap)] w fun e w' => e = .returned (.bool (decide (ownP t))) ∧ Below w.heap.size w w' := by
  obtain ⟨k, n, x, s, l⟩ := t
  obtain ⟨hk, hn, hx, _⟩ := hwf
  simp only [T.k, T.n, T.x, T.s, T.l, cV, ownP] at *
  have hcases : k = 1 ∨ k = 2 ∨ k = 3 ∨ k = 4 ∨ k = 5 ∨ k = 6 ∨ k = 7 ∨ k = 8 ∨ k = 9 ∨ k = 10 ∨ k = 11 ∨ (k < 1 ∨ 11 < k) := by omega
  obtain rfl | rfl | rfl | rfl | rfl | rfl | rfl | rfl | rfl | rfl | rfl | hko := hcases
  · exact impl_own_1 n x s a l.length cap w hlc hcap hn hx
  · exact impl_own_2 n x s a l.length cap w hlc hcap hn hx
  · exact impl_own_3 n x s a l.length cap w hlc hcap hn hx
  · exact impl_own_4 n x s a l.length cap w hlc hcap hn hx
  · exact impl_own_5 n x s a l.length cap w hlc hcap hn hx
  · exact impl_own_6 n x s a l.length cap w hlc hcap hn hx htab
  · exact impl_own_7 n x s a l.length cap w hlc hcap hn hx hss hU
  · exact impl_own_8 n x s a l.length cap w hlc hcap hn hx
  · exact impl_own_9 n x s a l.length cap w hlc hcap hn hx
  · exact impl_own_10 n x s a l.length cap w hlc hcap hn hx
  · exact impl_own_11 n x s a l.length cap w hlc hcap hn hx
  · exact impl_own_o k n x s a l.length cap w hlc hcap hn hx hko
mutual
def allB (p : T → Bool) : T → Bool | .mk k n x s l => p (.mk k n x s l) && allBs p l
def allBs (p : T → Bool) : List T → Bool | [] => true | t :: r => allB p t && allBs p r
end
theorem allBs_all (p : T → Bool) (l : List T) : allBs p l = l.all (allB p) := by
  induction l with
  | nil => rfl
  | cons t r ih => simp [allBs, ih]
theorem allB_eq (p : T → Bool) (t : T) : allB p t = (p t && t.l.all (allB p)) := by
  cases t; simp only [allB, allBs_all, T.l]
theorem all_take_succ {α : Type} (p : α → Bool) (l : List α) (j : Nat) (h : j < l.length) : (l.take (j + 1)).all p = ((l.take j).all p && p l[j]) := by
  rw [take_snoc l j h, List.all_append]; simp
theorem all_false {α : Type} (p : α → Bool) (l : List α) (j : Nat) (h : j < l.length) (hp : p l[j] = false) : l.all p = false := by
  rw [List.all_eq_false]; exact ⟨l[j], List.getElem_mem h, by simp [hp]⟩
abbrev ownB (t : T) : Bool := decide (ownP t)
theorem sz_string (t : T) : t.s.size ≤ T.sz t := by cases t; simp only [T.s, T.sz]; omega
theorem sz_list (t : T) : T.szL t.l ≤ T.sz t := by cases t; simp only [T.l, T.sz]; omega
theorem sz_of (k n x : Int) (s : ByteArray) (l : List T) : T.sz (.mk k n x s l) = s.size + T.szL l := by simp only [T.sz]
theorem spec_l6Leaf (k n x : Int) (s : ByteArray) (a : Option Addr) (m cap : Nat) (w : World) (hlc : m ≤ cap) (hcap : cap ≤ 9223372036854775807) :
    Calls Tryz.prog 121 #[.agg #[.int .i64 k, .int .i64 n, .int .i64 x, .string s, .slice a m cap]] w fun e w' => e = .returned (.bool (decide (m = 0))) ∧ Below w.heap.size w w' := by
  by_cases h : m = 0
  · have h2 : (m : Int) = 0 := by omega
    have HD := Lib.hid (show decide (m = 0) = true from decide_eq_true h)
    rw [HD.out]; clear h HD
    go_enter Tryz.func121, Tryz.ntmps121
    go_wp2_with fail
    go_ret
    exact ⟨ret_b (by simp [h2]), below1 _ _⟩
  · have h2 : ¬ (m : Int) = 0 := by omega
    have HD := Lib.hid (show decide (m = 0) = false from decide_eq_false h)
    rw [HD.out]; clear h HD
    go_enter Tryz.func121, Tryz.ntmps121
    go_wp2_with fail
    go_ret
    exact ⟨ret_b (by simp; omega), below1 _ _⟩
set_option maxHeartbeats 16000000 in
theorem spec_ValOk : ∀ t : T, ∀ (a : Option Addr) (cap B : Nat) (w : World), R w B a cap t.l → Wf t → T.sz t ≤ 1048576 → B ≤ w.heap.size →
    Calls Tryz.prog 70 #[.agg (cV t a cap)] w fun e w' => e = .returned (.bool (allB ownB t)) ∧ Below w.heap.size w w' := by
  intro t
  induction t using T.ind with
  | h k n x s l ih =>
    intro a cap B w hr hwf hsz hB
    have IH := Lib.hid ih; clear ih
    obtain ⟨hk, hn, hx, _⟩ := hwf
    simp only [cV, T.k, T.n, T.x, T.s, T.l] at hr hk hn hx ⊢
    have HN := Lib.hid hn; have HX := Lib.hid hx
    obtain ⟨hk0, hk1⟩ := hk
    obtain ⟨hn0, hn1⟩ := hn
    obtain ⟨hx0, hx1⟩ := hx
    rw [sz_of] at hsz
    obtain ⟨hlc, hcap⟩ := hr.len
    have hss : s.size ≤ 4611686018427387903 := by omega
    have HR := Lib.hid hr; clear hr
    have HALL0 := Lib.hid (allB_eq ownB (.mk k n x s l))
    go_enter Tryz.func70, Tryz.ntmps70
    go_wp2_with fail
    generalize hW : w.alloc (Obj.cells #[Value.int IntKind.i64 k, Value.int IntKind.i64 n, Value.int IntKind.i64 x, Value.string s, Value.slice a l.length cap] 26) = W0
    have q1 : Is W0 w.heap.size 26 #[Value.int IntKind.i64 k, Value.int IntKind.i64 n, Value.int IntKind.i64 x, Value.string s, Value.slice a l.length cap] := by subst hW; exact Is.new _ _ _
    have H0 := Lib.hid (show Below w.heap.size w W0 from by subst hW; exact below1 _ _)
    have hs0 : W0.heap.size = w.heap.size + 1 := by subst hW; simp
    clear hW
    go_loopw [3] (fun i wr => ∃ (j : Nat), j ≤ l.length ∧ i = .int .i64 j ∧ Hid ((l.take j).all (allB ownB) = true) ∧ Below W0.heap.size W0 wr) (fun i _ => l.length - (intOf i).toNat)
    case atStart => exact ⟨0, Nat.zero_le _, rfl, rfl, Below.refl _ _⟩
    case round =>
      obtain ⟨j, hj, rfl, HA, hb⟩ := hrel
      have hbs := hb.size
      have hbox := q1.below hb (by omega)
      obtain ⟨x0, x1, x2, x3, x4⟩ := hbox.cells5
      have hlt2 : w.heap.size < wr.heap.size := by omega
      have HBw := Lib.hid (H0.out.trans (hb.mono (by omega)))
      by_cases hlt : j < l.length
      · obtain ⟨b, o, a2, cap2, rfl, hbl, d0, d1, d2, d3, d4, hwfj, hq⟩ := (HR.out.below HBw.out hB).get j hlt
        have hlb : b < wr.heap.size := by omega
        have hszj := T.sz_get l j hlt
        have HWF := Lib.hid hwfj; clear hwfj
        have HQ := Lib.hid hq; clear hq
        have HT := Lib.hid (all_take_succ (allB ownB) l j hlt)
        have HF := Lib.hid (all_false (allB ownB) l j hlt)
        go_wp2_with fail
        refine (IH.out l[j] (List.getElem_mem hlt) a2 cap2 B wr HQ.out HWF.out (by omega) (by omega)).mono ?_
        rintro e w2 ⟨rfl, hb2⟩
        cases hv : allB ownB l[j] with
        | false =>
          have HE := Lib.hid (show allB ownB (.mk k n x s l) = false from by rw [HALL0.out]; simp only [T.l]; rw [HF.out hv, Bool.and_false])
          clear HF HT hv
          go_wp2_with fail
          go_ret
          exact ⟨ret_b (by rw [HE.out]), HBw.out.trans (hb2.mono HBw.out.size)⟩
        | true =>
          have HE := Lib.hid (show (l.take (j + 1)).all (allB ownB) = true from by rw [HT.out, HA.out, hv]; rfl)
          clear HF HT hv
          go_wp2_with fail
          go_roundw
          case rel => exact ⟨j + 1, by omega, by go_num, HE.out, hb.trans (hb2.mono hbs)⟩
          case measure => simp [intOf]; omega
      · have hjj : l.length = j := by omega
        have HJ := Lib.hid (show l.take j = l from by rw [← hjj, List.take_length]); clear hjj
        have HALL := Lib.hid (show allB ownB (.mk k n x s l) = decide (ownQ k n x s l.length) from by rw [HALL0.out]; simp only [T.l]; rw [show l.all (allB ownB) = true from by rw [← HJ.out]; exact HA.out, Bool.and_true]; rfl)
        have hacc := HBw.out
        obtain ⟨lf, hlf⟩ : ∃ lf, decide (l.length = 0) = lf := ⟨_, rfl⟩
        have HLF := Lib.hid hlf; clear hlf
        have hcases : k = 1 ∨ k = 2 ∨ k = 3 ∨ k = 4 ∨ k = 5 ∨ k = 6 ∨ k = 7 ∨ k = 8 ∨ k = 9 ∨ k = 10 ∨ k = 11 ∨ (k < 1 ∨ 11 < k) := by omega
        clear HA HJ IH HR HALL0 hb q1 H0 hs0
        obtain rfl | rfl | rfl | rfl | rfl | rfl | rfl | rfl | rfl | rfl | rfl | hko := hcases
        · go_wp2_with (go_at_call 121; refine (spec_l6Leaf _ _ _ _ _ _ _ _ hlc hcap).mono ?_; rintro e w2 ⟨rfl, hb⟩; rw [HLF.out]; replace hacc := below_step hacc hb hacc.size)
          all_goals
            go_ret
            refine ⟨ret_b ?_, hacc⟩
            rw [HALL.out]
            first | (exact (decide_eq_false (fun h => absurd ((own1 n x s l.length).1 h).1 (by assumption))).symm) | (exact (decide_eq_false (fun h => by have g := (own1 n x s l.length).1 h; have g2 := g.2.1; have g3 := g.2.2.1; have g4 := g.2.2.2; omega)).symm) | (exact (decide_eq_true ((own1 n x s l.length).2 ⟨by assumption, by omega, by omega, by omega⟩)).symm) | (exact HLF.out.symm.trans (decide_eq_decide.2 ((own1 n x s l.length).trans ⟨fun h => by have g := h; have g2 := g.2.1; have g3 := g.2.2.1; have g4 := g.2.2.2; omega, fun h => ⟨by assumption, by omega, by omega, by omega⟩⟩)).symm) | (exact (decide_eq_decide.2 ((own1 n x s l.length).trans ⟨fun h => by have g := h; have g2 := g.2.1; have g3 := g.2.2.1; have g4 := g.2.2.2; omega, fun h => ⟨by assumption, by omega, by omega, by omega⟩⟩)).symm) | (exact Bool.eq_iff_iff.2 ⟨fun h => decide_eq_true ((own1 n x s l.length).2 ⟨by simpa using h, by omega, by omega, by omega⟩), fun h => by have g := (own1 n x s l.length).1 (of_decide_eq_true h); have g2 := g.2.1; have g3 := g.2.2.1; have g4 := g.2.2.2; first | (simpa using g.1) | (simp; omega)⟩)
        · obtain ⟨bb, hbb⟩ : ∃ bb, decide ((0 : Int) ≤ n ∧ n ≤ 1) = bb := ⟨_, rfl⟩
          rcases bb with _ | _
          all_goals (have HBB := Lib.hid hbb; clear hbb)
          all_goals go_wp2_with (first | ((go_at_call 74; refine (spec_l1In _ _ _ _).mono ?_); rintro e w2 ⟨rfl, hb⟩; rw [HBB.out]; replace hacc := below_step hacc hb hacc.size; replace hbox := hbox.below hb hlt2; obtain ⟨r0, r1, r2, r3, r4⟩ := hbox.cells5; have hlt2 := Nat.lt_of_lt_of_le hlt2 hb.size; clear hb) | (go_at_call 121; refine (spec_l6Leaf _ _ _ _ _ _ _ _ hlc hcap).mono ?_; rintro e w2 ⟨rfl, hb⟩; rw [HLF.out]; replace hacc := below_step hacc hb hacc.size))
          all_goals
            go_ret
            refine ⟨ret_b ?_, hacc⟩
            rw [HALL.out]
            first | (exact (decide_eq_false (fun h => absurd ((own2 n x s l.length).1 h).1 (by assumption))).symm) | (exact (decide_eq_false (fun h => by have g1 := of_decide_eq_false HBB.out; have g2 := (own2 n x s l.length).1 h; omega)).symm) | (exact (decide_eq_false (fun h => by have g := (own2 n x s l.length).1 h; have g2 := g.2.1; have g3 := g.2.2.1; have g4 := g.2.2.2; omega)).symm) | (exact (decide_eq_true ((own2 n x s l.length).2 ⟨by assumption, by omega, by omega, by have g := of_decide_eq_true HBB.out; omega⟩)).symm) | (exact HLF.out.symm.trans (decide_eq_decide.2 ((own2 n x s l.length).trans ⟨fun h => by have g := h; have g2 := g.2.1; have g3 := g.2.2.1; have g4 := g.2.2.2; omega, fun h => ⟨by assumption, by omega, by omega, by have g := of_decide_eq_true HBB.out; omega⟩⟩)).symm) | (exact (decide_eq_decide.2 ((own2 n x s l.length).trans ⟨fun h => by have g := h; have g2 := g.2.1; have g3 := g.2.2.1; have g4 := g.2.2.2; omega, fun h => ⟨by assumption, by omega, by omega, by have g := of_decide_eq_true HBB.out; omega⟩⟩)).symm) | (exact Bool.eq_iff_iff.2 ⟨fun h => decide_eq_true ((own2 n x s l.length).2 ⟨by simpa using h, by omega, by omega, by have g := of_decide_eq_true HBB.out; omega⟩), fun h => by have g := (own2 n x s l.length).1 (of_decide_eq_true h); have g2 := g.2.1; have g3 := g.2.2.1; have g4 := g.2.2.2; first | (simpa using g.1) | (simp; omega)⟩)
        · obtain ⟨bb, hbb⟩ : ∃ bb, decide ((-1000000000000000 : Int) ≤ n ∧ n ≤ 1000000000000000) = bb := ⟨_, rfl⟩
          rcases bb with _ | _
          all_goals (have HBB := Lib.hid hbb; clear hbb)
          all_goals go_wp2_with (first | ((go_at_call 74; refine (spec_l1In _ _ _ _).mono ?_); rintro e w2 ⟨rfl, hb⟩; rw [HBB.out]; replace hacc := below_step hacc hb hacc.size; replace hbox := hbox.below hb hlt2; obtain ⟨r0, r1, r2, r3, r4⟩ := hbox.cells5; have hlt2 := Nat.lt_of_lt_of_le hlt2 hb.size; clear hb) | (go_at_call 121; refine (spec_l6Leaf _ _ _ _ _ _ _ _ hlc hcap).mono ?_; rintro e w2 ⟨rfl, hb⟩; rw [HLF.out]; replace hacc := below_step hacc hb hacc.size))
          all_goals
            go_ret
            refine ⟨ret_b ?_, hacc⟩
            rw [HALL.out]
            first | (exact (decide_eq_false (fun h => absurd ((own3 n x s l.length).1 h).1 (by assumption))).symm) | (exact (decide_eq_false (fun h => by have g1 := of_decide_eq_false HBB.out; have g2 := (own3 n x s l.length).1 h; omega)).symm) | (exact (decide_eq_false (fun h => by have g := (own3 n x s l.length).1 h; have g2 := g.2.1; have g3 := g.2.2.1; omega)).symm) | (exact (decide_eq_true ((own3 n x s l.length).2 ⟨by assumption, by omega, by omega, by have g := of_decide_eq_true HBB.out; omega⟩)).symm) | (exact HLF.out.symm.trans (decide_eq_decide.2 ((own3 n x s l.length).trans ⟨fun h => by have g := h; have g2 := g.2.1; have g3 := g.2.2.1; omega, fun h => ⟨by assumption, by omega, by omega, by have g := of_decide_eq_true HBB.out; omega⟩⟩)).symm) | (exact (decide_eq_decide.2 ((own3 n x s l.length).trans ⟨fun h => by have g := h; have g2 := g.2.1; have g3 := g.2.2.1; omega, fun h => ⟨by assumption, by omega, by omega, by have g := of_decide_eq_true HBB.out; omega⟩⟩)).symm) | (exact Bool.eq_iff_iff.2 ⟨fun h => decide_eq_true ((own3 n x s l.length).2 ⟨by simpa using h, by omega, by omega, by have g := of_decide_eq_true HBB.out; omega⟩), fun h => by have g := (own3 n x s l.length).1 (of_decide_eq_true h); have g2 := g.2.1; have g3 := g.2.2.1; first | (simpa using g.1) | (simp; omega)⟩)
        · obtain ⟨bb, hbb⟩ : ∃ bb, decide (fltOk n x) = bb := ⟨_, rfl⟩
          rcases bb with _ | _
          all_goals (have HBB := Lib.hid hbb; clear hbb)
          all_goals go_wp2_with (first | ((go_at_call 122; refine (spec_FltOk _ _ _ HN.out HX.out).mono ?_); rintro e w2 ⟨rfl, hb⟩; rw [HBB.out]; replace hacc := below_step hacc hb hacc.size; replace hbox := hbox.below hb hlt2; obtain ⟨r0, r1, r2, r3, r4⟩ := hbox.cells5; have hlt2 := Nat.lt_of_lt_of_le hlt2 hb.size; clear hb) | (go_at_call 121; refine (spec_l6Leaf _ _ _ _ _ _ _ _ hlc hcap).mono ?_; rintro e w2 ⟨rfl, hb⟩; rw [HLF.out]; replace hacc := below_step hacc hb hacc.size))
          all_goals
            go_ret
            refine ⟨ret_b ?_, hacc⟩
            rw [HALL.out]
            first | (exact (decide_eq_false (fun h => absurd ((own4 n x s l.length).1 h).1 (by assumption))).symm) | (exact (decide_eq_false (fun h => by exact absurd ((own4 n x s l.length).1 h).2.2 (of_decide_eq_false HBB.out))).symm) | (exact (decide_eq_false (fun h => by have g := (own4 n x s l.length).1 h; have g2 := g.2.1; omega)).symm) | (exact (decide_eq_true ((own4 n x s l.length).2 ⟨by assumption, by omega, of_decide_eq_true HBB.out⟩)).symm) | (exact HLF.out.symm.trans (decide_eq_decide.2 ((own4 n x s l.length).trans ⟨fun h => by have g := h; have g2 := g.2.1; omega, fun h => ⟨by assumption, by omega, of_decide_eq_true HBB.out⟩⟩)).symm) | (exact (decide_eq_decide.2 ((own4 n x s l.length).trans ⟨fun h => by have g := h; have g2 := g.2.1; omega, fun h => ⟨by assumption, by omega, of_decide_eq_true HBB.out⟩⟩)).symm) | (exact Bool.eq_iff_iff.2 ⟨fun h => decide_eq_true ((own4 n x s l.length).2 ⟨by simpa using h, by omega, of_decide_eq_true HBB.out⟩), fun h => by have g := (own4 n x s l.length).1 (of_decide_eq_true h); have g2 := g.2.1; first | (simpa using g.1) | (simp; omega)⟩)
        · obtain ⟨bb, hbb⟩ : ∃ bb, decide ((0 : Int) ≤ n ∧ n ≤ 2) = bb := ⟨_, rfl⟩
          rcases bb with _ | _
          all_goals (have HBB := Lib.hid hbb; clear hbb)
          all_goals go_wp2_with (first | ((go_at_call 74; refine (spec_l1In _ _ _ _).mono ?_); rintro e w2 ⟨rfl, hb⟩; rw [HBB.out]; replace hacc := below_step hacc hb hacc.size; replace hbox := hbox.below hb hlt2; obtain ⟨r0, r1, r2, r3, r4⟩ := hbox.cells5; have hlt2 := Nat.lt_of_lt_of_le hlt2 hb.size; clear hb) | (go_at_call 121; refine (spec_l6Leaf _ _ _ _ _ _ _ _ hlc hcap).mono ?_; rintro e w2 ⟨rfl, hb⟩; rw [HLF.out]; replace hacc := below_step hacc hb hacc.size))
          all_goals
            go_ret
            refine ⟨ret_b ?_, hacc⟩
            rw [HALL.out]
            first | (exact (decide_eq_false (fun h => absurd ((own5 n x s l.length).1 h).1 (by assumption))).symm) | (exact (decide_eq_false (fun h => by have g1 := of_decide_eq_false HBB.out; have g2 := (own5 n x s l.length).1 h; omega)).symm) | (exact (decide_eq_false (fun h => by have g := (own5 n x s l.length).1 h; have g2 := g.2.1; have g3 := g.2.2.1; omega)).symm) | (exact (decide_eq_true ((own5 n x s l.length).2 ⟨by assumption, by omega, by omega, by have g := of_decide_eq_true HBB.out; omega⟩)).symm) | (exact HLF.out.symm.trans (decide_eq_decide.2 ((own5 n x s l.length).trans ⟨fun h => by have g := h; have g2 := g.2.1; have g3 := g.2.2.1; omega, fun h => ⟨by assumption, by omega, by omega, by have g := of_decide_eq_true HBB.out; omega⟩⟩)).symm) | (exact (decide_eq_decide.2 ((own5 n x s l.length).trans ⟨fun h => by have g := h; have g2 := g.2.1; have g3 := g.2.2.1; omega, fun h => ⟨by assumption, by omega, by omega, by have g := of_decide_eq_true HBB.out; omega⟩⟩)).symm) | (exact Bool.eq_iff_iff.2 ⟨fun h => decide_eq_true ((own5 n x s l.length).2 ⟨by simpa using h, by omega, by omega, by have g := of_decide_eq_true HBB.out; omega⟩), fun h => by have g := (own5 n x s l.length).1 (of_decide_eq_true h); have g2 := g.2.1; have g3 := g.2.2.1; first | (simpa using g.1) | (simp; omega)⟩)
        · obtain ⟨bb, hbb⟩ : ∃ bb, decide (decOk n x) = bb := ⟨_, rfl⟩
          rcases bb with _ | _
          all_goals (have HBB := Lib.hid hbb; clear hbb)
          all_goals go_wp2_with (first | ((go_at_call 123; refine (spec_DecOk _ _ _ HN.out HX.out).mono ?_); rintro e w2 ⟨rfl, hb⟩; rw [HBB.out]; replace hacc := below_step hacc hb hacc.size; replace hbox := hbox.below hb hlt2; obtain ⟨r0, r1, r2, r3, r4⟩ := hbox.cells5; have hlt2 := Nat.lt_of_lt_of_le hlt2 hb.size; clear hb) | (go_at_call 121; refine (spec_l6Leaf _ _ _ _ _ _ _ _ hlc hcap).mono ?_; rintro e w2 ⟨rfl, hb⟩; rw [HLF.out]; replace hacc := below_step hacc hb hacc.size))
          all_goals
            go_ret
            refine ⟨ret_b ?_, hacc⟩
            rw [HALL.out]
            first | (exact (decide_eq_false (fun h => absurd ((own6 n x s l.length).1 h).1 (by assumption))).symm) | (exact (decide_eq_false (fun h => by exact absurd ((own6 n x s l.length).1 h).2.2.2 (of_decide_eq_false HBB.out))).symm) | (exact (decide_eq_false (fun h => by have g := (own6 n x s l.length).1 h; have g2 := g.2.1; have g4 := g.2.2.1; omega)).symm) | (exact (decide_eq_true ((own6 n x s l.length).2 ⟨by assumption, by omega, ⟨by omega, of_decide_eq_true HBB.out⟩⟩)).symm) | (exact HLF.out.symm.trans (decide_eq_decide.2 ((own6 n x s l.length).trans ⟨fun h => by have g := h; have g2 := g.2.1; have g4 := g.2.2.1; omega, fun h => ⟨by assumption, by omega, ⟨by omega, of_decide_eq_true HBB.out⟩⟩⟩)).symm) | (exact (decide_eq_decide.2 ((own6 n x s l.length).trans ⟨fun h => by have g := h; have g2 := g.2.1; have g4 := g.2.2.1; omega, fun h => ⟨by assumption, by omega, ⟨by omega, of_decide_eq_true HBB.out⟩⟩⟩)).symm) | (exact Bool.eq_iff_iff.2 ⟨fun h => decide_eq_true ((own6 n x s l.length).2 ⟨by simpa using h, by omega, ⟨by omega, of_decide_eq_true HBB.out⟩⟩), fun h => by have g := (own6 n x s l.length).1 (of_decide_eq_true h); have g2 := g.2.1; have g4 := g.2.2.1; first | (simpa using g.1) | (simp; omega)⟩)
        · obtain ⟨bb, hbb⟩ : ∃ bb, Lib.validD s.data.toList = bb := ⟨_, rfl⟩
          rcases bb with _ | _
          all_goals (have HBB := Lib.hid hbb; clear hbb)
          all_goals go_wp2_with (first | ((go_at_call 109; refine (spec_TextOk _ _ hss).mono ?_); rintro e w2 ⟨rfl, hb⟩; rw [HBB.out]; replace hacc := below_step hacc hb hacc.size; replace hbox := hbox.below hb hlt2; obtain ⟨r0, r1, r2, r3, r4⟩ := hbox.cells5; have hlt2 := Nat.lt_of_lt_of_le hlt2 hb.size; clear hb) | (go_at_call 121; refine (spec_l6Leaf _ _ _ _ _ _ _ _ hlc hcap).mono ?_; rintro e w2 ⟨rfl, hb⟩; rw [HLF.out]; replace hacc := below_step hacc hb hacc.size))
          all_goals
            go_ret
            refine ⟨ret_b ?_, hacc⟩
            rw [HALL.out]
            first | (exact (decide_eq_false (fun h => by exact absurd (((own7 n x s l.length).1 h).2.2.2.symm.trans HBB.out) (by decide))).symm) | (exact (decide_eq_false (fun h => by have g := (own7 n x s l.length).1 h; have g2 := g.1; have g3 := g.2.1; have g4 := g.2.2.1; omega)).symm) | (exact (decide_eq_true ((own7 n x s l.length).2 ⟨by omega, by omega, ⟨by omega, HBB.out⟩⟩)).symm) | (exact HLF.out.symm.trans (decide_eq_decide.2 ((own7 n x s l.length).trans ⟨fun h => by have g := h; have g2 := g.1; have g3 := g.2.1; have g4 := g.2.2.1; omega, fun h => ⟨by omega, by omega, ⟨by omega, HBB.out⟩⟩⟩)).symm) | (exact (decide_eq_decide.2 ((own7 n x s l.length).trans ⟨fun h => by have g := h; have g2 := g.1; have g3 := g.2.1; have g4 := g.2.2.1; omega, fun h => ⟨by omega, by omega, ⟨by omega, HBB.out⟩⟩⟩)).symm) | (exact Bool.eq_iff_iff.2 ⟨fun h => decide_eq_true ((own7 n x s l.length).2 ⟨by omega, by omega, ⟨by omega, HBB.out⟩⟩), fun h => by have g := (own7 n x s l.length).1 (of_decide_eq_true h); have g2 := g.1; have g3 := g.2.1; have g4 := g.2.2.1; first | (simpa using g.1) | (simp; omega)⟩)
        · go_wp2_with (go_at_call 121; refine (spec_l6Leaf _ _ _ _ _ _ _ _ hlc hcap).mono ?_; rintro e w2 ⟨rfl, hb⟩; rw [HLF.out]; replace hacc := below_step hacc hb hacc.size)
          all_goals
            go_ret
            refine ⟨ret_b ?_, hacc⟩
            rw [HALL.out]
            first | (exact (decide_eq_false (fun h => by have g := (own8 n x s l.length).1 h; have g2 := g.1; have g3 := g.2.1; have g4 := g.2.2; omega)).symm) | (exact (decide_eq_true ((own8 n x s l.length).2 ⟨by omega, by omega, by omega⟩)).symm) | (exact HLF.out.symm.trans (decide_eq_decide.2 ((own8 n x s l.length).trans ⟨fun h => by have g := h; have g2 := g.1; have g3 := g.2.1; have g4 := g.2.2; omega, fun h => ⟨by omega, by omega, by omega⟩⟩)).symm) | (exact (decide_eq_decide.2 ((own8 n x s l.length).trans ⟨fun h => by have g := h; have g2 := g.1; have g3 := g.2.1; have g4 := g.2.2; omega, fun h => ⟨by omega, by omega, by omega⟩⟩)).symm) | (exact Bool.eq_iff_iff.2 ⟨fun h => decide_eq_true ((own8 n x s l.length).2 ⟨by omega, by omega, by omega⟩), fun h => by have g := (own8 n x s l.length).1 (of_decide_eq_true h); have g2 := g.1; have g3 := g.2.1; have g4 := g.2.2; first | (simpa using g.1) | (simp; omega)⟩)
        · go_wp2_with fail
          all_goals
            go_ret
            refine ⟨ret_b ?_, hacc⟩
            rw [HALL.out]
            first | (exact (decide_eq_false (fun h => absurd ((own9 n x s l.length).1 h).1 (by assumption))).symm) | (exact (decide_eq_false (fun h => by have g := (own9 n x s l.length).1 h; have g2 := g.2.1; have g4 := g.2.2; omega)).symm) | (exact (decide_eq_true ((own9 n x s l.length).2 ⟨by assumption, by omega, by omega⟩)).symm) | (exact HLF.out.symm.trans (decide_eq_decide.2 ((own9 n x s l.length).trans ⟨fun h => by have g := h; have g2 := g.2.1; have g4 := g.2.2; omega, fun h => ⟨by assumption, by omega, by omega⟩⟩)).symm) | (exact (decide_eq_decide.2 ((own9 n x s l.length).trans ⟨fun h => by have g := h; have g2 := g.2.1; have g4 := g.2.2; omega, fun h => ⟨by assumption, by omega, by omega⟩⟩)).symm) | (exact Bool.eq_iff_iff.2 ⟨fun h => decide_eq_true ((own9 n x s l.length).2 ⟨by simpa using h, by omega, by omega⟩), fun h => by have g := (own9 n x s l.length).1 (of_decide_eq_true h); have g2 := g.2.1; have g4 := g.2.2; first | (simpa using g.1) | (simp; omega)⟩)
        · go_wp2_with fail
          all_goals
            go_ret
            refine ⟨ret_b ?_, hacc⟩
            rw [HALL.out]
            first | (exact (decide_eq_false (fun h => absurd ((own10 n x s l.length).1 h).1 (by assumption))).symm) | (exact (decide_eq_false (fun h => by have g := (own10 n x s l.length).1 h; have g2 := g.2.1; have g4 := g.2.2.1; have g5 := g.2.2.2; omega)).symm) | (exact (decide_eq_true ((own10 n x s l.length).2 ⟨by assumption, by omega, ⟨by omega, by omega⟩⟩)).symm) | (exact HLF.out.symm.trans (decide_eq_decide.2 ((own10 n x s l.length).trans ⟨fun h => by have g := h; have g2 := g.2.1; have g4 := g.2.2.1; have g5 := g.2.2.2; omega, fun h => ⟨by assumption, by omega, ⟨by omega, by omega⟩⟩⟩)).symm) | (exact (decide_eq_decide.2 ((own10 n x s l.length).trans ⟨fun h => by have g := h; have g2 := g.2.1; have g4 := g.2.2.1; have g5 := g.2.2.2; omega, fun h => ⟨by assumption, by omega, ⟨by omega, by omega⟩⟩⟩)).symm) | (exact Bool.eq_iff_iff.2 ⟨fun h => decide_eq_true ((own10 n x s l.length).2 ⟨by simpa using h, by omega, ⟨by omega, by omega⟩⟩), fun h => by have g := (own10 n x s l.length).1 (of_decide_eq_true h); have g2 := g.2.1; have g4 := g.2.2.1; have g5 := g.2.2.2; first | (simpa using g.1) | (simp; omega)⟩)
        · obtain ⟨bb, hbb⟩ : ∃ bb, decide ((0 : Int) ≤ n ∧ n ≤ 1000000000000000) = bb := ⟨_, rfl⟩
          rcases bb with _ | _
          all_goals (have HBB := Lib.hid hbb; clear hbb)
          all_goals go_wp2_with (first | ((go_at_call 74; refine (spec_l1In _ _ _ _).mono ?_); rintro e w2 ⟨rfl, hb⟩; rw [HBB.out]; replace hacc := below_step hacc hb hacc.size; replace hbox := hbox.below hb hlt2; obtain ⟨r0, r1, r2, r3, r4⟩ := hbox.cells5; have hlt2 := Nat.lt_of_lt_of_le hlt2 hb.size; clear hb) | (go_at_call 121; refine (spec_l6Leaf _ _ _ _ _ _ _ _ hlc hcap).mono ?_; rintro e w2 ⟨rfl, hb⟩; rw [HLF.out]; replace hacc := below_step hacc hb hacc.size))
          all_goals
            go_ret
            refine ⟨ret_b ?_, hacc⟩
            rw [HALL.out]
            first | (exact (decide_eq_false (fun h => absurd ((own11 n x s l.length).1 h).1 (by assumption))).symm) | (exact (decide_eq_false (fun h => by exact absurd ((own11 n x s l.length).1 h).2.2.1 (of_decide_eq_false HBB.out))).symm) | (exact (decide_eq_false (fun h => by have g := (own11 n x s l.length).1 h; have g2 := g.2.1; have g4 := g.2.2.2; omega)).symm) | (exact (decide_eq_true ((own11 n x s l.length).2 ⟨by assumption, by omega, ⟨of_decide_eq_true HBB.out, by omega⟩⟩)).symm) | (exact HLF.out.symm.trans (decide_eq_decide.2 ((own11 n x s l.length).trans ⟨fun h => by have g := h; have g2 := g.2.1; have g4 := g.2.2.2; omega, fun h => ⟨by assumption, by omega, ⟨of_decide_eq_true HBB.out, by omega⟩⟩⟩)).symm) | (exact (decide_eq_decide.2 ((own11 n x s l.length).trans ⟨fun h => by have g := h; have g2 := g.2.1; have g4 := g.2.2.2; omega, fun h => ⟨by assumption, by omega, ⟨of_decide_eq_true HBB.out, by omega⟩⟩⟩)).symm) | (exact Bool.eq_iff_iff.2 ⟨fun h => decide_eq_true ((own11 n x s l.length).2 ⟨by simpa using h, by omega, ⟨of_decide_eq_true HBB.out, by omega⟩⟩), fun h => by have g := (own11 n x s l.length).1 (of_decide_eq_true h); have g2 := g.2.1; have g4 := g.2.2.2; first | (simpa using g.1) | (simp; omega)⟩)
        · go_wp2_with fail
          go_ret
          exact ⟨ret_b (by rw [HALL.out]; exact (decide_eq_false (ownQ_out _ _ _ _ _ hko)).symm), hacc⟩
end Go.Proofs.YtggdenkmohnijaaGreatDoor
