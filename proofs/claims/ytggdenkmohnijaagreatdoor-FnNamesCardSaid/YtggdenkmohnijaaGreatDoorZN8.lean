/- Texts of this proof, merged: ValF3. No condition beyond what each theorem states. -/
import Derived.Test.YtggdenkmohnijaaGreatDoorZN7
set_option linter.unusedSimpArgs false
set_option linter.unnecessarySimpa false
namespace Go.Proofs.YtggdenkmohnijaaGreatDoor
open Go.ChangeShapes Go.WideShapes Go.ChangeAt Go.RowKit Go.Joins
set_option linter.unusedVariables false
set_option maxRecDepth 100000
set_option maxHeartbeats 2000000 in
theorem impl_FltOk (m x : Int) (w : World) (hm : I64 m) (hx : I64 x) :
    Calls Tryz.prog 144 #[.agg (cF m x)] w fun e w' => e = .returned (.bool (decide (fltOk m x))) ∧ Below w.heap.size w w' := by
  obtain ⟨hm0, hm1⟩ := hm
  obtain ⟨hx0, hx1⟩ := hx
  have hl : w.heap.size < (w.alloc (.cells (cF m x) 61)).heap.size := by simp
  have H0 := Lib.hid (below1 w (.cells (cF m x) 61))
  have q0 := Is.new w (cF m x) 61
  by_cases h0 : m = 0
  · subst h0
    by_cases h1 : x = 0
    · subst h1
      have HD := Lib.hid (show decide (fltOk 0 0) = true from decide_eq_true (Or.inl ⟨rfl, rfl⟩))
      go_enter Tryz.func144, Tryz.ntmps144
      go_wp2_with fail
      go_ret
      exact ⟨ret_b (by rw [HD.out]), H0.out⟩
    · have HD := Lib.hid (show decide (fltOk 0 x) = false from decide_eq_false (by rintro (h | h); exact h1 h.2; exact h.1 rfl))
      go_enter Tryz.func144, Tryz.ntmps144
      go_wp2_with fail
      go_ret
      exact ⟨ret_b (by rw [HD.out]; simp [h1]), H0.out⟩
  by_cases h1 : m.tmod 2 = 0
  · have HD := Lib.hid (show decide (fltOk m x) = false from decide_eq_false (by rintro (h | h); exact h0 h.1; exact h.2.2.1 h1))
    go_enter Tryz.func144, Tryz.ntmps144
    go_wp2_with fail
    go_ret
    exact ⟨ret_b (by rw [HD.out]), H0.out⟩
  by_cases h2 : -65535 ≤ m ∧ m ≤ 65535
  · have D2 := Lib.hid (show decide ((-65535 : Int) ≤ m ∧ m ≤ 65535) = true from decide_eq_true h2)
    by_cases h3 : x < -16
    · have HD := Lib.hid (show decide (fltOk m x) = false from decide_eq_false (by rintro (h | h); exact h0 h.1; have := h.2.2.2.1; omega))
      go_enter Tryz.func144, Tryz.ntmps144
      go_wp2_with (go_at_call 125; refine (impl_within _ _ _ _).mono ?_; rintro e w2 ⟨rfl, hb⟩; rw [D2.out]; have HB2 := Lib.hid (below_step H0.out hb (by simp)); have q2 := q0.below hb hl; obtain ⟨r0, r1⟩ := q2.cells2; have hl2 : w.heap.size < w2.heap.size := Nat.lt_of_lt_of_le hl hb.size; clear hb)
      go_ret
      exact ⟨ret_b (by rw [HD.out]), HB2.out⟩
    have h3' : -16 ≤ x := by omega
    have h3d : decide (x < -16) = false := decide_eq_false h3
    by_cases h4 : x ≤ 30
    · have HD := Lib.hid (show decide (fltOk m x) = true from decide_eq_true (Or.inr ⟨h0, h2, h1, by omega, Or.inl h4⟩))
      go_enter Tryz.func144, Tryz.ntmps144
      go_wp2_with (go_at_call 125; refine (impl_within _ _ _ _).mono ?_; rintro e w2 ⟨rfl, hb⟩; rw [D2.out]; have HB2 := Lib.hid (below_step H0.out hb (by simp)); have q2 := q0.below hb hl; obtain ⟨r0, r1⟩ := q2.cells2; have hl2 : w.heap.size < w2.heap.size := Nat.lt_of_lt_of_le hl hb.size; clear hb)
      go_ret
      exact ⟨ret_b (by rw [HD.out]), HB2.out⟩
    by_cases h5 : x ≤ 46
    · obtain ⟨bb, hbb⟩ : ∃ bb, decide (-65535 ≤ m * 2 ^ (x - 30).toNat ∧ m * 2 ^ (x - 30).toNat ≤ 65535) = bb := ⟨_, rfl⟩
      have HD := Lib.hid ((fltOk_big (m := m) (e := x) (x - 30).toNat (by omega) (by omega) h0 h2 h1).trans hbb)
      obtain rfl | rfl | rfl | rfl | rfl | rfl | rfl | rfl | rfl | rfl | rfl | rfl | rfl | rfl | rfl | rfl : x = 31 ∨ x = 32 ∨ x = 33 ∨ x = 34 ∨ x = 35 ∨ x = 36 ∨ x = 37 ∨ x = 38 ∨ x = 39 ∨ x = 40 ∨ x = 41 ∨ x = 42 ∨ x = 43 ∨ x = 44 ∨ x = 45 ∨ x = 46 := by omega
      all_goals
        simp only [Int.reduceSub, Int.reduceToNat, Int.reducePow] at hbb
        have HBB := Lib.hid hbb; clear hbb
        go_enter Tryz.func144, Tryz.ntmps144
        go_wp2_with (go_at_call 125; refine (impl_within _ _ _ _).mono ?_; rintro e w2 ⟨rfl, hb⟩; first | (rw [D2.out]; have HB2 := Lib.hid (below_step H0.out hb (by simp)); have q2 := q0.below hb hl; obtain ⟨r0, r1⟩ := q2.cells2; have hl2 : w.heap.size < w2.heap.size := Nat.lt_of_lt_of_le hl hb.size; clear hb) | (rw [HBB.out]; have HB3 := Lib.hid (below_step HB2.out hb HB2.out.size)))
        go_ret
        exact ⟨ret_b (by rw [HD.out]), HB3.out⟩
    · have HD := Lib.hid (show decide (fltOk m x) = false from decide_eq_false (by rintro (h | h); exact h0 h.1; have := h.2.2.2.2; omega))
      go_enter Tryz.func144, Tryz.ntmps144
      go_wp2_with (go_at_call 125; refine (impl_within _ _ _ _).mono ?_; rintro e w2 ⟨rfl, hb⟩; rw [D2.out]; have HB2 := Lib.hid (below_step H0.out hb (by simp)); have q2 := q0.below hb hl; obtain ⟨r0, r1⟩ := q2.cells2; have hl2 : w.heap.size < w2.heap.size := Nat.lt_of_lt_of_le hl hb.size; clear hb)
      go_ret
      exact ⟨ret_b (by rw [HD.out]), HB2.out⟩
  · have D2 := Lib.hid (show decide ((-65535 : Int) ≤ m ∧ m ≤ 65535) = false from decide_eq_false h2)
    have HD := Lib.hid (show decide (fltOk m x) = false from decide_eq_false (by rintro (h | h); exact h0 h.1; exact h2 h.2.1))
    go_enter Tryz.func144, Tryz.ntmps144
    go_wp2_with (go_at_call 125; refine (impl_within _ _ _ _).mono ?_; rintro e w2 ⟨rfl, hb⟩; rw [D2.out]; have HB2 := Lib.hid (below_step H0.out hb (by simp)); clear hb)
    go_ret
    exact ⟨ret_b (by rw [HD.out]), HB2.out⟩
set_option maxHeartbeats 2000000 in
theorem spec_FltOk (m x : Int) (w : World) (hm : I64 m) (hx : I64 x) :
    Calls Tryz.prog 122 #[.agg (cF m x)] w fun e w' => e = .returned (.bool (decide (fltOk m x))) ∧ Below w.heap.size w w' := by
  obtain ⟨hm0, hm1⟩ := hm
  obtain ⟨hx0, hx1⟩ := hx
  have hl : w.heap.size < (w.alloc (.cells (cF m x) 61)).heap.size := by simp
  have H0 := Lib.hid (below1 w (.cells (cF m x) 61))
  have q0 := Is.new w (cF m x) 61
  by_cases h0 : m = 0
  · subst h0
    by_cases h1 : x = 0
    · subst h1
      have HD := Lib.hid (show decide (fltOk 0 0) = true from decide_eq_true (Or.inl ⟨rfl, rfl⟩))
      go_enter Tryz.func122, Tryz.ntmps122
      go_wp2_with fail
      go_ret
      exact ⟨ret_b (by rw [HD.out]), H0.out⟩
    · have HD := Lib.hid (show decide (fltOk 0 x) = false from decide_eq_false (by rintro (h | h); exact h1 h.2; exact h.1 rfl))
      go_enter Tryz.func122, Tryz.ntmps122
      go_wp2_with fail
      go_ret
      exact ⟨ret_b (by rw [HD.out]; simp [h1]), H0.out⟩
  by_cases h2 : -65535 ≤ m ∧ m ≤ 65535
  · have D2 := Lib.hid (show decide ((-65535 : Int) ≤ m ∧ m ≤ 65535) = true from decide_eq_true h2)
    by_cases h1 : m.tmod 2 = 0
    · have HD := Lib.hid (show decide (fltOk m x) = false from decide_eq_false (by rintro (h | h); exact h0 h.1; exact h.2.2.1 h1))
      go_enter Tryz.func122, Tryz.ntmps122
      go_wp2_with (go_at_call 74; refine (spec_l1In _ _ _ _).mono ?_; rintro e w2 ⟨rfl, hb⟩; first | (rw [D2.out]; have HB2 := Lib.hid (below_step H0.out hb (by simp)); have q2 := q0.below hb hl; obtain ⟨r0, r1⟩ := q2.cells2; have hl2 : w.heap.size < w2.heap.size := Nat.lt_of_lt_of_le hl hb.size; clear hb) | (rw [D3.out]; have HB3 := Lib.hid (below_step HB2.out hb HB2.out.size); have q3 := q2.below hb hl2; obtain ⟨s0, s1⟩ := q3.cells2; have hl3 : w.heap.size < w2.heap.size := Nat.lt_of_lt_of_le hl2 hb.size; clear hb) | (rw [HBB.out]; have HB4 := Lib.hid (below_step HB3.out hb HB3.out.size)))
      go_ret
      exact ⟨ret_b (by rw [HD.out]), HB2.out⟩
    by_cases h3 : -16 ≤ x ∧ x ≤ 45
    · have D3 := Lib.hid (show decide ((-16 : Int) ≤ x ∧ x ≤ 45) = true from decide_eq_true h3)
      by_cases h4 : x ≤ 30
      · have HD := Lib.hid (show decide (fltOk m x) = true from decide_eq_true (Or.inr ⟨h0, h2, h1, by omega, Or.inl h4⟩))
        go_enter Tryz.func122, Tryz.ntmps122
        go_wp2_with (go_at_call 74; refine (spec_l1In _ _ _ _).mono ?_; rintro e w2 ⟨rfl, hb⟩; first | (rw [D2.out]; have HB2 := Lib.hid (below_step H0.out hb (by simp)); have q2 := q0.below hb hl; obtain ⟨r0, r1⟩ := q2.cells2; have hl2 : w.heap.size < w2.heap.size := Nat.lt_of_lt_of_le hl hb.size; clear hb) | (rw [D3.out]; have HB3 := Lib.hid (below_step HB2.out hb HB2.out.size); have q3 := q2.below hb hl2; obtain ⟨s0, s1⟩ := q3.cells2; have hl3 : w.heap.size < w2.heap.size := Nat.lt_of_lt_of_le hl2 hb.size; clear hb) | (rw [HBB.out]; have HB4 := Lib.hid (below_step HB3.out hb HB3.out.size)))
        go_ret
        exact ⟨ret_b (by rw [HD.out]), HB3.out⟩
      · obtain ⟨bb, hbb⟩ : ∃ bb, decide (-65535 ≤ m * 2 ^ (x - 30).toNat ∧ m * 2 ^ (x - 30).toNat ≤ 65535) = bb := ⟨_, rfl⟩
        have HD := Lib.hid ((fltOk_big (m := m) (e := x) (x - 30).toNat (by omega) (by omega) h0 h2 h1).trans hbb)
        obtain rfl | rfl | rfl | rfl | rfl | rfl | rfl | rfl | rfl | rfl | rfl | rfl | rfl | rfl | rfl : x = 31 ∨ x = 32 ∨ x = 33 ∨ x = 34 ∨ x = 35 ∨ x = 36 ∨ x = 37 ∨ x = 38 ∨ x = 39 ∨ x = 40 ∨ x = 41 ∨ x = 42 ∨ x = 43 ∨ x = 44 ∨ x = 45 := by omega
        all_goals
          simp only [Int.reduceSub, Int.reduceToNat, Int.reducePow] at hbb
          have HBB := Lib.hid hbb; clear hbb
          go_enter Tryz.func122, Tryz.ntmps122
          go_wp2_with (go_at_call 74; refine (spec_l1In _ _ _ _).mono ?_; rintro e w2 ⟨rfl, hb⟩; first | (rw [D2.out]; have HB2 := Lib.hid (below_step H0.out hb (by simp)); have q2 := q0.below hb hl; obtain ⟨r0, r1⟩ := q2.cells2; have hl2 : w.heap.size < w2.heap.size := Nat.lt_of_lt_of_le hl hb.size; clear hb) | (rw [D3.out]; have HB3 := Lib.hid (below_step HB2.out hb HB2.out.size); have q3 := q2.below hb hl2; obtain ⟨s0, s1⟩ := q3.cells2; have hl3 : w.heap.size < w2.heap.size := Nat.lt_of_lt_of_le hl2 hb.size; clear hb) | (rw [HBB.out]; have HB4 := Lib.hid (below_step HB3.out hb HB3.out.size)))
          go_ret
          exact ⟨ret_b (by rw [HD.out]), HB4.out⟩
    · have D3 := Lib.hid (show decide ((-16 : Int) ≤ x ∧ x ≤ 45) = false from decide_eq_false h3)
      have HD := Lib.hid (show decide (fltOk m x) = false from decide_eq_false (by
        rintro (h | h); exact h0 h.1
        have e46 := h.2.2.2.2
        by_cases h46 : x = 46
        · subst h46
          rcases e46 with h | h
          · omega
          · simp only [Int.reduceSub, Int.reduceToNat, Int.reducePow] at h; omega
        · omega))
      go_enter Tryz.func122, Tryz.ntmps122
      go_wp2_with (go_at_call 74; refine (spec_l1In _ _ _ _).mono ?_; rintro e w2 ⟨rfl, hb⟩; first | (rw [D2.out]; have HB2 := Lib.hid (below_step H0.out hb (by simp)); have q2 := q0.below hb hl; obtain ⟨r0, r1⟩ := q2.cells2; have hl2 : w.heap.size < w2.heap.size := Nat.lt_of_lt_of_le hl hb.size; clear hb) | (rw [D3.out]; have HB3 := Lib.hid (below_step HB2.out hb HB2.out.size); have q3 := q2.below hb hl2; obtain ⟨s0, s1⟩ := q3.cells2; have hl3 : w.heap.size < w2.heap.size := Nat.lt_of_lt_of_le hl2 hb.size; clear hb) | (rw [HBB.out]; have HB4 := Lib.hid (below_step HB3.out hb HB3.out.size)))
      go_ret
      exact ⟨ret_b (by rw [HD.out]), HB3.out⟩
  · have D2 := Lib.hid (show decide ((-65535 : Int) ≤ m ∧ m ≤ 65535) = false from decide_eq_false h2)
    have HD := Lib.hid (show decide (fltOk m x) = false from decide_eq_false (by rintro (h | h); exact h0 h.1; exact h2 h.2.1))
    go_enter Tryz.func122, Tryz.ntmps122
    go_wp2_with (go_at_call 74; refine (spec_l1In _ _ _ _).mono ?_; rintro e w2 ⟨rfl, hb⟩; first | (rw [D2.out]; have HB2 := Lib.hid (below_step H0.out hb (by simp)); have q2 := q0.below hb hl; obtain ⟨r0, r1⟩ := q2.cells2; have hl2 : w.heap.size < w2.heap.size := Nat.lt_of_lt_of_le hl hb.size; clear hb) | (rw [D3.out]; have HB3 := Lib.hid (below_step HB2.out hb HB2.out.size); have q3 := q2.below hb hl2; obtain ⟨s0, s1⟩ := q3.cells2; have hl3 : w.heap.size < w2.heap.size := Nat.lt_of_lt_of_le hl2 hb.size; clear hb) | (rw [HBB.out]; have HB4 := Lib.hid (below_step HB3.out hb HB3.out.size)))
    go_ret
    exact ⟨ret_b (by rw [HD.out]), HB2.out⟩
end Go.Proofs.YtggdenkmohnijaaGreatDoor
