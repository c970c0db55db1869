/- Texts of this proof, merged: Drw2, Drw3, Drw4, Big2. No condition beyond what each theorem states. -/
import Derived.Test.YtggdenkmohnijaaGreatDoorZN20
import Derived.Laws.Bits64
import Derived.Laws.Bits64b
import Derived.Deep.CutBlock
import Derived.Deep.DeepCutAuto
set_option linter.unusedSimpArgs false
set_option linter.unnecessarySimpa false
namespace Go.Proofs.YtggdenkmohnijaaGreatDoor
open Go.ChangeShapes Go.WideShapes Go.ChangeAt Go.RowKit Go.Joins
set_option linter.unusedVariables false
set_option maxRecDepth 100000
set_option maxHeartbeats 4000000 in
theorem spec_l1Num (A : Nat) (w : World) (hc : Cur w A) : Calls Tryz.prog 231 #[.pointer (some ⟨A, 0, none⟩)] w fun e w' => ∃ n, (0 ≤ n ∧ n ≤ 1000000000000000) ∧ e = .returned (.int .i64 n) ∧ Cur w' A ∧ Kp A w w' := by
  have HC := Lib.hid hc; clear hc
  go_enter Tryz.func231, Tryz.ntmps231
  go_wp2_with fail
  refine (spec_l1Below A 5 w HC.out ⟨by decide, by decide⟩).mono ?_
  rintro e w2 ⟨x, rfl, hx, _, hc2, hk2⟩
  have HC2 := Lib.hid hc2; have HK2 := Lib.hid hk2; clear hc2 hk2
  have hx5 : x < 5 := by omega
  clear hx
  rcases (show x = 0 ∨ x = 1 ∨ x = 2 ∨ x = 3 ∨ x = 4 by omega) with rfl | rfl | rfl | rfl | rfl
  · go_wp2_with fail
    refine (spec_l1Below A 70000 w2 HC2.out ⟨by decide, by decide⟩).mono ?_
    rintro e w3 ⟨y, rfl, hy, hy2, hc3, hk3⟩
    go_wp2_with fail
    go_ret
    exact ⟨y, ⟨by omega, by omega⟩, rfl, hc3, HK2.out.trans hk3⟩
  · go_wp2_with fail
    refine (spec_l1IntL A [0, 1, 9, 10, 255, 256, 65535, 65536, 1000000000000000] _ w2 HC2.out (by decide) (by decide) (by decide)).mono ?_
    rintro e w3 ⟨y, hm, hy, rfl, hc3, hk3⟩
    go_wp2_with fail
    go_ret
    have hy2 : 0 ≤ y ∧ y ≤ 1000000000000000 := by revert y; decide
    exact ⟨y, hy2, rfl, hc3, HK2.out.trans hk3⟩
  · go_wp2_with fail
    refine (spec_l1Below A 1000000 w2 HC2.out ⟨by decide, by decide⟩).mono ?_
    rintro e w3 ⟨y, rfl, hy, hy2, hc3, hk3⟩
    have HC3 := Lib.hid hc3; have HK3 := Lib.hid (HK2.out.trans hk3); clear hc3 hk3
    go_wp2_with fail
    refine (spec_l1Below A 1000000 w3 HC3.out ⟨by decide, by decide⟩).mono ?_
    rintro e w4 ⟨z, rfl, hz, hz2, hc4, hk4⟩
    go_wp2_with fail
    go_ret
    have hyz : y * z ≤ 999999 * 999999 := Nat.mul_le_mul (by omega) (by omega)
    have hyw : wrap64 ((y : Int) * (z : Int)) = ((y * z : Nat) : Int) := by rw [Int.natCast_mul]; exact Go.IntWalk.wrap64_in _ ⟨by rw [← Int.natCast_mul]; omega, by rw [← Int.natCast_mul]; omega⟩
    exact ⟨wrap64 ((y : Int) * (z : Int)), by rw [hyw]; omega, rfl, hc4, HK3.out.trans hk4⟩
  · go_wp2_with fail
    refine (spec_l1Below A 50 w2 HC2.out ⟨by decide, by decide⟩).mono ?_
    rintro e w3 ⟨y, rfl, hy, hy2, hc3, hk3⟩
    have hy0 : (0 : Int) ≤ (y : Int) := by omega
    go_wp2_with fail
    go_ret
    have hp : 2 ^ y ≤ 562949953421312 := Nat.le_trans (Nat.pow_le_pow_right (by omega) (show y ≤ 49 by omega)) (by decide)
    have hpi : (2 : Int) ^ y = ((2 ^ y : Nat) : Int) := by simp
    have key : ∀ p : Nat, p ≤ 562949953421312 → 0 ≤ wrap64 (p : Int) ∧ wrap64 (p : Int) ≤ 1000000000000000 := fun p hp => by rw [Go.IntWalk.wrap64_in _ ⟨by omega, by omega⟩]; omega
    exact ⟨wrap64 (2 ^ y), by rw [hpi]; exact key _ hp, rfl, hc3, HK2.out.trans hk3⟩
  · go_wp2_with fail
    refine (spec_l1Below A 30 w2 HC2.out ⟨by decide, by decide⟩).mono ?_
    rintro e w3 ⟨y, rfl, hy, hy2, hc3, hk3⟩
    go_wp2_with fail
    go_ret
    exact ⟨y, ⟨by omega, by omega⟩, rfl, hc3, HK2.out.trans hk3⟩
set_option maxHeartbeats 4000000 in
theorem spec_l1Signed (A : Nat) (w : World) (hc : Cur w A) : Calls Tryz.prog 177 #[.pointer (some ⟨A, 0, none⟩)] w fun e w' => ∃ n, (-1000000000000000 ≤ n ∧ n ≤ 1000000000000000) ∧ e = .returned (.int .i64 n) ∧ Cur w' A ∧ Kp A w w' := by
  have HC := Lib.hid hc; clear hc
  go_enter Tryz.func177, Tryz.ntmps177
  go_wp2_with fail
  refine (spec_l1Once A 2 w HC.out ⟨by decide, by decide⟩).mono ?_
  rintro e w2 ⟨b, rfl, hc2, hk2⟩
  have HC2 := Lib.hid hc2; have HK2 := Lib.hid hk2; clear hc2 hk2
  cases b with
  | true =>
    go_wp2_with fail
    refine (spec_l1Num A w2 HC2.out).mono ?_
    rintro e w3 ⟨y, ⟨hy0, hy1⟩, rfl, hc3, hk3⟩
    go_wp2_with fail
    go_ret
    exact ⟨_, by first | omega | (rw [Go.IntWalk.wrap64_in (-y) ⟨by omega, by omega⟩]; omega), rfl, hc3, HK2.out.trans hk3⟩
  | false =>
    go_wp2_with fail
    refine (spec_l1Num A w2 HC2.out).mono ?_
    rintro e w3 ⟨y, ⟨hy0, hy1⟩, rfl, hc3, hk3⟩
    go_wp2_with fail
    go_ret
    exact ⟨y, ⟨by omega, hy1⟩, rfl, hc3, HK2.out.trans hk3⟩
set_option maxHeartbeats 4000000 in
theorem spec_l1Odd (A : Nat) (w : World) (hc : Cur w A) : Calls Tryz.prog 185 #[.pointer (some ⟨A, 0, none⟩)] w fun e w' => ∃ n, I64 n ∧ e = .returned (.int .i64 n) ∧ Cur w' A ∧ Kp A w w' := by
  have HC := Lib.hid hc; clear hc
  go_enter Tryz.func185, Tryz.ntmps185
  go_wp2_with fail
  refine (spec_l1IntL A [-1, 0, 1, 2, 255, 256, 65535, 2147483647, 2147483648, 4294967295, 4294967296, -2147483648, 9223372036854775807, -9223372036854775808] _ w HC.out (by decide) (by decide) (by decide)).mono ?_
  rintro e w3 ⟨y, hm, hy, rfl, hc3, hk3⟩
  go_wp2_with fail
  go_ret
  exact ⟨y, hy, rfl, hc3, hk3⟩
set_option maxHeartbeats 4000000 in
theorem spec_l1Raw (A : Nat) (w : World) (hc : Cur w A) : Calls Tryz.prog 117 #[.pointer (some ⟨A, 0, none⟩)] w fun e w' => ∃ n, I64 n ∧ e = .returned (.int .i64 n) ∧ Cur w' A ∧ Kp A w w' := by
  have HC := Lib.hid hc; clear hc
  go_enter Tryz.func117, Tryz.ntmps117
  go_wp2_with fail
  refine (spec_l1Once A 2 w HC.out ⟨by decide, by decide⟩).mono ?_
  rintro e w2 ⟨b, rfl, hc2, hk2⟩
  have HC2 := Lib.hid hc2; have HK2 := Lib.hid hk2; clear hc2 hk2
  cases b with
  | true =>
    go_wp2_with fail
    refine (spec_l1Odd A w2 HC2.out).mono ?_
    rintro e w3 ⟨y, hy, rfl, hc3, hk3⟩
    go_wp2_with fail
    go_ret
    exact ⟨y, hy, rfl, hc3, HK2.out.trans hk3⟩
  | false =>
    go_wp2_with fail
    refine (spec_l1IntL A [-1, 1000000000000001, -1000000000000001] _ w2 HC2.out (by decide) (by decide) (by decide)).mono ?_
    rintro e w3 ⟨y, hm, hy, rfl, hc3, hk3⟩
    go_wp2_with fail
    go_ret
    exact ⟨y, hy, rfl, hc3, HK2.out.trans hk3⟩
set_option maxHeartbeats 8000000 in
theorem spec_l5Draw (A : Nat) (w : World) (hc : Cur w A) : Calls Tryz.prog 178 #[.pointer (some ⟨A, 0, none⟩)] w fun e w' => ∃ m x, fltOk m x ∧ I64 m ∧ I64 x ∧ e = .returned (.agg (cF m x)) ∧ Cur w' A ∧ Kp A w w' := by
  have hlA := hc.lt
  have HC0 := Lib.hid (hc.below (below1 w (.cells (cF 0 0) 61)) hlA)
  have HK0 := Lib.hid (Kp.alloc (w := w) (Nat.le_of_lt hlA) (.cells (cF 0 0) 61))
  have HI0 := Lib.hid (Is.new w (cF 0 0) 61)
  clear hc
  go_enter Tryz.func178, Tryz.ntmps178
  go_wp2_with fail
  refine (spec_l1Below A 32767 _ HC0.out ⟨by decide, by decide⟩).mono ?_
  rintro e w2 ⟨x, rfl, hx, hx2, hc2, hk2⟩
  have HC2 := Lib.hid hc2; have HI2 := Lib.hid (hk2.is HI0.out (by omega)); have HK2 := Lib.hid (HK0.out.trans hk2); clear hc2 hk2 HI0 HK0 HC0
  go_wp2_with fail
  refine (spec_l1IntL A [0, 1, 3, 5, 255, 32767, 65535, 1 + 2 * x] _ w2 HC2.out ?_ (by simp) (by simp)).mono ?_
  · intro y hy
    simp only [List.mem_cons, List.not_mem_nil, or_false] at hy
    rcases hy with rfl | rfl | rfl | rfl | rfl | rfl | rfl | rfl <;> exact ⟨by omega, by omega⟩
  rintro e w3 ⟨m, hmm, hm, rfl, hc3, hk3⟩
  have HMM := Lib.hid (show 0 ≤ m ∧ m ≤ 65535 ∧ (m = 0 ∨ m % 2 = 1) from by
    simp only [List.mem_cons, List.not_mem_nil, or_false] at hmm
    rcases hmm with rfl | rfl | rfl | rfl | rfl | rfl | rfl | rfl <;> omega)
  clear hmm
  have HC3 := Lib.hid hc3; have HI3 := Lib.hid (hk3.is HI2.out (by omega)); have HK3 := Lib.hid (HK2.out.trans hk3); clear hc3 hk3 HI2 HK2 HC2
  go_wp2_with fail
  refine (spec_l1Below A 47 _ HC3.out ⟨by decide, by decide⟩).mono ?_
  rintro e w4 ⟨y, rfl, hy, hy2, hc4, hk4⟩
  have HC4 := Lib.hid hc4; have HI4 := Lib.hid (hk4.is HI3.out (by omega)); have HK4 := Lib.hid (HK3.out.trans hk4); clear hc4 hk4 HI3 HK3 HC3
  go_wp2_with fail
  refine (spec_l1IntL A [0, 0, 1, -1, -16, 30, y - 16] _ w4 HC4.out ?_ (by simp) (by simp)).mono ?_
  · intro z hz
    simp only [List.mem_cons, List.not_mem_nil, or_false] at hz
    rcases hz with rfl | rfl | rfl | rfl | rfl | rfl | rfl <;> exact ⟨by omega, by omega⟩
  rintro e w5 ⟨ex, hem, hex, rfl, hc5, hk5⟩
  have HEX := Lib.hid (show -16 ≤ ex ∧ ex ≤ 30 from by
    simp only [List.mem_cons, List.not_mem_nil, or_false] at hem
    rcases hem with rfl | rfl | rfl | rfl | rfl | rfl | rfl <;> omega)
  clear hem
  have HC5 := Lib.hid hc5; have HI5 := Lib.hid (hk5.is HI4.out (by omega)); have HK5 := Lib.hid (HK4.out.trans hk5); clear hc5 hk5 HI4 HK4 HC4
  obtain ⟨hm0, hm1⟩ := hm
  obtain ⟨hex0, hex1⟩ := hex
  by_cases m0 : m = 0
  · have m0b : (m == 0) = true := by simp [m0]
    have m1b : (m == 1) = false := by simp [m0]
    have M0 := Lib.hid m0
    clear m0
    go_wp2_with fail
    refine (spec_l1Once A 3 w5 HC5.out ⟨by decide, by decide⟩).mono ?_
    rintro e w9 ⟨bn, rfl, hc9, hk9⟩
    have HC9 := Lib.hid hc9; have HI9 := Lib.hid (hk9.is HI5.out (by omega)); have HK9 := Lib.hid (HK5.out.trans hk9); clear hc9 hk9
    cases bn with
    | true =>
      have ff := fun i => HI9.out.frozen i; have lg := HI9.out.lt; obtain ⟨z0, z1⟩ := HI9.out.cells2
      go_wp2_with fail
      obtain ⟨e0, e1, hcf, hkf⟩ := fin2 (.int .i64 (wrap64 (-m))) (.int .i64 (0 : Int)) HI9.out HK9.out (Nat.le_refl _) HC9.out hlA
      refine bodyPost_ret (v := .agg #[.int .i64 (wrap64 (-m)), .int .i64 (0 : Int)]) (by simp [results, Tryz.results178, go_sem, e0, e1]) rfl ⟨_, _, (dv_flt HMM.out.1 HMM.out.2.1 HMM.out.2.2 (fun _ => rfl) (by decide) (Or.inl (by decide))).2, wrap_i64 _, ⟨by decide, by decide⟩, rfl, hcf, hkf⟩
    | false =>
      have ff := fun i => HI9.out.frozen i; have lg := HI9.out.lt; obtain ⟨z0, z1⟩ := HI9.out.cells2
      go_wp2_with fail
      obtain ⟨e0, e1, hcf, hkf⟩ := fin2 (.int .i64 (m)) (.int .i64 (0 : Int)) HI9.out HK9.out (Nat.le_refl _) HC9.out hlA
      refine bodyPost_ret (v := .agg #[.int .i64 (m), .int .i64 (0 : Int)]) (by simp [results, Tryz.results178, go_sem, e0, e1]) rfl ⟨_, _, (dv_flt HMM.out.1 HMM.out.2.1 HMM.out.2.2 (fun _ => rfl) (by decide) (Or.inl (by decide))).1, ⟨hm0, hm1⟩, ⟨by decide, by decide⟩, rfl, hcf, hkf⟩
  · have m0b : (m == 0) = false := by simp [m0]
    have M0 := Lib.hid m0
    clear m0
    by_cases m1 : m = 1
    · have m1b : (m == 1) = true := by simp [m1]
      have M1 := Lib.hid m1
      clear m1
      go_wp2_with fail
      refine (spec_l1Once A 2 w5 HC5.out ⟨by decide, by decide⟩).mono ?_
      rintro e w6 ⟨b6, rfl, hc6, hk6⟩
      have HC6 := Lib.hid hc6; have HI6 := Lib.hid (hk6.is HI5.out (by omega)); have HK6 := Lib.hid (HK5.out.trans hk6); clear hc6 hk6
      cases b6 with
      | true =>
        go_wp2_with fail
        refine (spec_l1IntL A [31, 45] _ w6 HC6.out (by decide) (by decide) (by decide)).mono ?_
        rintro e w7 ⟨x7, hxm, hx7, rfl, hc7, hk7⟩
        have HX7 := Lib.hid (show 31 ≤ x7 ∧ x7 ≤ 45 from by simp only [List.mem_cons, List.not_mem_nil, or_false] at hxm; rcases hxm with rfl | rfl <;> omega)
        clear hxm
        have HC7 := Lib.hid hc7; have HI7 := Lib.hid (hk7.is HI6.out (by omega)); have HK7 := Lib.hid (HK6.out.trans hk7); clear hc7 hk7
        obtain ⟨hx70, hx71⟩ := hx7
        go_wp2_with fail
        refine (spec_l1Once A 3 w7 HC7.out ⟨by decide, by decide⟩).mono ?_
        rintro e w9 ⟨bn, rfl, hc9, hk9⟩
        have HC9 := Lib.hid hc9; have HI9 := Lib.hid (hk9.is HI7.out (by omega)); have HK9 := Lib.hid (HK7.out.trans hk9); clear hc9 hk9
        cases bn with
        | true =>
          have ff := fun i => HI9.out.frozen i; have lg := HI9.out.lt; obtain ⟨z0, z1⟩ := HI9.out.cells2
          go_wp2_with fail
          obtain ⟨e0, e1, hcf, hkf⟩ := fin2 (.int .i64 (wrap64 (-m))) (.int .i64 x7) HI9.out HK9.out (Nat.le_refl _) HC9.out hlA
          refine bodyPost_ret (v := .agg #[.int .i64 (wrap64 (-m)), .int .i64 x7]) (by simp [results, Tryz.results178, go_sem, e0, e1]) rfl ⟨_, _, (dv_flt HMM.out.1 HMM.out.2.1 HMM.out.2.2 (fun h => absurd h M0.out) (by have := HX7.out; omega) (Or.inr ⟨M1.out, HX7.out.2⟩)).2, wrap_i64 _, ⟨hx70, hx71⟩, rfl, hcf, hkf⟩
        | false =>
          have ff := fun i => HI9.out.frozen i; have lg := HI9.out.lt; obtain ⟨z0, z1⟩ := HI9.out.cells2
          go_wp2_with fail
          obtain ⟨e0, e1, hcf, hkf⟩ := fin2 (.int .i64 (m)) (.int .i64 x7) HI9.out HK9.out (Nat.le_refl _) HC9.out hlA
          refine bodyPost_ret (v := .agg #[.int .i64 (m), .int .i64 x7]) (by simp [results, Tryz.results178, go_sem, e0, e1]) rfl ⟨_, _, (dv_flt HMM.out.1 HMM.out.2.1 HMM.out.2.2 (fun h => absurd h M0.out) (by have := HX7.out; omega) (Or.inr ⟨M1.out, HX7.out.2⟩)).1, ⟨hm0, hm1⟩, ⟨hx70, hx71⟩, rfl, hcf, hkf⟩
      | false =>
        go_wp2_with fail
        refine (spec_l1Once A 3 w6 HC6.out ⟨by decide, by decide⟩).mono ?_
        rintro e w9 ⟨bn, rfl, hc9, hk9⟩
        have HC9 := Lib.hid hc9; have HI9 := Lib.hid (hk9.is HI6.out (by omega)); have HK9 := Lib.hid (HK6.out.trans hk9); clear hc9 hk9
        cases bn with
        | true =>
          have ff := fun i => HI9.out.frozen i; have lg := HI9.out.lt; obtain ⟨z0, z1⟩ := HI9.out.cells2
          go_wp2_with fail
          obtain ⟨e0, e1, hcf, hkf⟩ := fin2 (.int .i64 (wrap64 (-m))) (.int .i64 ex) HI9.out HK9.out (Nat.le_refl _) HC9.out hlA
          refine bodyPost_ret (v := .agg #[.int .i64 (wrap64 (-m)), .int .i64 ex]) (by simp [results, Tryz.results178, go_sem, e0, e1]) rfl ⟨_, _, (dv_flt HMM.out.1 HMM.out.2.1 HMM.out.2.2 (fun h => absurd h M0.out) HEX.out.1 (Or.inl HEX.out.2)).2, wrap_i64 _, ⟨hex0, hex1⟩, rfl, hcf, hkf⟩
        | false =>
          have ff := fun i => HI9.out.frozen i; have lg := HI9.out.lt; obtain ⟨z0, z1⟩ := HI9.out.cells2
          go_wp2_with fail
          obtain ⟨e0, e1, hcf, hkf⟩ := fin2 (.int .i64 (m)) (.int .i64 ex) HI9.out HK9.out (Nat.le_refl _) HC9.out hlA
          refine bodyPost_ret (v := .agg #[.int .i64 (m), .int .i64 ex]) (by simp [results, Tryz.results178, go_sem, e0, e1]) rfl ⟨_, _, (dv_flt HMM.out.1 HMM.out.2.1 HMM.out.2.2 (fun h => absurd h M0.out) HEX.out.1 (Or.inl HEX.out.2)).1, ⟨hm0, hm1⟩, ⟨hex0, hex1⟩, rfl, hcf, hkf⟩
    · have m1b : (m == 1) = false := by simp [m1]
      have M1 := Lib.hid m1
      clear m1
      go_wp2_with fail
      refine (spec_l1Once A 3 w5 HC5.out ⟨by decide, by decide⟩).mono ?_
      rintro e w9 ⟨bn, rfl, hc9, hk9⟩
      have HC9 := Lib.hid hc9; have HI9 := Lib.hid (hk9.is HI5.out (by omega)); have HK9 := Lib.hid (HK5.out.trans hk9); clear hc9 hk9
      cases bn with
      | true =>
        have ff := fun i => HI9.out.frozen i; have lg := HI9.out.lt; obtain ⟨z0, z1⟩ := HI9.out.cells2
        go_wp2_with fail
        obtain ⟨e0, e1, hcf, hkf⟩ := fin2 (.int .i64 (wrap64 (-m))) (.int .i64 ex) HI9.out HK9.out (Nat.le_refl _) HC9.out hlA
        refine bodyPost_ret (v := .agg #[.int .i64 (wrap64 (-m)), .int .i64 ex]) (by simp [results, Tryz.results178, go_sem, e0, e1]) rfl ⟨_, _, (dv_flt HMM.out.1 HMM.out.2.1 HMM.out.2.2 (fun h => absurd h M0.out) HEX.out.1 (Or.inl HEX.out.2)).2, wrap_i64 _, ⟨hex0, hex1⟩, rfl, hcf, hkf⟩
      | false =>
        have ff := fun i => HI9.out.frozen i; have lg := HI9.out.lt; obtain ⟨z0, z1⟩ := HI9.out.cells2
        go_wp2_with fail
        obtain ⟨e0, e1, hcf, hkf⟩ := fin2 (.int .i64 (m)) (.int .i64 ex) HI9.out HK9.out (Nat.le_refl _) HC9.out hlA
        refine bodyPost_ret (v := .agg #[.int .i64 (m), .int .i64 ex]) (by simp [results, Tryz.results178, go_sem, e0, e1]) rfl ⟨_, _, (dv_flt HMM.out.1 HMM.out.2.1 HMM.out.2.2 (fun h => absurd h M0.out) HEX.out.1 (Or.inl HEX.out.2)).1, ⟨hm0, hm1⟩, ⟨hex0, hex1⟩, rfl, hcf, hkf⟩
set_option maxHeartbeats 8000000 in
theorem spec_l4Draw (A : Nat) (w : World) (hc : Cur w A) : Calls Tryz.prog 232 #[.pointer (some ⟨A, 0, none⟩)] w fun e w' => ∃ m x, decOk m x ∧ I64 m ∧ I64 x ∧ e = .returned (.agg (cF m x)) ∧ Cur w' A ∧ Kp A w w' := by
  have hlA := hc.lt
  have HC0 := Lib.hid (hc.below (below1 w (.cells (cF 0 0) 100)) hlA)
  have HK0 := Lib.hid (Kp.alloc (w := w) (Nat.le_of_lt hlA) (.cells (cF 0 0) 100))
  have HI0 := Lib.hid (Is.new w (cF 0 0) 100)
  clear hc
  go_enter Tryz.func232, Tryz.ntmps232
  go_wp2_with fail
  go_loopw [3] (fun i wr => ∃ (j : Nat), j ≤ 6 ∧ i = .int .i64 j ∧ Cur wr A ∧ Kp A w wr ∧ Is wr w.heap.size 100 (cF 0 0)) (fun i _ => 6 - (intOf i).toNat)
  case atStart => exact ⟨0, by omega, rfl, HC0.out, HK0.out, HI0.out⟩
  case round =>
    obtain ⟨j, hj, rfl, hcr, hkr, hir⟩ := hrel
    have HC1 := Lib.hid hcr; have HK1 := Lib.hid hkr; have HI1 := Lib.hid hir; clear hcr hkr hir HC0 HK0 HI0
    by_cases hlt : j < 6
    · have hltz : (j : Int) < 6 := by omega
      go_wp2_with fail
      refine (spec_l1Signed A wr HC1.out).mono ?_
      rintro e w2 ⟨n, hn, rfl, hc2, hk2⟩
      have HC2 := Lib.hid hc2; have HI2 := Lib.hid (hk2.is HI1.out (by omega)); have HK2 := Lib.hid (HK1.out.trans hk2); clear hc2 hk2
      have HN := Lib.hid (show I64 n from ⟨by omega, by omega⟩)
      obtain ⟨hn0, hn1⟩ := hn
      go_wp2_with fail
      refine (spec_l1Below A 17 w2 HC2.out ⟨by decide, by decide⟩).mono ?_
      rintro e w3 ⟨y, rfl, hy, hy2, hc3, hk3⟩
      have HC3 := Lib.hid hc3; have HI3 := Lib.hid (hk3.is HI2.out (by omega)); have HK3 := Lib.hid (HK2.out.trans hk3); clear hc3 hk3
      have hnb := decNewD_box n y (by omega) HN.out
      go_wp2_with fail
      refine (spec_DecNewA n y _ _ w3 rfl (by first | rfl | go_num) HN.out (by omega)).mono ?_
      rintro e w4 ⟨rfl, hb4⟩
      have HC4 := Lib.hid (HC3.out.below hb4 HC3.out.lt)
      have HI4 := Lib.hid (HI3.out.below hb4 HI3.out.lt)
      have HK4 := Lib.hid (HK3.out.trans (Kp.of_below hb4 (Nat.le_refl _) (Nat.le_of_lt HC3.out.lt)))
      have HDK := Lib.hid (dv_dec n y)
      generalize decNewD n y = r at *
      obtain ⟨⟨d0, d1⟩, ok⟩ := r
      simp only at hnb
      obtain ⟨hd0, hd1, hd2⟩ := hnb
      cases ok with
      | true =>
        have ff := fun i => HI4.out.frozen i; have lg := HI4.out.lt; obtain ⟨z0, z1⟩ := HI4.out.cells2
        go_wp2_with fail
        obtain ⟨e0, e1, hcf, hkf⟩ := fin2a (.int .i64 d0) (.int .i64 d1) (.cells #[.int .i64 d0, .int .i64 d1] 100) HI4.out HK4.out (Nat.le_refl _) HC4.out hlA
        refine bodyPost_ret (v := .agg #[.int .i64 d0, .int .i64 d1]) (by simp [results, Tryz.results232, go_sem, e0, e1]) rfl ⟨_, _, HDK.out, hd0, ⟨by omega, by omega⟩, rfl, hcf, hkf⟩
      | false =>
        go_wp2_with fail
        go_roundw
        case rel => exact ⟨j + 1, by omega, by go_num, HC4.out.below (below1 _ _) HC4.out.lt, HK4.out.trans (Kp.alloc (Nat.le_of_lt HC4.out.lt) _), HI4.out.alloc _⟩
        case measure => simp [intOf]; omega
    · have hltz : ¬ (j : Int) < 6 := by omega
      have ff := fun i => HI1.out.frozen i; have lg := HI1.out.lt; obtain ⟨z0, z1⟩ := HI1.out.cells2
      go_wp2_with fail
      obtain ⟨e0, e1, hcf, hkf⟩ := fin2 (.int .i64 15) (.int .i64 (-1)) HI1.out HK1.out (Nat.le_refl _) HC1.out hlA
      refine bodyPost_ret (v := .agg #[.int .i64 15, .int .i64 (-1)]) (by simp [results, Tryz.results232, go_sem, e0, e1]) rfl ?_
      exact ⟨15, -1, dv_dec15, ⟨by omega, by omega⟩, ⟨by omega, by omega⟩, rfl, hcf, hkf⟩
set_option maxHeartbeats 8000000 in
theorem spec_l5Dec (A : Nat) (w : World) (hc : Cur w A) : Calls Tryz.prog 180 #[.pointer (some ⟨A, 0, none⟩)] w fun e w' => ∃ m x, decOk m x ∧ I64 m ∧ I64 x ∧ e = .returned (.agg (cF m x)) ∧ Cur w' A ∧ Kp A w w' := by
  have hlA := hc.lt
  have HC0 := Lib.hid (hc.below (below1 w (.cells (cF 0 0) 100)) hlA)
  have HK0 := Lib.hid (Kp.alloc (w := w) (Nat.le_of_lt hlA) (.cells (cF 0 0) 100))
  have HI0 := Lib.hid (Is.new w (cF 0 0) 100)
  clear hc
  go_enter Tryz.func180, Tryz.ntmps180
  go_wp2_with fail
  refine (spec_l1Once A 2 _ HC0.out ⟨by decide, by decide⟩).mono ?_
  rintro e w2 ⟨b, rfl, hc2, hk2⟩
  have HC2 := Lib.hid hc2; have HI2 := Lib.hid (hk2.is HI0.out (by omega)); have HK2 := Lib.hid (HK0.out.trans hk2); clear hc2 hk2
  cases b with
  | false =>
    go_wp2_with fail
    refine (spec_l4Draw A w2 HC2.out).mono ?_
    rintro e w3 ⟨n, x, hdk, hn, hx, rfl, hc3, hk3⟩
    have HDK := Lib.hid hdk; clear hdk
    have HC3 := Lib.hid hc3; have HI3 := Lib.hid (hk3.is HI2.out (by omega)); have HK3 := Lib.hid (HK2.out.trans hk3); clear hc3 hk3
    have ff := fun i => HI3.out.frozen i; have lg := HI3.out.lt; obtain ⟨z0, z1⟩ := HI3.out.cells2
    go_wp2_with fail
    obtain ⟨e0, e1, hcf, hkf⟩ := fin2 (.int .i64 n) (.int .i64 x) HI3.out HK3.out (Nat.le_refl _) HC3.out hlA
    refine bodyPost_ret (v := .agg #[.int .i64 n, .int .i64 x]) (by simp [results, Tryz.results180, go_sem, e0, e1]) rfl ⟨_, _, HDK.out, hn, hx, rfl, hcf, hkf⟩
  | true =>
    go_wp2_with fail
    refine (spec_l5Draw A w2 HC2.out).mono ?_
    rintro e w3 ⟨n, x, _, hn, hx, rfl, hc3, hk3⟩
    have HC3 := Lib.hid hc3; have HI3 := Lib.hid (hk3.is HI2.out (by omega)); have HK3 := Lib.hid (HK2.out.trans hk3); clear hc3 hk3
    have hbx := fltDecD_box n x
    go_wp2_with fail
    refine (spec_FltDec n x w3 hn hx).mono ?_
    rintro e w4 ⟨rfl, hb4⟩
    have HC4 := Lib.hid (HC3.out.below hb4 HC3.out.lt)
    have HI4 := Lib.hid (HI3.out.below hb4 HI3.out.lt)
    have HK4 := Lib.hid (HK3.out.trans (Kp.of_below hb4 (Nat.le_refl _) (Nat.le_of_lt HC3.out.lt)))
    generalize fltDecD n x = r at *
    obtain ⟨d0, d1⟩ := r
    simp only at hbx
    obtain ⟨hd0, hd1, hd2⟩ := hbx
    have HC5 := Lib.hid (HC4.out.below (below1 w4 (.cells #[.int .i64 d0, .int .i64 d1] 100)) HC4.out.lt)
    have HI5 := Lib.hid (HI4.out.alloc (.cells #[.int .i64 d0, .int .i64 d1] 100))
    have HK5 := Lib.hid (HK4.out.trans (Kp.alloc (Nat.le_of_lt HC4.out.lt) (.cells #[.int .i64 d0, .int .i64 d1] 100)))
    have HJ5 := Lib.hid (Is.new w4 #[.int .i64 d0, .int .i64 d1] 100)
    have hl4 := HI4.out.lt
    have HD0 := Lib.hid hd0
    have HD1 := Lib.hid (show I64 d1 from ⟨by omega, by omega⟩)
    obtain ⟨hd0a, hd0b⟩ := hd0
    go_wp2_with fail
    refine (spec_l1Once A 3 _ HC5.out ⟨by decide, by decide⟩).mono ?_
    rintro e w6 ⟨b6, rfl, hc6, hk6⟩
    have HC6 := Lib.hid hc6; have HI6 := Lib.hid (hk6.is HI5.out (by omega)); have HK6 := Lib.hid (HK5.out.trans hk6)
    have HJ6 := Lib.hid (hk6.is HJ5.out (by omega)); clear hc6 hk6
    cases b6 with
    | false =>
      have HC7 := HC6; have HI7 := HI6; have HK7 := HK6; have HJ7 := HJ6
      obtain ⟨y0, y1⟩ := HJ6.out.cells2; have lj := HJ6.out.lt
      go_wp2_with fail
      refine (spec_DecOk (d0) d1 _ HD0.out HD1.out).mono ?_
      rintro e w8 ⟨rfl, hb8⟩
      have HC8 := Lib.hid (HC7.out.below hb8 HC7.out.lt)
      have HI8 := Lib.hid (HI7.out.below hb8 HI7.out.lt)
      have HJ8 := Lib.hid (HJ7.out.below hb8 HJ7.out.lt)
      have HK8 := Lib.hid (HK7.out.trans (Kp.of_below hb8 (Nat.le_refl _) (Nat.le_of_lt HC7.out.lt)))
      by_cases hok : decOk (d0) d1
      · have HOK := Lib.hid (show decide (decOk (d0) d1) = true from decide_eq_true hok)
        rw [HOK.out]
        have ff := fun i => HI8.out.frozen i; have lg := HI8.out.lt; obtain ⟨z0, z1⟩ := HI8.out.cells2; obtain ⟨y0, y1⟩ := HJ8.out.cells2; have lj := HJ8.out.lt
        have HDK := Lib.hid hok
        clear hok
        go_wp2_with fail
        obtain ⟨e0, e1, hcf, hkf⟩ := fin2 (.int .i64 (d0)) (.int .i64 d1) HI8.out HK8.out (Nat.le_refl _) HC8.out hlA
        refine bodyPost_ret (v := .agg #[.int .i64 (d0), .int .i64 d1]) (by simp [results, Tryz.results180, go_sem, e0, e1]) rfl ⟨_, _, HDK.out, HD0.out, HD1.out, rfl, hcf, hkf⟩
      · have HOK := Lib.hid (show decide (decOk (d0) d1) = false from decide_eq_false hok)
        rw [HOK.out]
        clear hok
        go_wp2_with fail
        refine (spec_l4Draw A w8 HC8.out).mono ?_
        rintro e w9 ⟨n9, x9, hdk9, hn9, hx9, rfl, hc9, hk9⟩
        have HC9 := Lib.hid hc9; have HI9 := Lib.hid (hk9.is HI8.out (by omega)); have HK9 := Lib.hid (HK8.out.trans hk9); clear hc9 hk9
        have ff := fun i => HI9.out.frozen i; have lg := HI9.out.lt; obtain ⟨z0, z1⟩ := HI9.out.cells2
        go_wp2_with fail
        obtain ⟨e0, e1, hcf, hkf⟩ := fin2 (.int .i64 n9) (.int .i64 x9) HI9.out HK9.out (Nat.le_refl _) HC9.out hlA
        refine bodyPost_ret (v := .agg #[.int .i64 n9, .int .i64 x9]) (by simp [results, Tryz.results180, go_sem, e0, e1]) rfl ⟨_, _, hdk9, hn9, hx9, rfl, hcf, hkf⟩
    | true =>
      obtain ⟨y0, y1⟩ := HJ6.out.cells2; have lj := HJ6.out.lt; have fj := fun i => HJ6.out.frozen i
      have HC7 := Lib.hid (HC6.out.set (g := w4.heap.size) (by omega) 0 (.int .i64 (wrap64 (d0 + 1))))
      have HI7 := Lib.hid (HI6.out.miss w4.heap.size 0 (by omega) (.int .i64 (wrap64 (d0 + 1))))
      have HK7 := Lib.hid (Kp.set HK6.out (g := w4.heap.size) (by omega) (by omega) 0 (.int .i64 (wrap64 (d0 + 1))))
      have HJ7 := Lib.hid (HJ6.out.set 0 (.int .i64 (wrap64 (d0 + 1))))
      obtain ⟨y0', y1'⟩ := HJ7.out.cells2
      go_wp2_with fail
      refine (spec_DecOk (wrap64 (d0 + 1)) d1 _ (wrap_i64 _) HD1.out).mono ?_
      rintro e w8 ⟨rfl, hb8⟩
      have HC8 := Lib.hid (HC7.out.below hb8 HC7.out.lt)
      have HI8 := Lib.hid (HI7.out.below hb8 HI7.out.lt)
      have HJ8 := Lib.hid (HJ7.out.below hb8 HJ7.out.lt)
      have HK8 := Lib.hid (HK7.out.trans (Kp.of_below hb8 (Nat.le_refl _) (Nat.le_of_lt HC7.out.lt)))
      by_cases hok : decOk (wrap64 (d0 + 1)) d1
      · have HOK := Lib.hid (show decide (decOk (wrap64 (d0 + 1)) d1) = true from decide_eq_true hok)
        rw [HOK.out]
        have ff := fun i => HI8.out.frozen i; have lg := HI8.out.lt; obtain ⟨z0, z1⟩ := HI8.out.cells2; obtain ⟨y0, y1⟩ := HJ8.out.cells2; have lj := HJ8.out.lt
        have HDK := Lib.hid hok
        clear hok
        go_wp2_with fail
        obtain ⟨e0, e1, hcf, hkf⟩ := fin2 (.int .i64 (wrap64 (d0 + 1))) (.int .i64 d1) HI8.out HK8.out (Nat.le_refl _) HC8.out hlA
        refine bodyPost_ret (v := .agg #[.int .i64 (wrap64 (d0 + 1)), .int .i64 d1]) (by simp [results, Tryz.results180, go_sem, e0, e1]) rfl ⟨_, _, HDK.out, (wrap_i64 _), HD1.out, rfl, hcf, hkf⟩
      · have HOK := Lib.hid (show decide (decOk (wrap64 (d0 + 1)) d1) = false from decide_eq_false hok)
        rw [HOK.out]
        clear hok
        go_wp2_with fail
        refine (spec_l4Draw A w8 HC8.out).mono ?_
        rintro e w9 ⟨n9, x9, hdk9, hn9, hx9, rfl, hc9, hk9⟩
        have HC9 := Lib.hid hc9; have HI9 := Lib.hid (hk9.is HI8.out (by omega)); have HK9 := Lib.hid (HK8.out.trans hk9); clear hc9 hk9
        have ff := fun i => HI9.out.frozen i; have lg := HI9.out.lt; obtain ⟨z0, z1⟩ := HI9.out.cells2
        go_wp2_with fail
        obtain ⟨e0, e1, hcf, hkf⟩ := fin2 (.int .i64 n9) (.int .i64 x9) HI9.out HK9.out (Nat.le_refl _) HC9.out hlA
        refine bodyPost_ret (v := .agg #[.int .i64 n9, .int .i64 x9]) (by simp [results, Tryz.results180, go_sem, e0, e1]) rfl ⟨_, _, hdk9, hn9, hx9, rfl, hcf, hkf⟩
theorem copyB (w : World) (b : List Int) (a : Option Addr) (cap B : Nat) (hr : Rd EByte 1 w B a cap b) (hB : B ≤ w.heap.size) (hz : b.length ≤ 1099511627776) :
    ∃ a' cap' w', (Builtin.append_ #[22, 22] 22 #[.slice (some ⟨w.heap.size, 0, none⟩) 0 0, .slice a b.length cap]).run Tryz.prog (w.alloc (.cells #[] 5)) = .ok (.slice a' b.length cap') w' ∧
      AppL EByte 1 5 w' w.heap.size a' cap' b [] ∧ Below w.heap.size w w' := by
  obtain ⟨a', cap', w', hrun, happ, hbel, _, _, _⟩ := run_appL (P := Tryz.prog) (w.alloc (.cells #[] 5)) EByte.elem 22 22 (.int .u8 0) 1 Tryz.underlying22 info_Byte2 rfl w.heap.size (some ⟨w.heap.size, 0, none⟩) 0 [] [] (AppL.empty w w.heap.size (Nat.le_refl _)) (by simp) (by simp) a cap b [] ((hr.below EByte.loc (below1 w _) hB).srcs EByte.flat) (by simp) (by simp [maxLen]; omega) (by simp; omega)
  exact ⟨a', cap', w', hrun, happ, (below1 w _).trans hbel⟩
end Go.Proofs.YtggdenkmohnijaaGreatDoor
