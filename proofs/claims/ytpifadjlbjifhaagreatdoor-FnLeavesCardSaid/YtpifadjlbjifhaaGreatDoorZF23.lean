/- Texts of this proof, merged: Drw2, Drw3, Drw4, PutR, Drw5. No condition beyond what each theorem states. -/
import Derived.Test.YtpifadjlbjifhaaGreatDoorRows
import Derived.WalkKit
import Derived.ProofKit
import Derived.OpenShut
import Derived.Handy
import Derived.Lib.Hide
import Derived.Lib.SmallJoins
import Derived.Deep.RegionHeld3
import Derived.Deep.AppendLies
import Derived.Deep.QuietTactic
import Derived.BigQuiet
import Derived.Test.YtpifadjlbjifhaaGreatDoorZF1
import Derived.Test.YtpifadjlbjifhaaGreatDoorZF2
import Derived.Test.YtpifadjlbjifhaaGreatDoorZF3
import Derived.Test.YtpifadjlbjifhaaGreatDoorZF4
import Derived.Test.YtpifadjlbjifhaaGreatDoorZF22
import Derived.Test.YtpifadjlbjifhaaGreatDoorZF5
import Derived.Test.YtpifadjlbjifhaaGreatDoorZF7
import Derived.Test.YtpifadjlbjifhaaGreatDoorZF8
import Derived.Laws.BytesArg
import Derived.Deep.RegionLaw
import Derived.Lib.ValidAsc
import Derived.Test.YtpifadjlbjifhaaGreatDoorShelf
import Derived.Test.YtpifadjlbjifhaaGreatDoorZF13
import Derived.Test.YtpifadjlbjifhaaGreatDoorZF17
import Derived.Test.YtpifadjlbjifhaaGreatDoorZF18
set_option linter.unusedSimpArgs false
set_option linter.unnecessarySimpa false
namespace Go.Proofs.YtpifadjlbjifhaaGreatDoor
open Go.ChangeShapes Go.WideShapes Go.ChangeAt Go.RowKit Go.Joins
set_option linter.unusedVariables false
set_option maxRecDepth 100000
set_option maxHeartbeats 4000000 in
theorem spec_l1Num (A : Nat) (w : World) (hc : Cur w A) : Calls Tryz.prog 175 #[.pointer (some ⟨A, 0, none⟩)] w fun e w' => ∃ n, I64 n ∧ e = .returned (.int .i64 n) ∧ Cur w' A ∧ Kp A w w' := by
  have HC := Lib.hid hc; clear hc
  go_enter Tryz.func175, Tryz.ntmps175
  go_wp2_with fail
  refine (spec_l1Below A 5 w HC.out ⟨by decide, by decide⟩).mono ?_
  rintro e w2 ⟨x, rfl, hx, _, hc2, hk2⟩
  have HC2 := Lib.hid hc2; have HK2 := Lib.hid hk2; clear hc2 hk2
  have hx5 : x < 5 := by omega
  clear hx
  rcases (show x = 0 ∨ x = 1 ∨ x = 2 ∨ x = 3 ∨ x = 4 by omega) with rfl | rfl | rfl | rfl | rfl
  · go_wp2_with fail
    refine (spec_l1Below A 70000 w2 HC2.out ⟨by decide, by decide⟩).mono ?_
    rintro e w3 ⟨y, rfl, hy, hy2, hc3, hk3⟩
    go_wp2_with fail
    go_ret
    exact ⟨y, ⟨by omega, by omega⟩, rfl, hc3, HK2.out.trans hk3⟩
  · go_wp2_with fail
    refine (spec_l1IntL A [0, 1, 9, 10, 255, 256, 65535, 65536, 1000000000000000] _ w2 HC2.out (by decide) (by decide) (by decide)).mono ?_
    rintro e w3 ⟨y, hm, hy, rfl, hc3, hk3⟩
    go_wp2_with fail
    go_ret
    exact ⟨y, hy, rfl, hc3, HK2.out.trans hk3⟩
  · go_wp2_with fail
    refine (spec_l1Below A 1000000 w2 HC2.out ⟨by decide, by decide⟩).mono ?_
    rintro e w3 ⟨y, rfl, hy, hy2, hc3, hk3⟩
    have HC3 := Lib.hid hc3; have HK3 := Lib.hid (HK2.out.trans hk3); clear hc3 hk3
    go_wp2_with fail
    refine (spec_l1Below A 1000000 w3 HC3.out ⟨by decide, by decide⟩).mono ?_
    rintro e w4 ⟨z, rfl, hz, hz2, hc4, hk4⟩
    go_wp2_with fail
    go_ret
    trace_state
    exact ⟨_, wrap_i64 _, rfl, hc4, HK3.out.trans hk4⟩
  · go_wp2_with fail
    refine (spec_l1Below A 50 w2 HC2.out ⟨by decide, by decide⟩).mono ?_
    rintro e w3 ⟨y, rfl, hy, hy2, hc3, hk3⟩
    have hy0 : (0 : Int) ≤ (y : Int) := by omega
    go_wp2_with fail
    trace_state
    go_ret
    exact ⟨_, wrap_i64 _, rfl, hc3, HK2.out.trans hk3⟩
  · go_wp2_with fail
    refine (spec_l1Below A 30 w2 HC2.out ⟨by decide, by decide⟩).mono ?_
    rintro e w3 ⟨y, rfl, hy, hy2, hc3, hk3⟩
    go_wp2_with fail
    go_ret
    exact ⟨y, ⟨by omega, by omega⟩, rfl, hc3, HK2.out.trans hk3⟩
set_option maxHeartbeats 4000000 in
theorem spec_l1Signed (A : Nat) (w : World) (hc : Cur w A) : Calls Tryz.prog 142 #[.pointer (some ⟨A, 0, none⟩)] w fun e w' => ∃ n, I64 n ∧ e = .returned (.int .i64 n) ∧ Cur w' A ∧ Kp A w w' := by
  have HC := Lib.hid hc; clear hc
  go_enter Tryz.func142, Tryz.ntmps142
  go_wp2_with fail
  refine (spec_l1Once A 2 w HC.out ⟨by decide, by decide⟩).mono ?_
  rintro e w2 ⟨b, rfl, hc2, hk2⟩
  have HC2 := Lib.hid hc2; have HK2 := Lib.hid hk2; clear hc2 hk2
  cases b with
  | true =>
    go_wp2_with fail
    refine (spec_l1Num A w2 HC2.out).mono ?_
    rintro e w3 ⟨y, ⟨hy0, hy1⟩, rfl, hc3, hk3⟩
    go_wp2_with fail
    go_ret
    exact ⟨_, wrap_i64 _, rfl, hc3, HK2.out.trans hk3⟩
  | false =>
    go_wp2_with fail
    refine (spec_l1Num A w2 HC2.out).mono ?_
    rintro e w3 ⟨y, hy, rfl, hc3, hk3⟩
    go_wp2_with fail
    go_ret
    exact ⟨y, hy, rfl, hc3, HK2.out.trans hk3⟩
set_option maxHeartbeats 4000000 in
theorem spec_l1Odd (A : Nat) (w : World) (hc : Cur w A) : Calls Tryz.prog 184 #[.pointer (some ⟨A, 0, none⟩)] w fun e w' => ∃ n, I64 n ∧ e = .returned (.int .i64 n) ∧ Cur w' A ∧ Kp A w w' := by
  have HC := Lib.hid hc; clear hc
  go_enter Tryz.func184, Tryz.ntmps184
  go_wp2_with fail
  refine (spec_l1IntL A [-1, 0, 1, 2, 255, 256, 65535, 2147483647, 2147483648, 4294967295, 4294967296, -2147483648, 9223372036854775807, -9223372036854775808] _ w HC.out (by decide) (by decide) (by decide)).mono ?_
  rintro e w3 ⟨y, hm, hy, rfl, hc3, hk3⟩
  go_wp2_with fail
  go_ret
  exact ⟨y, hy, rfl, hc3, hk3⟩
set_option maxHeartbeats 4000000 in
theorem spec_l1Raw (A : Nat) (w : World) (hc : Cur w A) : Calls Tryz.prog 157 #[.pointer (some ⟨A, 0, none⟩)] w fun e w' => ∃ n, I64 n ∧ e = .returned (.int .i64 n) ∧ Cur w' A ∧ Kp A w w' := by
  have HC := Lib.hid hc; clear hc
  go_enter Tryz.func157, Tryz.ntmps157
  go_wp2_with fail
  refine (spec_l1Once A 2 w HC.out ⟨by decide, by decide⟩).mono ?_
  rintro e w2 ⟨b, rfl, hc2, hk2⟩
  have HC2 := Lib.hid hc2; have HK2 := Lib.hid hk2; clear hc2 hk2
  cases b with
  | true =>
    go_wp2_with fail
    refine (spec_l1Odd A w2 HC2.out).mono ?_
    rintro e w3 ⟨y, hy, rfl, hc3, hk3⟩
    go_wp2_with fail
    go_ret
    exact ⟨y, hy, rfl, hc3, HK2.out.trans hk3⟩
  | false =>
    go_wp2_with fail
    refine (spec_l1IntL A [-1, 1000000000000001, -1000000000000001] _ w2 HC2.out (by decide) (by decide) (by decide)).mono ?_
    rintro e w3 ⟨y, hm, hy, rfl, hc3, hk3⟩
    go_wp2_with fail
    go_ret
    exact ⟨y, hy, rfl, hc3, HK2.out.trans hk3⟩
end Go.Proofs.YtpifadjlbjifhaaGreatDoor
namespace Go.Proofs.YtpifadjlbjifhaaGreatDoor
open Go.ChangeShapes Go.WideShapes Go.ChangeAt Go.RowKit Go.Joins
set_option linter.unusedVariables false
set_option maxRecDepth 100000
set_option maxHeartbeats 8000000 in
theorem spec_l5Draw (A : Nat) (w : World) (hc : Cur w A) : Calls Tryz.prog 143 #[.pointer (some ⟨A, 0, none⟩)] w fun e w' => ∃ m x, I64 m ∧ I64 x ∧ e = .returned (.agg (cF m x)) ∧ Cur w' A ∧ Kp A w w' := by
  have hlA := hc.lt
  have HC0 := Lib.hid (hc.below (below1 w (.cells (cF 0 0) 95)) hlA)
  have HK0 := Lib.hid (Kp.alloc (w := w) (Nat.le_of_lt hlA) (.cells (cF 0 0) 95))
  have HI0 := Lib.hid (Is.new w (cF 0 0) 95)
  clear hc
  go_enter Tryz.func143, Tryz.ntmps143
  go_wp2_with fail
  refine (spec_l1Below A 32767 _ HC0.out ⟨by decide, by decide⟩).mono ?_
  rintro e w2 ⟨x, rfl, hx, hx2, hc2, hk2⟩
  have HC2 := Lib.hid hc2; have HI2 := Lib.hid (hk2.is HI0.out (by omega)); have HK2 := Lib.hid (HK0.out.trans hk2); clear hc2 hk2 HI0 HK0 HC0
  go_wp2_with fail
  refine (spec_l1IntL A [0, 1, 3, 5, 255, 32767, 65535, 1 + 2 * x] _ w2 HC2.out ?_ (by simp) (by simp)).mono ?_
  · intro y hy
    simp only [List.mem_cons, List.not_mem_nil, or_false] at hy
    rcases hy with rfl | rfl | rfl | rfl | rfl | rfl | rfl | rfl <;> exact ⟨by omega, by omega⟩
  rintro e w3 ⟨m, _, hm, rfl, hc3, hk3⟩
  have HC3 := Lib.hid hc3; have HI3 := Lib.hid (hk3.is HI2.out (by omega)); have HK3 := Lib.hid (HK2.out.trans hk3); clear hc3 hk3 HI2 HK2 HC2
  go_wp2_with fail
  refine (spec_l1Below A 47 _ HC3.out ⟨by decide, by decide⟩).mono ?_
  rintro e w4 ⟨y, rfl, hy, hy2, hc4, hk4⟩
  have HC4 := Lib.hid hc4; have HI4 := Lib.hid (hk4.is HI3.out (by omega)); have HK4 := Lib.hid (HK3.out.trans hk4); clear hc4 hk4 HI3 HK3 HC3
  go_wp2_with fail
  refine (spec_l1IntL A [0, 0, 1, -1, -16, 30, y - 16] _ w4 HC4.out ?_ (by simp) (by simp)).mono ?_
  · intro z hz
    simp only [List.mem_cons, List.not_mem_nil, or_false] at hz
    rcases hz with rfl | rfl | rfl | rfl | rfl | rfl | rfl <;> exact ⟨by omega, by omega⟩
  rintro e w5 ⟨ex, _, hex, rfl, hc5, hk5⟩
  have HC5 := Lib.hid hc5; have HI5 := Lib.hid (hk5.is HI4.out (by omega)); have HK5 := Lib.hid (HK4.out.trans hk5); clear hc5 hk5 HI4 HK4 HC4
  obtain ⟨hm0, hm1⟩ := hm
  obtain ⟨hex0, hex1⟩ := hex
  by_cases m0 : m = 0
  · have m0b : (m == 0) = true := by simp [m0]
    have m1b : (m == 1) = false := by simp [m0]
    clear m0
    go_wp2_with fail
    refine (spec_l1Once A 3 w5 HC5.out ⟨by decide, by decide⟩).mono ?_
    rintro e w9 ⟨bn, rfl, hc9, hk9⟩
    have HC9 := Lib.hid hc9; have HI9 := Lib.hid (hk9.is HI5.out (by omega)); have HK9 := Lib.hid (HK5.out.trans hk9); clear hc9 hk9
    cases bn with
    | true =>
      have ff := fun i => HI9.out.frozen i; have lg := HI9.out.lt; obtain ⟨z0, z1⟩ := HI9.out.cells2
      go_wp2_with fail
      obtain ⟨e0, e1, hcf, hkf⟩ := fin2 (.int .i64 (wrap64 (-m))) (.int .i64 (0 : Int)) HI9.out HK9.out (Nat.le_refl _) HC9.out hlA
      refine bodyPost_ret (v := .agg #[.int .i64 (wrap64 (-m)), .int .i64 (0 : Int)]) (by simp [results, Tryz.results143, go_sem, e0, e1]) rfl ⟨_, _, wrap_i64 _, ⟨by decide, by decide⟩, rfl, hcf, hkf⟩
    | false =>
      have ff := fun i => HI9.out.frozen i; have lg := HI9.out.lt; obtain ⟨z0, z1⟩ := HI9.out.cells2
      go_wp2_with fail
      obtain ⟨e0, e1, hcf, hkf⟩ := fin2 (.int .i64 (m)) (.int .i64 (0 : Int)) HI9.out HK9.out (Nat.le_refl _) HC9.out hlA
      refine bodyPost_ret (v := .agg #[.int .i64 (m), .int .i64 (0 : Int)]) (by simp [results, Tryz.results143, go_sem, e0, e1]) rfl ⟨_, _, ⟨hm0, hm1⟩, ⟨by decide, by decide⟩, rfl, hcf, hkf⟩
  · have m0b : (m == 0) = false := by simp [m0]
    clear m0
    by_cases m1 : m = 1
    · have m1b : (m == 1) = true := by simp [m1]
      clear m1
      go_wp2_with fail
      refine (spec_l1Once A 2 w5 HC5.out ⟨by decide, by decide⟩).mono ?_
      rintro e w6 ⟨b6, rfl, hc6, hk6⟩
      have HC6 := Lib.hid hc6; have HI6 := Lib.hid (hk6.is HI5.out (by omega)); have HK6 := Lib.hid (HK5.out.trans hk6); clear hc6 hk6
      cases b6 with
      | true =>
        go_wp2_with fail
        refine (spec_l1IntL A [31, 45] _ w6 HC6.out (by decide) (by decide) (by decide)).mono ?_
        rintro e w7 ⟨x7, _, hx7, rfl, hc7, hk7⟩
        have HC7 := Lib.hid hc7; have HI7 := Lib.hid (hk7.is HI6.out (by omega)); have HK7 := Lib.hid (HK6.out.trans hk7); clear hc7 hk7
        obtain ⟨hx70, hx71⟩ := hx7
        go_wp2_with fail
        refine (spec_l1Once A 3 w7 HC7.out ⟨by decide, by decide⟩).mono ?_
        rintro e w9 ⟨bn, rfl, hc9, hk9⟩
        have HC9 := Lib.hid hc9; have HI9 := Lib.hid (hk9.is HI7.out (by omega)); have HK9 := Lib.hid (HK7.out.trans hk9); clear hc9 hk9
        cases bn with
        | true =>
          have ff := fun i => HI9.out.frozen i; have lg := HI9.out.lt; obtain ⟨z0, z1⟩ := HI9.out.cells2
          go_wp2_with fail
          obtain ⟨e0, e1, hcf, hkf⟩ := fin2 (.int .i64 (wrap64 (-m))) (.int .i64 x7) HI9.out HK9.out (Nat.le_refl _) HC9.out hlA
          refine bodyPost_ret (v := .agg #[.int .i64 (wrap64 (-m)), .int .i64 x7]) (by simp [results, Tryz.results143, go_sem, e0, e1]) rfl ⟨_, _, wrap_i64 _, ⟨hx70, hx71⟩, rfl, hcf, hkf⟩
        | false =>
          have ff := fun i => HI9.out.frozen i; have lg := HI9.out.lt; obtain ⟨z0, z1⟩ := HI9.out.cells2
          go_wp2_with fail
          obtain ⟨e0, e1, hcf, hkf⟩ := fin2 (.int .i64 (m)) (.int .i64 x7) HI9.out HK9.out (Nat.le_refl _) HC9.out hlA
          refine bodyPost_ret (v := .agg #[.int .i64 (m), .int .i64 x7]) (by simp [results, Tryz.results143, go_sem, e0, e1]) rfl ⟨_, _, ⟨hm0, hm1⟩, ⟨hx70, hx71⟩, rfl, hcf, hkf⟩
      | false =>
        go_wp2_with fail
        refine (spec_l1Once A 3 w6 HC6.out ⟨by decide, by decide⟩).mono ?_
        rintro e w9 ⟨bn, rfl, hc9, hk9⟩
        have HC9 := Lib.hid hc9; have HI9 := Lib.hid (hk9.is HI6.out (by omega)); have HK9 := Lib.hid (HK6.out.trans hk9); clear hc9 hk9
        cases bn with
        | true =>
          have ff := fun i => HI9.out.frozen i; have lg := HI9.out.lt; obtain ⟨z0, z1⟩ := HI9.out.cells2
          go_wp2_with fail
          obtain ⟨e0, e1, hcf, hkf⟩ := fin2 (.int .i64 (wrap64 (-m))) (.int .i64 ex) HI9.out HK9.out (Nat.le_refl _) HC9.out hlA
          refine bodyPost_ret (v := .agg #[.int .i64 (wrap64 (-m)), .int .i64 ex]) (by simp [results, Tryz.results143, go_sem, e0, e1]) rfl ⟨_, _, wrap_i64 _, ⟨hex0, hex1⟩, rfl, hcf, hkf⟩
        | false =>
          have ff := fun i => HI9.out.frozen i; have lg := HI9.out.lt; obtain ⟨z0, z1⟩ := HI9.out.cells2
          go_wp2_with fail
          obtain ⟨e0, e1, hcf, hkf⟩ := fin2 (.int .i64 (m)) (.int .i64 ex) HI9.out HK9.out (Nat.le_refl _) HC9.out hlA
          refine bodyPost_ret (v := .agg #[.int .i64 (m), .int .i64 ex]) (by simp [results, Tryz.results143, go_sem, e0, e1]) rfl ⟨_, _, ⟨hm0, hm1⟩, ⟨hex0, hex1⟩, rfl, hcf, hkf⟩
    · have m1b : (m == 1) = false := by simp [m1]
      clear m1
      go_wp2_with fail
      refine (spec_l1Once A 3 w5 HC5.out ⟨by decide, by decide⟩).mono ?_
      rintro e w9 ⟨bn, rfl, hc9, hk9⟩
      have HC9 := Lib.hid hc9; have HI9 := Lib.hid (hk9.is HI5.out (by omega)); have HK9 := Lib.hid (HK5.out.trans hk9); clear hc9 hk9
      cases bn with
      | true =>
        have ff := fun i => HI9.out.frozen i; have lg := HI9.out.lt; obtain ⟨z0, z1⟩ := HI9.out.cells2
        go_wp2_with fail
        obtain ⟨e0, e1, hcf, hkf⟩ := fin2 (.int .i64 (wrap64 (-m))) (.int .i64 ex) HI9.out HK9.out (Nat.le_refl _) HC9.out hlA
        refine bodyPost_ret (v := .agg #[.int .i64 (wrap64 (-m)), .int .i64 ex]) (by simp [results, Tryz.results143, go_sem, e0, e1]) rfl ⟨_, _, wrap_i64 _, ⟨hex0, hex1⟩, rfl, hcf, hkf⟩
      | false =>
        have ff := fun i => HI9.out.frozen i; have lg := HI9.out.lt; obtain ⟨z0, z1⟩ := HI9.out.cells2
        go_wp2_with fail
        obtain ⟨e0, e1, hcf, hkf⟩ := fin2 (.int .i64 (m)) (.int .i64 ex) HI9.out HK9.out (Nat.le_refl _) HC9.out hlA
        refine bodyPost_ret (v := .agg #[.int .i64 (m), .int .i64 ex]) (by simp [results, Tryz.results143, go_sem, e0, e1]) rfl ⟨_, _, ⟨hm0, hm1⟩, ⟨hex0, hex1⟩, rfl, hcf, hkf⟩
end Go.Proofs.YtpifadjlbjifhaaGreatDoor
namespace Go.Proofs.YtpifadjlbjifhaaGreatDoor
open Go.ChangeShapes Go.WideShapes Go.ChangeAt Go.RowKit Go.Joins
set_option linter.unusedVariables false
set_option maxRecDepth 100000
set_option maxHeartbeats 8000000 in
theorem spec_l4Draw (A : Nat) (w : World) (hc : Cur w A) : Calls Tryz.prog 176 #[.pointer (some ⟨A, 0, none⟩)] w fun e w' => ∃ m x, I64 m ∧ I64 x ∧ e = .returned (.agg (cF m x)) ∧ Cur w' A ∧ Kp A w w' := by
  have hlA := hc.lt
  have HC0 := Lib.hid (hc.below (below1 w (.cells (cF 0 0) 91)) hlA)
  have HK0 := Lib.hid (Kp.alloc (w := w) (Nat.le_of_lt hlA) (.cells (cF 0 0) 91))
  have HI0 := Lib.hid (Is.new w (cF 0 0) 91)
  clear hc
  go_enter Tryz.func176, Tryz.ntmps176
  go_wp2_with fail
  go_loopw [3] (fun i wr => ∃ (j : Nat), j ≤ 6 ∧ i = .int .i64 j ∧ Cur wr A ∧ Kp A w wr ∧ Is wr w.heap.size 91 (cF 0 0)) (fun i _ => 6 - (intOf i).toNat)
  case atStart => exact ⟨0, by omega, rfl, HC0.out, HK0.out, HI0.out⟩
  case round =>
    obtain ⟨j, hj, rfl, hcr, hkr, hir⟩ := hrel
    have HC1 := Lib.hid hcr; have HK1 := Lib.hid hkr; have HI1 := Lib.hid hir; clear hcr hkr hir HC0 HK0 HI0
    by_cases hlt : j < 6
    · have hltz : (j : Int) < 6 := by omega
      go_wp2_with fail
      refine (spec_l1Signed A wr HC1.out).mono ?_
      rintro e w2 ⟨n, hn, rfl, hc2, hk2⟩
      have HC2 := Lib.hid hc2; have HI2 := Lib.hid (hk2.is HI1.out (by omega)); have HK2 := Lib.hid (HK1.out.trans hk2); clear hc2 hk2
      have HN := Lib.hid hn
      obtain ⟨hn0, hn1⟩ := hn
      go_wp2_with fail
      refine (spec_l1Below A 17 w2 HC2.out ⟨by decide, by decide⟩).mono ?_
      rintro e w3 ⟨y, rfl, hy, hy2, hc3, hk3⟩
      have HC3 := Lib.hid hc3; have HI3 := Lib.hid (hk3.is HI2.out (by omega)); have HK3 := Lib.hid (HK2.out.trans hk3); clear hc3 hk3
      have hnb := decNewD_box n y (by omega) HN.out
      go_wp2_with fail
      refine (spec_DecNewA n y _ _ w3 rfl (by first | rfl | go_num) HN.out (by omega)).mono ?_
      rintro e w4 ⟨rfl, hb4⟩
      have HC4 := Lib.hid (HC3.out.below hb4 HC3.out.lt)
      have HI4 := Lib.hid (HI3.out.below hb4 HI3.out.lt)
      have HK4 := Lib.hid (HK3.out.trans (Kp.of_below hb4 (Nat.le_refl _) (Nat.le_of_lt HC3.out.lt)))
      generalize decNewD n y = r at *
      obtain ⟨⟨d0, d1⟩, ok⟩ := r
      simp only at hnb
      obtain ⟨hd0, hd1, hd2⟩ := hnb
      cases ok with
      | true =>
        have ff := fun i => HI4.out.frozen i; have lg := HI4.out.lt; obtain ⟨z0, z1⟩ := HI4.out.cells2
        go_wp2_with fail
        obtain ⟨e0, e1, hcf, hkf⟩ := fin2a (.int .i64 d0) (.int .i64 d1) (.cells #[.int .i64 d0, .int .i64 d1] 91) HI4.out HK4.out (Nat.le_refl _) HC4.out hlA
        refine bodyPost_ret (v := .agg #[.int .i64 d0, .int .i64 d1]) (by simp [results, Tryz.results176, go_sem, e0, e1]) rfl ⟨_, _, hd0, ⟨by omega, by omega⟩, rfl, hcf, hkf⟩
      | false =>
        go_wp2_with fail
        go_roundw
        case rel => exact ⟨j + 1, by omega, by go_num, HC4.out.below (below1 _ _) HC4.out.lt, HK4.out.trans (Kp.alloc (Nat.le_of_lt HC4.out.lt) _), HI4.out.alloc _⟩
        case measure => simp [intOf]; omega
    · have hltz : ¬ (j : Int) < 6 := by omega
      have ff := fun i => HI1.out.frozen i; have lg := HI1.out.lt; obtain ⟨z0, z1⟩ := HI1.out.cells2
      go_wp2_with fail
      obtain ⟨e0, e1, hcf, hkf⟩ := fin2 (.int .i64 15) (.int .i64 (-1)) HI1.out HK1.out (Nat.le_refl _) HC1.out hlA
      refine bodyPost_ret (v := .agg #[.int .i64 15, .int .i64 (-1)]) (by simp [results, Tryz.results176, go_sem, e0, e1]) rfl ?_
      exact ⟨15, ⟨by omega, by omega⟩, -1, ⟨by omega, by omega⟩, rfl, hcf, hkf⟩
set_option maxHeartbeats 8000000 in
theorem spec_l5Dec (A : Nat) (w : World) (hc : Cur w A) : Calls Tryz.prog 144 #[.pointer (some ⟨A, 0, none⟩)] w fun e w' => ∃ m x, I64 m ∧ I64 x ∧ e = .returned (.agg (cF m x)) ∧ Cur w' A ∧ Kp A w w' := by
  have hlA := hc.lt
  have HC0 := Lib.hid (hc.below (below1 w (.cells (cF 0 0) 91)) hlA)
  have HK0 := Lib.hid (Kp.alloc (w := w) (Nat.le_of_lt hlA) (.cells (cF 0 0) 91))
  have HI0 := Lib.hid (Is.new w (cF 0 0) 91)
  clear hc
  go_enter Tryz.func144, Tryz.ntmps144
  go_wp2_with fail
  refine (spec_l1Once A 2 _ HC0.out ⟨by decide, by decide⟩).mono ?_
  rintro e w2 ⟨b, rfl, hc2, hk2⟩
  have HC2 := Lib.hid hc2; have HI2 := Lib.hid (hk2.is HI0.out (by omega)); have HK2 := Lib.hid (HK0.out.trans hk2); clear hc2 hk2
  cases b with
  | false =>
    go_wp2_with fail
    refine (spec_l4Draw A w2 HC2.out).mono ?_
    rintro e w3 ⟨n, x, hn, hx, rfl, hc3, hk3⟩
    have HC3 := Lib.hid hc3; have HI3 := Lib.hid (hk3.is HI2.out (by omega)); have HK3 := Lib.hid (HK2.out.trans hk3); clear hc3 hk3
    have ff := fun i => HI3.out.frozen i; have lg := HI3.out.lt; obtain ⟨z0, z1⟩ := HI3.out.cells2
    go_wp2_with fail
    obtain ⟨e0, e1, hcf, hkf⟩ := fin2 (.int .i64 n) (.int .i64 x) HI3.out HK3.out (Nat.le_refl _) HC3.out hlA
    refine bodyPost_ret (v := .agg #[.int .i64 n, .int .i64 x]) (by simp [results, Tryz.results144, go_sem, e0, e1]) rfl ⟨_, _, hn, hx, rfl, hcf, hkf⟩
  | true =>
    go_wp2_with fail
    refine (spec_l5Draw A w2 HC2.out).mono ?_
    rintro e w3 ⟨n, x, hn, hx, rfl, hc3, hk3⟩
    have HC3 := Lib.hid hc3; have HI3 := Lib.hid (hk3.is HI2.out (by omega)); have HK3 := Lib.hid (HK2.out.trans hk3); clear hc3 hk3
    have hbx := fltDecD_box n x
    go_wp2_with fail
    refine (spec_FltDec n x w3 hn hx).mono ?_
    rintro e w4 ⟨rfl, hb4⟩
    have HC4 := Lib.hid (HC3.out.below hb4 HC3.out.lt)
    have HI4 := Lib.hid (HI3.out.below hb4 HI3.out.lt)
    have HK4 := Lib.hid (HK3.out.trans (Kp.of_below hb4 (Nat.le_refl _) (Nat.le_of_lt HC3.out.lt)))
    generalize fltDecD n x = r at *
    obtain ⟨d0, d1⟩ := r
    simp only at hbx
    obtain ⟨hd0, hd1, hd2⟩ := hbx
    have HC5 := Lib.hid (HC4.out.below (below1 w4 (.cells #[.int .i64 d0, .int .i64 d1] 91)) HC4.out.lt)
    have HI5 := Lib.hid (HI4.out.alloc (.cells #[.int .i64 d0, .int .i64 d1] 91))
    have HK5 := Lib.hid (HK4.out.trans (Kp.alloc (Nat.le_of_lt HC4.out.lt) (.cells #[.int .i64 d0, .int .i64 d1] 91)))
    have HJ5 := Lib.hid (Is.new w4 #[.int .i64 d0, .int .i64 d1] 91)
    have hl4 := HI4.out.lt
    have HD0 := Lib.hid hd0
    have HD1 := Lib.hid (show I64 d1 from ⟨by omega, by omega⟩)
    obtain ⟨hd0a, hd0b⟩ := hd0
    go_wp2_with fail
    refine (spec_l1Once A 3 _ HC5.out ⟨by decide, by decide⟩).mono ?_
    rintro e w6 ⟨b6, rfl, hc6, hk6⟩
    have HC6 := Lib.hid hc6; have HI6 := Lib.hid (hk6.is HI5.out (by omega)); have HK6 := Lib.hid (HK5.out.trans hk6)
    have HJ6 := Lib.hid (hk6.is HJ5.out (by omega)); clear hc6 hk6
    cases b6 with
    | false =>
      have HC7 := HC6; have HI7 := HI6; have HK7 := HK6; have HJ7 := HJ6
      obtain ⟨y0, y1⟩ := HJ6.out.cells2; have lj := HJ6.out.lt
      go_wp2_with fail
      refine (spec_DecOk (d0) d1 _ HD0.out HD1.out).mono ?_
      rintro e w8 ⟨rfl, hb8⟩
      have HC8 := Lib.hid (HC7.out.below hb8 HC7.out.lt)
      have HI8 := Lib.hid (HI7.out.below hb8 HI7.out.lt)
      have HJ8 := Lib.hid (HJ7.out.below hb8 HJ7.out.lt)
      have HK8 := Lib.hid (HK7.out.trans (Kp.of_below hb8 (Nat.le_refl _) (Nat.le_of_lt HC7.out.lt)))
      by_cases hok : decOk (d0) d1
      · have HOK := Lib.hid (show decide (decOk (d0) d1) = true from decide_eq_true hok)
        rw [HOK.out]
        have ff := fun i => HI8.out.frozen i; have lg := HI8.out.lt; obtain ⟨z0, z1⟩ := HI8.out.cells2; obtain ⟨y0, y1⟩ := HJ8.out.cells2; have lj := HJ8.out.lt
        clear hok
        go_wp2_with fail
        obtain ⟨e0, e1, hcf, hkf⟩ := fin2 (.int .i64 (d0)) (.int .i64 d1) HI8.out HK8.out (Nat.le_refl _) HC8.out hlA
        refine bodyPost_ret (v := .agg #[.int .i64 (d0), .int .i64 d1]) (by simp [results, Tryz.results144, go_sem, e0, e1]) rfl ⟨_, _, HD0.out, HD1.out, rfl, hcf, hkf⟩
      · have HOK := Lib.hid (show decide (decOk (d0) d1) = false from decide_eq_false hok)
        rw [HOK.out]
        clear hok
        go_wp2_with fail
        refine (spec_l4Draw A w8 HC8.out).mono ?_
        rintro e w9 ⟨n9, x9, hn9, hx9, rfl, hc9, hk9⟩
        have HC9 := Lib.hid hc9; have HI9 := Lib.hid (hk9.is HI8.out (by omega)); have HK9 := Lib.hid (HK8.out.trans hk9); clear hc9 hk9
        have ff := fun i => HI9.out.frozen i; have lg := HI9.out.lt; obtain ⟨z0, z1⟩ := HI9.out.cells2
        go_wp2_with fail
        obtain ⟨e0, e1, hcf, hkf⟩ := fin2 (.int .i64 n9) (.int .i64 x9) HI9.out HK9.out (Nat.le_refl _) HC9.out hlA
        refine bodyPost_ret (v := .agg #[.int .i64 n9, .int .i64 x9]) (by simp [results, Tryz.results144, go_sem, e0, e1]) rfl ⟨_, _, hn9, hx9, rfl, hcf, hkf⟩
    | true =>
      obtain ⟨y0, y1⟩ := HJ6.out.cells2; have lj := HJ6.out.lt; have fj := fun i => HJ6.out.frozen i
      have HC7 := Lib.hid (HC6.out.set (g := w4.heap.size) (by omega) 0 (.int .i64 (wrap64 (d0 + 1))))
      have HI7 := Lib.hid (HI6.out.miss w4.heap.size 0 (by omega) (.int .i64 (wrap64 (d0 + 1))))
      have HK7 := Lib.hid (Kp.set HK6.out (g := w4.heap.size) (by omega) (by omega) 0 (.int .i64 (wrap64 (d0 + 1))))
      have HJ7 := Lib.hid (HJ6.out.set 0 (.int .i64 (wrap64 (d0 + 1))))
      obtain ⟨y0', y1'⟩ := HJ7.out.cells2
      go_wp2_with fail
      refine (spec_DecOk (wrap64 (d0 + 1)) d1 _ (wrap_i64 _) HD1.out).mono ?_
      rintro e w8 ⟨rfl, hb8⟩
      have HC8 := Lib.hid (HC7.out.below hb8 HC7.out.lt)
      have HI8 := Lib.hid (HI7.out.below hb8 HI7.out.lt)
      have HJ8 := Lib.hid (HJ7.out.below hb8 HJ7.out.lt)
      have HK8 := Lib.hid (HK7.out.trans (Kp.of_below hb8 (Nat.le_refl _) (Nat.le_of_lt HC7.out.lt)))
      by_cases hok : decOk (wrap64 (d0 + 1)) d1
      · have HOK := Lib.hid (show decide (decOk (wrap64 (d0 + 1)) d1) = true from decide_eq_true hok)
        rw [HOK.out]
        have ff := fun i => HI8.out.frozen i; have lg := HI8.out.lt; obtain ⟨z0, z1⟩ := HI8.out.cells2; obtain ⟨y0, y1⟩ := HJ8.out.cells2; have lj := HJ8.out.lt
        clear hok
        go_wp2_with fail
        obtain ⟨e0, e1, hcf, hkf⟩ := fin2 (.int .i64 (wrap64 (d0 + 1))) (.int .i64 d1) HI8.out HK8.out (Nat.le_refl _) HC8.out hlA
        refine bodyPost_ret (v := .agg #[.int .i64 (wrap64 (d0 + 1)), .int .i64 d1]) (by simp [results, Tryz.results144, go_sem, e0, e1]) rfl ⟨_, _, (wrap_i64 _), HD1.out, rfl, hcf, hkf⟩
      · have HOK := Lib.hid (show decide (decOk (wrap64 (d0 + 1)) d1) = false from decide_eq_false hok)
        rw [HOK.out]
        clear hok
        go_wp2_with fail
        refine (spec_l4Draw A w8 HC8.out).mono ?_
        rintro e w9 ⟨n9, x9, hn9, hx9, rfl, hc9, hk9⟩
        have HC9 := Lib.hid hc9; have HI9 := Lib.hid (hk9.is HI8.out (by omega)); have HK9 := Lib.hid (HK8.out.trans hk9); clear hc9 hk9
        have ff := fun i => HI9.out.frozen i; have lg := HI9.out.lt; obtain ⟨z0, z1⟩ := HI9.out.cells2
        go_wp2_with fail
        obtain ⟨e0, e1, hcf, hkf⟩ := fin2 (.int .i64 n9) (.int .i64 x9) HI9.out HK9.out (Nat.le_refl _) HC9.out hlA
        refine bodyPost_ret (v := .agg #[.int .i64 n9, .int .i64 x9]) (by simp [results, Tryz.results144, go_sem, e0, e1]) rfl ⟨_, _, hn9, hx9, rfl, hcf, hkf⟩
end Go.Proofs.YtpifadjlbjifhaaGreatDoor
namespace Go.Proofs.YtpifadjlbjifhaaGreatDoor
open Go.ChangeShapes Go.WideShapes Go.ChangeAt Go.RowKit Go.Joins
set_option linter.unusedVariables false
set_option maxRecDepth 100000
/-- The bytes of a character. -/
def encN (n : Int) : List Int :=
  if n < 128 then [n] else if n < 2048 then [192 + n / 64, 128 + n % 64] else if n < 65536 then [224 + n / 4096, 128 + n / 64 % 64, 128 + n % 64] else [240 + n / 262144, 128 + n / 4096 % 64, 128 + n / 64 % 64, 128 + n % 64]
theorem encN_str (n : Int) (h : runeOk n) : strOfNums (encN n) = Utf8.encode n := by
  obtain ⟨u, rfl⟩ : ∃ u : Nat, n = u := ⟨n.toNat, by have := h.1; omega⟩
  obtain ⟨h1, h2⟩ := h
  have hv : Utf8.valid (u : Int) = true := by
    simp [Utf8.valid]; omega
  unfold encN Utf8.encode strOfNums
  rw [if_pos hv]
  simp only [Int.toNat_natCast]
  by_cases c1 : u < 128
  · rw [if_pos (show (u : Int) < 128 from by omega), if_pos c1]; rfl
  · rw [if_neg (show ¬ (u : Int) < 128 from by omega), if_neg c1]
    by_cases c2 : u < 2048
    · rw [if_pos (show (u : Int) < 2048 from by omega), if_pos c2]
      simp only [List.map_cons, List.map_nil]
      rw [show (192 + (u : Int) / 64).toNat = 192 + u / 64 from by omega, show (128 + (u : Int) % 64).toNat = 128 + u % 64 from by omega]
    · rw [if_neg (show ¬ (u : Int) < 2048 from by omega), if_neg c2]
      by_cases c3 : u < 65536
      · rw [if_pos (show (u : Int) < 65536 from by omega), if_pos c3]
        simp only [List.map_cons, List.map_nil]
        rw [show (224 + (u : Int) / 4096).toNat = 224 + u / 4096 from by omega, show (128 + (u : Int) / 64 % 64).toNat = 128 + u / 64 % 64 from by omega, show (128 + (u : Int) % 64).toNat = 128 + u % 64 from by omega]
      · rw [if_neg (show ¬ (u : Int) < 65536 from by omega), if_neg c3]
        simp only [List.map_cons, List.map_nil]
        rw [show (240 + (u : Int) / 262144).toNat = 240 + u / 262144 from by omega, show (128 + (u : Int) / 4096 % 64).toNat = 128 + u / 4096 % 64 from by omega, show (128 + (u : Int) / 64 % 64).toNat = 128 + u / 64 % 64 from by omega, show (128 + (u : Int) % 64).toNat = 128 + u % 64 from by omega]
set_option maxHeartbeats 4000000 in
theorem spec_PutRune0 (n : Int) (g cap : Nat) (w : World) (hn : runeOk n) (hcap : cap ≤ 9223372036854775807) :
    Calls Tryz.prog 191 #[.slice (some ⟨g, 0, none⟩) 0 cap, .int .i64 n] w fun e w' => ∃ a' cap', e = .returned (.slice a' (encN n).length cap') ∧ AppL EByte 1 5 w' w.heap.size a' cap' (encN n) [] ∧ Below w.heap.size w w' := by
  obtain ⟨h1a, h1b⟩ := hn.1
  have h0 := AppL.empty (E := EByte) (n := 1) (e := 5) w w.heap.size (Nat.le_refl _)
  by_cases h128 : n < 128
  · have HW := Lib.hid (show wideN n = 1 from by unfold wideN; rw [if_neg (by simp [hn]), if_pos h128])
    have HE := Lib.hid (show encN n = [n] from by unfold encN; rw [if_pos h128])
    clear hn
    go_enter Tryz.func191, Tryz.ntmps191
    go_wp2_with fail
    refine (spec_WideOf n _).mono ?_
    rintro e w2 ⟨rfl, hb2⟩
    rw [HW.out]
    have hs2 := hb2.size
    have HA := Lib.hid (h0.agree EByte.elem (fun f hf => hb2.block f hf) (by simp))
    have HB2 := Lib.hid (below_step (below1 w (.cells #[] 5)) hb2 (by simp))
    have hs3 : w.heap.size ≤ w2.heap.size := HB2.out.size
    have HN := Lib.hid (HA.out.agree EByte.elem (fun f hf => (below1 w2 (.cells #[Value.int IntKind.u8 (n)] 5)).block f hf) hs3)
    clear hb2
    go_wp2_with (at_builtin; refine wpList_appL EByte.elem rfl _ _ 22 rfl (.int .u8 0) 1 Tryz.underlying22 info_Byte2 rfl w.heap.size (some ⟨w.heap.size, 0, none⟩) 0 [] [] rfl HN.out (by simp; omega) w2.heap.size 0 1 1 [n] [] rfl rfl ⟨[], [], rfl, ⟨rfl, (Is.new w2 #[.int .u8 (n)] 5).cell 0 rfl, ⟨by omega, by omega⟩⟩, rfl⟩ (by simp) (by omega) (by simp [maxLen]) (by simp) ?_; intro ar2 cr2 w3 happ3 hb3)
    go_ret
    exact ⟨ar2, cr2, by rw [HE.out]; rfl, by rw [HE.out]; exact happ3, (HB2.out.trans ((below1 w2 _).mono hs3)).trans hb3⟩
  by_cases h2048 : n < 2048
  · have HW := Lib.hid (show wideN n = 2 from by unfold wideN; rw [if_neg (by simp [hn]), if_neg h128, if_pos h2048])
    have HE := Lib.hid (show encN n = [192 + n / 64, 128 + n % 64] from by unfold encN; rw [if_neg h128, if_pos h2048])
    clear hn
    go_enter Tryz.func191, Tryz.ntmps191
    go_wp2_with fail
    refine (spec_WideOf n _).mono ?_
    rintro e w2 ⟨rfl, hb2⟩
    rw [HW.out]
    have hs2 := hb2.size
    have HA := Lib.hid (h0.agree EByte.elem (fun f hf => hb2.block f hf) (by simp))
    have HB2 := Lib.hid (below_step (below1 w (.cells #[] 5)) hb2 (by simp))
    have hs3 : w.heap.size ≤ w2.heap.size := HB2.out.size
    have HN := Lib.hid (HA.out.agree EByte.elem (fun f hf => (below1 w2 (.cells #[Value.int IntKind.u8 (192 + n / 64), Value.int IntKind.u8 (128 + n % 64)] 5)).block f hf) hs3)
    clear hb2
    go_wp2_with (at_builtin; refine wpList_appL EByte.elem rfl _ _ 22 rfl (.int .u8 0) 1 Tryz.underlying22 info_Byte2 rfl w.heap.size (some ⟨w.heap.size, 0, none⟩) 0 [] [] rfl HN.out (by simp; omega) w2.heap.size 0 2 2 [192 + n / 64, 128 + n % 64] [] rfl rfl ⟨[], [], rfl, ⟨rfl, (Is.new w2 #[.int .u8 (192 + n / 64), .int .u8 (128 + n % 64)] 5).cell 0 rfl, ⟨by omega, by omega⟩⟩, ⟨[], [], rfl, ⟨rfl, (Is.new w2 #[.int .u8 (192 + n / 64), .int .u8 (128 + n % 64)] 5).cell 1 rfl, ⟨by omega, by omega⟩⟩, rfl⟩⟩ (by simp) (by omega) (by simp [maxLen]) (by simp) ?_; intro ar2 cr2 w3 happ3 hb3)
    go_ret
    exact ⟨ar2, cr2, by rw [HE.out]; rfl, by rw [HE.out]; exact happ3, (HB2.out.trans ((below1 w2 _).mono hs3)).trans hb3⟩
  by_cases h65536 : n < 65536
  · have HW := Lib.hid (show wideN n = 3 from by unfold wideN; rw [if_neg (by simp [hn]), if_neg h128, if_neg h2048, if_pos h65536])
    have HE := Lib.hid (show encN n = [224 + n / 4096, 128 + n / 64 % 64, 128 + n % 64] from by unfold encN; rw [if_neg h128, if_neg h2048, if_pos h65536])
    clear hn
    go_enter Tryz.func191, Tryz.ntmps191
    go_wp2_with fail
    refine (spec_WideOf n _).mono ?_
    rintro e w2 ⟨rfl, hb2⟩
    rw [HW.out]
    have hs2 := hb2.size
    have HA := Lib.hid (h0.agree EByte.elem (fun f hf => hb2.block f hf) (by simp))
    have HB2 := Lib.hid (below_step (below1 w (.cells #[] 5)) hb2 (by simp))
    have hs3 : w.heap.size ≤ w2.heap.size := HB2.out.size
    have HN := Lib.hid (HA.out.agree EByte.elem (fun f hf => (below1 w2 (.cells #[Value.int IntKind.u8 (224 + n / 4096), Value.int IntKind.u8 (128 + n / 64 % 64), Value.int IntKind.u8 (128 + n % 64)] 5)).block f hf) hs3)
    clear hb2
    go_wp2_with (at_builtin; refine wpList_appL EByte.elem rfl _ _ 22 rfl (.int .u8 0) 1 Tryz.underlying22 info_Byte2 rfl w.heap.size (some ⟨w.heap.size, 0, none⟩) 0 [] [] rfl HN.out (by simp; omega) w2.heap.size 0 3 3 [224 + n / 4096, 128 + n / 64 % 64, 128 + n % 64] [] rfl rfl ⟨[], [], rfl, ⟨rfl, (Is.new w2 #[.int .u8 (224 + n / 4096), .int .u8 (128 + n / 64 % 64), .int .u8 (128 + n % 64)] 5).cell 0 rfl, ⟨by omega, by omega⟩⟩, ⟨[], [], rfl, ⟨rfl, (Is.new w2 #[.int .u8 (224 + n / 4096), .int .u8 (128 + n / 64 % 64), .int .u8 (128 + n % 64)] 5).cell 1 rfl, ⟨by omega, by omega⟩⟩, ⟨[], [], rfl, ⟨rfl, (Is.new w2 #[.int .u8 (224 + n / 4096), .int .u8 (128 + n / 64 % 64), .int .u8 (128 + n % 64)] 5).cell 2 rfl, ⟨by omega, by omega⟩⟩, rfl⟩⟩⟩ (by simp) (by omega) (by simp [maxLen]) (by simp) ?_; intro ar2 cr2 w3 happ3 hb3)
    go_ret
    exact ⟨ar2, cr2, by rw [HE.out]; rfl, by rw [HE.out]; exact happ3, (HB2.out.trans ((below1 w2 _).mono hs3)).trans hb3⟩
  · have HW := Lib.hid (show wideN n = 4 from by unfold wideN; rw [if_neg (by simp [hn]), if_neg h128, if_neg h2048, if_neg h65536])
    have HE := Lib.hid (show encN n = [240 + n / 262144, 128 + n / 4096 % 64, 128 + n / 64 % 64, 128 + n % 64] from by unfold encN; rw [if_neg h128, if_neg h2048, if_neg h65536])
    clear hn
    go_enter Tryz.func191, Tryz.ntmps191
    go_wp2_with fail
    refine (spec_WideOf n _).mono ?_
    rintro e w2 ⟨rfl, hb2⟩
    rw [HW.out]
    have hs2 := hb2.size
    have HA := Lib.hid (h0.agree EByte.elem (fun f hf => hb2.block f hf) (by simp))
    have HB2 := Lib.hid (below_step (below1 w (.cells #[] 5)) hb2 (by simp))
    have hs3 : w.heap.size ≤ w2.heap.size := HB2.out.size
    have HN := Lib.hid (HA.out.agree EByte.elem (fun f hf => (below1 w2 (.cells #[Value.int IntKind.u8 (240 + n / 262144), Value.int IntKind.u8 (128 + n / 4096 % 64), Value.int IntKind.u8 (128 + n / 64 % 64), Value.int IntKind.u8 (128 + n % 64)] 5)).block f hf) hs3)
    clear hb2
    go_wp2_with (at_builtin; refine wpList_appL EByte.elem rfl _ _ 22 rfl (.int .u8 0) 1 Tryz.underlying22 info_Byte2 rfl w.heap.size (some ⟨w.heap.size, 0, none⟩) 0 [] [] rfl HN.out (by simp; omega) w2.heap.size 0 4 4 [240 + n / 262144, 128 + n / 4096 % 64, 128 + n / 64 % 64, 128 + n % 64] [] rfl rfl ⟨[], [], rfl, ⟨rfl, (Is.new w2 #[.int .u8 (240 + n / 262144), .int .u8 (128 + n / 4096 % 64), .int .u8 (128 + n / 64 % 64), .int .u8 (128 + n % 64)] 5).cell 0 rfl, ⟨by omega, by omega⟩⟩, ⟨[], [], rfl, ⟨rfl, (Is.new w2 #[.int .u8 (240 + n / 262144), .int .u8 (128 + n / 4096 % 64), .int .u8 (128 + n / 64 % 64), .int .u8 (128 + n % 64)] 5).cell 1 rfl, ⟨by omega, by omega⟩⟩, ⟨[], [], rfl, ⟨rfl, (Is.new w2 #[.int .u8 (240 + n / 262144), .int .u8 (128 + n / 4096 % 64), .int .u8 (128 + n / 64 % 64), .int .u8 (128 + n % 64)] 5).cell 2 rfl, ⟨by omega, by omega⟩⟩, ⟨[], [], rfl, ⟨rfl, (Is.new w2 #[.int .u8 (240 + n / 262144), .int .u8 (128 + n / 4096 % 64), .int .u8 (128 + n / 64 % 64), .int .u8 (128 + n % 64)] 5).cell 3 rfl, ⟨by omega, by omega⟩⟩, rfl⟩⟩⟩⟩ (by simp) (by omega) (by simp [maxLen]) (by simp) ?_; intro ar2 cr2 w3 happ3 hb3)
    go_ret
    exact ⟨ar2, cr2, by rw [HE.out]; rfl, by rw [HE.out]; exact happ3, (HB2.out.trans ((below1 w2 _).mono hs3)).trans hb3⟩
set_option maxHeartbeats 2000000 in
theorem spec_FromRune (n : Int) (g cap : Nat) (w : World) (hn : runeOk n) (hcap : 1 ≤ cap) (hcap2 : cap ≤ 9223372036854775807) (hg : g < w.heap.size) (hc : w.cell? ⟨g, 0, none⟩ = some (.int .i64 n)) :
    Calls Tryz.prog 178 #[.slice (some ⟨g, 0, none⟩) 1 cap] w fun e w' => e = .returned (.string (Utf8.encode n)) ∧ Below w.heap.size w w' := by
  have HE := Lib.hid (encN_str n hn)
  have HN := Lib.hid hn
  have hlen : (encN n).length ≤ 4 := by unfold encN; split; simp; split; simp; split <;> simp
  go_enter Tryz.func178, Tryz.ntmps178
  go_wp2_with fail
  go_loopw [3, 4] (fun q i wr => Below w.heap.size w wr ∧ ((i = .int .i64 0 ∧ q = .slice (some ⟨w.heap.size, 0, none⟩) 0 0) ∨ (i = .int .i64 1 ∧ ∃ a' cap', q = .slice a' (encN n).length cap' ∧ ∃ rlo, AppL EByte 1 5 wr rlo a' cap' (encN n) []))) (fun _ i _ => 1 - (intOf i).toNat)
  case atStart => exact ⟨below1 _ _, Or.inl ⟨rfl, rfl⟩⟩
  case round =>
    obtain ⟨hb, ⟨rfl, rfl⟩ | ⟨rfl, a', cap', rfl, rlo, happ⟩⟩ := hrel
    · have hbs := hb.size
      have hc2 := (hb.cell (p := ⟨g, 0, none⟩) hg).trans hc
      have hg2 : g < wr.heap.size := by omega
      go_wp2_with fail
      refine (spec_PutRune0 n w.heap.size 0 _ HN.out (by omega)).mono ?_
      rintro e w2 ⟨a', cap', rfl, happ, hb2⟩
      have HA := Lib.hid happ; clear happ
      go_wp2_with fail
      go_roundw
      case rel => exact ⟨hb.trans (hb2.mono hbs), Or.inr ⟨rfl, a', cap', rfl, _, HA.out⟩⟩
      case measure => simp [intOf]
    · have hcv := conv_bytes wr rlo a' cap' _ [] happ
      rw [HE.out] at hcv
      clear happ
      go_wp2_with fail
      go_ret
      exact ⟨rfl, hb⟩
end Go.Proofs.YtpifadjlbjifhaaGreatDoor
namespace Go.Proofs.YtpifadjlbjifhaaGreatDoor
open Go.ChangeShapes Go.WideShapes Go.ChangeAt Go.RowKit Go.Joins
set_option linter.unusedVariables false
set_option maxRecDepth 100000
theorem encN_len (n : Int) : 1 ≤ (encN n).length ∧ (encN n).length ≤ 4 := by
  unfold encN; split; simp; split; simp; split <;> simp
theorem encN_u8 {n : Int} (h : runeOk n) : ∀ x ∈ encN n, U8 x := by
  obtain ⟨⟨h1, h2⟩, _⟩ := h
  intro x hx
  unfold encN at hx
  split at hx
  · simp at hx; subst hx; exact ⟨by omega, by omega⟩
  split at hx
  · simp at hx; rcases hx with rfl | rfl <;> exact ⟨by omega, by omega⟩
  split at hx
  · simp at hx; rcases hx with rfl | rfl | rfl <;> exact ⟨by omega, by omega⟩
  · simp at hx; rcases hx with rfl | rfl | rfl | rfl <;> exact ⟨by omega, by omega⟩
/-- A row of bytes in a block. -/
theorem bytes_row {w : World} {g : Nat} {e : TypeId} {cs : Array Value} (h : Is w g e cs) : ∀ (l : List Int) (o : Nat), (∀ i (hi : i < l.length), cs[o + i]? = some (.int .u8 l[i])) → (∀ x ∈ l, U8 x) → Row EByte 1 w g o l [] := by
  intro l
  induction l with
  | nil => intro o _ _; rfl
  | cons x r ih =>
    intro o hc hx
    refine ⟨[], [], rfl, ⟨rfl, h.cell o (hc 0 (by simp)), hx x (by simp)⟩, ih (o + 1) (fun i hi => ?_) (fun y hy => hx y (by simp [hy]))⟩
    have := hc (i + 1) (by simpa using hi)
    rw [show o + 1 + i = o + (i + 1) from by omega]; simpa using this
set_option maxHeartbeats 8000000 in
theorem spec_PutRune (b : List Int) (n : Int) (a : Option Addr) (cap B : Nat) (w : World) (hr : Rd EByte 1 w B a cap b) (hn : runeOk n) (hz : b.length ≤ 1048576) (hB : B ≤ w.heap.size) :
    Calls Tryz.prog 191 #[.slice a b.length cap, .int .i64 n] w fun e w' => ∃ a' cap', e = .returned (.slice a' (b ++ encN n).length cap') ∧ AppL EByte 1 5 w' w.heap.size a' cap' (b ++ encN n) [] ∧ Below w.heap.size w w' := by
  obtain ⟨a1, c1, w1, hrun, happ, hb1⟩ := copyB w b a cap B hr hB (by omega)
  obtain ⟨hl1, hl2⟩ := hr.len
  have HU := Lib.hid (encN_u8 hn)
  have HL := encN_len n
  have HA1 := Lib.hid happ
  have HB1 := Lib.hid hb1
  have hs1 := hb1.size
  obtain ⟨h1a, h1b⟩ := hn.1
  have HW := Lib.hid (show wideN n = if n < 128 then 1 else if n < 2048 then 2 else if n < 65536 then 3 else 4 from by unfold wideN; rw [if_neg (by simp [hn])])
  have HE := Lib.hid (show encN n = if n < 128 then [n] else if n < 2048 then [192 + n / 64, 128 + n % 64] else if n < 65536 then [224 + n / 4096, 128 + n / 64 % 64, 128 + n % 64] else [240 + n / 262144, 128 + n / 4096 % 64, 128 + n / 64 % 64, 128 + n % 64] from rfl)
  clear happ hb1 hr hn
  go_enter Tryz.func191, Tryz.ntmps191
  go_upto_region 2 with (at_builtin; refine Lib.wpList_append_run _ rfl _ _ _ _ rfl _ _ rfl rfl _ _ hrun ?_)
  clear hrun
  go_wp2_with fail
  refine (spec_WideOf n _).mono ?_
  rintro e w2 ⟨rfl, hb2⟩
  have HB2 := Lib.hid (HB1.out.trans (hb2.mono hs1))
  have hs2 : w.heap.size ≤ w2.heap.size := HB2.out.size
  have HA2 := Lib.hid (HA1.out.agree EByte.elem (fun f hf => hb2.block f hf) hs1)
  clear hb2
  by_cases h128 : n < 128
  · have hw : wideN n = 1 := by rw [HW.out]; rw [if_pos h128]
    have HE1 := Lib.hid (show encN n = [n] from by rw [HE.out]; rw [if_pos h128])
    rw [hw]
    have HN := Lib.hid (HA2.out.agree EByte.elem (fun f hf => (below1 w2 (.cells #[Value.int IntKind.u8 (n)] 5)).block f hf) hs2)
    go_wp2_with (at_builtin; refine wpList_appL EByte.elem rfl _ _ 22 rfl (.int .u8 0) 1 Tryz.underlying22 info_Byte2 rfl w.heap.size a1 c1 b [] rfl HN.out (by simp; omega) w2.heap.size 0 1 1 [n] [] rfl rfl ⟨[], [], rfl, ⟨rfl, (Is.new w2 #[Value.int IntKind.u8 (n)] 5).cell 0 rfl, ⟨by omega, by omega⟩⟩, rfl⟩ (by simp) (by omega) (by unfold maxLen; omega) (by omega) ?_; intro ar2 cr2 w3 happ3 hb3)
    go_ret
    exact ⟨ar2, cr2, by rw [HE1.out, List.length_append]; rfl, by rw [HE1.out]; exact happ3, (HB2.out.trans ((below1 w2 _).mono hs2)).trans hb3⟩
  by_cases h2048 : n < 2048
  · have hw : wideN n = 2 := by rw [HW.out]; rw [if_neg h128, if_pos h2048]
    have HE1 := Lib.hid (show encN n = [192 + n / 64, 128 + n % 64] from by rw [HE.out]; rw [if_neg h128, if_pos h2048])
    rw [hw]
    have HN := Lib.hid (HA2.out.agree EByte.elem (fun f hf => (below1 w2 (.cells #[Value.int IntKind.u8 (192 + n / 64), Value.int IntKind.u8 (128 + n % 64)] 5)).block f hf) hs2)
    go_wp2_with (at_builtin; refine wpList_appL EByte.elem rfl _ _ 22 rfl (.int .u8 0) 1 Tryz.underlying22 info_Byte2 rfl w.heap.size a1 c1 b [] rfl HN.out (by simp; omega) w2.heap.size 0 2 2 [192 + n / 64, 128 + n % 64] [] rfl rfl ⟨[], [], rfl, ⟨rfl, (Is.new w2 #[Value.int IntKind.u8 (192 + n / 64), Value.int IntKind.u8 (128 + n % 64)] 5).cell 0 rfl, ⟨by omega, by omega⟩⟩, ⟨[], [], rfl, ⟨rfl, (Is.new w2 #[Value.int IntKind.u8 (192 + n / 64), Value.int IntKind.u8 (128 + n % 64)] 5).cell 1 rfl, ⟨by omega, by omega⟩⟩, rfl⟩⟩ (by simp) (by omega) (by unfold maxLen; omega) (by omega) ?_; intro ar2 cr2 w3 happ3 hb3)
    go_ret
    exact ⟨ar2, cr2, by rw [HE1.out, List.length_append]; rfl, by rw [HE1.out]; exact happ3, (HB2.out.trans ((below1 w2 _).mono hs2)).trans hb3⟩
  by_cases h65536 : n < 65536
  · have hw : wideN n = 3 := by rw [HW.out]; rw [if_neg h128, if_neg h2048, if_pos h65536]
    have HE1 := Lib.hid (show encN n = [224 + n / 4096, 128 + n / 64 % 64, 128 + n % 64] from by rw [HE.out]; rw [if_neg h128, if_neg h2048, if_pos h65536])
    rw [hw]
    have HN := Lib.hid (HA2.out.agree EByte.elem (fun f hf => (below1 w2 (.cells #[Value.int IntKind.u8 (224 + n / 4096), Value.int IntKind.u8 (128 + n / 64 % 64), Value.int IntKind.u8 (128 + n % 64)] 5)).block f hf) hs2)
    go_wp2_with (at_builtin; refine wpList_appL EByte.elem rfl _ _ 22 rfl (.int .u8 0) 1 Tryz.underlying22 info_Byte2 rfl w.heap.size a1 c1 b [] rfl HN.out (by simp; omega) w2.heap.size 0 3 3 [224 + n / 4096, 128 + n / 64 % 64, 128 + n % 64] [] rfl rfl ⟨[], [], rfl, ⟨rfl, (Is.new w2 #[Value.int IntKind.u8 (224 + n / 4096), Value.int IntKind.u8 (128 + n / 64 % 64), Value.int IntKind.u8 (128 + n % 64)] 5).cell 0 rfl, ⟨by omega, by omega⟩⟩, ⟨[], [], rfl, ⟨rfl, (Is.new w2 #[Value.int IntKind.u8 (224 + n / 4096), Value.int IntKind.u8 (128 + n / 64 % 64), Value.int IntKind.u8 (128 + n % 64)] 5).cell 1 rfl, ⟨by omega, by omega⟩⟩, ⟨[], [], rfl, ⟨rfl, (Is.new w2 #[Value.int IntKind.u8 (224 + n / 4096), Value.int IntKind.u8 (128 + n / 64 % 64), Value.int IntKind.u8 (128 + n % 64)] 5).cell 2 rfl, ⟨by omega, by omega⟩⟩, rfl⟩⟩⟩ (by simp) (by omega) (by unfold maxLen; omega) (by omega) ?_; intro ar2 cr2 w3 happ3 hb3)
    go_ret
    exact ⟨ar2, cr2, by rw [HE1.out, List.length_append]; rfl, by rw [HE1.out]; exact happ3, (HB2.out.trans ((below1 w2 _).mono hs2)).trans hb3⟩
  · have hw : wideN n = 4 := by rw [HW.out]; rw [if_neg h128, if_neg h2048, if_neg h65536]
    have HE1 := Lib.hid (show encN n = [240 + n / 262144, 128 + n / 4096 % 64, 128 + n / 64 % 64, 128 + n % 64] from by rw [HE.out]; rw [if_neg h128, if_neg h2048, if_neg h65536])
    rw [hw]
    have HN := Lib.hid (HA2.out.agree EByte.elem (fun f hf => (below1 w2 (.cells #[Value.int IntKind.u8 (240 + n / 262144), Value.int IntKind.u8 (128 + n / 4096 % 64), Value.int IntKind.u8 (128 + n / 64 % 64), Value.int IntKind.u8 (128 + n % 64)] 5)).block f hf) hs2)
    go_wp2_with (at_builtin; refine wpList_appL EByte.elem rfl _ _ 22 rfl (.int .u8 0) 1 Tryz.underlying22 info_Byte2 rfl w.heap.size a1 c1 b [] rfl HN.out (by simp; omega) w2.heap.size 0 4 4 [240 + n / 262144, 128 + n / 4096 % 64, 128 + n / 64 % 64, 128 + n % 64] [] rfl rfl ⟨[], [], rfl, ⟨rfl, (Is.new w2 #[Value.int IntKind.u8 (240 + n / 262144), Value.int IntKind.u8 (128 + n / 4096 % 64), Value.int IntKind.u8 (128 + n / 64 % 64), Value.int IntKind.u8 (128 + n % 64)] 5).cell 0 rfl, ⟨by omega, by omega⟩⟩, ⟨[], [], rfl, ⟨rfl, (Is.new w2 #[Value.int IntKind.u8 (240 + n / 262144), Value.int IntKind.u8 (128 + n / 4096 % 64), Value.int IntKind.u8 (128 + n / 64 % 64), Value.int IntKind.u8 (128 + n % 64)] 5).cell 1 rfl, ⟨by omega, by omega⟩⟩, ⟨[], [], rfl, ⟨rfl, (Is.new w2 #[Value.int IntKind.u8 (240 + n / 262144), Value.int IntKind.u8 (128 + n / 4096 % 64), Value.int IntKind.u8 (128 + n / 64 % 64), Value.int IntKind.u8 (128 + n % 64)] 5).cell 2 rfl, ⟨by omega, by omega⟩⟩, ⟨[], [], rfl, ⟨rfl, (Is.new w2 #[Value.int IntKind.u8 (240 + n / 262144), Value.int IntKind.u8 (128 + n / 4096 % 64), Value.int IntKind.u8 (128 + n / 64 % 64), Value.int IntKind.u8 (128 + n % 64)] 5).cell 3 rfl, ⟨by omega, by omega⟩⟩, rfl⟩⟩⟩⟩ (by simp) (by omega) (by unfold maxLen; omega) (by omega) ?_; intro ar2 cr2 w3 happ3 hb3)
    go_ret
    exact ⟨ar2, cr2, by rw [HE1.out, List.length_append]; rfl, by rw [HE1.out]; exact happ3, (HB2.out.trans ((below1 w2 _).mono hs2)).trans hb3⟩
end Go.Proofs.YtpifadjlbjifhaaGreatDoor
