/- Texts of this proof, merged: Drw4, Drw7. No condition beyond what each theorem states. -/
import Derived.Test.YtfbodhfdomdkpaaGreatDoorRows
import Derived.WalkKit
import Derived.ProofKit
import Derived.OpenShut
import Derived.Handy
import Derived.Lib.Hide
import Derived.Lib.SmallJoins
import Derived.Deep.RegionHeld3
import Derived.Deep.AppendLies
import Derived.Deep.QuietTactic
import Derived.BigQuiet
import Derived.Test.YtfbodhfdomdkpaaGreatDoorZG1
import Derived.Test.YtfbodhfdomdkpaaGreatDoorZG2
import Derived.Test.YtfbodhfdomdkpaaGreatDoorZG3
import Derived.Test.YtfbodhfdomdkpaaGreatDoorZG4
import Derived.Test.YtfbodhfdomdkpaaGreatDoorZG14
import Derived.Test.YtfbodhfdomdkpaaGreatDoorZG18
import Derived.Test.YtfbodhfdomdkpaaGreatDoorZG19
import Derived.Test.YtfbodhfdomdkpaaGreatDoorZG20
import Derived.Test.YtfbodhfdomdkpaaGreatDoorZG15
set_option linter.unusedSimpArgs false
set_option linter.unnecessarySimpa false
namespace Go.Proofs.YtfbodhfdomdkpaaGreatDoor
open Go.ChangeShapes Go.WideShapes Go.ChangeAt Go.RowKit Go.Joins
set_option linter.unusedVariables false
set_option maxRecDepth 100000
set_option maxHeartbeats 8000000 in
theorem spec_l4Draw (A : Nat) (w : World) (hc : Cur w A) : Calls Tryz.prog 258 #[.pointer (some ⟨A, 0, none⟩)] w fun e w' => ∃ m x, I64 m ∧ I64 x ∧ e = .returned (.agg (cF m x)) ∧ Cur w' A ∧ Kp A w w' := by
  have hlA := hc.lt
  have HC0 := Lib.hid (hc.below (below1 w (.cells (cF 0 0) 143)) hlA)
  have HK0 := Lib.hid (Kp.alloc (w := w) (Nat.le_of_lt hlA) (.cells (cF 0 0) 143))
  have HI0 := Lib.hid (Is.new w (cF 0 0) 143)
  clear hc
  go_enter Tryz.func258, Tryz.ntmps258
  go_wp2_with fail
  go_loopw [3] (fun i wr => ∃ (j : Nat), j ≤ 6 ∧ i = .int .i64 j ∧ Cur wr A ∧ Kp A w wr ∧ Is wr w.heap.size 143 (cF 0 0)) (fun i _ => 6 - (intOf i).toNat)
  case atStart => exact ⟨0, by omega, rfl, HC0.out, HK0.out, HI0.out⟩
  case round =>
    obtain ⟨j, hj, rfl, hcr, hkr, hir⟩ := hrel
    have HC1 := Lib.hid hcr; have HK1 := Lib.hid hkr; have HI1 := Lib.hid hir; clear hcr hkr hir HC0 HK0 HI0
    by_cases hlt : j < 6
    · have hltz : (j : Int) < 6 := by omega
      go_wp2_with fail
      refine (spec_l1Signed A wr HC1.out).mono ?_
      rintro e w2 ⟨n, hn, rfl, hc2, hk2⟩
      have HC2 := Lib.hid hc2; have HI2 := Lib.hid (hk2.is HI1.out (by omega)); have HK2 := Lib.hid (HK1.out.trans hk2); clear hc2 hk2
      have HN := Lib.hid hn
      obtain ⟨hn0, hn1⟩ := hn
      go_wp2_with fail
      refine (spec_l1Below A 17 w2 HC2.out ⟨by decide, by decide⟩).mono ?_
      rintro e w3 ⟨y, rfl, hy, hy2, hc3, hk3⟩
      have HC3 := Lib.hid hc3; have HI3 := Lib.hid (hk3.is HI2.out (by omega)); have HK3 := Lib.hid (HK2.out.trans hk3); clear hc3 hk3
      have hnb := decNewD_box n y (by omega) HN.out
      go_wp2_with fail
      refine (spec_DecNewA n y _ _ w3 rfl (by first | rfl | go_num) HN.out (by omega)).mono ?_
      rintro e w4 ⟨rfl, hb4⟩
      have HC4 := Lib.hid (HC3.out.below hb4 HC3.out.lt)
      have HI4 := Lib.hid (HI3.out.below hb4 HI3.out.lt)
      have HK4 := Lib.hid (HK3.out.trans (Kp.of_below hb4 (Nat.le_refl _) (Nat.le_of_lt HC3.out.lt)))
      generalize decNewD n y = r at *
      obtain ⟨⟨d0, d1⟩, ok⟩ := r
      simp only at hnb
      obtain ⟨hd0, hd1, hd2⟩ := hnb
      cases ok with
      | true =>
        have ff := fun i => HI4.out.frozen i; have lg := HI4.out.lt; obtain ⟨z0, z1⟩ := HI4.out.cells2
        go_wp2_with fail
        obtain ⟨e0, e1, hcf, hkf⟩ := fin2a (.int .i64 d0) (.int .i64 d1) (.cells #[.int .i64 d0, .int .i64 d1] 143) HI4.out HK4.out (Nat.le_refl _) HC4.out hlA
        refine bodyPost_ret (v := .agg #[.int .i64 d0, .int .i64 d1]) (by simp [results, Tryz.results258, go_sem, e0, e1]) rfl ⟨_, _, hd0, ⟨by omega, by omega⟩, rfl, hcf, hkf⟩
      | false =>
        go_wp2_with fail
        go_roundw
        case rel => exact ⟨j + 1, by omega, by go_num, HC4.out.below (below1 _ _) HC4.out.lt, HK4.out.trans (Kp.alloc (Nat.le_of_lt HC4.out.lt) _), HI4.out.alloc _⟩
        case measure => simp [intOf]; omega
    · have hltz : ¬ (j : Int) < 6 := by omega
      have ff := fun i => HI1.out.frozen i; have lg := HI1.out.lt; obtain ⟨z0, z1⟩ := HI1.out.cells2
      go_wp2_with fail
      obtain ⟨e0, e1, hcf, hkf⟩ := fin2 (.int .i64 15) (.int .i64 (-1)) HI1.out HK1.out (Nat.le_refl _) HC1.out hlA
      refine bodyPost_ret (v := .agg #[.int .i64 15, .int .i64 (-1)]) (by simp [results, Tryz.results258, go_sem, e0, e1]) rfl ?_
      exact ⟨15, ⟨by omega, by omega⟩, -1, ⟨by omega, by omega⟩, rfl, hcf, hkf⟩
set_option maxHeartbeats 8000000 in
theorem spec_l5Dec (A : Nat) (w : World) (hc : Cur w A) : Calls Tryz.prog 197 #[.pointer (some ⟨A, 0, none⟩)] w fun e w' => ∃ m x, I64 m ∧ I64 x ∧ e = .returned (.agg (cF m x)) ∧ Cur w' A ∧ Kp A w w' := by
  have hlA := hc.lt
  have HC0 := Lib.hid (hc.below (below1 w (.cells (cF 0 0) 143)) hlA)
  have HK0 := Lib.hid (Kp.alloc (w := w) (Nat.le_of_lt hlA) (.cells (cF 0 0) 143))
  have HI0 := Lib.hid (Is.new w (cF 0 0) 143)
  clear hc
  go_enter Tryz.func197, Tryz.ntmps197
  go_wp2_with fail
  refine (spec_l1Once A 2 _ HC0.out ⟨by decide, by decide⟩).mono ?_
  rintro e w2 ⟨b, rfl, hc2, hk2⟩
  have HC2 := Lib.hid hc2; have HI2 := Lib.hid (hk2.is HI0.out (by omega)); have HK2 := Lib.hid (HK0.out.trans hk2); clear hc2 hk2
  cases b with
  | false =>
    go_wp2_with fail
    refine (spec_l4Draw A w2 HC2.out).mono ?_
    rintro e w3 ⟨n, x, hn, hx, rfl, hc3, hk3⟩
    have HC3 := Lib.hid hc3; have HI3 := Lib.hid (hk3.is HI2.out (by omega)); have HK3 := Lib.hid (HK2.out.trans hk3); clear hc3 hk3
    have ff := fun i => HI3.out.frozen i; have lg := HI3.out.lt; obtain ⟨z0, z1⟩ := HI3.out.cells2
    go_wp2_with fail
    obtain ⟨e0, e1, hcf, hkf⟩ := fin2 (.int .i64 n) (.int .i64 x) HI3.out HK3.out (Nat.le_refl _) HC3.out hlA
    refine bodyPost_ret (v := .agg #[.int .i64 n, .int .i64 x]) (by simp [results, Tryz.results197, go_sem, e0, e1]) rfl ⟨_, _, hn, hx, rfl, hcf, hkf⟩
  | true =>
    go_wp2_with fail
    refine (spec_l5Draw A w2 HC2.out).mono ?_
    rintro e w3 ⟨n, x, hn, hx, rfl, hc3, hk3⟩
    have HC3 := Lib.hid hc3; have HI3 := Lib.hid (hk3.is HI2.out (by omega)); have HK3 := Lib.hid (HK2.out.trans hk3); clear hc3 hk3
    have hbx := fltDecD_box n x
    go_wp2_with fail
    refine (spec_FltDec n x w3 hn hx).mono ?_
    rintro e w4 ⟨rfl, hb4⟩
    have HC4 := Lib.hid (HC3.out.below hb4 HC3.out.lt)
    have HI4 := Lib.hid (HI3.out.below hb4 HI3.out.lt)
    have HK4 := Lib.hid (HK3.out.trans (Kp.of_below hb4 (Nat.le_refl _) (Nat.le_of_lt HC3.out.lt)))
    generalize fltDecD n x = r at *
    obtain ⟨d0, d1⟩ := r
    simp only at hbx
    obtain ⟨hd0, hd1, hd2⟩ := hbx
    have HC5 := Lib.hid (HC4.out.below (below1 w4 (.cells #[.int .i64 d0, .int .i64 d1] 143)) HC4.out.lt)
    have HI5 := Lib.hid (HI4.out.alloc (.cells #[.int .i64 d0, .int .i64 d1] 143))
    have HK5 := Lib.hid (HK4.out.trans (Kp.alloc (Nat.le_of_lt HC4.out.lt) (.cells #[.int .i64 d0, .int .i64 d1] 143)))
    have HJ5 := Lib.hid (Is.new w4 #[.int .i64 d0, .int .i64 d1] 143)
    have hl4 := HI4.out.lt
    have HD0 := Lib.hid hd0
    have HD1 := Lib.hid (show I64 d1 from ⟨by omega, by omega⟩)
    obtain ⟨hd0a, hd0b⟩ := hd0
    go_wp2_with fail
    refine (spec_l1Once A 3 _ HC5.out ⟨by decide, by decide⟩).mono ?_
    rintro e w6 ⟨b6, rfl, hc6, hk6⟩
    have HC6 := Lib.hid hc6; have HI6 := Lib.hid (hk6.is HI5.out (by omega)); have HK6 := Lib.hid (HK5.out.trans hk6)
    have HJ6 := Lib.hid (hk6.is HJ5.out (by omega)); clear hc6 hk6
    cases b6 with
    | false =>
      have HC7 := HC6; have HI7 := HI6; have HK7 := HK6; have HJ7 := HJ6
      obtain ⟨y0, y1⟩ := HJ6.out.cells2; have lj := HJ6.out.lt
      go_wp2_with fail
      refine (spec_DecOk (d0) d1 _ HD0.out HD1.out).mono ?_
      rintro e w8 ⟨rfl, hb8⟩
      have HC8 := Lib.hid (HC7.out.below hb8 HC7.out.lt)
      have HI8 := Lib.hid (HI7.out.below hb8 HI7.out.lt)
      have HJ8 := Lib.hid (HJ7.out.below hb8 HJ7.out.lt)
      have HK8 := Lib.hid (HK7.out.trans (Kp.of_below hb8 (Nat.le_refl _) (Nat.le_of_lt HC7.out.lt)))
      by_cases hok : decOk (d0) d1
      · have HOK := Lib.hid (show decide (decOk (d0) d1) = true from decide_eq_true hok)
        rw [HOK.out]
        have ff := fun i => HI8.out.frozen i; have lg := HI8.out.lt; obtain ⟨z0, z1⟩ := HI8.out.cells2; obtain ⟨y0, y1⟩ := HJ8.out.cells2; have lj := HJ8.out.lt
        clear hok
        go_wp2_with fail
        obtain ⟨e0, e1, hcf, hkf⟩ := fin2 (.int .i64 (d0)) (.int .i64 d1) HI8.out HK8.out (Nat.le_refl _) HC8.out hlA
        refine bodyPost_ret (v := .agg #[.int .i64 (d0), .int .i64 d1]) (by simp [results, Tryz.results197, go_sem, e0, e1]) rfl ⟨_, _, HD0.out, HD1.out, rfl, hcf, hkf⟩
      · have HOK := Lib.hid (show decide (decOk (d0) d1) = false from decide_eq_false hok)
        rw [HOK.out]
        clear hok
        go_wp2_with fail
        refine (spec_l4Draw A w8 HC8.out).mono ?_
        rintro e w9 ⟨n9, x9, hn9, hx9, rfl, hc9, hk9⟩
        have HC9 := Lib.hid hc9; have HI9 := Lib.hid (hk9.is HI8.out (by omega)); have HK9 := Lib.hid (HK8.out.trans hk9); clear hc9 hk9
        have ff := fun i => HI9.out.frozen i; have lg := HI9.out.lt; obtain ⟨z0, z1⟩ := HI9.out.cells2
        go_wp2_with fail
        obtain ⟨e0, e1, hcf, hkf⟩ := fin2 (.int .i64 n9) (.int .i64 x9) HI9.out HK9.out (Nat.le_refl _) HC9.out hlA
        refine bodyPost_ret (v := .agg #[.int .i64 n9, .int .i64 x9]) (by simp [results, Tryz.results197, go_sem, e0, e1]) rfl ⟨_, _, hn9, hx9, rfl, hcf, hkf⟩
    | true =>
      obtain ⟨y0, y1⟩ := HJ6.out.cells2; have lj := HJ6.out.lt; have fj := fun i => HJ6.out.frozen i
      have HC7 := Lib.hid (HC6.out.set (g := w4.heap.size) (by omega) 0 (.int .i64 (wrap64 (d0 + 1))))
      have HI7 := Lib.hid (HI6.out.miss w4.heap.size 0 (by omega) (.int .i64 (wrap64 (d0 + 1))))
      have HK7 := Lib.hid (Kp.set HK6.out (g := w4.heap.size) (by omega) (by omega) 0 (.int .i64 (wrap64 (d0 + 1))))
      have HJ7 := Lib.hid (HJ6.out.set 0 (.int .i64 (wrap64 (d0 + 1))))
      obtain ⟨y0', y1'⟩ := HJ7.out.cells2
      go_wp2_with fail
      refine (spec_DecOk (wrap64 (d0 + 1)) d1 _ (wrap_i64 _) HD1.out).mono ?_
      rintro e w8 ⟨rfl, hb8⟩
      have HC8 := Lib.hid (HC7.out.below hb8 HC7.out.lt)
      have HI8 := Lib.hid (HI7.out.below hb8 HI7.out.lt)
      have HJ8 := Lib.hid (HJ7.out.below hb8 HJ7.out.lt)
      have HK8 := Lib.hid (HK7.out.trans (Kp.of_below hb8 (Nat.le_refl _) (Nat.le_of_lt HC7.out.lt)))
      by_cases hok : decOk (wrap64 (d0 + 1)) d1
      · have HOK := Lib.hid (show decide (decOk (wrap64 (d0 + 1)) d1) = true from decide_eq_true hok)
        rw [HOK.out]
        have ff := fun i => HI8.out.frozen i; have lg := HI8.out.lt; obtain ⟨z0, z1⟩ := HI8.out.cells2; obtain ⟨y0, y1⟩ := HJ8.out.cells2; have lj := HJ8.out.lt
        clear hok
        go_wp2_with fail
        obtain ⟨e0, e1, hcf, hkf⟩ := fin2 (.int .i64 (wrap64 (d0 + 1))) (.int .i64 d1) HI8.out HK8.out (Nat.le_refl _) HC8.out hlA
        refine bodyPost_ret (v := .agg #[.int .i64 (wrap64 (d0 + 1)), .int .i64 d1]) (by simp [results, Tryz.results197, go_sem, e0, e1]) rfl ⟨_, _, (wrap_i64 _), HD1.out, rfl, hcf, hkf⟩
      · have HOK := Lib.hid (show decide (decOk (wrap64 (d0 + 1)) d1) = false from decide_eq_false hok)
        rw [HOK.out]
        clear hok
        go_wp2_with fail
        refine (spec_l4Draw A w8 HC8.out).mono ?_
        rintro e w9 ⟨n9, x9, hn9, hx9, rfl, hc9, hk9⟩
        have HC9 := Lib.hid hc9; have HI9 := Lib.hid (hk9.is HI8.out (by omega)); have HK9 := Lib.hid (HK8.out.trans hk9); clear hc9 hk9
        have ff := fun i => HI9.out.frozen i; have lg := HI9.out.lt; obtain ⟨z0, z1⟩ := HI9.out.cells2
        go_wp2_with fail
        obtain ⟨e0, e1, hcf, hkf⟩ := fin2 (.int .i64 n9) (.int .i64 x9) HI9.out HK9.out (Nat.le_refl _) HC9.out hlA
        refine bodyPost_ret (v := .agg #[.int .i64 n9, .int .i64 x9]) (by simp [results, Tryz.results197, go_sem, e0, e1]) rfl ⟨_, _, hn9, hx9, rfl, hcf, hkf⟩
end Go.Proofs.YtfbodhfdomdkpaaGreatDoor
namespace Go.Proofs.YtfbodhfdomdkpaaGreatDoor
open Go.ChangeShapes Go.WideShapes Go.ChangeAt Go.RowKit Go.Joins
set_option linter.unusedVariables false
set_option maxRecDepth 100000
theorem wf_mk {k n x : Int} {s : ByteArray} {l : List T} (h1 : I64 k) (h2 : I64 n) (h3 : I64 x) (h4 : s.size ≤ 1000000) : Wf (.mk k n x s l) := ⟨h1, h2, h3, by show s.size ≤ maxLen; unfold maxLen; omega⟩
set_option maxHeartbeats 8000000 in
theorem spec_l6Name (A : Nat) (w : World) (hc : Cur w A) : Calls Tryz.prog 200 #[.pointer (some ⟨A, 0, none⟩)] w fun e w' => ∃ t : T, e = .returned (.agg (cV t none 0)) ∧ t.l = [] ∧ Wf t ∧ t.s.size ≤ 3 ∧ Cur w' A ∧ Kp A w w' := by
  have hlA := hc.lt
  have HC0 := Lib.hid (hc.below (below1 w (.cells zV 36)) hlA)
  have HK0 := Lib.hid (Kp.alloc (w := w) (Nat.le_of_lt hlA) (.cells zV 36))
  have HI0 := Lib.hid (Is.new w zV 36)
  clear hc
  go_enter Tryz.func200, Tryz.ntmps200
  go_wp2_with fail
  refine (spec_l1Once A 6 _ HC0.out ⟨by decide, by decide⟩).mono ?_
  rintro e w2 ⟨b, rfl, hc2, hk2⟩
  have HC2 := Lib.hid hc2; have HI2 := Lib.hid (hk2.is HI0.out (by omega)); have HK2 := Lib.hid (HK0.out.trans hk2); clear hc2 hk2 HI0 HK0 HC0
  cases b with
  | true =>
    go_wp2_with fail
    refine (spec_l1Below A 4 w2 HC2.out ⟨by decide, by decide⟩).mono ?_
    rintro e w3 ⟨x, rfl, hx, hx2, hc3, hk3⟩
    have HC3 := Lib.hid hc3; have HI3 := Lib.hid (hk3.is HI2.out (by omega)); have HK3 := Lib.hid (HK2.out.trans hk3); clear hc3 hk3
    go_wp2_with fail
    refine (spec_IntVal (x : Int) w3).mono ?_
    rintro e w4 ⟨rfl, hb4⟩
    have HC4 := Lib.hid (HC3.out.below hb4 HC3.out.lt)
    have HI4 := Lib.hid (HI3.out.below hb4 HI3.out.lt)
    have HK4 := Lib.hid (HK3.out.trans (Kp.of_below hb4 (Nat.le_refl _) (Nat.le_of_lt HC3.out.lt)))
    have ff := fun i => HI4.out.frozen i; have lg := HI4.out.lt; obtain ⟨z0, z1, z2, z3, z4⟩ := HI4.out.cells5
    go_wp2_with fail
    obtain ⟨e0, e1, e2, e3, e4, hcf, hkf, _, _⟩ := fin5 (.int .i64 3) (.int .i64 (x : Int)) (.int .i64 0) (.string ⟨#[]⟩) (.slice none 0 0) HI4.out.blk HK4.out (Nat.le_refl _) HC4.out hlA
    refine bodyPost_ret (v := .agg #[.int .i64 3, .int .i64 (x : Int), .int .i64 0, .string ⟨#[]⟩, .slice none 0 0]) (by simp [results, Tryz.results200, go_sem, e0, e1, e2, e3, e4]) rfl ⟨.mk 3 x 0 ⟨#[]⟩ [], rfl, rfl, wf_mk ⟨by decide, by decide⟩ ⟨by omega, by omega⟩ ⟨by decide, by decide⟩ (by decide), Nat.zero_le _, hcf, hkf⟩
  | false =>
    go_wp2_with fail
    refine (spec_l1StrL A [⟨#[97]⟩, ⟨#[98]⟩, ⟨#[99]⟩, ⟨#[]⟩, ⟨#[107, 101, 121]⟩, ⟨#[195, 169]⟩] _ w2 HC2.out (by decide) (by decide)).mono ?_
    rintro e w3 ⟨y, hm, rfl, hc3, hk3⟩
    have hsz : y.size ≤ 3 := by
      simp only [List.mem_cons, List.not_mem_nil, or_false] at hm
      rcases hm with rfl | rfl | rfl | rfl | rfl | rfl <;> decide
    have HC3 := Lib.hid hc3; have HI3 := Lib.hid (hk3.is HI2.out (by omega)); have HK3 := Lib.hid (HK2.out.trans hk3); clear hc3 hk3 hm
    go_wp2_with fail
    refine (spec_TextVal y w3).mono ?_
    rintro e w4 ⟨rfl, hb4⟩
    have HC4 := Lib.hid (HC3.out.below hb4 HC3.out.lt)
    have HI4 := Lib.hid (HI3.out.below hb4 HI3.out.lt)
    have HK4 := Lib.hid (HK3.out.trans (Kp.of_below hb4 (Nat.le_refl _) (Nat.le_of_lt HC3.out.lt)))
    have ff := fun i => HI4.out.frozen i; have lg := HI4.out.lt; obtain ⟨z0, z1, z2, z3, z4⟩ := HI4.out.cells5
    go_wp2_with fail
    obtain ⟨e0, e1, e2, e3, e4, hcf, hkf, _, _⟩ := fin5 (.int .i64 7) (.int .i64 0) (.int .i64 0) (.string y) (.slice none 0 0) HI4.out.blk HK4.out (Nat.le_refl _) HC4.out hlA
    refine bodyPost_ret (v := .agg #[.int .i64 7, .int .i64 0, .int .i64 0, .string y, .slice none 0 0]) (by simp [results, Tryz.results200, go_sem, e0, e1, e2, e3, e4]) rfl ⟨.mk 7 0 0 y [], rfl, rfl, wf_mk ⟨by decide, by decide⟩ ⟨by decide, by decide⟩ ⟨by decide, by decide⟩ (by omega), hsz, hcf, hkf⟩
end Go.Proofs.YtfbodhfdomdkpaaGreatDoor
