/- Texts of this proof, merged: Drw4, Drw5, Drw6, Drw7. No condition beyond what each theorem states. -/
import Derived.Test.YtggdenkmohnijaaGreatDoorZO17
set_option linter.unusedSimpArgs false
set_option linter.unnecessarySimpa false
namespace Go.Proofs.YtggdenkmohnijaaGreatDoor
open Go.ChangeShapes Go.WideShapes Go.ChangeAt Go.RowKit Go.Joins
set_option linter.unusedVariables false
set_option maxRecDepth 100000
set_option maxHeartbeats 8000000 in
theorem spec_l4Draw (A : Nat) (w : World) (hc : Cur w A) : Calls Tryz.prog 232 #[.pointer (some ⟨A, 0, none⟩)] w fun e w' => ∃ m x, decOk m x ∧ I64 m ∧ I64 x ∧ e = .returned (.agg (cF m x)) ∧ Cur w' A ∧ Kp A w w' := by
 have hlA := hc.lt
 have HC0 := Lib.hid (hc.below (below1 w (.cells (cF 0 0) 100)) hlA)
 have HK0 := Lib.hid (Kp.alloc (w := w) (Nat.le_of_lt hlA) (.cells (cF 0 0) 100))
 have HI0 := Lib.hid (Is.new w (cF 0 0) 100)
 clear hc
 go_enter Tryz.func232, Tryz.ntmps232
 go_wp2_with fail
 go_loopw [3] (fun i wr => ∃ (j : Nat), j ≤ 6 ∧ i = .int .i64 j ∧ Cur wr A ∧ Kp A w wr ∧ Is wr w.heap.size 100 (cF 0 0)) (fun i _ => 6 - (intOf i).toNat)
 case atStart => exact ⟨0, by omega, rfl, HC0.out, HK0.out, HI0.out⟩
 case round =>
  obtain ⟨j, hj, rfl, hcr, hkr, hir⟩ := hrel
  have HC1 := Lib.hid hcr; have HK1 := Lib.hid hkr; have HI1 := Lib.hid hir; clear hcr hkr hir HC0 HK0 HI0
  by_cases hlt : j < 6
  ·have hltz : (j : Int) < 6 := by omega
   go_wp2_with fail
   refine (spec_l1Signed A wr HC1.out).mono ?_
   rintro e w2 ⟨n, hn, rfl, hc2, hk2⟩
   have HC2 := Lib.hid hc2; have HI2 := Lib.hid (hk2.is HI1.out (by omega)); have HK2 := Lib.hid (HK1.out.trans hk2); clear hc2 hk2
   have HN := Lib.hid (show I64 n from ⟨by omega, by omega⟩)
   obtain ⟨hn0, hn1⟩ := hn
   go_wp2_with fail
   refine (spec_l1Below A 17 w2 HC2.out ⟨by decide, by decide⟩).mono ?_
   rintro e w3 ⟨y, rfl, hy, hy2, hc3, hk3⟩
   have HC3 := Lib.hid hc3; have HI3 := Lib.hid (hk3.is HI2.out (by omega)); have HK3 := Lib.hid (HK2.out.trans hk3); clear hc3 hk3
   have hnb := decNewD_box n y (by omega) HN.out
   go_wp2_with fail
   refine (spec_DecNewA n y _ _ w3 rfl (by first | rfl | go_num) HN.out (by omega)).mono ?_
   rintro e w4 ⟨rfl, hb4⟩
   have HC4 := Lib.hid (HC3.out.below hb4 HC3.out.lt)
   have HI4 := Lib.hid (HI3.out.below hb4 HI3.out.lt)
   have HK4 := Lib.hid (HK3.out.trans (Kp.of_below hb4 (Nat.le_refl _) (Nat.le_of_lt HC3.out.lt)))
   have HDK := Lib.hid (dv_dec n y)
   generalize decNewD n y = r at *
   obtain ⟨⟨d0, d1⟩, ok⟩ := r
   simp only at hnb
   obtain ⟨hd0, hd1, hd2⟩ := hnb
   cases ok with
   | true =>
    have ff := fun i => HI4.out.frozen i; have lg := HI4.out.lt; obtain ⟨z0, z1⟩ := HI4.out.cells2
    go_wp2_with fail
    obtain ⟨e0, e1, hcf, hkf⟩ := fin2a (.int .i64 d0) (.int .i64 d1) (.cells #[.int .i64 d0, .int .i64 d1] 100) HI4.out HK4.out (Nat.le_refl _) HC4.out hlA
    refine bodyPost_ret (v := .agg #[.int .i64 d0, .int .i64 d1]) (by simp [results, Tryz.results232, go_sem, e0, e1]) rfl ⟨_, _, HDK.out, hd0, ⟨by omega, by omega⟩, rfl, hcf, hkf⟩
   | false =>
    go_wp2_with fail
    go_roundw
    case rel => exact ⟨j + 1, by omega, by go_num, HC4.out.below (below1 _ _) HC4.out.lt, HK4.out.trans (Kp.alloc (Nat.le_of_lt HC4.out.lt) _), HI4.out.alloc _⟩
    case measure => simp [intOf]; omega
  ·have hltz : ¬ (j : Int) < 6 := by omega
   have ff := fun i => HI1.out.frozen i; have lg := HI1.out.lt; obtain ⟨z0, z1⟩ := HI1.out.cells2
   go_wp2_with fail
   obtain ⟨e0, e1, hcf, hkf⟩ := fin2 (.int .i64 15) (.int .i64 (-1)) HI1.out HK1.out (Nat.le_refl _) HC1.out hlA
   refine bodyPost_ret (v := .agg #[.int .i64 15, .int .i64 (-1)]) (by simp [results, Tryz.results232, go_sem, e0, e1]) rfl ?_
   exact ⟨15, -1, dv_dec15, ⟨by omega, by omega⟩, ⟨by omega, by omega⟩, rfl, hcf, hkf⟩
set_option maxHeartbeats 8000000 in
theorem spec_l5Dec (A : Nat) (w : World) (hc : Cur w A) : Calls Tryz.prog 180 #[.pointer (some ⟨A, 0, none⟩)] w fun e w' => ∃ m x, decOk m x ∧ I64 m ∧ I64 x ∧ e = .returned (.agg (cF m x)) ∧ Cur w' A ∧ Kp A w w' := by
 have hlA := hc.lt
 have HC0 := Lib.hid (hc.below (below1 w (.cells (cF 0 0) 100)) hlA)
 have HK0 := Lib.hid (Kp.alloc (w := w) (Nat.le_of_lt hlA) (.cells (cF 0 0) 100))
 have HI0 := Lib.hid (Is.new w (cF 0 0) 100)
 clear hc
 go_enter Tryz.func180, Tryz.ntmps180
 go_wp2_with fail
 refine (spec_l1Once A 2 _ HC0.out ⟨by decide, by decide⟩).mono ?_
 rintro e w2 ⟨b, rfl, hc2, hk2⟩
 have HC2 := Lib.hid hc2; have HI2 := Lib.hid (hk2.is HI0.out (by omega)); have HK2 := Lib.hid (HK0.out.trans hk2); clear hc2 hk2
 cases b with
 | false =>
  go_wp2_with fail
  refine (spec_l4Draw A w2 HC2.out).mono ?_
  rintro e w3 ⟨n, x, hdk, hn, hx, rfl, hc3, hk3⟩
  have HDK := Lib.hid hdk; clear hdk
  have HC3 := Lib.hid hc3; have HI3 := Lib.hid (hk3.is HI2.out (by omega)); have HK3 := Lib.hid (HK2.out.trans hk3); clear hc3 hk3
  have ff := fun i => HI3.out.frozen i; have lg := HI3.out.lt; obtain ⟨z0, z1⟩ := HI3.out.cells2
  go_wp2_with fail
  obtain ⟨e0, e1, hcf, hkf⟩ := fin2 (.int .i64 n) (.int .i64 x) HI3.out HK3.out (Nat.le_refl _) HC3.out hlA
  refine bodyPost_ret (v := .agg #[.int .i64 n, .int .i64 x]) (by simp [results, Tryz.results180, go_sem, e0, e1]) rfl ⟨_, _, HDK.out, hn, hx, rfl, hcf, hkf⟩
 | true =>
  go_wp2_with fail
  refine (spec_l5Draw A w2 HC2.out).mono ?_
  rintro e w3 ⟨n, x, _, hn, hx, rfl, hc3, hk3⟩
  have HC3 := Lib.hid hc3; have HI3 := Lib.hid (hk3.is HI2.out (by omega)); have HK3 := Lib.hid (HK2.out.trans hk3); clear hc3 hk3
  have hbx := fltDecD_box n x
  go_wp2_with fail
  refine (spec_FltDec n x w3 hn hx).mono ?_
  rintro e w4 ⟨rfl, hb4⟩
  have HC4 := Lib.hid (HC3.out.below hb4 HC3.out.lt)
  have HI4 := Lib.hid (HI3.out.below hb4 HI3.out.lt)
  have HK4 := Lib.hid (HK3.out.trans (Kp.of_below hb4 (Nat.le_refl _) (Nat.le_of_lt HC3.out.lt)))
  generalize fltDecD n x = r at *
  obtain ⟨d0, d1⟩ := r
  simp only at hbx
  obtain ⟨hd0, hd1, hd2⟩ := hbx
  have HC5 := Lib.hid (HC4.out.below (below1 w4 (.cells #[.int .i64 d0, .int .i64 d1] 100)) HC4.out.lt)
  have HI5 := Lib.hid (HI4.out.alloc (.cells #[.int .i64 d0, .int .i64 d1] 100))
  have HK5 := Lib.hid (HK4.out.trans (Kp.alloc (Nat.le_of_lt HC4.out.lt) (.cells #[.int .i64 d0, .int .i64 d1] 100)))
  have HJ5 := Lib.hid (Is.new w4 #[.int .i64 d0, .int .i64 d1] 100)
  have hl4 := HI4.out.lt
  have HD0 := Lib.hid hd0
  have HD1 := Lib.hid (show I64 d1 from ⟨by omega, by omega⟩)
  obtain ⟨hd0a, hd0b⟩ := hd0
  go_wp2_with fail
  refine (spec_l1Once A 3 _ HC5.out ⟨by decide, by decide⟩).mono ?_
  rintro e w6 ⟨b6, rfl, hc6, hk6⟩
  have HC6 := Lib.hid hc6; have HI6 := Lib.hid (hk6.is HI5.out (by omega)); have HK6 := Lib.hid (HK5.out.trans hk6)
  have HJ6 := Lib.hid (hk6.is HJ5.out (by omega)); clear hc6 hk6
  cases b6 with
  | false =>
   have HC7 := HC6; have HI7 := HI6; have HK7 := HK6; have HJ7 := HJ6
   obtain ⟨y0, y1⟩ := HJ6.out.cells2; have lj := HJ6.out.lt
   go_wp2_with fail
   refine (spec_DecOk (d0) d1 _ HD0.out HD1.out).mono ?_
   rintro e w8 ⟨rfl, hb8⟩
   have HC8 := Lib.hid (HC7.out.below hb8 HC7.out.lt)
   have HI8 := Lib.hid (HI7.out.below hb8 HI7.out.lt)
   have HJ8 := Lib.hid (HJ7.out.below hb8 HJ7.out.lt)
   have HK8 := Lib.hid (HK7.out.trans (Kp.of_below hb8 (Nat.le_refl _) (Nat.le_of_lt HC7.out.lt)))
   by_cases hok : decOk (d0) d1
   ·have HOK := Lib.hid (show decide (decOk (d0) d1) = true from decide_eq_true hok)
    rw [HOK.out]
    have ff := fun i => HI8.out.frozen i; have lg := HI8.out.lt; obtain ⟨z0, z1⟩ := HI8.out.cells2; obtain ⟨y0, y1⟩ := HJ8.out.cells2; have lj := HJ8.out.lt
    have HDK := Lib.hid hok
    clear hok
    go_wp2_with fail
    obtain ⟨e0, e1, hcf, hkf⟩ := fin2 (.int .i64 (d0)) (.int .i64 d1) HI8.out HK8.out (Nat.le_refl _) HC8.out hlA
    refine bodyPost_ret (v := .agg #[.int .i64 (d0), .int .i64 d1]) (by simp [results, Tryz.results180, go_sem, e0, e1]) rfl ⟨_, _, HDK.out, HD0.out, HD1.out, rfl, hcf, hkf⟩
   ·have HOK := Lib.hid (show decide (decOk (d0) d1) = false from decide_eq_false hok)
    rw [HOK.out]
    clear hok
    go_wp2_with fail
    refine (spec_l4Draw A w8 HC8.out).mono ?_
    rintro e w9 ⟨n9, x9, hdk9, hn9, hx9, rfl, hc9, hk9⟩
    have HC9 := Lib.hid hc9; have HI9 := Lib.hid (hk9.is HI8.out (by omega)); have HK9 := Lib.hid (HK8.out.trans hk9); clear hc9 hk9
    have ff := fun i => HI9.out.frozen i; have lg := HI9.out.lt; obtain ⟨z0, z1⟩ := HI9.out.cells2
    go_wp2_with fail
    obtain ⟨e0, e1, hcf, hkf⟩ := fin2 (.int .i64 n9) (.int .i64 x9) HI9.out HK9.out (Nat.le_refl _) HC9.out hlA
    refine bodyPost_ret (v := .agg #[.int .i64 n9, .int .i64 x9]) (by simp [results, Tryz.results180, go_sem, e0, e1]) rfl ⟨_, _, hdk9, hn9, hx9, rfl, hcf, hkf⟩
  | true =>
   obtain ⟨y0, y1⟩ := HJ6.out.cells2; have lj := HJ6.out.lt; have fj := fun i => HJ6.out.frozen i
   have HC7 := Lib.hid (HC6.out.set (g := w4.heap.size) (by omega) 0 (.int .i64 (wrap64 (d0 + 1))))
   have HI7 := Lib.hid (HI6.out.miss w4.heap.size 0 (by omega) (.int .i64 (wrap64 (d0 + 1))))
   have HK7 := Lib.hid (Kp.set HK6.out (g := w4.heap.size) (by omega) (by omega) 0 (.int .i64 (wrap64 (d0 + 1))))
   have HJ7 := Lib.hid (HJ6.out.set 0 (.int .i64 (wrap64 (d0 + 1))))
   obtain ⟨y0', y1'⟩ := HJ7.out.cells2
   go_wp2_with fail
   refine (spec_DecOk (wrap64 (d0 + 1)) d1 _ (wrap_i64 _) HD1.out).mono ?_
   rintro e w8 ⟨rfl, hb8⟩
   have HC8 := Lib.hid (HC7.out.below hb8 HC7.out.lt)
   have HI8 := Lib.hid (HI7.out.below hb8 HI7.out.lt)
   have HJ8 := Lib.hid (HJ7.out.below hb8 HJ7.out.lt)
   have HK8 := Lib.hid (HK7.out.trans (Kp.of_below hb8 (Nat.le_refl _) (Nat.le_of_lt HC7.out.lt)))
   by_cases hok : decOk (wrap64 (d0 + 1)) d1
   ·have HOK := Lib.hid (show decide (decOk (wrap64 (d0 + 1)) d1) = true from decide_eq_true hok)
    rw [HOK.out]
    have ff := fun i => HI8.out.frozen i; have lg := HI8.out.lt; obtain ⟨z0, z1⟩ := HI8.out.cells2; obtain ⟨y0, y1⟩ := HJ8.out.cells2; have lj := HJ8.out.lt
    have HDK := Lib.hid hok
    clear hok
    go_wp2_with fail
    obtain ⟨e0, e1, hcf, hkf⟩ := fin2 (.int .i64 (wrap64 (d0 + 1))) (.int .i64 d1) HI8.out HK8.out (Nat.le_refl _) HC8.out hlA
    refine bodyPost_ret (v := .agg #[.int .i64 (wrap64 (d0 + 1)), .int .i64 d1]) (by simp [results, Tryz.results180, go_sem, e0, e1]) rfl ⟨_, _, HDK.out, (wrap_i64 _), HD1.out, rfl, hcf, hkf⟩
   ·have HOK := Lib.hid (show decide (decOk (wrap64 (d0 + 1)) d1) = false from decide_eq_false hok)
    rw [HOK.out]
    clear hok
    go_wp2_with fail
    refine (spec_l4Draw A w8 HC8.out).mono ?_
    rintro e w9 ⟨n9, x9, hdk9, hn9, hx9, rfl, hc9, hk9⟩
    have HC9 := Lib.hid hc9; have HI9 := Lib.hid (hk9.is HI8.out (by omega)); have HK9 := Lib.hid (HK8.out.trans hk9); clear hc9 hk9
    have ff := fun i => HI9.out.frozen i; have lg := HI9.out.lt; obtain ⟨z0, z1⟩ := HI9.out.cells2
    go_wp2_with fail
    obtain ⟨e0, e1, hcf, hkf⟩ := fin2 (.int .i64 n9) (.int .i64 x9) HI9.out HK9.out (Nat.le_refl _) HC9.out hlA
    refine bodyPost_ret (v := .agg #[.int .i64 n9, .int .i64 x9]) (by simp [results, Tryz.results180, go_sem, e0, e1]) rfl ⟨_, _, hdk9, hn9, hx9, rfl, hcf, hkf⟩
theorem encN_len (n : Int) : 1 ≤ (encN n).length ∧ (encN n).length ≤ 4 := by
 unfold encN; split; simp; split; simp; split <;> simp
theorem encN_u8 {n : Int} (h : runeOk n) : ∀ x ∈ encN n, U8 x := by
 obtain ⟨⟨h1, h2⟩, _⟩ := h
 intro x hx
 unfold encN at hx
 split at hx
 ·simp at hx; subst hx; exact ⟨by omega, by omega⟩
 split at hx
 ·simp at hx; rcases hx with rfl | rfl <;> exact ⟨by omega, by omega⟩
 split at hx
 ·simp at hx; rcases hx with rfl | rfl | rfl <;> exact ⟨by omega, by omega⟩
 ·simp at hx; rcases hx with rfl | rfl | rfl | rfl <;> exact ⟨by omega, by omega⟩
set_option maxHeartbeats 8000000 in
theorem spec_PutRune (b : List Int) (n : Int) (a : Option Addr) (cap B : Nat) (w : World) (hr : Rd EByte 1 w B a cap b) (hn : runeOk n) (hz : b.length ≤ 1048576) (hB : B ≤ w.heap.size) :
  Calls Tryz.prog 259 #[.slice a b.length cap, .int .i64 n] w fun e w' => ∃ a' cap', e = .returned (.slice a' (b ++ encN n).length cap') ∧ AppL EByte 1 5 w' w.heap.size a' cap' (b ++ encN n) [] ∧ Below w.heap.size w w' := by
 obtain ⟨a1, c1, w1, hrun, happ, hb1⟩ := copyB w b a cap B hr hB (by omega)
 obtain ⟨hl1, hl2⟩ := hr.len
 have HU := Lib.hid (encN_u8 hn)
 have HL := encN_len n
 have HA1 := Lib.hid happ
 have HB1 := Lib.hid hb1
 have hs1 := hb1.size
 obtain ⟨h1a, h1b⟩ := hn.1
 have HW := Lib.hid (show wideN n = if n < 128 then 1 else if n < 2048 then 2 else if n < 65536 then 3 else 4 from by unfold wideN; rw [if_neg (by simp [hn])])
 have HE := Lib.hid (show encN n = if n < 128 then [n] else if n < 2048 then [192 + n / 64, 128 + n % 64] else if n < 65536 then [224 + n / 4096, 128 + n / 64 % 64, 128 + n % 64] else [240 + n / 262144, 128 + n / 4096 % 64, 128 + n / 64 % 64, 128 + n % 64] from rfl)
 clear happ hb1 hr hn
 go_enter Tryz.func259, Tryz.ntmps259
 go_upto_region 2 with (at_builtin; refine Lib.wpList_append_run _ rfl _ _ _ _ rfl _ _ rfl rfl _ _ hrun ?_)
 clear hrun
 go_wp2_with fail
 refine (spec_WideOf n _).mono ?_
 rintro e w2 ⟨rfl, hb2⟩
 have HB2 := Lib.hid (HB1.out.trans (hb2.mono hs1))
 have hs2 : w.heap.size ≤ w2.heap.size := HB2.out.size
 have HA2 := Lib.hid (HA1.out.agree EByte.elem (fun f hf => hb2.block f hf) hs1)
 clear hb2
 by_cases h128 : n < 128
 ·have hw : wideN n = 1 := by rw [HW.out]; rw [if_pos h128]
  have HE1 := Lib.hid (show encN n = [n] from by rw [HE.out]; rw [if_pos h128])
  rw [hw]
  have HN := Lib.hid (HA2.out.agree EByte.elem (fun f hf => (below1 w2 (.cells #[Value.int IntKind.u8 (n)] 5)).block f hf) hs2)
  go_wp2_with (at_builtin; refine wpList_appL EByte.elem rfl _ _ 22 rfl (.int .u8 0) 1 Tryz.underlying22 info_Byte2 rfl w.heap.size a1 c1 b [] rfl HN.out (by simp; omega) w2.heap.size 0 1 1 [n] [] rfl rfl ⟨[], [], rfl, ⟨rfl, (Is.new w2 #[Value.int IntKind.u8 (n)] 5).cell 0 rfl, ⟨by omega, by omega⟩⟩, rfl⟩ (by simp) (by omega) (by unfold maxLen; omega) (by omega) ?_; intro ar2 cr2 w3 happ3 hb3)
  go_ret
  exact ⟨ar2, cr2, by rw [HE1.out, List.length_append]; rfl, by rw [HE1.out]; exact happ3, (HB2.out.trans ((below1 w2 _).mono hs2)).trans hb3⟩
 by_cases h2048 : n < 2048
 ·have hw : wideN n = 2 := by rw [HW.out]; rw [if_neg h128, if_pos h2048]
  have HE1 := Lib.hid (show encN n = [192 + n / 64, 128 + n % 64] from by rw [HE.out]; rw [if_neg h128, if_pos h2048])
  rw [hw]
  have HN := Lib.hid (HA2.out.agree EByte.elem (fun f hf => (below1 w2 (.cells #[Value.int IntKind.u8 (192 + n / 64), Value.int IntKind.u8 (128 + n % 64)] 5)).block f hf) hs2)
  go_wp2_with (at_builtin; refine wpList_appL EByte.elem rfl _ _ 22 rfl (.int .u8 0) 1 Tryz.underlying22 info_Byte2 rfl w.heap.size a1 c1 b [] rfl HN.out (by simp; omega) w2.heap.size 0 2 2 [192 + n / 64, 128 + n % 64] [] rfl rfl ⟨[], [], rfl, ⟨rfl, (Is.new w2 #[Value.int IntKind.u8 (192 + n / 64), Value.int IntKind.u8 (128 + n % 64)] 5).cell 0 rfl, ⟨by omega, by omega⟩⟩, ⟨[], [], rfl, ⟨rfl, (Is.new w2 #[Value.int IntKind.u8 (192 + n / 64), Value.int IntKind.u8 (128 + n % 64)] 5).cell 1 rfl, ⟨by omega, by omega⟩⟩, rfl⟩⟩ (by simp) (by omega) (by unfold maxLen; omega) (by omega) ?_; intro ar2 cr2 w3 happ3 hb3)
  go_ret
  exact ⟨ar2, cr2, by rw [HE1.out, List.length_append]; rfl, by rw [HE1.out]; exact happ3, (HB2.out.trans ((below1 w2 _).mono hs2)).trans hb3⟩
 by_cases h65536 : n < 65536
 ·have hw : wideN n = 3 := by rw [HW.out]; rw [if_neg h128, if_neg h2048, if_pos h65536]
  have HE1 := Lib.hid (show encN n = [224 + n / 4096, 128 + n / 64 % 64, 128 + n % 64] from by rw [HE.out]; rw [if_neg h128, if_neg h2048, if_pos h65536])
  rw [hw]
  have HN := Lib.hid (HA2.out.agree EByte.elem (fun f hf => (below1 w2 (.cells #[Value.int IntKind.u8 (224 + n / 4096), Value.int IntKind.u8 (128 + n / 64 % 64), Value.int IntKind.u8 (128 + n % 64)] 5)).block f hf) hs2)
  go_wp2_with (at_builtin; refine wpList_appL EByte.elem rfl _ _ 22 rfl (.int .u8 0) 1 Tryz.underlying22 info_Byte2 rfl w.heap.size a1 c1 b [] rfl HN.out (by simp; omega) w2.heap.size 0 3 3 [224 + n / 4096, 128 + n / 64 % 64, 128 + n % 64] [] rfl rfl ⟨[], [], rfl, ⟨rfl, (Is.new w2 #[Value.int IntKind.u8 (224 + n / 4096), Value.int IntKind.u8 (128 + n / 64 % 64), Value.int IntKind.u8 (128 + n % 64)] 5).cell 0 rfl, ⟨by omega, by omega⟩⟩, ⟨[], [], rfl, ⟨rfl, (Is.new w2 #[Value.int IntKind.u8 (224 + n / 4096), Value.int IntKind.u8 (128 + n / 64 % 64), Value.int IntKind.u8 (128 + n % 64)] 5).cell 1 rfl, ⟨by omega, by omega⟩⟩, ⟨[], [], rfl, ⟨rfl, (Is.new w2 #[Value.int IntKind.u8 (224 + n / 4096), Value.int IntKind.u8 (128 + n / 64 % 64), Value.int IntKind.u8 (128 + n % 64)] 5).cell 2 rfl, ⟨by omega, by omega⟩⟩, rfl⟩⟩⟩ (by simp) (by omega) (by unfold maxLen; omega) (by omega) ?_; intro ar2 cr2 w3 happ3 hb3)
  go_ret
  exact ⟨ar2, cr2, by rw [HE1.out, List.length_append]; rfl, by rw [HE1.out]; exact happ3, (HB2.out.trans ((below1 w2 _).mono hs2)).trans hb3⟩
 ·have hw : wideN n = 4 := by rw [HW.out]; rw [if_neg h128, if_neg h2048, if_neg h65536]
  have HE1 := Lib.hid (show encN n = [240 + n / 262144, 128 + n / 4096 % 64, 128 + n / 64 % 64, 128 + n % 64] from by rw [HE.out]; rw [if_neg h128, if_neg h2048, if_neg h65536])
  rw [hw]
  have HN := Lib.hid (HA2.out.agree EByte.elem (fun f hf => (below1 w2 (.cells #[Value.int IntKind.u8 (240 + n / 262144), Value.int IntKind.u8 (128 + n / 4096 % 64), Value.int IntKind.u8 (128 + n / 64 % 64), Value.int IntKind.u8 (128 + n % 64)] 5)).block f hf) hs2)
  go_wp2_with (at_builtin; refine wpList_appL EByte.elem rfl _ _ 22 rfl (.int .u8 0) 1 Tryz.underlying22 info_Byte2 rfl w.heap.size a1 c1 b [] rfl HN.out (by simp; omega) w2.heap.size 0 4 4 [240 + n / 262144, 128 + n / 4096 % 64, 128 + n / 64 % 64, 128 + n % 64] [] rfl rfl ⟨[], [], rfl, ⟨rfl, (Is.new w2 #[Value.int IntKind.u8 (240 + n / 262144), Value.int IntKind.u8 (128 + n / 4096 % 64), Value.int IntKind.u8 (128 + n / 64 % 64), Value.int IntKind.u8 (128 + n % 64)] 5).cell 0 rfl, ⟨by omega, by omega⟩⟩, ⟨[], [], rfl, ⟨rfl, (Is.new w2 #[Value.int IntKind.u8 (240 + n / 262144), Value.int IntKind.u8 (128 + n / 4096 % 64), Value.int IntKind.u8 (128 + n / 64 % 64), Value.int IntKind.u8 (128 + n % 64)] 5).cell 1 rfl, ⟨by omega, by omega⟩⟩, ⟨[], [], rfl, ⟨rfl, (Is.new w2 #[Value.int IntKind.u8 (240 + n / 262144), Value.int IntKind.u8 (128 + n / 4096 % 64), Value.int IntKind.u8 (128 + n / 64 % 64), Value.int IntKind.u8 (128 + n % 64)] 5).cell 2 rfl, ⟨by omega, by omega⟩⟩, ⟨[], [], rfl, ⟨rfl, (Is.new w2 #[Value.int IntKind.u8 (240 + n / 262144), Value.int IntKind.u8 (128 + n / 4096 % 64), Value.int IntKind.u8 (128 + n / 64 % 64), Value.int IntKind.u8 (128 + n % 64)] 5).cell 3 rfl, ⟨by omega, by omega⟩⟩, rfl⟩⟩⟩⟩ (by simp) (by omega) (by unfold maxLen; omega) (by omega) ?_; intro ar2 cr2 w3 happ3 hb3)
  go_ret
  exact ⟨ar2, cr2, by rw [HE1.out, List.length_append]; rfl, by rw [HE1.out]; exact happ3, (HB2.out.trans ((below1 w2 _).mono hs2)).trans hb3⟩
section
variable {α : Type} {E : World → Nat → Nat → α → List Nat → Prop} {n : Nat} {e : TypeId}
theorem AppL.lower {w : World} {rlo r' cap : Nat} {a : Option Addr} {l : List α} (h : AppL E n e w rlo a cap l []) (hr : r' ≤ rlo) : AppL E n e w r' a cap l [] := by
 rcases h with h | ⟨g, cur, h0, h1, h2⟩
 ·exact Or.inl h
 ·obtain ⟨h3, h4, h5, h6, h7, _⟩ := h2
  exact Or.inr ⟨g, cur, h0, Nat.le_trans hr h1, h3, h4, h5, h6, h7, by simp⟩
theorem AppL.kp (hE : Elem E n) {w w' : World} {A rlo cap : Nat} {a : Option Addr} {l : List α} {F : List Nat} (h : AppL E n e w rlo a cap l F) (hk : Kp A w w') (hA : A < rlo) (hr : rlo ≤ w.heap.size) (hF : ∀ f ∈ F, f ≠ A) : AppL E n e w' rlo a cap l F := by
 rcases h with h | ⟨g, cur, ha, h1, h3, h4, h5, h6, h7, h8⟩
 ·exact Or.inl h
 ·have hg : g < w.heap.size := (Array.getElem?_eq_some_iff.1 h3).1
  have hgb := hk.heap g (by omega) hg
  exact Or.inr ⟨g, cur, ha, h1, hgb.trans h3, h4, h5, h6, h7.agree hE.loc l (Cells.of_block hgb _ _) (fun f hf => hk.heap f (hF f hf) (by have := h8 f hf; omega)), h8⟩
theorem Kp.grow {A : Nat} {w w1 w2 : World} (h : Kp A w w1) (hb : Below w.heap.size w1 w2) (hA : A ≤ w.heap.size) : Kp A w w2 := ⟨h.1.trans (hb.mono hA), fun f hf hl => (hb.block f hl).trans (h.2 f hf hl)⟩
end
theorem info_Int3 : (Tryz.prog.info? 3).map (fun i => (i.zero, i.size, i.bytes)) = some (some (.int .i64 0), 1, 8) := by kernel_rfl
set_option maxHeartbeats 4000000 in
theorem spec_FromRunes (l : List Int) (a : Option Addr) (cap B : Nat) (w : World) (hr : Rd EInt 1 w B a cap l) (hB : B ≤ w.heap.size) (hok : ∀ x ∈ l, runeOk x) (hl : l.length ≤ 1000) :
  Calls Tryz.prog 234 #[.slice a l.length cap] w fun e w' => ∃ s : ByteArray, Lib.validD s.data.toList = true ∧ e = .returned (.string s) ∧ s.size ≤ 4 * l.length ∧ Below w.heap.size w w' := by
 obtain ⟨hlc, hcap⟩ := hr.len
 have HR := Lib.hid hr; clear hr
 have HO := Lib.hid hok; clear hok
 have h0 := AppL.empty (E := EByte) (n := 1) (e := 5) w w.heap.size (Nat.le_refl _)
 go_enter Tryz.func234, Tryz.ntmps234
 go_wp2_with fail
 go_loopw [3, 4] (fun q i wr => ∃ (j : Nat) (bs : List Int) (ar : Option Addr) (cr : Nat), j ≤ l.length ∧ i = .int .i64 j ∧ q = .slice ar bs.length cr ∧ bs = (l.take j).flatMap encN ∧ bs.length ≤ 4 * j ∧ AppL EByte 1 5 wr w.heap.size ar cr bs [] ∧ Below w.heap.size w wr) (fun _ i _ => l.length - (intOf i).toNat)
 case atStart => exact ⟨0, [], _, _, Nat.zero_le _, rfl, rfl, by simp, by simp, h0, below1 _ _⟩
 case round =>
  obtain ⟨j, bs, ar, cr, hj, rfl, rfl, hbe, hbl, happ, hb⟩ := hrel
  have HBE := Lib.hid hbe; clear hbe
  have hbs := hb.size
  have HA := Lib.hid happ; clear happ
  by_cases hlt : j < l.length
  ·have hltz : (j : Int) < (l.length : Int) := by omega
   obtain ⟨b, o, rfl, hbl2, hcell, hx0, hx1⟩ := (HR.out.below EInt.loc hb hB).int j hlt
   have hlb : b < wr.heap.size := by omega
   have hro := HO.out l[j] (List.getElem_mem hlt)
   have HBN := Lib.hid (show bs ++ encN l[j] = (l.take (j + 1)).flatMap encN from by rw [take_snoc l j hlt, List.flatMap_append, ← HBE.out]; simp)
   generalize l[j] = x at *
   go_wp2_with fail
   refine (spec_PutRune bs x ar cr wr.heap.size wr (HA.out.rd hbs) hro (by omega) (Nat.le_refl _)).mono ?_
   rintro e w2 ⟨a', cap', rfl, happ2, hb2⟩
   have hen := (encN_len x).2
   have hln : (bs ++ encN x).length ≤ 4 * (j + 1) := by rw [List.length_append]; omega
   generalize bs ++ encN x = bs2 at *
   go_wp2_with fail
   go_roundw
   case rel => exact ⟨j + 1, bs2, a', cap', by omega, by go_num, rfl, HBN.out, hln, happ2.lower hbs, hb.trans (hb2.mono hbs)⟩
   case measure => simp [intOf]; omega
  ·have hltz : ¬ (j : Int) < (l.length : Int) := by omega
   have hcv := conv_bytes wr w.heap.size ar cr _ [] HA.out
   have hsz := strOfNums_size bs
   have HV := Lib.hid (show Lib.validD (strOfNums bs).data.toList = true from by rw [HBE.out]; exact valid_runes _ (fun x hx => HO.out x (List.mem_of_mem_take hx)))
   generalize strOfNums bs = O at *
   go_wp2_with fail
   go_ret
   exact ⟨O, HV.out, rfl, by omega, hb⟩
set_option maxHeartbeats 4000000 in
theorem spec_l2Rune (A : Nat) (w : World) (hc : Cur w A) : Calls Tryz.prog 233 #[.pointer (some ⟨A, 0, none⟩)] w fun e w' => ∃ n, I64 n ∧ runeOk n ∧ e = .returned (.int .i64 n) ∧ Cur w' A ∧ Kp A w w' := by
 have HC := Lib.hid hc; clear hc
 go_enter Tryz.func233, Tryz.ntmps233
 go_wp2_with fail
 refine (spec_l1IntL A [0, 97, 98, 34, 92, 10, 127, 128, 233, 2047, 2048, 8364, 55295, 57344, 65535, 65536, 128512, 1114111] _ w HC.out (by decide) (by decide) (by decide)).mono ?_
 rintro e w3 ⟨y, hm, hy, rfl, hc3, hk3⟩
 have hro : runeOk y := by
  revert y
  unfold runeOk
  decide
 go_wp2_with fail
 go_ret
 exact ⟨y, hy, hro, rfl, hc3, hk3⟩
set_option maxHeartbeats 8000000 in
theorem spec_l2Text (A : Nat) (w : World) (hc : Cur w A) : Calls Tryz.prog 181 #[.pointer (some ⟨A, 0, none⟩)] w fun e w' => ∃ s : ByteArray, Lib.validD s.data.toList = true ∧ s.size ≤ 12 ∧ e = .returned (.string s) ∧ Cur w' A ∧ Kp A w w' := by
 have HC := Lib.hid hc
 have hlA := hc.lt
 clear hc
 go_enter Tryz.func181, Tryz.ntmps181
 go_wp2_with fail
 refine (spec_l1Once A 2 w HC.out ⟨by decide, by decide⟩).mono ?_
 rintro e w2 ⟨b, rfl, hc2, hk2⟩
 have HC2 := Lib.hid hc2; have HK2 := Lib.hid hk2; clear hc2 hk2
 have hs2 := HK2.out.size
 cases b with
 | true =>
  go_wp2_with fail
  refine (spec_l1StrL A [⟨#[]⟩, ⟨#[97]⟩, ⟨#[98]⟩, ⟨#[107, 101, 121]⟩, ⟨#[120, 32, 121]⟩, ⟨#[49]⟩, ⟨#[195, 169]⟩, ⟨#[34]⟩, ⟨#[92]⟩] _ w2 HC2.out (by decide) (by decide)).mono ?_
  rintro e w3 ⟨y, hm, rfl, hc3, hk3⟩
  have hsz : y.size ≤ 12 := by
   simp only [List.mem_cons, List.not_mem_nil, or_false] at hm
   rcases hm with rfl | rfl | rfl | rfl | rfl | rfl | rfl | rfl | rfl <;> decide
  have HV := Lib.hid (show Lib.validD y.data.toList = true from by
   simp only [List.mem_cons, List.not_mem_nil, or_false] at hm
   rcases hm with rfl | rfl | rfl | rfl | rfl | rfl | rfl | rfl | rfl <;> rfl)
  clear hm
  go_wp2_with fail
  go_ret
  exact ⟨y, HV.out, hsz, rfl, hc3, HK2.out.trans hk3⟩
 | false =>
  have HA0 := Lib.hid (AppL.empty (E := EInt) (n := 1) (e := 3) w2 w.heap.size HK2.out.size)
  have hcA := HC2.out.below (below1 w2 (.cells #[] 3)) HC2.out.lt
  have hkA := HK2.out.trans (Kp.alloc (Nat.le_of_lt HC2.out.lt) (.cells #[] 3))
  go_wp2_with fail
  refine (spec_l1Below A 4 _ hcA ⟨by decide, by decide⟩).mono ?_
  rintro e w3 ⟨k, rfl, hk, hk2, hc3, hk3⟩
  have hs3 := hk3.size
  rw [size_alloc] at hs3
  have HA3 := Lib.hid (HA0.out.kp EInt.elem hk3 hlA (by rw [size_alloc]; omega) (by simp))
  have HC3 := Lib.hid hc3; have HK3 := Lib.hid (hkA.trans hk3); clear hc3 hk3 hcA hkA HA0
  have hk4 : k ≤ 3 := by omega
  go_wp2_with fail
  go_loopw [3, 4] (fun q i wr => ∃ (j : Nat) (xs : List Int) (ar : Option Addr) (cr : Nat), i = .int .i64 j ∧ xs.length + j ≤ 3 ∧ (∀ x ∈ xs, runeOk x) ∧ q = .slice ar xs.length cr ∧ AppL EInt 1 3 wr w.heap.size ar cr xs [] ∧ Cur wr A ∧ Kp A w wr) (fun _ i _ => (intOf i).toNat)
  case atStart => exact ⟨k, [], _, _, rfl, by simpa using hk4, by simp, rfl, HA3.out, HC3.out, HK3.out⟩
  case round =>
   obtain ⟨j, xs, ar, cr, rfl, hj, hx, rfl, happ, hcr, hkr⟩ := hrel
   have HA := Lib.hid happ; have HC4 := Lib.hid hcr; have HK4 := Lib.hid hkr; have HX := Lib.hid hx; clear happ hcr hkr hx
   have hs4 := HK4.out.size
   by_cases hj0 : 0 < j
   ·have hjz : (0 : Int) < (j : Int) := by omega
    go_wp2_with fail
    refine (spec_l2Rune A wr HC4.out).mono ?_
    rintro e w5 ⟨n, hn, hro, rfl, hc5, hk5⟩
    have hs5 := hk5.size
    have HA5 := Lib.hid (HA.out.kp EInt.elem hk5 hlA hs4 (by simp))
    have HC5 := Lib.hid hc5; have HK5 := Lib.hid (HK4.out.trans hk5); clear hc5 hk5
    have HN5 := Lib.hid (HA5.out.agree EInt.elem (fun f hf => (below1 w5 (.cells #[Value.int .i64 n] 3)).block f hf) (by omega))
    have HC6 := Lib.hid (HC5.out.below (below1 w5 (.cells #[Value.int .i64 n] 3)) HC5.out.lt)
    have HK6 := Lib.hid (HK5.out.trans (Kp.alloc (Nat.le_of_lt HC5.out.lt) (.cells #[Value.int .i64 n] 3)))
    go_wp2_with (at_builtin; refine wpList_appL EInt.elem rfl _ _ 71 rfl (.int .i64 0) 8 Tryz.underlying71 info_Int3 rfl w.heap.size ar cr xs [] rfl HN5.out (by simp; omega) w5.heap.size 0 1 1 [n] [] rfl rfl ⟨[], [], rfl, ⟨rfl, (Is.new w5 #[Value.int .i64 n] 3).cell 0 rfl, hn⟩, rfl⟩ (by simp) (by omega) (by unfold maxLen; omega) (by omega) ?_; intro ar2 cr2 w6 happ6 hb6)
    go_roundw
    case rel =>
     refine ⟨j - 1, xs ++ [n], ar2, cr2, by go_num, by rw [List.length_append]; simp; omega, fun x hx => ?_, by rw [List.length_append]; rfl, happ6, HC6.out.below hb6 hlA, Kp.grow HK6.out hb6 (Nat.le_of_lt hlA)⟩
     rcases List.mem_append.1 hx with hx | hx
     ·exact HX.out x hx
     ·rw [List.mem_singleton.1 hx]; exact hro
    case measure => simp [intOf]; omega
   ·have hjz : ¬ (0 : Int) < (j : Int) := by omega
    go_wp2_with fail
    refine (spec_FromRunes xs ar cr wr.heap.size wr (HA.out.rd hs4) (Nat.le_refl _) HX.out (by omega)).mono ?_
    rintro e w5 ⟨s, hv, rfl, hs, hb5⟩
    have HV := Lib.hid hv; clear hv
    go_wp2_with fail
    go_ret
    exact ⟨s, HV.out, by omega, rfl, HC4.out.below hb5 HC4.out.lt, HK4.out.trans (Kp.of_below hb5 (Nat.le_refl _) (Nat.le_of_lt HC4.out.lt))⟩
set_option maxHeartbeats 8000000 in
theorem spec_l1Bytes (A n : Nat) (w : World) (hc : Cur w A) (hn : n ≤ 1000) : Calls Tryz.prog 182 #[.pointer (some ⟨A, 0, none⟩), .int .i64 n] w fun e w' => ∃ (bs : List Int) (a : Option Addr) (cap : Nat), bs.length = n ∧ e = .returned (.slice a bs.length cap) ∧ AppL EByte 1 5 w' w.heap.size a cap bs [] ∧ Cur w' A ∧ Kp A w w' := by
 have HC := Lib.hid hc
 have hlA := hc.lt
 have HA0 := Lib.hid (AppL.empty (E := EByte) (n := 1) (e := 5) w w.heap.size (Nat.le_refl _))
 have HC2 := Lib.hid (hc.below (below1 w (.cells #[] 5)) hc.lt)
 have HK2 := Lib.hid (Kp.alloc (w := w) (Nat.le_of_lt hc.lt) (.cells #[] 5))
 clear hc
 go_enter Tryz.func182, Tryz.ntmps182
 go_wp2_with fail
 go_loopw [5, 6] (fun q i wr => ∃ (xs : List Int) (ar : Option Addr) (cr : Nat), i = .int .i64 xs.length ∧ xs.length ≤ n ∧ q = .slice ar xs.length cr ∧ AppL EByte 1 5 wr w.heap.size ar cr xs [] ∧ Cur wr A ∧ Kp A w wr) (fun _ i _ => n - (intOf i).toNat)
 case atStart => exact ⟨[], _, _, rfl, Nat.zero_le _, rfl, HA0.out, HC2.out, HK2.out⟩
 case round =>
  obtain ⟨xs, ar, cr, rfl, hjn, rfl, happ, hcr, hkr⟩ := hrel
  have HA := Lib.hid happ; have HC4 := Lib.hid hcr; have HK4 := Lib.hid hkr; clear happ hcr hkr
  have hs4 := HK4.out.size
  by_cases hj0 : xs.length < n
  ·have hjz : (xs.length : Int) < (n : Int) := by omega
   go_wp2_with fail
   refine (spec_l1Byte A wr HC4.out).mono ?_
   rintro e w5 ⟨x, rfl, hx, hc5, hk5⟩
   have hs5 := hk5.size
   have HA5 := Lib.hid (HA.out.kp EByte.elem hk5 hlA hs4 (by simp))
   have HC5 := Lib.hid hc5; have HK5 := Lib.hid (HK4.out.trans hk5); clear hc5 hk5
   have hwu : IntKind.u8.wrap (x : Int) = x := by rw [IntKind.wrap_u8]; omega
   have HN5 := Lib.hid (HA5.out.agree EByte.elem (fun f hf => (below1 w5 (.cells #[Value.int .u8 x] 5)).block f hf) (by omega))
   have HC6 := Lib.hid (HC5.out.below (below1 w5 (.cells #[Value.int .u8 x] 5)) HC5.out.lt)
   have HK6 := Lib.hid (HK5.out.trans (Kp.alloc (Nat.le_of_lt HC5.out.lt) (.cells #[Value.int .u8 x] 5)))
   go_wp2_with (at_builtin; refine wpList_appL EByte.elem rfl _ _ 22 rfl (.int .u8 0) 1 Tryz.underlying22 info_Byte2 rfl w.heap.size ar cr xs [] rfl HN5.out (by simp; omega) w5.heap.size 0 1 1 [(x : Int)] [] rfl rfl ⟨[], [], rfl, ⟨rfl, (Is.new w5 #[Value.int .u8 x] 5).cell 0 rfl, ⟨by omega, by omega⟩⟩, rfl⟩ (by simp) (by omega) (by unfold maxLen; omega) (by omega) ?_; intro ar2 cr2 w6 happ6 hb6)
   go_roundw
   case rel => exact ⟨xs ++ [(x : Int)], ar2, cr2, by rw [List.length_append]; go_num, by rw [List.length_append]; simp; omega, by rw [List.length_append]; rfl, happ6, HC6.out.below hb6 hlA, Kp.grow HK6.out hb6 (Nat.le_of_lt hlA)⟩
   case measure => simp [intOf]; omega
  ·have hjz : ¬ (xs.length : Int) < (n : Int) := by omega
   go_wp2_with fail
   go_ret
   exact ⟨xs, by omega, ar, cr, rfl, HA.out, HC4.out, HK4.out⟩
theorem wf_mk {k n x : Int} {s : ByteArray} {l : List T} (h1 : I64 k) (h2 : I64 n) (h3 : I64 x) (h4 : s.size ≤ 1000000) : Wf (.mk k n x s l) := ⟨h1, h2, h3, by show s.size ≤ maxLen; unfold maxLen; omega⟩
set_option maxHeartbeats 8000000 in
theorem spec_l6Name (A : Nat) (w : World) (hc : Cur w A) : Calls Tryz.prog 183 #[.pointer (some ⟨A, 0, none⟩)] w fun e w' => ∃ t : T, e = .returned (.agg (cV t none 0)) ∧ t.l = [] ∧ namQ t ∧ Wf t ∧ t.s.size ≤ 3 ∧ Cur w' A ∧ Kp A w w' := by
 have hlA := hc.lt
 have HC0 := Lib.hid (hc.below (below1 w (.cells zV 26)) hlA)
 have HK0 := Lib.hid (Kp.alloc (w := w) (Nat.le_of_lt hlA) (.cells zV 26))
 have HI0 := Lib.hid (Is.new w zV 26)
 clear hc
 go_enter Tryz.func183, Tryz.ntmps183
 go_wp2_with fail
 refine (spec_l1Once A 6 _ HC0.out ⟨by decide, by decide⟩).mono ?_
 rintro e w2 ⟨b, rfl, hc2, hk2⟩
 have HC2 := Lib.hid hc2; have HI2 := Lib.hid (hk2.is HI0.out (by omega)); have HK2 := Lib.hid (HK0.out.trans hk2); clear hc2 hk2 HI0 HK0 HC0
 cases b with
 | true =>
  go_wp2_with fail
  refine (spec_l1Below A 4 w2 HC2.out ⟨by decide, by decide⟩).mono ?_
  rintro e w3 ⟨x, rfl, hx, hx2, hc3, hk3⟩
  have HC3 := Lib.hid hc3; have HI3 := Lib.hid (hk3.is HI2.out (by omega)); have HK3 := Lib.hid (HK2.out.trans hk3); clear hc3 hk3
  go_wp2_with fail
  refine (spec_IntVal (x : Int) w3).mono ?_
  rintro e w4 ⟨rfl, hb4⟩
  have HC4 := Lib.hid (HC3.out.below hb4 HC3.out.lt)
  have HI4 := Lib.hid (HI3.out.below hb4 HI3.out.lt)
  have HK4 := Lib.hid (HK3.out.trans (Kp.of_below hb4 (Nat.le_refl _) (Nat.le_of_lt HC3.out.lt)))
  have ff := fun i => HI4.out.frozen i; have lg := HI4.out.lt; obtain ⟨z0, z1, z2, z3, z4⟩ := HI4.out.cells5
  go_wp2_with fail
  obtain ⟨e0, e1, e2, e3, e4, hcf, hkf, _, _⟩ := fin5 (.int .i64 3) (.int .i64 (x : Int)) (.int .i64 0) (.string ⟨#[]⟩) (.slice none 0 0) HI4.out.blk HK4.out (Nat.le_refl _) HC4.out hlA
  refine bodyPost_ret (v := .agg #[.int .i64 3, .int .i64 (x : Int), .int .i64 0, .string ⟨#[]⟩, .slice none 0 0]) (by simp [results, Tryz.results183, go_sem, e0, e1, e2, e3, e4]) rfl ⟨.mk 3 x 0 ⟨#[]⟩ [], rfl, rfl, ⟨rfl, rfl, Or.inl ⟨rfl, by show (0 : Int) ≤ x; omega, by show (x : Int) ≤ 3; omega, rfl⟩⟩, wf_mk ⟨by decide, by decide⟩ ⟨by omega, by omega⟩ ⟨by decide, by decide⟩ (by decide), Nat.zero_le _, hcf, hkf⟩
 | false =>
  go_wp2_with fail
  refine (spec_l1StrL A [⟨#[97]⟩, ⟨#[98]⟩, ⟨#[99]⟩, ⟨#[]⟩, ⟨#[107, 101, 121]⟩, ⟨#[195, 169]⟩] _ w2 HC2.out (by decide) (by decide)).mono ?_
  rintro e w3 ⟨y, hm, rfl, hc3, hk3⟩
  have hsz : y.size ≤ 3 := by
   simp only [List.mem_cons, List.not_mem_nil, or_false] at hm
   rcases hm with rfl | rfl | rfl | rfl | rfl | rfl <;> decide
  have HM := Lib.hid hm
  have HC3 := Lib.hid hc3; have HI3 := Lib.hid (hk3.is HI2.out (by omega)); have HK3 := Lib.hid (HK2.out.trans hk3); clear hc3 hk3 hm
  go_wp2_with fail
  refine (spec_TextVal y w3).mono ?_
  rintro e w4 ⟨rfl, hb4⟩
  have HC4 := Lib.hid (HC3.out.below hb4 HC3.out.lt)
  have HI4 := Lib.hid (HI3.out.below hb4 HI3.out.lt)
  have HK4 := Lib.hid (HK3.out.trans (Kp.of_below hb4 (Nat.le_refl _) (Nat.le_of_lt HC3.out.lt)))
  have ff := fun i => HI4.out.frozen i; have lg := HI4.out.lt; obtain ⟨z0, z1, z2, z3, z4⟩ := HI4.out.cells5
  go_wp2_with fail
  obtain ⟨e0, e1, e2, e3, e4, hcf, hkf, _, _⟩ := fin5 (.int .i64 7) (.int .i64 0) (.int .i64 0) (.string y) (.slice none 0 0) HI4.out.blk HK4.out (Nat.le_refl _) HC4.out hlA
  refine bodyPost_ret (v := .agg #[.int .i64 7, .int .i64 0, .int .i64 0, .string y, .slice none 0 0]) (by simp [results, Tryz.results183, go_sem, e0, e1, e2, e3, e4]) rfl ⟨.mk 7 0 0 y [], rfl, rfl, ⟨rfl, rfl, Or.inr ⟨rfl, rfl, HM.out⟩⟩, wf_mk ⟨by decide, by decide⟩ ⟨by decide, by decide⟩ ⟨by decide, by decide⟩ (by omega), hsz, hcf, hkf⟩
end Go.Proofs.YtggdenkmohnijaaGreatDoor
