/- Texts of this proof, merged: MarkM, PackK, PackI, FitsT, TightP, Less, Tig1. No condition beyond what each theorem states. -/
import Derived.Test.YtggdenkmohnijaaGreatDoorZH14
set_option linter.unusedSimpArgs false
set_option linter.unnecessarySimpa false
namespace Go.Proofs.YtggdenkmohnijaaGreatDoor
open Go.ChangeShapes Go.WideShapes Go.ChangeAt Go.RowKit Go.Joins
set_option linter.unusedVariables false
set_option maxRecDepth 100000
set_option maxHeartbeats 8000000 in
theorem impl_PutMark (b : List Int) (k n : Int) (a : Option Addr) (cap B : Nat) (w : World) (hr : Rd EByte 1 w B a cap b) (hn : I64 n) (hz : b.length ≤ 1000000000) (hB : B ≤ w.heap.size) :
  Calls Tryz.prog 216 #[.slice a b.length cap, .agg (cM k n)] w fun e w' => ∃ a' cap', e = .returned (.slice a' (b ++ markL k n).length cap') ∧ AppL EByte 1 5 w' w.heap.size a' cap' (b ++ markL k n) [] ∧ Below w.heap.size w w' := by
 have q0 := Is.new w (cM k n) 87
 have hb0 := below1 w (.cells (cM k n) 87)
 obtain ⟨a1, c1, w1, hrun, happ, hb1⟩ := copyB (w.alloc (.cells (cM k n) 87)) b a cap B (hr.below EByte.loc hb0 hB) (by simp; omega) (by omega)
 have lg : w.heap.size < (w.alloc (.cells (cM k n) 87)).heap.size := by simp
 have q1 := q0.below hb1 lg
 have HA1 : Hid (AppL EByte 1 5 w1 (w.heap.size + 1) a1 c1 b []) := Lib.hid (by rw [size_alloc] at happ; exact happ)
 have HB1 := Lib.hid (hb0.trans (hb1.mono (by omega)))
 have hs1 := HB1.out.size
 obtain ⟨c10, c11⟩ := q1.cells2
 have lg1 : w.heap.size < w1.heap.size := q1.lt
 have Q1 := Lib.hid q1
 obtain ⟨bb, hbb⟩ : ∃ r, markOkD k n = r := ⟨_, rfl⟩
 have HBB := Lib.hid hbb
 have HN := Lib.hid hn
 have HMK := Lib.hid (show markL k n = if markOkD k n = false then [] else if k = 1 then [192] else if k = 2 then [194 + n] else if k = 3 then putIntL n else if k = 4 then 202 :: bigL n 4 else if k = 5 then [212, 1, n] else if k = 7 then putManyL n 32 160 217 218 else if k = 8 then putManyL n 0 0 196 197 else if k = 9 then putManyL n 16 144 0 220 else putManyL n 16 128 0 222 from rfl)
 have HOK := Lib.hid (show markOkD k n = if k = 1 then decide (n = 0) else if k = 2 then decide (0 ≤ n ∧ n ≤ 1) else if k = 3 then decide (-1000000000000000 ≤ n ∧ n ≤ 1000000000000000) else if k = 4 then ((bitsFltD n).2 && decide (fltBitsD (bitsFltD n).1.1 (bitsFltD n).1.2 = n)) else if k = 5 then decide (0 ≤ n ∧ n ≤ 2) else if k = 7 ∨ k = 8 ∨ k = 9 ∨ k = 10 then decide (0 ≤ n ∧ n ≤ 65535) else false from rfl)
 rw [hbb] at HMK HOK
 clear hbb happ hb1 hb0 q0 q1 hr hn lg
 go_enter Tryz.func216, Tryz.ntmps216
 rw [size_alloc] at hrun
 go_upto_region 2 with (at_builtin; refine Lib.wpList_append_run _ rfl _ _ _ _ rfl _ _ rfl rfl _ _ hrun ?_)
 clear hrun
 go_wp2_with fail
 refine (impl_MarkOk k n w1 HN.out).mono ?_
 rintro ee w2 ⟨rfl, hb2⟩
 rw [HBB.out]
 have q2 := Q1.out.below hb2 lg1
 obtain ⟨d0, d1⟩ := q2.cells2
 have lg2 : w.heap.size < w2.heap.size := q2.lt
 have HA2 := Lib.hid (HA1.out.agree EByte.elem (fun f hf => hb2.block f hf) (by omega))
 have HB2 := Lib.hid (HB1.out.trans (hb2.mono hs1))
 have hs2 := HB2.out.size
 have hlo2 : w.heap.size + 1 ≤ w2.heap.size := by omega
 have Q2 := Lib.hid q2
 clear c10 c11 hb2 q2
 cases bb with
 | false =>
  have HE := Lib.hid (show b ++ markL k n = b from by rw [HMK.out, if_pos rfl, List.append_nil])
  go_wp2_with fail
  go_ret
  exact ⟨a1, c1, by rw [HE.out]; rfl, by rw [HE.out]; exact HA2.out.less (by omega), HB2.out⟩
 | true =>
  rw [if_neg (by simp)] at HMK
  by_cases h1 : k = 1
  ·subst h1
   have HE := Lib.hid (show markL 1 n = [192] from by rw [HMK.out, if_pos rfl])
   have HU : Hid (∀ v ∈ [(192 : Int)], U8 v) := Lib.hid (by intro v hv; simp only [List.mem_cons, List.not_mem_nil, or_false] at hv; subst hv; (unfold U8; omega))
   go_wp2_with (at_builtin; refine wpList_bytes rfl _ _ 22 rfl Tryz.underlying22 info_Byte2 (w.heap.size + 1) a1 _ c1 b rfl rfl HA2.out hlo2 [192] _ 1 1 rfl (by rfl) rfl (by first | rfl | simp []) HU.out (by simp) (by simp; omega) ?_; intro a5 c5 w5 happ5 hb5)
   go_ret
   exact ⟨a5, c5, ret_sl (by rw [HE.out]; first | done | rfl | (simp [bigL_len]; done) | (simp [bigL_len]; omega)), by rw [HE.out]; exact happ5.less (by omega), HB2.out.trans (hb5.mono (by omega))⟩
  by_cases h2 : k = 2
  ·subst h2
   have HE := Lib.hid (show markL 2 n = [194 + n] from by rw [HMK.out, if_neg (by omega), if_pos rfl])
   have hn2 : 0 ≤ n ∧ n ≤ 1 := by have h := HOK.out; rw [if_neg (by omega), if_pos rfl] at h; exact of_decide_eq_true h.symm
   obtain ⟨hn3, hn4⟩ := hn2
   have hwu : IntKind.u8.wrap (194 + n) = 194 + n := by rw [IntKind.wrap_u8]; omega
   have HU : Hid (∀ v ∈ [(194 + n : Int)], U8 v) := Lib.hid (by intro v hv; simp only [List.mem_cons, List.not_mem_nil, or_false] at hv; subst hv; (unfold U8; omega))
   go_wp2_with (at_builtin; refine wpList_bytes rfl _ _ 22 rfl Tryz.underlying22 info_Byte2 (w.heap.size + 1) a1 _ c1 b rfl rfl HA2.out hlo2 [194 + n] _ 1 1 rfl (by rfl) rfl (by first | rfl | simp [hwu]) HU.out (by simp) (by simp; omega) ?_; intro a5 c5 w5 happ5 hb5)
   go_ret
   exact ⟨a5, c5, ret_sl (by rw [HE.out]; first | done | rfl | (simp [bigL_len]; done) | (simp [bigL_len]; omega)), by rw [HE.out]; exact happ5.less (by omega), HB2.out.trans (hb5.mono (by omega))⟩
  by_cases h3 : k = 3
  ·subst h3
   have HE := Lib.hid (show markL 3 n = putIntL n from by rw [HMK.out, if_neg (by omega), if_neg (by omega), if_pos rfl])
   go_wp2_with fail
   refine (impl_putInt b n a1 c1 (w.heap.size + 1) w2 HA2.out hlo2 (by omega) HN.out).mono ?_
   rintro e w5 ⟨a5, c5, rfl, happ5, hb5⟩
   go_wp2_with fail
   go_ret
   exact ⟨a5, c5, ret_sl (by rw [HE.out]; first | done | rfl | (simp [bigL_len]; done) | (simp [bigL_len]; omega)), by rw [HE.out]; exact happ5.less (by omega), HB2.out.trans (hb5.mono (by omega))⟩
  by_cases h4 : k = 4
  ·subst h4
   have HE := Lib.hid (show markL 4 n = 202 :: bigL n 4 from by rw [HMK.out, if_neg (by omega), if_neg (by omega), if_neg (by omega), if_pos rfl])
   have HU : Hid (∀ v ∈ [(202 : Int)], U8 v) := Lib.hid (by intro v hv; simp only [List.mem_cons, List.not_mem_nil, or_false] at hv; subst hv; (unfold U8; omega))
   have hfn : 0 ≤ n ∧ n ≤ 33554431 := by
    have h := HOK.out
    rw [if_neg (by omega), if_neg (by omega), if_neg (by omega), if_pos rfl] at h
    have h2 := h.symm
    simp only [Bool.and_eq_true, decide_eq_true_eq] at h2
    have h3 := fltBitsD_in (bitsFltD n).1.1 (bitsFltD n).1.2
    have h4 : fltBitsD (bitsFltD n).1.1 (bitsFltD n).1.2 ≠ -1 := by
     intro h5
     have h6 := h2.2
     rw [h5] at h6
     have h7 : bitsFltD n = ((0, 0), false) := if_neg (by omega)
     rw [h7] at h2
     exact absurd h2.1 (by simp)
    omega
   obtain ⟨hf0, hf1⟩ := hfn
   go_wp2_with fail
   refine tkW (w.heap.size + 1) w2 (fun hHeld => ?_)
   refine tkS 0 37 rfl ?_
   refine tkS 3 40 rfl ?_
   refine tkS 4 41 rfl ?_
   refine tkA 1 38 rfl (fun K hK => ?_)
   go_simp; go_wp2_with fail; refine tkK hK (fun hHeld => ?_) (hS := (kpA (by assumption))); clear hK K
   refine tkA 2 39 rfl (fun K hK => ?_)
   focus ((first | (go_at_call 238; refine (impl_PutBigL _ (b ++ [202]) n 4 a4 c4 w4.heap.size _ (by simp) (HR4.out) (by unfold fitW; omega) (by omega) (by simp; omega) (by first | exact Nat.le_refl _ | (simp only [World.size_drew]; exact Nat.le_refl _))).mono ?_; rintro e w6 ⟨a6, c6, rfl, happ6, hb6⟩) | (refine step_appLX EByte.elem rfl _ _ 22 rfl (.int .u8 0) 1 Tryz.underlying22 info_Byte2 rfl (w.heap.size + 1) a1 c1 b [] rfl (by first | exact HA2.out.agree EByte.elem (fun f hf => (below1 _ _).block f hf) hlo2) (by have := (‹_ ∧ Below (w.heap.size + 1) w2 _›).2.size; first | omega | (simp only [World.size_drew, size_alloc] at this ⊢; omega)) _ 0 1 1 [202] [] rfl rfl ⟨[], [], rfl, ⟨rfl, (Is.new _ _ _).cell 0 rfl, HU.out _ (by simp)⟩, rfl⟩ (by simp) (by omega) (by unfold maxLen; omega) (by omega) ?_; intro a4 c4 w4 happ4 hb4 hout4; have HR4 := Lib.hid (happ4.rd (show w.heap.size + 1 ≤ _ by have := hb4.size; first | omega | (simp only [World.size_drew, size_alloc] at this; omega))); have HB4 := Lib.hid (show Below (w.heap.size + 1) w2 w4 from by first | exact ((below1 w2 _).mono (by omega)).trans hb4 | exact (((below1 w2 (.cells #[.int .u8 202] 5)).mono (by omega)).drew).trans hb4))); refine tkK hK (fun hHeld => ?_); clear hK K)
   refine tkA 5 42 rfl (fun K hK => ?_)
   focus (go_simp; (first | (go_at_call 238; refine (impl_PutBigL _ (b ++ [202]) n 4 a4 c4 w4.heap.size _ (by simp) (HR4.out) (by unfold fitW; omega) (by omega) (by simp; omega) (by first | exact Nat.le_refl _ | (simp only [World.size_drew]; exact Nat.le_refl _))).mono ?_; rintro e w6 ⟨a6, c6, rfl, happ6, hb6⟩) | (refine step_appLX EByte.elem rfl _ _ 22 rfl (.int .u8 0) 1 Tryz.underlying22 info_Byte2 rfl (w.heap.size + 1) a1 c1 b [] rfl (by first | exact HA2.out.agree EByte.elem (fun f hf => (below1 _ _).block f hf) hlo2) (by have := (‹_ ∧ Below (w.heap.size + 1) w2 _›).2.size; first | omega | (simp only [World.size_drew, size_alloc] at this ⊢; omega)) _ 0 1 1 [202] [] rfl rfl ⟨[], [], rfl, ⟨rfl, (Is.new _ _ _).cell 0 rfl, HU.out _ (by simp)⟩, rfl⟩ (by simp) (by omega) (by unfold maxLen; omega) (by omega) ?_; intro a4 c4 w4 happ4 hb4 hout4; have HR4 := Lib.hid (happ4.rd (show w.heap.size + 1 ≤ _ by have := hb4.size; first | omega | (simp only [World.size_drew, size_alloc] at this; omega))); have HB4 := Lib.hid (show Below (w.heap.size + 1) w2 w4 from by first | exact ((below1 w2 _).mono (by omega)).trans hb4 | exact (((below1 w2 (.cells #[.int .u8 202] 5)).mono (by omega)).drew).trans hb4))); go_wp2_with fail; refine tkK hK (fun hHeld => ?_); clear hK K)
   refine tkS 6 4 rfl ?_
   refine tkE ?_
   have hs4 := HB4.out.size
   go_wp2_with fail
   go_ret
   exact ⟨a6, c6, ret_sl (by rw [HE.out]; first | done | rfl | (simp [bigL_len]; done) | (simp [bigL_len]; omega)), by rw [HE.out, show b ++ 202 :: bigL n 4 = (b ++ [202]) ++ bigL n (4 : Int).toNat from by rw [List.append_assoc]; rfl]; exact happ6.less (by omega), HB2.out.trans ((HB4.out.trans (hb6.mono (by omega))).mono (by omega))⟩
  by_cases h5 : k = 5
  ·subst h5
   have HE := Lib.hid (show markL 5 n = [212, 1, n] from by rw [HMK.out, if_neg (by omega), if_neg (by omega), if_neg (by omega), if_neg (by omega), if_pos rfl])
   have hn2 : 0 ≤ n ∧ n ≤ 2 := by have h := HOK.out; rw [if_neg (by omega), if_neg (by omega), if_neg (by omega), if_neg (by omega), if_pos rfl] at h; exact of_decide_eq_true h.symm
   obtain ⟨hn3, hn4⟩ := hn2
   have hwu : IntKind.u8.wrap n = n := by rw [IntKind.wrap_u8]; omega
   have HU : Hid (∀ v ∈ [(212 : Int), 1, n], U8 v) := Lib.hid (by intro v hv; simp only [List.mem_cons, List.not_mem_nil, or_false] at hv; rcases hv with rfl | rfl | rfl <;> (unfold U8; omega))
   go_wp2_with (at_builtin; refine wpList_bytes rfl _ _ 22 rfl Tryz.underlying22 info_Byte2 (w.heap.size + 1) a1 _ c1 b rfl rfl HA2.out hlo2 [212, 1, n] _ 3 3 rfl (by rfl) rfl (by first | rfl | simp [hwu]) HU.out (by simp) (by simp; omega) ?_; intro a5 c5 w5 happ5 hb5)
   go_ret
   exact ⟨a5, c5, ret_sl (by rw [HE.out]; first | done | rfl | (simp [bigL_len]; done) | (simp [bigL_len]; omega)), by rw [HE.out]; exact happ5.less (by omega), HB2.out.trans (hb5.mono (by omega))⟩
  by_cases h7 : k = 7
  ·subst h7
   have HE := Lib.hid (show markL 7 n = putManyL n 32 160 217 218 from by rw [HMK.out, if_neg (by omega), if_neg (by omega), if_neg (by omega), if_neg (by omega), if_neg (by omega), if_pos rfl])
   have hn2 : 0 ≤ n ∧ n ≤ 65535 := by have h := HOK.out; rw [if_neg (by omega), if_neg (by omega), if_neg (by omega), if_neg (by omega), if_neg (by omega), if_pos (by omega)] at h; exact of_decide_eq_true h.symm
   go_wp2_with fail
   refine (impl_putMany b n 32 160 217 218 a1 c1 (w.heap.size + 1) w2 HA2.out hlo2 (by omega) hn2 (by omega) (by omega) (by omega) (by omega)).mono ?_
   rintro e w5 ⟨a5, c5, rfl, happ5, hb5⟩
   go_wp2_with fail
   go_ret
   exact ⟨a5, c5, ret_sl (by rw [HE.out]; first | done | rfl | (simp [bigL_len]; done) | (simp [bigL_len]; omega)), by rw [HE.out]; exact happ5.less (by omega), HB2.out.trans (hb5.mono (by omega))⟩
  by_cases h8 : k = 8
  ·subst h8
   have HE := Lib.hid (show markL 8 n = putManyL n 0 0 196 197 from by rw [HMK.out, if_neg (by omega), if_neg (by omega), if_neg (by omega), if_neg (by omega), if_neg (by omega), if_neg (by omega), if_pos rfl])
   have hn2 : 0 ≤ n ∧ n ≤ 65535 := by have h := HOK.out; rw [if_neg (by omega), if_neg (by omega), if_neg (by omega), if_neg (by omega), if_neg (by omega), if_pos (by omega)] at h; exact of_decide_eq_true h.symm
   go_wp2_with fail
   refine (impl_putMany b n 0 0 196 197 a1 c1 (w.heap.size + 1) w2 HA2.out hlo2 (by omega) hn2 (by omega) (by omega) (by omega) (by omega)).mono ?_
   rintro e w5 ⟨a5, c5, rfl, happ5, hb5⟩
   go_wp2_with fail
   go_ret
   exact ⟨a5, c5, ret_sl (by rw [HE.out]; first | done | rfl | (simp [bigL_len]; done) | (simp [bigL_len]; omega)), by rw [HE.out]; exact happ5.less (by omega), HB2.out.trans (hb5.mono (by omega))⟩
  by_cases h9 : k = 9
  ·subst h9
   have HE := Lib.hid (show markL 9 n = putManyL n 16 144 0 220 from by rw [HMK.out, if_neg (by omega), if_neg (by omega), if_neg (by omega), if_neg (by omega), if_neg (by omega), if_neg (by omega), if_neg (by omega), if_pos rfl])
   have hn2 : 0 ≤ n ∧ n ≤ 65535 := by have h := HOK.out; rw [if_neg (by omega), if_neg (by omega), if_neg (by omega), if_neg (by omega), if_neg (by omega), if_pos (by omega)] at h; exact of_decide_eq_true h.symm
   go_wp2_with fail
   refine (impl_putMany b n 16 144 0 220 a1 c1 (w.heap.size + 1) w2 HA2.out hlo2 (by omega) hn2 (by omega) (by omega) (by omega) (by omega)).mono ?_
   rintro e w5 ⟨a5, c5, rfl, happ5, hb5⟩
   go_wp2_with fail
   go_ret
   exact ⟨a5, c5, ret_sl (by rw [HE.out]; first | done | rfl | (simp [bigL_len]; done) | (simp [bigL_len]; omega)), by rw [HE.out]; exact happ5.less (by omega), HB2.out.trans (hb5.mono (by omega))⟩
  have h10 : k = 10 := by
   by_cases h10 : k = 10
   ·exact h10
   ·have h := HOK.out
    rw [if_neg h1, if_neg h2, if_neg h3, if_neg h4, if_neg h5, if_neg (by omega)] at h
    cases h
  subst h10
  have HE := Lib.hid (show markL 10 n = putManyL n 16 128 0 222 from by rw [HMK.out, if_neg (by omega), if_neg (by omega), if_neg (by omega), if_neg (by omega), if_neg (by omega), if_neg (by omega), if_neg (by omega), if_neg (by omega)])
  have hn2 : 0 ≤ n ∧ n ≤ 65535 := by have h := HOK.out; rw [if_neg (by omega), if_neg (by omega), if_neg (by omega), if_neg (by omega), if_neg (by omega), if_pos (by omega)] at h; exact of_decide_eq_true h.symm
  go_wp2_with fail
  refine (impl_putMany b n 16 128 0 222 a1 c1 (w.heap.size + 1) w2 HA2.out hlo2 (by omega) hn2 (by omega) (by omega) (by omega) (by omega)).mono ?_
  rintro e w5 ⟨a5, c5, rfl, happ5, hb5⟩
  go_wp2_with fail
  go_ret
  exact ⟨a5, c5, ret_sl (by rw [HE.out]; first | done | rfl | (simp [bigL_len]; done) | (simp [bigL_len]; omega)), by rw [HE.out]; exact happ5.less (by omega), HB2.out.trans (hb5.mono (by omega))⟩
theorem AppL.u8 {e : TypeId} {w : World} {rlo cap : Nat} {a : Option Addr} {l : List Int} (h : AppL EByte 1 e w rlo a cap l []) : ∀ x ∈ l, U8 x := by
 intro x hx
 rcases h with ⟨_, _, rfl, _⟩ | ⟨g, cur, ha, h1, h3, h4, h5, h6, h7, h8⟩
 ·cases hx
 ·obtain ⟨j, hj, rfl⟩ := List.mem_iff_getElem.1 hx
  obtain ⟨F', hv, _⟩ := h7.get j hj
  exact hv.2.2
theorem impl_PutMark0 (k n : Int) (w : World) (hn : I64 n) :
  Calls Tryz.prog 216 #[.slice none 0 0, .agg (cM k n)] w fun e w' => ∃ a' cap', e = .returned (.slice a' (markL k n).length cap') ∧ AppL EByte 1 5 w' w.heap.size a' cap' (markL k n) [] ∧ Below w.heap.size w w' :=
 impl_PutMark [] k n none 0 0 w (Rd.nil _ _) hn (by simp) (Nat.zero_le _)
set_option maxHeartbeats 8000000 in
theorem impl_appendPacked : ∀ t : T, ∀ (b : List Int) (ar : Option Addr) (cr rlo : Nat) (a : Option Addr) (cap B : Nat) (w : World), R w B a cap t.l → Wf t → T.sz t ≤ 1048576 → B ≤ rlo → rlo ≤ w.heap.size → AppL EByte 1 5 w rlo ar cr b [] → b.length + 10 * T.sz t + 10 ≤ 1000000000 →
  Calls Tryz.prog 150 #[.slice ar b.length cr, .agg (cV t a cap)] w fun e w' => ∃ a' cap', e = .returned (.slice a' (b ++ packK t).length cap') ∧ AppL EByte 1 5 w' rlo a' cap' (b ++ packK t) [] ∧ Below rlo w w' := by
 intro t
 induction t using T.ind with
 | h k n x s l ih =>
  intro b ar cr rlo a cap B w hr hwf hsz hBr hrl happ hz
  have hB : B ≤ w.heap.size := by omega
  have IH := Lib.hid ih; clear ih
  have HA := Lib.hid happ
  have HMF := Lib.hid (fun W (h : R W B a cap l) (hb : B ≤ W.heap.size) => impl_MarkFor (.mk k n x s l) a cap B W h hwf hb)
  have HMI := Lib.hid (markForD_i64 (.mk k n x s l) hwf hsz)
  have HPK := Lib.hid (show packK (.mk k n x s l) = if markOkD (markForD (.mk k n x s l)).1 (markForD (.mk k n x s l)).2 = false then [] else markL (markForD (.mk k n x s l)).1 (markForD (.mk k n x s l)).2 ++ (if k = 7 ∨ k = 8 then byteL s else if k = 9 ∨ k = 10 then packKs l else []) from by rw [packK])
  obtain ⟨⟨mk, mn⟩, hmk⟩ : ∃ r, markForD (.mk k n x s l) = r := ⟨_, rfl⟩
  rw [hmk] at HMF HMI HPK
  simp only at HMF HMI HPK
  obtain ⟨bb, hbb⟩ : ∃ r, markOkD mk mn = r := ⟨_, rfl⟩
  have HBB := Lib.hid hbb
  rw [hbb] at HPK
  have hmll := markL_len mk mn
  have hszl : T.szL l ≤ 1048576 := by simp only [T.sz] at hsz; omega
  have hss : s.size ≤ 1048576 := by simp only [T.sz] at hsz; omega
  have hz2 : b.length + 10 + 10 * T.szL l ≤ 1000000000 := by simp only [T.sz] at hz; omega
  have q0 := Is.new w (cV (.mk k n x s l) a cap) 26
  have HB0 := Lib.hid (below1 w (.cells (cV (.mk k n x s l) a cap) 26))
  simp only [cV, T.k, T.n, T.x, T.s, T.l] at hr HMF q0 HB0 ⊢
  obtain ⟨hl1, hl2⟩ := hr.len
  have hl0 := T.length_le_szL l
  have HR := Lib.hid hr
  have lg := q0.lt
  clear hwf hr hbb hmk hsz happ hz
  go_enter Tryz.func150, Tryz.ntmps150
  go_wp2_with fail
  refine (HMF.out _ (HR.out.below HB0.out hB) (by simp; omega)).mono ?_
  rintro e w1 ⟨rfl, hb1⟩
  have HB1 := Lib.hid (below_step HB0.out hb1 (by simp))
  have q1 := q0.below hb1 lg
  have lg1 := q1.lt
  have qm := Is.new w1 (cM mk mn) 87
  have HB2 := Lib.hid (HB1.out.trans ((below1 w1 (.cells (cM mk mn) 87)).mono HB1.out.size))
  have q2 := q1.alloc (.cells (cM mk mn) 87)
  have lgm := qm.lt
  have lg2 := q2.lt
  clear hb1 q0 lg
  go_wp2_with fail
  refine (impl_MarkOk mk mn _ HMI.out).mono ?_
  rintro e w2 ⟨rfl, hb2⟩
  rw [HBB.out]
  have HB3 := Lib.hid (HB2.out.trans (hb2.mono HB2.out.size))
  have q3 := q2.below hb2 lg2
  have qm3 := qm.below hb2 lgm
  obtain ⟨r0, r1, r2, r3, r4⟩ := q3.cells5
  obtain ⟨m0, m1⟩ := qm3.cells2
  have lg3 : w.heap.size < w2.heap.size := q3.lt
  have lgm3 : w1.heap.size < w2.heap.size := qm3.lt
  have HA2 := Lib.hid (HA.out.agree EByte.elem (fun f hf => HB3.out.block f hf) hrl)
  clear hb2 q1 q2 qm
  cases bb with
  | false =>
   rw [if_pos rfl] at HPK
   go_wp2_with fail
   go_ret
   exact ⟨ar, cr, ret_sl (by rw [HPK.out, List.append_nil]), by rw [HPK.out, List.append_nil]; exact HA2.out, HB3.out.mono hrl⟩
  | true =>
   rw [if_neg (by simp)] at HPK
   go_wp2_with fail
   refine (impl_PutMark0 mk mn _ HMI.out).mono ?_
   rintro e w3 ⟨a3, c3, rfl, happ3, hb3⟩
   have hs3 := HB3.out.size
   have hs3b := hb3.size
   have HB4 := Lib.hid (HB3.out.trans (hb3.mono HB3.out.size))
   have hs4 := HB4.out.size
   have q5 := q3.below hb3 lg3
   have Q5 := Lib.hid q5
   obtain ⟨a4, c4, w4, hrun, happ4, hb4, hout4, _, hsz4⟩ := run_appL (P := Tryz.prog) w3 EByte.elem 22 22 (.int .u8 0) 1 Tryz.underlying22 info_Byte2 rfl rlo ar cr b [] (HA2.out.agree EByte.elem (fun f hf => hb3.block f hf) (by omega)) (by omega) HA.out.cap.1 a3 c3 (markL mk mn) [] ((happ3.rd (by omega)).srcs EByte.flat) (by simp) (by unfold maxLen; omega) (by omega)
   have hrow := HA2.out.row
   have q6 := q5.agree (hout4 _ q5.lt (fun k' hk' => by have := HA.out.row k' hk'; omega))
   obtain ⟨y0, y1, y2, y3, y4⟩ := q6.cells5
   have lg6 := q6.lt
   have HA4 := Lib.hid happ4
   have HB5 := Lib.hid ((HB4.out.mono hrl).trans hb4)
   have hs5 := HB5.out.size
   simp only [List.length_append] at hrun
   clear hb3 happ3 q3 qm3 happ4 hb4 q5 hrow
   by_cases h7 : k = 7 ∨ k = 8
   ·rw [if_pos h7] at HPK
    obtain ⟨a7, c7, w7, hrun7, happ7, hb7, _, _⟩ := run_appStr (P := Tryz.prog) w4 22 9 22 Tryz.underlying22 Tryz.underlying9 info_Byte2 rlo a4 c4 (b ++ markL mk mn) HA4.out.u8 HA4.out (by omega) s (by rw [List.length_append]; omega)
    have HA7 := Lib.hid happ7; have HB7 := Lib.hid (HB5.out.trans hb7)
    simp only [List.length_append] at hrun7
    clear happ7 hb7 hout4
    obtain rfl | rfl := h7
    all_goals
     go_wp2_with (first | (at_builtin; refine Lib.wpList_append_run _ rfl _ _ _ _ rfl _ _ rfl rfl _ _ hrun ?_) | (at_builtin; refine Lib.wpList_append_run _ rfl _ _ _ _ rfl _ _ rfl rfl _ _ hrun7 ?_))
     go_ret
     exact ⟨a7, c7, ret_sl (by rw [HPK.out]; simp only [List.length_append]; omega), by rw [HPK.out, ← List.append_assoc]; exact HA7.out, HB7.out⟩
   rw [if_neg h7] at HPK
   by_cases h9 : k = 9 ∨ k = 10
   ·rw [if_pos h9] at HPK
    clear r0 r1 r2 r3 r4
    obtain rfl | rfl := h9
    all_goals
     go_wp2_with (at_builtin; refine Lib.wpList_append_run _ rfl _ _ _ _ rfl _ _ rfl rfl _ _ hrun ?_)
     clear y0 y1 y2 y3 y4 hrun hout4 q6 Q5 lg6 m0 m1
     go_loopw [0, 33] (fun q i wr => ∃ (j : Nat) (a' : Option Addr) (c' : Nat), j ≤ l.length ∧ i = .int .i64 j ∧ q = .slice a' ((b ++ markL mk mn) ++ packKs (l.take j)).length c' ∧ Hid (AppL EByte 1 5 wr rlo a' c' ((b ++ markL mk mn) ++ packKs (l.take j)) []) ∧ Hid (Below rlo w wr)) (fun _ i _ => l.length - (intOf i).toNat)
     case atStart => exact ⟨0, a4, c4, Nat.zero_le _, rfl, by simp [packKs], by simpa [packKs] using HA4, HB5⟩
     case round =>
      obtain ⟨j, a', c', hj, rfl, rfl, HA, HB⟩ := hrel
      have hbs := HB.out.size
      by_cases hlt : j < l.length
      ·obtain ⟨b2, o, a2, cap2, rfl, hbl2, d0, d1, d2, d3, d4, hwf, hq⟩ := (HR.out.below HB.out hBr).get j hlt
       have hszj := T.sz_get l j hlt
       have h1 := T.szL_take_succ l j hlt
       have h2 := T.szL_take_le l (j + 1)
       have h3 := packKs_len (l.take j)
       have hlb : b2 < wr.heap.size := by omega
       have HWF := Lib.hid hwf
       have HQ := Lib.hid hq
       have HS := Lib.hid (show (b ++ markL mk mn) ++ packKs (l.take (j + 1)) = ((b ++ markL mk mn) ++ packKs (l.take j)) ++ packK l[j] from by rw [packKs_succ l j hlt]; simp only [List.append_assoc])
       have HIH := Lib.hid (IH.out l[j] (List.getElem_mem hlt))
       obtain ⟨u, hu⟩ : ∃ u, l[j] = u := ⟨_, rfl⟩
       rw [hu] at d0 d1 d2 d3 d4 HQ HWF HS hszj h1 HIH
       clear hwf hq hu
       go_wp2_with fail
       have hb1 : Below wr.heap.size wr (wr.alloc (.cells (cV u a2 cap2) 26)) := below1 _ _
       have hblen : (b ++ markL mk mn ++ packKs (l.take j)).length + 10 * T.sz u + 10 ≤ 1000000000 := by simp only [List.length_append]; omega
       have CC := HIH.out _ a' c' rlo a2 cap2 B _ (HQ.out.below hb1 (by omega)) HWF.out (by omega) hBr (by have := hb1.size; omega) (HA.out.agree EByte.elem (fun f hf => hb1.block f hf) (by omega)) hblen
       simp only [List.length_append, Nat.add_assoc] at CC
       refine CC.mono ?_
       rintro e w6 ⟨a6, c6, rfl, happ6, hb6⟩
       have HA6 := Lib.hid happ6
       have HB6 := Lib.hid ((HB.out.trans (hb1.mono (by omega))).trans hb6)
       clear CC happ6 hb6 hb1
       go_wp2_with fail
       go_roundw
       case rel => exact ⟨j + 1, a6, c6, by omega, by go_num, by rw [HS.out]; first | rfl | (congr 1; simp only [List.length_append, Nat.add_assoc]), Lib.hid (by rw [HS.out]; exact HA6.out), HB6⟩
       case measure => simp [intOf]; omega
      ·have hjj : l.length = j := by omega
       have HJ := Lib.hid (show l.take j = l from by rw [← hjj, List.take_length])
       rw [HJ.out] at HA ⊢
       go_wp2_with fail
       go_ret
       exact ⟨a', c', ret_sl (by rw [HPK.out]; simp only [List.length_append]; omega), by rw [HPK.out, ← List.append_assoc]; exact HA.out, HB.out⟩
   ·rw [if_neg h9, List.append_nil] at HPK
    have g7 : ¬ k = 7 := by omega
    have g8 : ¬ k = 8 := by omega
    have g9 : ¬ k = 9 := by omega
    have g10 : ¬ k = 10 := by omega
    go_wp2_with (at_builtin; refine Lib.wpList_append_run _ rfl _ _ _ _ rfl _ _ rfl rfl _ _ hrun ?_)
    go_ret
    exact ⟨a4, c4, ret_sl (by rw [HPK.out, List.length_append]), by rw [HPK.out]; exact HA4.out, HB5.out⟩
set_option maxHeartbeats 1000000 in
theorem impl_PackPacked (t : T) (a : Option Addr) (cap B : Nat) (w : World) (hr : R w B a cap t.l) (hwf : Wf t) (hsz : T.sz t ≤ 1048576) (hB : B ≤ w.heap.size) :
  Calls Tryz.prog 89 #[.agg (cV t a cap)] w fun e w' => ∃ a' cap', e = .returned (.slice a' (packK t).length cap') ∧ AppL EByte 1 5 w' w.heap.size a' cap' (packK t) [] ∧ Below w.heap.size w w' := by
 have HR := Lib.hid (hr.below (below1 w (.cells (cV t a cap) 26)) hB)
 have HB0 := Lib.hid (below1 w (.cells (cV t a cap) 26))
 have CC := Lib.hid (impl_appendPacked t [] none 0 w.heap.size a cap B (w.alloc (.cells (cV t a cap) 26)) HR.out hwf hsz hB (by simp) (Or.inl ⟨rfl, rfl, rfl, rfl⟩) (by simp; omega))
 clear hr hwf
 go_enter Tryz.func89, Tryz.ntmps89
 go_wp2_with fail
 refine CC.out.mono ?_
 rintro e w2 ⟨a2, c2, rfl, happ2, hb2⟩
 go_wp2_with fail
 go_ret
 exact ⟨a2, c2, rfl, happ2, HB0.out.trans hb2⟩
def ascU (ns : List T) : Nat → Bool
 | 0 => true
 | 1 => true
 | j + 2 => ascU ns (j + 1) && lexB (packT (ns.getD j zT)) (packT (ns.getD (j + 1) zT))
theorem ascU_succ (ns : List T) (j : Nat) (h : j + 1 < ns.length) : ascU ns (j + 2) = (ascU ns (j + 1) && lexB (packT ns[j]) (packT ns[j + 1])) := by
 rw [ascU, List.getD_eq_getElem?_getD, List.getD_eq_getElem?_getD, List.getElem?_eq_getElem h, List.getElem?_eq_getElem (by omega)]; rfl
theorem ascU_false (ns : List T) (j n : Nat) (h : j ≤ n) (hf : ascU ns j = false) : ascU ns n = false := by
 induction n with
 | zero => rw [show j = 0 from by omega] at hf; exact hf
 | succ n ih =>
  by_cases hj : j = n + 1
  ·subst hj; exact hf
  ·have := ih (by omega)
   cases n with
   | zero => rw [ascU] at this; cases this
   | succ n => rw [ascU, this]; rfl
theorem evN_get (l : List T) (p j : Nat) (h : j < p) (hp : 2 * j < l.length) : (evN l p)[j]'(by rw [evN_len]; exact h) = l[2 * j] := by
 induction p with
 | zero => omega
 | succ p ih =>
  simp only [evN]
  by_cases hj : j < p
  ·rw [List.getElem_append_left (by rw [evN_len]; exact hj)]; exact ih hj
  ·have hjp : j = p := by omega
   subst hjp
   rw [List.getElem_append_right (by rw [evN_len]; omega)]
   simp only [List.getElem_singleton]
   rw [List.getD_eq_getElem?_getD, List.getElem?_eq_getElem hp]; rfl
def tightU (t : T) : Bool := ascU (namesT t) (namesT t).length && decide (t.k ≠ 6)
theorem tightU_not {t : T} (h : t.k ≠ 10) : tightU t = decide (t.k ≠ 6) := by
 unfold tightU namesT; rw [if_neg h]; rfl
theorem tightU_map {t : T} (h : t.k = 10) : tightU t = ascU (evN t.l ((t.l.length + 1) / 2)) ((t.l.length + 1) / 2) := by
 unfold tightU namesT; rw [if_pos h, evN_len, decide_eq_true (by omega), Bool.and_true]
theorem evAsc_succ (l : List T) (p j : Nat) (hp : p = (l.length + 1) / 2) (h : 2 * j + 2 < l.length) : ascU (evN l p) (j + 2) = (ascU (evN l p) (j + 1) && lexB (packT l[2 * j]) (packT l[2 * j + 2])) := by
 have e1 : j + 1 < (evN l p).length := by rw [evN_len]; omega
 rw [ascU_succ _ _ e1, evN_get l p j (by omega) (by omega), evN_get l p (j + 1) (by omega) (by omega)]; rfl
theorem lexB_end {x y : List Int} {j : Nat} (h : x.length ≤ j ∨ y.length ≤ j) (hx : j ≤ x.length) (hy : j ≤ y.length) : lexB (x.drop j) (y.drop j) = decide (x.length < y.length) := by
 rcases h with h | h
 ·rw [List.drop_of_length_le h]
  cases hd : y.drop j with
  | nil =>
   have := congrArg List.length hd
   rw [List.length_drop, List.length_nil] at this
   rw [decide_eq_false (by omega)]; rfl
  | cons b r =>
   have := congrArg List.length hd
   rw [List.length_drop, List.length_cons] at this
   rw [decide_eq_true (by omega)]; rfl
 ·rw [List.drop_of_length_le h, decide_eq_false (by omega)]
  cases x.drop j <;> rfl
theorem lexB_step {x y : List Int} {j : Nat} (hx : j < x.length) (hy : j < y.length) : lexB (x.drop j) (y.drop j) = if x[j] = y[j] then lexB (x.drop (j + 1)) (y.drop (j + 1)) else decide (x[j] < y[j]) := by
 rw [List.drop_eq_getElem_cons hx, List.drop_eq_getElem_cons hy, lexB]
set_option maxHeartbeats 4000000 in
theorem spec_LessBytes (x y : List Int) (a a' : Option Addr) (cap cap' B : Nat) (w : World) (hr : Rd EByte 1 w B a cap x) (hr' : Rd EByte 1 w B a' cap' y) (hB : B ≤ w.heap.size) :
  Calls Tryz.prog 189 #[.slice a x.length cap, .slice a' y.length cap'] w fun e w' => e = .returned (.bool (lexB x y)) ∧ Below w.heap.size w w' := by
 obtain ⟨hl1, hl2⟩ := hr.len
 obtain ⟨hm1, hm2⟩ := hr'.len
 go_enter Tryz.func189, Tryz.ntmps189
 go_wp2_with fail
 go_loopw [5] (fun i wr => ∃ (j : Nat), j ≤ x.length ∧ j ≤ y.length ∧ i = .int .i64 j ∧ Hid (lexB x y = lexB (x.drop j) (y.drop j)) ∧ Below w.heap.size w wr) (fun i _ => x.length - (intOf i).toNat)
 case atStart => exact ⟨0, Nat.zero_le _, Nat.zero_le _, rfl, Lib.hid rfl, Below.refl _ _⟩
 case round =>
  obtain ⟨j, hj, hj', rfl, HL, hb⟩ := hrel
  have hbs := hb.size
  by_cases h1 : j < x.length
  ·by_cases h2 : j < y.length
   ·obtain ⟨b, o, ha, hbl, d0, u0⟩ := (hr.below EByte.loc hb hB).byte j h1
    obtain ⟨b', o', ha', hbl', d1, u1⟩ := (hr'.below EByte.loc hb hB).byte j h2
    subst ha ha'
    have l1 : b < wr.heap.size := by omega
    have l2 : b' < wr.heap.size := by omega
    by_cases he : x[j] = y[j]
    ·have hne : (x[j] != y[j]) = false := by simp [he]
     have HE := Lib.hid (show lexB x y = lexB (x.drop (j + 1)) (y.drop (j + 1)) from by rw [HL.out, lexB_step h1 h2, if_pos he])
     go_wp2_with fail
     go_quiet (fail)
     go_wp2_with fail
     go_roundw
     case rel => exact ⟨j + 1, by omega, by omega, by go_num, HE, hb.trans (below_drewN _ _ _)⟩
     case measure => simp [intOf]; omega
    ·have hne : (x[j] != y[j]) = true := by simp [he]
     have HE := Lib.hid (show lexB x y = decide (x[j] < y[j]) from by rw [HL.out, lexB_step h1 h2, if_neg he])
     go_wp2_with fail
     go_quiet (fail)
     go_wp2_with fail
     go_quiet (fail)
     go_wp2_with fail
     go_ret
     exact ⟨ret_b HE.out.symm, (hb.trans (below_drewN _ _ _)).trans (below_drewN _ _ _)⟩
   ·have HE := Lib.hid (show lexB x y = decide (x.length < y.length) from by rw [HL.out, lexB_end (Or.inr (by omega)) hj hj'])
    go_wp2_with fail
    go_ret
    exact ⟨ret_b (by rw [HE.out]), hb⟩
  ·have HE := Lib.hid (show lexB x y = decide (x.length < y.length) from by rw [HL.out, lexB_end (Or.inl (by omega)) hj hj'])
   go_wp2_with fail
   go_ret
   exact ⟨ret_b (by rw [HE.out]), hb⟩
set_option maxHeartbeats 4000000 in
theorem l13All_of (l : List T) (IH : Hid (∀ t ∈ l, ∀ (a : Option Addr) (cap B : Nat) (w : World), R w B a cap t.l → Wf t → T.sz t ≤ 1048576 → B ≤ w.heap.size →
      Calls Tryz.prog 22 #[.agg (cV t a cap)] w fun e w' => ∃ a' cap', e = .returned (.slice a' (packT t).length cap') ∧ AppL EByte 1 5 w' w.heap.size a' cap' (packT t) [] ∧ Below w.heap.size w w'))
    (len : Nat) (b : List Int) (ar : Option Addr) (cr rlo : Nat) (a : Option Addr) (cap B : Nat) (w : World) (hlen : len = b.length) (happ : AppL EByte 1 5 w rlo ar cr b []) (hrl : rlo ≤ w.heap.size) (hr : R w B a cap l) (hB : B ≤ rlo) (hsz : T.szL l ≤ 1048576) (hbl : b.length ≤ 1073741824) :
    Calls Tryz.prog 77 #[.slice ar len cr, .slice a l.length cap] w fun e w' => ∃ a' cap', e = .returned (.slice a' (b ++ packTs l).length cap') ∧ AppL EByte 1 5 w' rlo a' cap' (b ++ packTs l) [] ∧ Below rlo w w' := by
  subst hlen
  obtain ⟨hl1, hl2⟩ := hr.len
  have HR := Lib.hid hr; clear hr
  have HA := Lib.hid happ; clear happ
  have HZ := Lib.hid hsz
  have hll := T.length_le_szL l
  go_enter Tryz.func77, Tryz.ntmps77
  go_wp2_with fail
  go_loopw [0, 5] (fun q i wr => ∃ (j : Nat) (a' : Option Addr) (c' : Nat), j ≤ l.length ∧ i = .int .i64 j ∧ q = .slice a' (b ++ packTs (l.take j)).length c' ∧ Hid (AppL EByte 1 5 wr rlo a' c' (b ++ packTs (l.take j)) []) ∧ Hid (Below rlo w wr)) (fun _ i _ => l.length - (intOf i).toNat)
  case atStart => exact ⟨0, ar, cr, Nat.zero_le _, rfl, by simp [packTs], by simpa [packTs] using HA, Lib.hid (Below.refl _ _)⟩
  case round =>
    clear HA
    obtain ⟨j, a', c', hj, rfl, rfl, HA, HB⟩ := hrel
    have hbs := HB.out.size
    by_cases hlt : j < l.length
    · obtain ⟨bb, o, a2, cap2, rfl, hbl2, d0, d1, d2, d3, d4, hwf, hq⟩ := (HR.out.below HB.out hB).get j hlt
      have hszj := T.sz_get l j hlt
      have hlb : bb < wr.heap.size := by omega
      have HWF := Lib.hid hwf
      have HQ := Lib.hid hq
      have hlen2 : (packTs (l.take j)).length ≤ 10485760 := by have := packTs_len (l.take j); have := T.szL_take_le l j; omega
      have hlen3 : (packT l[j]).length ≤ 10485769 := by have := packT_len l[j]; omega
      clear hwf hq
      go_wp2_with fail
      refine (IH.out l[j] (List.getElem_mem hlt) a2 cap2 B wr HQ.out HWF.out (by have := HZ.out; omega) (by omega)).mono ?_
      rintro e w2 ⟨a3, c3, rfl, happ3, hb3⟩
      have hs3 := hb3.size
      obtain ⟨a4, c4, w4, hrun, happ4, hb4, _, _, _⟩ := run_appL (P := Tryz.prog) w2 EByte.elem 22 22 (.int .u8 0) 1 Tryz.underlying22 info_Byte2 rfl rlo a' c' (b ++ packTs (l.take j)) [] (HA.out.agree EByte.elem (fun f hf => hb3.block f hf) (by omega)) (by omega) HA.out.cap.1 a3 c3 (packT l[j]) [] ((happ3.rd hs3).srcs EByte.flat) (by simp) (by rw [List.length_append]; unfold maxLen; omega) (by rw [List.length_append]; omega)
      have HA4 := Lib.hid happ4
      have HB4 := Lib.hid ((HB.out.trans (hb3.mono (by omega))).trans hb4)
      have HS := Lib.hid (show b ++ packTs (l.take (j + 1)) = (b ++ packTs (l.take j)) ++ packT l[j] from by rw [packTs_succ l j hlt, List.append_assoc])
      simp only [List.length_append] at hrun
      clear happ3 hb3 happ4 hb4
      go_wp2_with (at_builtin; refine Lib.wpList_append_run _ rfl _ _ _ _ rfl _ _ rfl rfl _ _ hrun ?_)
      go_roundw
      case rel => exact ⟨j + 1, a4, c4, by omega, by go_num, by rw [HS.out, List.length_append, List.length_append], Lib.hid (by rw [HS.out]; exact HA4.out), HB4⟩
      case measure => simp [intOf]; omega
    · have hjj : l.length = j := by omega
      have HJ := Lib.hid (show l.take j = l from by rw [← hjj, List.take_length])
      rw [HJ.out] at HA ⊢
      go_wp2_with fail
      go_ret
      exact ⟨a', c', rfl, HA.out, HB.out⟩
end Go.Proofs.YtggdenkmohnijaaGreatDoor
