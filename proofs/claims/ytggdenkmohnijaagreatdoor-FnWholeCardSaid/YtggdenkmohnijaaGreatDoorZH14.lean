/- Texts of this proof, merged: MarkI. No condition beyond what each theorem states. -/
import Derived.Test.YtggdenkmohnijaaGreatDoorZH13
set_option linter.unusedSimpArgs false
set_option linter.unnecessarySimpa false
namespace Go.Proofs.YtggdenkmohnijaaGreatDoor
open Go.ChangeShapes Go.WideShapes Go.ChangeAt Go.RowKit Go.Joins
set_option linter.unusedVariables false
set_option maxRecDepth 100000
set_option maxHeartbeats 16000000 in
theorem impl_putInt (b : List Int) (n : Int) (a : Option Addr) (cap rlo : Nat) (w : World) (happ : AppL EByte 1 5 w rlo a cap b []) (hlo : rlo ≤ w.heap.size) (hz : b.length ≤ 1073741824) (hn : I64 n) :
  Calls Tryz.prog 254 #[.slice a b.length cap, .int .i64 n] w fun e w' => ∃ a' cap', e = .returned (.slice a' (b ++ putIntL n).length cap') ∧ AppL EByte 1 5 w' rlo a' cap' (b ++ putIntL n) [] ∧ Below rlo w w' := by
 have HA := Lib.hid happ
 obtain ⟨hn0, hn1⟩ := hn
 clear happ
 by_cases h1 : -32 ≤ n ∧ n ≤ 127
 ·have DN := Lib.hid (show decide (-32 ≤ n ∧ n ≤ 127) = true from decide_eq_true h1)
  have HE := Lib.hid (show putIntL n = [n % 256] from if_pos h1)
  have HU : Hid (∀ v ∈ [n % 256], U8 v) := Lib.hid (by intro v hv; rw [List.mem_singleton] at hv; subst hv; unfold U8; omega)
  have hu8 : IntKind.u8.wrap n = n % 256 := IntKind.wrap_u8 _
  go_enter Tryz.func254, Tryz.ntmps254
  go_wp2_with (first | (go_at_call 125; refine (impl_withinE _ _ _ _).mono ?_; rintro ee w2 ⟨rfl, hw2⟩; have hw3 := hw2.symm; subst hw3; rw [DN.out]) | (at_builtin; refine wpList_bytes rfl _ _ 22 rfl Tryz.underlying22 info_Byte2 rlo a _ cap b rfl rfl HA.out hlo [n % 256] _ 1 1 rfl (by rfl) rfl (by first | rfl | simp [hu8]) HU.out (by simp) (by simp; omega) ?_; intro a2 c2 w2 happ2 hb2))
  go_ret
  exact ⟨a2, c2, ret_sl (by rw [HE.out]; first | done | rfl | (simp [bigL_len]; done) | (simp [bigL_len]; omega)), by rw [HE.out]; exact happ2, hb2⟩
 have DN := Lib.hid (show decide (-32 ≤ n ∧ n ≤ 127) = false from decide_eq_false h1)
 by_cases h2 : 0 ≤ n
 ·have HE0 := Lib.hid (show putIntL n = (203 + bitsW (widthD n)) :: bigL n (widthD n).toNat from (if_neg h1).trans (if_pos h2))
  have HF := Lib.hid (fun k hk => (widthD_fit n k h2 hk).2)
  have h2p : 0 < n := by omega
  rcases widthD_in n h2 with hw | hw | hw | hw
  ·have HE : Hid (putIntL n = 204 :: bigL n 1) := Lib.hid (by rw [HE0.out, hw]; rfl)
   have hfit := HF.out 1 (by omega) (by omega)
   have HFT := Lib.hid hfit
   have HU : Hid (∀ v ∈ [(204 : Int)], U8 v) := Lib.hid (by intro v hv; rw [List.mem_singleton] at hv; subst hv; unfold U8; omega)
   go_enter Tryz.func254, Tryz.ntmps254
   go_wp2_with (first | (go_at_call 125; refine (impl_withinE _ _ _ _).mono ?_; rintro ee w2 ⟨rfl, hw2⟩; have hw3 := hw2.symm; subst hw3; rw [DN.out]) | (go_at_call 236; refine (impl_WidthForE n _ ⟨hn0, hn1⟩).mono ?_; rintro ee w2 ⟨rfl, hw2⟩; have hw3 := hw2.symm; subst hw3; rw [hw]) | (go_at_call 268; refine (impl_BitsOf 1 _ (by omega)).mono ?_; rintro ee w2 ⟨rfl, hw2⟩; have hw3 := hw2.symm; subst hw3; rw [show bitsW 1 = 1 from rfl]) | (at_builtin; refine wpList_bytes rfl _ _ 22 rfl Tryz.underlying22 info_Byte2 rlo a _ cap b rfl rfl HA.out hlo [204] _ 1 1 rfl (by rfl) rfl (by first | rfl | simp []) HU.out (by simp) (by simp; omega) ?_; intro a2 c2 w2 happ2 hb2))
   refine (impl_PutBigL _ (b ++ [204]) n 1 a2 c2 w2.heap.size w2 (by simp) (happ2.rd (Nat.le_trans hlo hb2.size)) HFT.out (by omega) (by simp; omega) (Nat.le_refl _)).mono ?_
   rintro e w3 ⟨a3, c3, rfl, happ3, hb3⟩
   have hs2 := hb2.size
   go_wp2_with fail
   go_ret
   exact ⟨a3, c3, ret_sl (by rw [HE.out]; first | done | rfl | (simp [bigL_len]; done) | (simp [bigL_len]; omega)), by rw [HE.out, show b ++ 204 :: bigL n 1 = (b ++ [204]) ++ bigL n (1 : Int).toNat from by rw [List.append_assoc]; rfl]; exact happ3.less (by omega), hb2.trans (hb3.mono (by omega))⟩
  ·have HE : Hid (putIntL n = 205 :: bigL n 2) := Lib.hid (by rw [HE0.out, hw]; rfl)
   have hfit := HF.out 2 (by omega) (by omega)
   have HFT := Lib.hid hfit
   have HU : Hid (∀ v ∈ [(205 : Int)], U8 v) := Lib.hid (by intro v hv; rw [List.mem_singleton] at hv; subst hv; unfold U8; omega)
   go_enter Tryz.func254, Tryz.ntmps254
   go_wp2_with (first | (go_at_call 125; refine (impl_withinE _ _ _ _).mono ?_; rintro ee w2 ⟨rfl, hw2⟩; have hw3 := hw2.symm; subst hw3; rw [DN.out]) | (go_at_call 236; refine (impl_WidthForE n _ ⟨hn0, hn1⟩).mono ?_; rintro ee w2 ⟨rfl, hw2⟩; have hw3 := hw2.symm; subst hw3; rw [hw]) | (go_at_call 268; refine (impl_BitsOf 2 _ (by omega)).mono ?_; rintro ee w2 ⟨rfl, hw2⟩; have hw3 := hw2.symm; subst hw3; rw [show bitsW 2 = 2 from rfl]) | (at_builtin; refine wpList_bytes rfl _ _ 22 rfl Tryz.underlying22 info_Byte2 rlo a _ cap b rfl rfl HA.out hlo [205] _ 1 1 rfl (by rfl) rfl (by first | rfl | simp []) HU.out (by simp) (by simp; omega) ?_; intro a2 c2 w2 happ2 hb2))
   refine (impl_PutBigL _ (b ++ [205]) n 2 a2 c2 w2.heap.size w2 (by simp) (happ2.rd (Nat.le_trans hlo hb2.size)) HFT.out (by omega) (by simp; omega) (Nat.le_refl _)).mono ?_
   rintro e w3 ⟨a3, c3, rfl, happ3, hb3⟩
   have hs2 := hb2.size
   go_wp2_with fail
   go_ret
   exact ⟨a3, c3, ret_sl (by rw [HE.out]; first | done | rfl | (simp [bigL_len]; done) | (simp [bigL_len]; omega)), by rw [HE.out, show b ++ 205 :: bigL n 2 = (b ++ [205]) ++ bigL n (2 : Int).toNat from by rw [List.append_assoc]; rfl]; exact happ3.less (by omega), hb2.trans (hb3.mono (by omega))⟩
  ·have HE : Hid (putIntL n = 206 :: bigL n 4) := Lib.hid (by rw [HE0.out, hw]; rfl)
   have hfit := HF.out 4 (by omega) (by omega)
   have HFT := Lib.hid hfit
   have HU : Hid (∀ v ∈ [(206 : Int)], U8 v) := Lib.hid (by intro v hv; rw [List.mem_singleton] at hv; subst hv; unfold U8; omega)
   go_enter Tryz.func254, Tryz.ntmps254
   go_wp2_with (first | (go_at_call 125; refine (impl_withinE _ _ _ _).mono ?_; rintro ee w2 ⟨rfl, hw2⟩; have hw3 := hw2.symm; subst hw3; rw [DN.out]) | (go_at_call 236; refine (impl_WidthForE n _ ⟨hn0, hn1⟩).mono ?_; rintro ee w2 ⟨rfl, hw2⟩; have hw3 := hw2.symm; subst hw3; rw [hw]) | (go_at_call 268; refine (impl_BitsOf 4 _ (by omega)).mono ?_; rintro ee w2 ⟨rfl, hw2⟩; have hw3 := hw2.symm; subst hw3; rw [show bitsW 4 = 3 from rfl]) | (at_builtin; refine wpList_bytes rfl _ _ 22 rfl Tryz.underlying22 info_Byte2 rlo a _ cap b rfl rfl HA.out hlo [206] _ 1 1 rfl (by rfl) rfl (by first | rfl | simp []) HU.out (by simp) (by simp; omega) ?_; intro a2 c2 w2 happ2 hb2))
   refine (impl_PutBigL _ (b ++ [206]) n 4 a2 c2 w2.heap.size w2 (by simp) (happ2.rd (Nat.le_trans hlo hb2.size)) HFT.out (by omega) (by simp; omega) (Nat.le_refl _)).mono ?_
   rintro e w3 ⟨a3, c3, rfl, happ3, hb3⟩
   have hs2 := hb2.size
   go_wp2_with fail
   go_ret
   exact ⟨a3, c3, ret_sl (by rw [HE.out]; first | done | rfl | (simp [bigL_len]; done) | (simp [bigL_len]; omega)), by rw [HE.out, show b ++ 206 :: bigL n 4 = (b ++ [206]) ++ bigL n (4 : Int).toNat from by rw [List.append_assoc]; rfl]; exact happ3.less (by omega), hb2.trans (hb3.mono (by omega))⟩
  ·have HE : Hid (putIntL n = 207 :: bigL n 8) := Lib.hid (by rw [HE0.out, hw]; rfl)
   have hfit := HF.out 8 (by omega) (by omega)
   have HFT := Lib.hid hfit
   have HU : Hid (∀ v ∈ [(207 : Int)], U8 v) := Lib.hid (by intro v hv; rw [List.mem_singleton] at hv; subst hv; unfold U8; omega)
   go_enter Tryz.func254, Tryz.ntmps254
   go_wp2_with (first | (go_at_call 125; refine (impl_withinE _ _ _ _).mono ?_; rintro ee w2 ⟨rfl, hw2⟩; have hw3 := hw2.symm; subst hw3; rw [DN.out]) | (go_at_call 236; refine (impl_WidthForE n _ ⟨hn0, hn1⟩).mono ?_; rintro ee w2 ⟨rfl, hw2⟩; have hw3 := hw2.symm; subst hw3; rw [hw]) | (go_at_call 268; refine (impl_BitsOf 8 _ (by omega)).mono ?_; rintro ee w2 ⟨rfl, hw2⟩; have hw3 := hw2.symm; subst hw3; rw [show bitsW 8 = 4 from rfl]) | (at_builtin; refine wpList_bytes rfl _ _ 22 rfl Tryz.underlying22 info_Byte2 rlo a _ cap b rfl rfl HA.out hlo [207] _ 1 1 rfl (by rfl) rfl (by first | rfl | simp []) HU.out (by simp) (by simp; omega) ?_; intro a2 c2 w2 happ2 hb2))
   refine (impl_PutBigL _ (b ++ [207]) n 8 a2 c2 w2.heap.size w2 (by simp) (happ2.rd (Nat.le_trans hlo hb2.size)) HFT.out (by omega) (by simp; omega) (Nat.le_refl _)).mono ?_
   rintro e w3 ⟨a3, c3, rfl, happ3, hb3⟩
   have hs2 := hb2.size
   go_wp2_with fail
   go_ret
   exact ⟨a3, c3, ret_sl (by rw [HE.out]; first | done | rfl | (simp [bigL_len]; done) | (simp [bigL_len]; omega)), by rw [HE.out, show b ++ 207 :: bigL n 8 = (b ++ [207]) ++ bigL n (8 : Int).toNat from by rw [List.append_assoc]; rfl]; exact happ3.less (by omega), hb2.trans (hb3.mono (by omega))⟩
 have h2n : ¬ 0 < n := by omega
 by_cases g1 : -128 ≤ n
 ·have HE : Hid (putIntL n = 208 :: bigL n 1) := Lib.hid (by unfold putIntL intW; rw [if_neg h1, if_neg h2, if_pos g1]; rfl)
  have HU0 : Hid (∀ v ∈ [(208 : Int)], U8 v) := Lib.hid (by intro v hv; rw [List.mem_singleton] at hv; subst hv; unfold U8; omega)
  have HW8 : Hid (1 ≤ 8) := Lib.hid (by omega)
  go_enter Tryz.func254, Tryz.ntmps254
  go_wp2_with (go_at_call 125; refine (impl_withinE _ _ _ _).mono ?_; rintro ee w2 ⟨rfl, hw2⟩; have hw3 := hw2.symm; subst hw3; rw [DN.out])
  go_loopw [6] (fun wv wr => ∃ V : Int, wv = .int .i64 V ∧ (V = 1) ∧ wr = w) (fun wv _ => (8 - intOf wv).toNat)
  case atStart => exact ⟨1, rfl, by omega, rfl⟩
  case round =>
   obtain ⟨V, rfl, hV, hwr⟩ := hrel
   have hwr2 := hwr.symm
   subst hwr2
   subst hV
   ·go_wp2_with (first | (go_at_call 268; refine (impl_BitsOf 1 _ (by omega)).mono ?_; rintro ee w2 ⟨rfl, hw2⟩; have hw3 := hw2.symm; subst hw3; rw [show bitsW 1 = 1 from rfl]) | (at_builtin; refine wpList_bytes rfl _ _ 22 rfl Tryz.underlying22 info_Byte2 rlo a _ cap b rfl rfl HA.out hlo [208] _ 1 1 rfl (by rfl) rfl (by first | rfl | simp []) HU0.out (by simp) (by simp; omega) ?_; intro a2 c2 w2 happ2 hb2))
    go_loopw [0, 7] (fun q iv wr => ∃ (m : Nat) (out : List Int) (ar : Option Addr) (cr : Nat), m ≤ 1 ∧ iv = .int .i64 ((m : Int) - 1) ∧ q = .slice ar out.length cr ∧ Hid (AppL EByte 1 5 wr rlo ar cr out []) ∧ Hid (out ++ bigL n m = b ++ (208 :: bigL n 1)) ∧ Hid (Below rlo w wr)) (fun _ iv _ => (intOf iv + 1).toNat)
    case atStart => exact ⟨1, b ++ [208], a2, c2, by have := HW8.out; omega, by first | rfl | go_num, by first | rfl | (congr 1; simp), Lib.hid happ2, Lib.hid (by rw [List.append_assoc]; rfl), Lib.hid hb2⟩
    case round =>
     obtain ⟨m, out, ar, cr, hm, rfl, rfl, HA, HO, HB⟩ := hrel
     have hlr : rlo ≤ wr.heap.size := Nat.le_trans hlo HB.out.size
     have hol : out.length ≤ 1073741924 := by
      have h1 := congrArg List.length HO.out
      simp only [List.length_append, List.length_cons, bigL_len] at h1; omega
     cases m with
     | zero =>
      have HE2 : Hid (out = b ++ (208 :: bigL n 1)) := Lib.hid (by have := HO.out; rw [bigL, List.append_nil] at this; exact this)
      have h0 : ((0 : Nat) : Int) - 1 = -1 := rfl
      rw [h0]
      go_wp2_with fail
      go_ret
      exact ⟨ar, cr, ret_sl (by rw [HE.out, ← HE2.out]), by rw [HE.out, ← HE2.out]; exact HA.out, HB.out⟩
     | succ m =>
      have HO2 : Hid ((out ++ [n / 256 ^ m % 256]) ++ bigL n m = b ++ (208 :: bigL n 1)) := Lib.hid (by have := HO.out; rw [bigL] at this; rw [List.append_assoc]; exact this)
      have h0 : ((m + 1 : Nat) : Int) - 1 = (m : Int) := by omega
      rw [h0]
      have HU : Hid (∀ v ∈ [n / 256 ^ m % 256], U8 v) := Lib.hid (by intro v hv; rw [List.mem_singleton] at hv; subst hv; unfold U8; omega)
      have hmm : m = 0 := by omega
      clear HO
      subst hmm
      ·have ev : n / 256 ^ 0 % 256 = n % 256 := by rw [Int.pow_zero, Int.ediv_one]
       have hu8 : IntKind.u8.wrap n = n % 256 := IntKind.wrap_u8 _
       rw [ev] at HO2 HU
       clear ev
       go_wp2_with (at_builtin; refine wpList_bytes rfl _ _ 22 rfl Tryz.underlying22 info_Byte2 rlo ar _ cr out rfl rfl HA.out hlr [n % 256] _ 1 1 rfl (by rfl) rfl (by first | rfl | simp [hu8]) HU.out (by simp) (by simp; omega) ?_; intro ar2 cr2 w3 happ3 hb3)
       exact ⟨⟨0, out ++ [n % 256], ar2, cr2, by omega, by first | rfl | go_num, by first | rfl | (rw [List.length_append]; rfl) | (congr 1; simp), Lib.hid happ3, HO2, Lib.hid (HB.out.trans hb3)⟩, by simp [intOf]⟩
 by_cases g2 : -32768 ≤ n
 ·have HE : Hid (putIntL n = 209 :: bigL n 2) := Lib.hid (by unfold putIntL intW; rw [if_neg h1, if_neg h2, if_neg g1, if_pos g2]; rfl)
  have HU0 : Hid (∀ v ∈ [(209 : Int)], U8 v) := Lib.hid (by intro v hv; rw [List.mem_singleton] at hv; subst hv; unfold U8; omega)
  have HW8 : Hid (2 ≤ 8) := Lib.hid (by omega)
  go_enter Tryz.func254, Tryz.ntmps254
  go_wp2_with (go_at_call 125; refine (impl_withinE _ _ _ _).mono ?_; rintro ee w2 ⟨rfl, hw2⟩; have hw3 := hw2.symm; subst hw3; rw [DN.out])
  go_loopw [6] (fun wv wr => ∃ V : Int, wv = .int .i64 V ∧ (V = 1 ∨ V = 2) ∧ wr = w) (fun wv _ => (8 - intOf wv).toNat)
  case atStart => exact ⟨1, rfl, by omega, rfl⟩
  case round =>
   obtain ⟨V, rfl, hV, hwr⟩ := hrel
   have hwr2 := hwr.symm
   subst hwr2
   rcases hV with rfl | rfl
   ·go_wp2_with fail
    go_roundw
    case rel => exact ⟨2, by first | rfl | go_num, by omega, by first | rfl | trivial⟩
    case measure => simp [intOf]
   ·go_wp2_with (first | (go_at_call 268; refine (impl_BitsOf 2 _ (by omega)).mono ?_; rintro ee w2 ⟨rfl, hw2⟩; have hw3 := hw2.symm; subst hw3; rw [show bitsW 2 = 2 from rfl]) | (at_builtin; refine wpList_bytes rfl _ _ 22 rfl Tryz.underlying22 info_Byte2 rlo a _ cap b rfl rfl HA.out hlo [209] _ 1 1 rfl (by rfl) rfl (by first | rfl | simp []) HU0.out (by simp) (by simp; omega) ?_; intro a2 c2 w2 happ2 hb2))
    go_loopw [0, 7] (fun q iv wr => ∃ (m : Nat) (out : List Int) (ar : Option Addr) (cr : Nat), m ≤ 2 ∧ iv = .int .i64 ((m : Int) - 1) ∧ q = .slice ar out.length cr ∧ Hid (AppL EByte 1 5 wr rlo ar cr out []) ∧ Hid (out ++ bigL n m = b ++ (209 :: bigL n 2)) ∧ Hid (Below rlo w wr)) (fun _ iv _ => (intOf iv + 1).toNat)
    case atStart => exact ⟨2, b ++ [209], a2, c2, by have := HW8.out; omega, by first | rfl | go_num, by first | rfl | (congr 1; simp), Lib.hid happ2, Lib.hid (by rw [List.append_assoc]; rfl), Lib.hid hb2⟩
    case round =>
     obtain ⟨m, out, ar, cr, hm, rfl, rfl, HA, HO, HB⟩ := hrel
     have hlr : rlo ≤ wr.heap.size := Nat.le_trans hlo HB.out.size
     have hol : out.length ≤ 1073741924 := by
      have h1 := congrArg List.length HO.out
      simp only [List.length_append, List.length_cons, bigL_len] at h1; omega
     cases m with
     | zero =>
      have HE2 : Hid (out = b ++ (209 :: bigL n 2)) := Lib.hid (by have := HO.out; rw [bigL, List.append_nil] at this; exact this)
      have h0 : ((0 : Nat) : Int) - 1 = -1 := rfl
      rw [h0]
      go_wp2_with fail
      go_ret
      exact ⟨ar, cr, ret_sl (by rw [HE.out, ← HE2.out]), by rw [HE.out, ← HE2.out]; exact HA.out, HB.out⟩
     | succ m =>
      have HO2 : Hid ((out ++ [n / 256 ^ m % 256]) ++ bigL n m = b ++ (209 :: bigL n 2)) := Lib.hid (by have := HO.out; rw [bigL] at this; rw [List.append_assoc]; exact this)
      have h0 : ((m + 1 : Nat) : Int) - 1 = (m : Int) := by omega
      rw [h0]
      have HU : Hid (∀ v ∈ [n / 256 ^ m % 256], U8 v) := Lib.hid (by intro v hv; rw [List.mem_singleton] at hv; subst hv; unfold U8; omega)
      have hmm : m = 0 ∨ m = 1 := by omega
      clear HO
      obtain rfl | rfl := hmm
      ·have ev : n / 256 ^ 0 % 256 = n % 256 := by rw [Int.pow_zero, Int.ediv_one]
       have hu8 : IntKind.u8.wrap n = n % 256 := IntKind.wrap_u8 _
       rw [ev] at HO2 HU
       clear ev
       go_wp2_with (at_builtin; refine wpList_bytes rfl _ _ 22 rfl Tryz.underlying22 info_Byte2 rlo ar _ cr out rfl rfl HA.out hlr [n % 256] _ 1 1 rfl (by rfl) rfl (by first | rfl | simp [hu8]) HU.out (by simp) (by simp; omega) ?_; intro ar2 cr2 w3 happ3 hb3)
       exact ⟨⟨0, out ++ [n % 256], ar2, cr2, by omega, by first | rfl | go_num, by first | rfl | (rw [List.length_append]; rfl) | (congr 1; simp), Lib.hid happ3, HO2, Lib.hid (HB.out.trans hb3)⟩, by simp [intOf]⟩
      ·have ev : n / 256 ^ 1 % 256 = n / 256 % 256 := by rw [show (256 : Int) ^ 1 = 256 from by decide]
       have hu8 : IntKind.u8.wrap (n / 256) = n / 256 % 256 := IntKind.wrap_u8 _
       rw [ev] at HO2 HU
       clear ev
       go_wp2_with (at_builtin; refine wpList_bytes rfl _ _ 22 rfl Tryz.underlying22 info_Byte2 rlo ar _ cr out rfl rfl HA.out hlr [n / 256 % 256] _ 1 1 rfl (by rfl) rfl (by first | rfl | simp [hu8]) HU.out (by simp) (by simp; omega) ?_; intro ar2 cr2 w3 happ3 hb3)
       exact ⟨⟨1, out ++ [n / 256 % 256], ar2, cr2, by omega, by first | rfl | go_num, by first | rfl | (rw [List.length_append]; rfl) | (congr 1; simp), Lib.hid happ3, HO2, Lib.hid (HB.out.trans hb3)⟩, by simp [intOf]⟩
 by_cases g4 : -2147483648 ≤ n
 ·have HE : Hid (putIntL n = 210 :: bigL n 4) := Lib.hid (by unfold putIntL intW; rw [if_neg h1, if_neg h2, if_neg g1, if_neg g2, if_pos g4]; rfl)
  have HU0 : Hid (∀ v ∈ [(210 : Int)], U8 v) := Lib.hid (by intro v hv; rw [List.mem_singleton] at hv; subst hv; unfold U8; omega)
  have HW8 : Hid (4 ≤ 8) := Lib.hid (by omega)
  go_enter Tryz.func254, Tryz.ntmps254
  go_wp2_with (go_at_call 125; refine (impl_withinE _ _ _ _).mono ?_; rintro ee w2 ⟨rfl, hw2⟩; have hw3 := hw2.symm; subst hw3; rw [DN.out])
  go_loopw [6] (fun wv wr => ∃ V : Int, wv = .int .i64 V ∧ (V = 1 ∨ V = 2 ∨ V = 4) ∧ wr = w) (fun wv _ => (8 - intOf wv).toNat)
  case atStart => exact ⟨1, rfl, by omega, rfl⟩
  case round =>
   obtain ⟨V, rfl, hV, hwr⟩ := hrel
   have hwr2 := hwr.symm
   subst hwr2
   rcases hV with rfl | rfl | rfl
   ·go_wp2_with fail
    go_roundw
    case rel => exact ⟨2, by first | rfl | go_num, by omega, by first | rfl | trivial⟩
    case measure => simp [intOf]
   ·go_wp2_with fail
    go_roundw
    case rel => exact ⟨4, by first | rfl | go_num, by omega, by first | rfl | trivial⟩
    case measure => simp [intOf]
   ·go_wp2_with (first | (go_at_call 268; refine (impl_BitsOf 4 _ (by omega)).mono ?_; rintro ee w2 ⟨rfl, hw2⟩; have hw3 := hw2.symm; subst hw3; rw [show bitsW 4 = 3 from rfl]) | (at_builtin; refine wpList_bytes rfl _ _ 22 rfl Tryz.underlying22 info_Byte2 rlo a _ cap b rfl rfl HA.out hlo [210] _ 1 1 rfl (by rfl) rfl (by first | rfl | simp []) HU0.out (by simp) (by simp; omega) ?_; intro a2 c2 w2 happ2 hb2))
    go_loopw [0, 7] (fun q iv wr => ∃ (m : Nat) (out : List Int) (ar : Option Addr) (cr : Nat), m ≤ 4 ∧ iv = .int .i64 ((m : Int) - 1) ∧ q = .slice ar out.length cr ∧ Hid (AppL EByte 1 5 wr rlo ar cr out []) ∧ Hid (out ++ bigL n m = b ++ (210 :: bigL n 4)) ∧ Hid (Below rlo w wr)) (fun _ iv _ => (intOf iv + 1).toNat)
    case atStart => exact ⟨4, b ++ [210], a2, c2, by have := HW8.out; omega, by first | rfl | go_num, by first | rfl | (congr 1; simp), Lib.hid happ2, Lib.hid (by rw [List.append_assoc]; rfl), Lib.hid hb2⟩
    case round =>
     obtain ⟨m, out, ar, cr, hm, rfl, rfl, HA, HO, HB⟩ := hrel
     have hlr : rlo ≤ wr.heap.size := Nat.le_trans hlo HB.out.size
     have hol : out.length ≤ 1073741924 := by
      have h1 := congrArg List.length HO.out
      simp only [List.length_append, List.length_cons, bigL_len] at h1; omega
     cases m with
     | zero =>
      have HE2 : Hid (out = b ++ (210 :: bigL n 4)) := Lib.hid (by have := HO.out; rw [bigL, List.append_nil] at this; exact this)
      have h0 : ((0 : Nat) : Int) - 1 = -1 := rfl
      rw [h0]
      go_wp2_with fail
      go_ret
      exact ⟨ar, cr, ret_sl (by rw [HE.out, ← HE2.out]), by rw [HE.out, ← HE2.out]; exact HA.out, HB.out⟩
     | succ m =>
      have HO2 : Hid ((out ++ [n / 256 ^ m % 256]) ++ bigL n m = b ++ (210 :: bigL n 4)) := Lib.hid (by have := HO.out; rw [bigL] at this; rw [List.append_assoc]; exact this)
      have h0 : ((m + 1 : Nat) : Int) - 1 = (m : Int) := by omega
      rw [h0]
      have HU : Hid (∀ v ∈ [n / 256 ^ m % 256], U8 v) := Lib.hid (by intro v hv; rw [List.mem_singleton] at hv; subst hv; unfold U8; omega)
      have hmm : m = 0 ∨ m = 1 ∨ m = 2 ∨ m = 3 := by omega
      clear HO
      obtain rfl | rfl | rfl | rfl := hmm
      ·have ev : n / 256 ^ 0 % 256 = n % 256 := by rw [Int.pow_zero, Int.ediv_one]
       have hu8 : IntKind.u8.wrap n = n % 256 := IntKind.wrap_u8 _
       rw [ev] at HO2 HU
       clear ev
       go_wp2_with (at_builtin; refine wpList_bytes rfl _ _ 22 rfl Tryz.underlying22 info_Byte2 rlo ar _ cr out rfl rfl HA.out hlr [n % 256] _ 1 1 rfl (by rfl) rfl (by first | rfl | simp [hu8]) HU.out (by simp) (by simp; omega) ?_; intro ar2 cr2 w3 happ3 hb3)
       exact ⟨⟨0, out ++ [n % 256], ar2, cr2, by omega, by first | rfl | go_num, by first | rfl | (rw [List.length_append]; rfl) | (congr 1; simp), Lib.hid happ3, HO2, Lib.hid (HB.out.trans hb3)⟩, by simp [intOf]⟩
      ·have ev : n / 256 ^ 1 % 256 = n / 256 % 256 := by rw [show (256 : Int) ^ 1 = 256 from by decide]
       have hu8 : IntKind.u8.wrap (n / 256) = n / 256 % 256 := IntKind.wrap_u8 _
       rw [ev] at HO2 HU
       clear ev
       go_wp2_with (at_builtin; refine wpList_bytes rfl _ _ 22 rfl Tryz.underlying22 info_Byte2 rlo ar _ cr out rfl rfl HA.out hlr [n / 256 % 256] _ 1 1 rfl (by rfl) rfl (by first | rfl | simp [hu8]) HU.out (by simp) (by simp; omega) ?_; intro ar2 cr2 w3 happ3 hb3)
       exact ⟨⟨1, out ++ [n / 256 % 256], ar2, cr2, by omega, by first | rfl | go_num, by first | rfl | (rw [List.length_append]; rfl) | (congr 1; simp), Lib.hid happ3, HO2, Lib.hid (HB.out.trans hb3)⟩, by simp [intOf]⟩
      ·have ev : n / 256 ^ 2 % 256 = n / 65536 % 256 := by rw [show (256 : Int) ^ 2 = 65536 from by decide]
       have hu8 : IntKind.u8.wrap (n / 65536) = n / 65536 % 256 := IntKind.wrap_u8 _
       rw [ev] at HO2 HU
       clear ev
       go_wp2_with (at_builtin; refine wpList_bytes rfl _ _ 22 rfl Tryz.underlying22 info_Byte2 rlo ar _ cr out rfl rfl HA.out hlr [n / 65536 % 256] _ 1 1 rfl (by rfl) rfl (by first | rfl | simp [hu8]) HU.out (by simp) (by simp; omega) ?_; intro ar2 cr2 w3 happ3 hb3)
       exact ⟨⟨2, out ++ [n / 65536 % 256], ar2, cr2, by omega, by first | rfl | go_num, by first | rfl | (rw [List.length_append]; rfl) | (congr 1; simp), Lib.hid happ3, HO2, Lib.hid (HB.out.trans hb3)⟩, by simp [intOf]⟩
      ·have ev : n / 256 ^ 3 % 256 = n / 16777216 % 256 := by rw [show (256 : Int) ^ 3 = 16777216 from by decide]
       have hu8 : IntKind.u8.wrap (n / 16777216) = n / 16777216 % 256 := IntKind.wrap_u8 _
       rw [ev] at HO2 HU
       clear ev
       go_wp2_with (at_builtin; refine wpList_bytes rfl _ _ 22 rfl Tryz.underlying22 info_Byte2 rlo ar _ cr out rfl rfl HA.out hlr [n / 16777216 % 256] _ 1 1 rfl (by rfl) rfl (by first | rfl | simp [hu8]) HU.out (by simp) (by simp; omega) ?_; intro ar2 cr2 w3 happ3 hb3)
       exact ⟨⟨3, out ++ [n / 16777216 % 256], ar2, cr2, by omega, by first | rfl | go_num, by first | rfl | (rw [List.length_append]; rfl) | (congr 1; simp), Lib.hid happ3, HO2, Lib.hid (HB.out.trans hb3)⟩, by simp [intOf]⟩
 have HE : Hid (putIntL n = 211 :: bigL n 8) := Lib.hid (by unfold putIntL intW; rw [if_neg h1, if_neg h2, if_neg g1, if_neg g2, if_neg g4]; rfl)
 have HU0 : Hid (∀ v ∈ [(211 : Int)], U8 v) := Lib.hid (by intro v hv; rw [List.mem_singleton] at hv; subst hv; unfold U8; omega)
 have HW8 : Hid (8 ≤ 8) := Lib.hid (by omega)
 go_enter Tryz.func254, Tryz.ntmps254
 go_wp2_with (go_at_call 125; refine (impl_withinE _ _ _ _).mono ?_; rintro ee w2 ⟨rfl, hw2⟩; have hw3 := hw2.symm; subst hw3; rw [DN.out])
 go_loopw [6] (fun wv wr => ∃ V : Int, wv = .int .i64 V ∧ (V = 1 ∨ V = 2 ∨ V = 4 ∨ V = 8) ∧ wr = w) (fun wv _ => (8 - intOf wv).toNat)
 case atStart => exact ⟨1, rfl, by omega, rfl⟩
 case round =>
  obtain ⟨V, rfl, hV, hwr⟩ := hrel
  have hwr2 := hwr.symm
  subst hwr2
  rcases hV with rfl | rfl | rfl | rfl
  ·go_wp2_with fail
   go_roundw
   case rel => exact ⟨2, by first | rfl | go_num, by omega, by first | rfl | trivial⟩
   case measure => simp [intOf]
  ·go_wp2_with fail
   go_roundw
   case rel => exact ⟨4, by first | rfl | go_num, by omega, by first | rfl | trivial⟩
   case measure => simp [intOf]
  ·go_wp2_with fail
   go_roundw
   case rel => exact ⟨8, by first | rfl | go_num, by omega, by first | rfl | trivial⟩
   case measure => simp [intOf]
  ·go_wp2_with (first | (go_at_call 268; refine (impl_BitsOf 8 _ (by omega)).mono ?_; rintro ee w2 ⟨rfl, hw2⟩; have hw3 := hw2.symm; subst hw3; rw [show bitsW 8 = 4 from rfl]) | (at_builtin; refine wpList_bytes rfl _ _ 22 rfl Tryz.underlying22 info_Byte2 rlo a _ cap b rfl rfl HA.out hlo [211] _ 1 1 rfl (by rfl) rfl (by first | rfl | simp []) HU0.out (by simp) (by simp; omega) ?_; intro a2 c2 w2 happ2 hb2))
   go_loopw [0, 7] (fun q iv wr => ∃ (m : Nat) (out : List Int) (ar : Option Addr) (cr : Nat), m ≤ 8 ∧ iv = .int .i64 ((m : Int) - 1) ∧ q = .slice ar out.length cr ∧ Hid (AppL EByte 1 5 wr rlo ar cr out []) ∧ Hid (out ++ bigL n m = b ++ (211 :: bigL n 8)) ∧ Hid (Below rlo w wr)) (fun _ iv _ => (intOf iv + 1).toNat)
   case atStart => exact ⟨8, b ++ [211], a2, c2, by have := HW8.out; omega, by first | rfl | go_num, by first | rfl | (congr 1; simp), Lib.hid happ2, Lib.hid (by rw [List.append_assoc]; rfl), Lib.hid hb2⟩
   case round =>
    obtain ⟨m, out, ar, cr, hm, rfl, rfl, HA, HO, HB⟩ := hrel
    have hlr : rlo ≤ wr.heap.size := Nat.le_trans hlo HB.out.size
    have hol : out.length ≤ 1073741924 := by
     have h1 := congrArg List.length HO.out
     simp only [List.length_append, List.length_cons, bigL_len] at h1; omega
    cases m with
    | zero =>
     have HE2 : Hid (out = b ++ (211 :: bigL n 8)) := Lib.hid (by have := HO.out; rw [bigL, List.append_nil] at this; exact this)
     have h0 : ((0 : Nat) : Int) - 1 = -1 := rfl
     rw [h0]
     go_wp2_with fail
     go_ret
     exact ⟨ar, cr, ret_sl (by rw [HE.out, ← HE2.out]), by rw [HE.out, ← HE2.out]; exact HA.out, HB.out⟩
    | succ m =>
     have HO2 : Hid ((out ++ [n / 256 ^ m % 256]) ++ bigL n m = b ++ (211 :: bigL n 8)) := Lib.hid (by have := HO.out; rw [bigL] at this; rw [List.append_assoc]; exact this)
     have h0 : ((m + 1 : Nat) : Int) - 1 = (m : Int) := by omega
     rw [h0]
     have HU : Hid (∀ v ∈ [n / 256 ^ m % 256], U8 v) := Lib.hid (by intro v hv; rw [List.mem_singleton] at hv; subst hv; unfold U8; omega)
     have hmm : m = 0 ∨ m = 1 ∨ m = 2 ∨ m = 3 ∨ m = 4 ∨ m = 5 ∨ m = 6 ∨ m = 7 := by omega
     clear HO
     obtain rfl | rfl | rfl | rfl | rfl | rfl | rfl | rfl := hmm
     ·have ev : n / 256 ^ 0 % 256 = n % 256 := by rw [Int.pow_zero, Int.ediv_one]
      have hu8 : IntKind.u8.wrap n = n % 256 := IntKind.wrap_u8 _
      rw [ev] at HO2 HU
      clear ev
      go_wp2_with (at_builtin; refine wpList_bytes rfl _ _ 22 rfl Tryz.underlying22 info_Byte2 rlo ar _ cr out rfl rfl HA.out hlr [n % 256] _ 1 1 rfl (by rfl) rfl (by first | rfl | simp [hu8]) HU.out (by simp) (by simp; omega) ?_; intro ar2 cr2 w3 happ3 hb3)
      exact ⟨⟨0, out ++ [n % 256], ar2, cr2, by omega, by first | rfl | go_num, by first | rfl | (rw [List.length_append]; rfl) | (congr 1; simp), Lib.hid happ3, HO2, Lib.hid (HB.out.trans hb3)⟩, by simp [intOf]⟩
     ·have ev : n / 256 ^ 1 % 256 = n / 256 % 256 := by rw [show (256 : Int) ^ 1 = 256 from by decide]
      have hu8 : IntKind.u8.wrap (n / 256) = n / 256 % 256 := IntKind.wrap_u8 _
      rw [ev] at HO2 HU
      clear ev
      go_wp2_with (at_builtin; refine wpList_bytes rfl _ _ 22 rfl Tryz.underlying22 info_Byte2 rlo ar _ cr out rfl rfl HA.out hlr [n / 256 % 256] _ 1 1 rfl (by rfl) rfl (by first | rfl | simp [hu8]) HU.out (by simp) (by simp; omega) ?_; intro ar2 cr2 w3 happ3 hb3)
      exact ⟨⟨1, out ++ [n / 256 % 256], ar2, cr2, by omega, by first | rfl | go_num, by first | rfl | (rw [List.length_append]; rfl) | (congr 1; simp), Lib.hid happ3, HO2, Lib.hid (HB.out.trans hb3)⟩, by simp [intOf]⟩
     ·have ev : n / 256 ^ 2 % 256 = n / 65536 % 256 := by rw [show (256 : Int) ^ 2 = 65536 from by decide]
      have hu8 : IntKind.u8.wrap (n / 65536) = n / 65536 % 256 := IntKind.wrap_u8 _
      rw [ev] at HO2 HU
      clear ev
      go_wp2_with (at_builtin; refine wpList_bytes rfl _ _ 22 rfl Tryz.underlying22 info_Byte2 rlo ar _ cr out rfl rfl HA.out hlr [n / 65536 % 256] _ 1 1 rfl (by rfl) rfl (by first | rfl | simp [hu8]) HU.out (by simp) (by simp; omega) ?_; intro ar2 cr2 w3 happ3 hb3)
      exact ⟨⟨2, out ++ [n / 65536 % 256], ar2, cr2, by omega, by first | rfl | go_num, by first | rfl | (rw [List.length_append]; rfl) | (congr 1; simp), Lib.hid happ3, HO2, Lib.hid (HB.out.trans hb3)⟩, by simp [intOf]⟩
     ·have ev : n / 256 ^ 3 % 256 = n / 16777216 % 256 := by rw [show (256 : Int) ^ 3 = 16777216 from by decide]
      have hu8 : IntKind.u8.wrap (n / 16777216) = n / 16777216 % 256 := IntKind.wrap_u8 _
      rw [ev] at HO2 HU
      clear ev
      go_wp2_with (at_builtin; refine wpList_bytes rfl _ _ 22 rfl Tryz.underlying22 info_Byte2 rlo ar _ cr out rfl rfl HA.out hlr [n / 16777216 % 256] _ 1 1 rfl (by rfl) rfl (by first | rfl | simp [hu8]) HU.out (by simp) (by simp; omega) ?_; intro ar2 cr2 w3 happ3 hb3)
      exact ⟨⟨3, out ++ [n / 16777216 % 256], ar2, cr2, by omega, by first | rfl | go_num, by first | rfl | (rw [List.length_append]; rfl) | (congr 1; simp), Lib.hid happ3, HO2, Lib.hid (HB.out.trans hb3)⟩, by simp [intOf]⟩
     ·have ev : n / 256 ^ 4 % 256 = n / 4294967296 % 256 := by rw [show (256 : Int) ^ 4 = 4294967296 from by decide]
      have hu8 : IntKind.u8.wrap (n / 4294967296) = n / 4294967296 % 256 := IntKind.wrap_u8 _
      rw [ev] at HO2 HU
      clear ev
      go_wp2_with (at_builtin; refine wpList_bytes rfl _ _ 22 rfl Tryz.underlying22 info_Byte2 rlo ar _ cr out rfl rfl HA.out hlr [n / 4294967296 % 256] _ 1 1 rfl (by rfl) rfl (by first | rfl | simp [hu8]) HU.out (by simp) (by simp; omega) ?_; intro ar2 cr2 w3 happ3 hb3)
      exact ⟨⟨4, out ++ [n / 4294967296 % 256], ar2, cr2, by omega, by first | rfl | go_num, by first | rfl | (rw [List.length_append]; rfl) | (congr 1; simp), Lib.hid happ3, HO2, Lib.hid (HB.out.trans hb3)⟩, by simp [intOf]⟩
     ·have ev : n / 256 ^ 5 % 256 = n / 1099511627776 % 256 := by rw [show (256 : Int) ^ 5 = 1099511627776 from by decide]
      have hu8 : IntKind.u8.wrap (n / 1099511627776) = n / 1099511627776 % 256 := IntKind.wrap_u8 _
      rw [ev] at HO2 HU
      clear ev
      go_wp2_with (at_builtin; refine wpList_bytes rfl _ _ 22 rfl Tryz.underlying22 info_Byte2 rlo ar _ cr out rfl rfl HA.out hlr [n / 1099511627776 % 256] _ 1 1 rfl (by rfl) rfl (by first | rfl | simp [hu8]) HU.out (by simp) (by simp; omega) ?_; intro ar2 cr2 w3 happ3 hb3)
      exact ⟨⟨5, out ++ [n / 1099511627776 % 256], ar2, cr2, by omega, by first | rfl | go_num, by first | rfl | (rw [List.length_append]; rfl) | (congr 1; simp), Lib.hid happ3, HO2, Lib.hid (HB.out.trans hb3)⟩, by simp [intOf]⟩
     ·have ev : n / 256 ^ 6 % 256 = n / 281474976710656 % 256 := by rw [show (256 : Int) ^ 6 = 281474976710656 from by decide]
      have hu8 : IntKind.u8.wrap (n / 281474976710656) = n / 281474976710656 % 256 := IntKind.wrap_u8 _
      rw [ev] at HO2 HU
      clear ev
      go_wp2_with (at_builtin; refine wpList_bytes rfl _ _ 22 rfl Tryz.underlying22 info_Byte2 rlo ar _ cr out rfl rfl HA.out hlr [n / 281474976710656 % 256] _ 1 1 rfl (by rfl) rfl (by first | rfl | simp [hu8]) HU.out (by simp) (by simp; omega) ?_; intro ar2 cr2 w3 happ3 hb3)
      exact ⟨⟨6, out ++ [n / 281474976710656 % 256], ar2, cr2, by omega, by first | rfl | go_num, by first | rfl | (rw [List.length_append]; rfl) | (congr 1; simp), Lib.hid happ3, HO2, Lib.hid (HB.out.trans hb3)⟩, by simp [intOf]⟩
     ·have ev : n / 256 ^ 7 % 256 = n / 72057594037927936 % 256 := by rw [show (256 : Int) ^ 7 = 72057594037927936 from by decide]
      have hu8 : IntKind.u8.wrap (n / 72057594037927936) = n / 72057594037927936 % 256 := IntKind.wrap_u8 _
      rw [ev] at HO2 HU
      clear ev
      go_wp2_with (at_builtin; refine wpList_bytes rfl _ _ 22 rfl Tryz.underlying22 info_Byte2 rlo ar _ cr out rfl rfl HA.out hlr [n / 72057594037927936 % 256] _ 1 1 rfl (by rfl) rfl (by first | rfl | simp [hu8]) HU.out (by simp) (by simp; omega) ?_; intro ar2 cr2 w3 happ3 hb3)
      exact ⟨⟨7, out ++ [n / 72057594037927936 % 256], ar2, cr2, by omega, by first | rfl | go_num, by first | rfl | (rw [List.length_append]; rfl) | (congr 1; simp), Lib.hid happ3, HO2, Lib.hid (HB.out.trans hb3)⟩, by simp [intOf]⟩
end Go.Proofs.YtggdenkmohnijaaGreatDoor
