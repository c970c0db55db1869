/- Texts of this proof, merged: Num, TextF, ValF, Rune, Rune2, ValF2. No condition beyond what each theorem states. -/
import Derived.Laws.BytesArg
import Derived.Lib.ItoaNum
import Derived.Lib.AppendIntMem
import Derived.Test.YtggdenkmohnijaaGreatDoorZO2
import Derived.Test.YtggdenkmohnijaaGreatDoorShelf
import Derived.Lib.ValidLaws
import Derived.Lib.ValidAsc
import Derived.Lib.ItoaLen
import Derived.Lib.ConvBytes
import Derived.Shelf.Unicode.ValidAny
set_option linter.unusedSimpArgs false
set_option linter.unnecessarySimpa false
namespace Go.Proofs.YtggdenkmohnijaaGreatDoor
open Go.ChangeShapes Go.WideShapes Go.ChangeAt Go.RowKit Go.Joins
set_option linter.unusedVariables false
set_option maxRecDepth 100000
def sdig (k : Nat) (out : ByteArray) : ByteArray := if h : k = 0 then out else sdig (k / 10) (strOfNums [48 + (k : Int) % 10] ++ out)
termination_by k
decreasing_by omega
theorem sdig_zero (out : ByteArray) : sdig 0 out = out := by rw [sdig]; simp
theorem sdig_pos (k : Nat) (h : k ≠ 0) (out : ByteArray) : sdig k out = sdig (k / 10) (strOfNums [48 + (k : Int) % 10] ++ out) := by rw [sdig]; simp [h]
theorem digit_one (k : Nat) (h : k < 10) : strOfNums [48 + (k : Int)] = ⟨#[UInt8.ofNat (48 + k)]⟩ := by
 have h1 : (48 + (k : Int)).toNat = 48 + k := by omega
 unfold strOfNums
 simp only [List.map, h1]
theorem sdig_dec (k : Nat) : ∀ out : ByteArray, k ≠ 0 → sdig k out = ⟨(Lib.decDigits k).toArray⟩ ++ out := by
 induction k using Nat.strongRecOn with
 | ind k ih =>
  intro out h
  rw [sdig_pos k h]
  have hm : (k : Int) % 10 = ((k % 10 : Nat) : Int) := by omega
  rw [hm, digit_one _ (by omega)]
  by_cases h10 : k < 10
  ·rw [show k / 10 = 0 from by omega, sdig_zero, Lib.decDigits_one h10, Nat.mod_eq_of_lt h10]
  ·rw [ih (k / 10) (by omega) _ (by omega), ← ByteArray.append_assoc]
   have e : Lib.decDigits k = Lib.decDigits (k / 10) ++ [UInt8.ofNat (48 + k % 10)] := by
    conv => lhs; rw [Lib.decDigits, dif_neg h10]
   rw [e]
   congr 1
theorem small_pow {m k : Nat} (h : m * 10 ^ k ≤ 9223372036854775808) (hm : m ≠ 0) : k ≤ 18 := by
 rcases Nat.lt_or_ge 18 k with hk | hk
 ·exfalso
  have h1 : 10 ^ 19 ≤ 10 ^ k := Nat.pow_le_pow_right (by omega) hk
  have h2 : 1 * 10 ^ k ≤ m * 10 ^ k := Nat.mul_le_mul_right _ (by omega)
  have h3 : (10 : Nat) ^ 19 = 10000000000000000000 := by decide
  omega
 ·exact hk
theorem next_pow {m k : Nat} (h : m * 10 ^ k ≤ 9223372036854775808) : m / 10 * 10 ^ (1 + k) ≤ 9223372036854775808 := by
 rw [Nat.pow_add, ← Nat.mul_assoc]
 have h1 : m / 10 * 10 ^ 1 ≤ m := by omega
 exact Nat.le_trans (Nat.mul_le_mul_right _ h1) h
def numT (n : Int) : ByteArray := ⟨(Lib.itoa n).toArray⟩
theorem numT_zero : numT 0 = ⟨#[48]⟩ := by unfold numT Lib.itoa; rw [if_neg (by omega), Int.toNat_zero, Lib.decDigits_one (by omega)]; rfl
set_option maxHeartbeats 800000 in
theorem spec_NumText (n : Int) (w : World) (hn : I64 n) :
  Calls Tryz.prog 113 #[.int .i64 n] w fun e w' => e = .returned (.string (numT n)) ∧ Below w.heap.size w w' := by
 obtain ⟨hn0, hn1⟩ := hn
 by_cases hz : n = 0
 ·subst hz
  go_enter Tryz.func113, Tryz.ntmps113
  go_wp2
  go_ret
  exact ⟨by rw [numT_zero]; rfl, by go_grown⟩
 ·by_cases hp : 0 < n
  ·obtain ⟨u, rfl⟩ : ∃ u : Nat, n = u := ⟨n.toNat, by omega⟩
   have hzb : ((u : Int) == 0) = false := by rw [beq_eq_false_iff_ne]; omega
   have HT := Lib.hid (show numT u = sdig u ⟨#[]⟩ from by rw [sdig_dec u _ (by omega)]; unfold numT Lib.itoa; rw [if_neg (by omega)]; simp; apply bytes_inj; simp)
   go_enter Tryz.func113, Tryz.ntmps113
   go_wp2_with fail
   go_loopw [3, 4, 5] (fun s q _ wr => ∃ (m : Nat) (o : ByteArray), q = .int .i64 m ∧ s = .string o ∧ m ≤ 9223372036854775807 ∧ o.size ≤ 19 ∧ Hid (m * 10 ^ o.size ≤ 9223372036854775808) ∧ Hid (sdig u ⟨#[]⟩ = sdig m o) ∧ Below w.heap.size w wr) (fun _ q _ _ => (intOf q).toNat)
   case atStart => exact ⟨u, ⟨#[]⟩, by go_num, rfl, by omega, by have h2 : (⟨#[]⟩ : ByteArray).size = 0 := rfl; omega, by have h2 : (⟨#[]⟩ : ByteArray).size = 0 := rfl; show _ ≤ _; rw [h2]; omega, rfl, Below.refl _ _⟩
   case round =>
    obtain ⟨m, o, rfl, rfl, hm1, hs, HPW, HM, hb⟩ := hrel
    by_cases hm : m = 0
    ·subst hm
     go_wp2_with fail
     go_ret
     refine ⟨?_, hb⟩
     have h2 := HM.out
     rw [sdig_zero] at h2
     rw [HT.out, h2]; rfl
    ·have hm0 : 0 < m := by omega
     have hmb : ((m : Int) == 0) = false := by rw [beq_eq_false_iff_ne]; omega
     have hcv := run_convert_bytes_arg (P := Tryz.prog) (wr.alloc (.cells #[.int .u8 (48 + (m : Int) % 10)] 5)) 22 5 Tryz.underlying22 Tryz.underlying5 wr.heap.size 0 1 1 [48 + (m : Int) % 10] rfl (by intro i hi; (obtain rfl : i = 0 := (by omega)); exact (Is.new wr _ _).cell 0 rfl) 9 Tryz.underlying9
     have hs18 := small_pow HPW.out hm
     have HPN := Lib.hid (next_pow HPW.out)
     have hd0 : ¬ ((m : Int) % 10 < 0) := by omega
     have HM2 := Lib.hid (HM.out.trans (sdig_pos m hm o))
     have hsz : (strOfNums [48 + (m : Int) % 10]).size = 1 := strOfNums_size _
     clear HM
     go_wp2_with fail
     go_roundw
     case rel => exact ⟨m / 10, _, by go_num, rfl, by omega, by rw [ByteArray.size_append]; omega, by show _ ≤ _; rw [ByteArray.size_append, hsz]; exact HPN.out, HM2.out, hb.trans ((below1 _ _).mono hb.size)⟩
     case measure => simp [intOf]; omega
  ·obtain ⟨u, rfl⟩ : ∃ u : Nat, n = -(u : Int) := ⟨n.natAbs, by omega⟩
   have hzb : (-(u : Int) == 0) = false := by rw [beq_eq_false_iff_ne]; omega
   have hlt0 : -(u : Int) < 0 := by omega
   have HT := Lib.hid (show numT (-(u : Int)) = ⟨#[45]⟩ ++ sdig u ⟨#[]⟩ from by rw [sdig_dec u _ (by omega)]; unfold numT Lib.itoa; rw [if_pos (by omega)]; simp; apply bytes_inj; simp)
   go_enter Tryz.func113, Tryz.ntmps113
   go_wp2_with fail
   go_loopw [3, 4, 5] (fun s q _ wr => ∃ (m : Nat) (o : ByteArray), q = .int .i64 (-(m : Int)) ∧ s = .string o ∧ m ≤ 9223372036854775808 ∧ o.size ≤ 20 ∧ Hid (m * 10 ^ o.size ≤ 9223372036854775808) ∧ Hid (sdig u ⟨#[]⟩ = sdig m o) ∧ Below w.heap.size w wr) (fun _ q _ _ => (intOf q).natAbs)
   case atStart => exact ⟨u, ⟨#[]⟩, by go_num, rfl, by omega, by have h2 : (⟨#[]⟩ : ByteArray).size = 0 := rfl; omega, by have h2 : (⟨#[]⟩ : ByteArray).size = 0 := rfl; show _ ≤ _; rw [h2]; omega, rfl, Below.refl _ _⟩
   case round =>
    obtain ⟨m, o, rfl, rfl, hm1, hs, HPW, HM, hb⟩ := hrel
    by_cases hm : m = 0
    ·subst hm
     go_wp2_with fail
     go_ret
     refine ⟨?_, hb⟩
     have h2 := HM.out
     rw [sdig_zero] at h2
     rw [HT.out, h2]; rfl
    ·have hm0 : 0 < m := by omega
     have hmb : (-(m : Int) == 0) = false := by rw [beq_eq_false_iff_ne]; omega
     have hcv := run_convert_bytes_arg (P := Tryz.prog) (wr.alloc (.cells #[.int .u8 (48 + (m : Int) % 10)] 5)) 22 5 Tryz.underlying22 Tryz.underlying5 wr.heap.size 0 1 1 [48 + (m : Int) % 10] rfl (by intro i hi; (obtain rfl : i = 0 := (by omega)); exact (Is.new wr _ _).cell 0 rfl) 9 Tryz.underlying9
     have hs18 := small_pow HPW.out hm
     have HPN := Lib.hid (next_pow HPW.out)
     have htm : (-(m : Int)).tmod 10 = -((m : Int) % 10) := by rw [Int.neg_tmod, Int.tmod_eq_emod_of_nonneg (by omega)]
     have htd : (-(m : Int)).tdiv 10 = -((m : Int) / 10) := by rw [Int.neg_tdiv, Int.tdiv_eq_ediv_of_nonneg (by omega)]
     have HM2 := Lib.hid (HM.out.trans (sdig_pos m hm o))
     have hsz : (strOfNums [48 + (m : Int) % 10]).size = 1 := strOfNums_size _
     clear HM
     by_cases hd : (m : Int) % 10 = 0
     ·have HM3 := Lib.hid (show sdig u ⟨#[]⟩ = sdig (m / 10) (strOfNums [48] ++ o) from by have := HM2.out; rw [hd] at this; exact this)
      have hsz3 : (strOfNums [48]).size = 1 := strOfNums_size _
      have hcv3 := run_convert_bytes_arg (P := Tryz.prog) (wr.alloc (.cells #[.int .u8 48] 5)) 22 5 Tryz.underlying22 Tryz.underlying5 wr.heap.size 0 1 1 [48] rfl (by intro i hi; (obtain rfl : i = 0 := (by omega)); exact (Is.new wr _ _).cell 0 rfl) 9 Tryz.underlying9
      clear hcv hsz HM2
      go_wp2_with fail
      go_roundw
      case rel => exact ⟨m / 10, _, by go_num, rfl, by omega, by rw [ByteArray.size_append]; omega, by show _ ≤ _; rw [ByteArray.size_append, hsz3]; exact HPN.out, HM3.out, hb.trans ((below1 _ _).mono hb.size)⟩
      case measure => simp [intOf]; omega
     ·have hd0 : -((m : Int) % 10) < 0 := by omega
      go_wp2_with fail
      go_roundw
      case rel => exact ⟨m / 10, _, by go_num, rfl, by omega, by rw [ByteArray.size_append]; omega, by show _ ≤ _; rw [ByteArray.size_append, hsz]; exact HPN.out, HM2.out, hb.trans ((below1 _ _).mono hb.size)⟩
      case measure => simp [intOf]; omega
theorem impl_NumText (n : Int) (w : World) (hn : I64 n) (htab : Lib.TabIs Tryz.prog w "internal/strconv.uint64pow10" .u64 Lib.pow10Tab) :
  Calls Tryz.prog 196 #[.int .i64 n] w fun e w' => e = .returned (.string (numT n)) ∧ Below w.heap.size w w' := by
 have h := Tryz.strconv_Itoa n hn.1 hn.2 w htab
 go_enter Tryz.func196, Tryz.ntmps196
 go_wp2_with fail
 refine h.mono ?_
 rintro e w2 ⟨rfl, k, os, rfl⟩
 go_wp2_with fail
 go_ret
 exact ⟨rfl, Go.Lib.below_grow _ w (Nat.le_refl _) k os⟩
def grW (n b0 b1 b2 b3 : Nat) : Nat × Nat :=
 if b0 < 128 then (b0, 1)
 else if 192 ≤ b0 ∧ b0 ≤ 223 then (if 2 ≤ n ∧ (128 ≤ b1 ∧ b1 ≤ 191) ∧ 128 ≤ (b0 - 192) * 64 + (b1 - 128) then ((b0 - 192) * 64 + (b1 - 128), 2) else (0, 0))
 else if 224 ≤ b0 ∧ b0 ≤ 239 then (if 3 ≤ n ∧ (128 ≤ b1 ∧ b1 ≤ 191) ∧ (128 ≤ b2 ∧ b2 ≤ 191) ∧ 2048 ≤ (b0 - 224) * 4096 + (b1 - 128) * 64 + (b2 - 128) ∧ ¬ (55296 ≤ (b0 - 224) * 4096 + (b1 - 128) * 64 + (b2 - 128) ∧ (b0 - 224) * 4096 + (b1 - 128) * 64 + (b2 - 128) ≤ 57343) then ((b0 - 224) * 4096 + (b1 - 128) * 64 + (b2 - 128), 3) else (0, 0))
 else if 240 ≤ b0 ∧ b0 ≤ 247 then (if 4 ≤ n ∧ (128 ≤ b1 ∧ b1 ≤ 191) ∧ (128 ≤ b2 ∧ b2 ≤ 191) ∧ (128 ≤ b3 ∧ b3 ≤ 191) ∧ 65536 ≤ (b0 - 240) * 262144 + (b1 - 128) * 4096 + (b2 - 128) * 64 + (b3 - 128) ∧ (b0 - 240) * 262144 + (b1 - 128) * 4096 + (b2 - 128) * 64 + (b3 - 128) ≤ 1114111 then ((b0 - 240) * 262144 + (b1 - 128) * 4096 + (b2 - 128) * 64 + (b3 - 128), 4) else (0, 0))
 else (0, 0)
set_option maxHeartbeats 4000000 in
theorem grW_decode (n b0 b1 b2 b3 : Nat) (hn : 1 ≤ n) (h0 : b0 < 256) (h1 : b1 < 256) (h2 : b2 < 256) (h3 : b3 < 256) :
  ((grW n b0 b1 b2 b3).2 = 0 ∧ Lib.decodeN n b0 b1 b2 b3 = (65533, 1)) ∨ ((grW n b0 b1 b2 b3).2 ≠ 0 ∧ Lib.decodeN n b0 b1 b2 b3 = grW n b0 b1 b2 b3 ∧ (grW n b0 b1 b2 b3).2 ≤ n ∧ ((grW n b0 b1 b2 b3).2 = 1 → (grW n b0 b1 b2 b3).1 < 128)) := by
 unfold grW Lib.decodeN
 by_cases c0 : b0 < 128
 ·rw [if_pos c0]; right; exact ⟨by simp, by rw [if_pos c0], by simpa using hn, fun _ => c0⟩
 rw [if_neg c0, if_neg c0]
 by_cases c1 : 192 ≤ b0 ∧ b0 ≤ 223
 ·rw [if_pos c1]
  by_cases d : 2 ≤ n ∧ (128 ≤ b1 ∧ b1 ≤ 191) ∧ 128 ≤ (b0 - 192) * 64 + (b1 - 128)
  ·rw [if_pos d, if_pos (by omega), if_pos (by omega)]; right
   exact ⟨by simp, by apply Prod.ext <;> simp only <;> omega, by simp only; omega, by simp⟩
  ·rw [if_neg d]; left
   refine ⟨rfl, ?_⟩
   by_cases e : b0 / 32 = 6 ∧ (1 < n ∧ b1 / 64 = 2)
   ·rw [if_pos e, if_neg (by omega)]
   ·rw [if_neg e, if_neg (by omega), if_neg (by omega)]
 rw [if_neg c1]
 by_cases c2 : 224 ≤ b0 ∧ b0 ≤ 239
 ·rw [if_pos c2]
  by_cases d : 3 ≤ n ∧ (128 ≤ b1 ∧ b1 ≤ 191) ∧ (128 ≤ b2 ∧ b2 ≤ 191) ∧ 2048 ≤ (b0 - 224) * 4096 + (b1 - 128) * 64 + (b2 - 128) ∧ ¬ (55296 ≤ (b0 - 224) * 4096 + (b1 - 128) * 64 + (b2 - 128) ∧ (b0 - 224) * 4096 + (b1 - 128) * 64 + (b2 - 128) ≤ 57343)
  ·rw [if_pos d, if_neg (by omega), if_pos (by omega), if_pos (by omega)]; right
   exact ⟨by simp, by apply Prod.ext <;> simp only <;> omega, by simp only; omega, by simp⟩
  ·rw [if_neg d]; left
   refine ⟨rfl, ?_⟩
   rw [if_neg (by omega)]
   by_cases e : b0 / 16 = 14 ∧ (1 < n ∧ b1 / 64 = 2) ∧ (2 < n ∧ b2 / 64 = 2)
   ·rw [if_pos e, if_neg (by omega)]
   ·rw [if_neg e, if_neg (by omega)]
 rw [if_neg c2]
 by_cases c3 : 240 ≤ b0 ∧ b0 ≤ 247
 ·rw [if_pos c3]
  by_cases d : 4 ≤ n ∧ (128 ≤ b1 ∧ b1 ≤ 191) ∧ (128 ≤ b2 ∧ b2 ≤ 191) ∧ (128 ≤ b3 ∧ b3 ≤ 191) ∧ 65536 ≤ (b0 - 240) * 262144 + (b1 - 128) * 4096 + (b2 - 128) * 64 + (b3 - 128) ∧ (b0 - 240) * 262144 + (b1 - 128) * 4096 + (b2 - 128) * 64 + (b3 - 128) ≤ 1114111
  ·rw [if_pos d, if_neg (by omega), if_neg (by omega), if_pos (by omega), if_pos (by omega)]; right
   exact ⟨by simp, by apply Prod.ext <;> simp only <;> omega, by simp only; omega, by simp⟩
  ·rw [if_neg d]; left
   refine ⟨rfl, ?_⟩
   rw [if_neg (by omega), if_neg (by omega)]
   by_cases e : b0 / 8 = 30 ∧ (1 < n ∧ b1 / 64 = 2) ∧ (2 < n ∧ b2 / 64 = 2) ∧ (3 < n ∧ b3 / 64 = 2)
   ·rw [if_pos e, if_neg (by omega)]
   ·rw [if_neg e]
 rw [if_neg c3]; left
 exact ⟨rfl, by rw [if_neg (by omega), if_neg (by omega), if_neg (by omega)]⟩
def grL (l : List UInt8) : Nat × Nat := grW l.length (l.getD 0 0).toNat (l.getD 1 0).toNat (l.getD 2 0).toNat (l.getD 3 0).toNat
theorem grL_cases (l : List UInt8) (hne : l ≠ []) : ((grL l).2 = 0 ∧ Lib.decodeL l = (65533, 1)) ∨ ((grL l).2 ≠ 0 ∧ Lib.decodeL l = grL l ∧ (grL l).2 ≤ l.length ∧ ((grL l).2 = 1 → (grL l).1 < 128)) := by
 have hl : 0 < l.length := List.length_pos_iff.2 hne
 rw [Lib.decodeL_N]
 exact grW_decode _ _ _ _ _ hl (l.getD 0 0).toNat_lt (l.getD 1 0).toNat_lt (l.getD 2 0).toNat_lt (l.getD 3 0).toNat_lt
theorem validD_gr (l : List UInt8) (hne : l ≠ []) : Lib.validD l = if (grL l).2 = 0 then false else Lib.validD (l.drop (grL l).2) := by
 rw [Lib.validD_step l hne]
 rcases grL_cases l hne with ⟨h1, h2⟩ | ⟨h1, h2, h3, h4⟩
 ·rw [h2, if_pos h1]; simp
 ·rw [h2, if_neg h1, if_neg (fun h => by have := h4 h.2; omega)]
theorem spec_l1In (n lo hi : Int) (w : World) : Calls Tryz.prog 74 #[.int .i64 n, .int .i64 lo, .int .i64 hi] w fun e w' => e = .returned (.bool (decide (lo ≤ n ∧ n ≤ hi))) ∧ Below w.heap.size w w' := by
 by_cases h1 : lo ≤ n
 ·by_cases h2 : n ≤ hi
  ·have hd : decide (lo ≤ n ∧ n ≤ hi) = true := decide_eq_true ⟨h1, h2⟩
   rw [hd]; clear hd
   go_enter Tryz.func74, Tryz.ntmps74
   go_wp2
   go_ret
   exact ⟨rfl, by go_grown⟩
  ·have hd : decide (lo ≤ n ∧ n ≤ hi) = false := decide_eq_false (fun h => h2 h.2)
   rw [hd]; clear hd
   go_enter Tryz.func74, Tryz.ntmps74
   go_wp2
   go_ret
   exact ⟨rfl, by go_grown⟩
 ·have hd : decide (lo ≤ n ∧ n ≤ hi) = false := decide_eq_false (fun h => h1 h.1)
  rw [hd]; clear hd
  go_enter Tryz.func74, Tryz.ntmps74
  go_wp2
  go_ret
  exact ⟨rfl, by go_grown⟩
theorem impl_within (n lo hi : Int) (w : World) : Calls Tryz.prog 125 #[.int .i64 n, .int .i64 lo, .int .i64 hi] w fun e w' => e = .returned (.bool (decide (lo ≤ n ∧ n ≤ hi))) ∧ Below w.heap.size w w' := by
 by_cases h1 : lo ≤ n
 ·by_cases h2 : n ≤ hi
  ·have hd : decide (lo ≤ n ∧ n ≤ hi) = true := decide_eq_true ⟨h1, h2⟩
   rw [hd]; clear hd
   go_enter Tryz.func125, Tryz.ntmps125
   go_wp2
   go_ret
   exact ⟨rfl, by go_grown⟩
  ·have hd : decide (lo ≤ n ∧ n ≤ hi) = false := decide_eq_false (fun h => h2 h.2)
   rw [hd]; clear hd
   go_enter Tryz.func125, Tryz.ntmps125
   go_wp2
   go_ret
   exact ⟨rfl, by go_grown⟩
 ·have hd : decide (lo ≤ n ∧ n ≤ hi) = false := decide_eq_false (fun h => h1 h.1)
  rw [hd]; clear hd
  go_enter Tryz.func125, Tryz.ntmps125
  go_wp2
  go_ret
  exact ⟨rfl, by go_grown⟩
def digN (n : Int) : Nat := Lib.nDigits n.natAbs
def digC (m : Nat) : Nat := if m = 0 then 0 else Lib.nDigits m
theorem digC_zero : digC 0 = 0 := rfl
theorem nDigits_eq (u : Nat) : Lib.nDigits u = 1 + digC (u / 10) := by
 rw [Lib.nDigits]
 by_cases h : u < 10
 ·rw [dif_pos h, show u / 10 = 0 from by omega]; rfl
 ·rw [dif_neg h]; unfold digC; rw [if_neg (by omega)]; omega
theorem digC_pos (m : Nat) (h : m ≠ 0) : digC m = digC (m / 10) + 1 := by
 conv => lhs; unfold digC
 rw [if_neg h, nDigits_eq]; omega
theorem digN_eq (n : Int) : digN n = 1 + digC (n.natAbs / 10) := nDigits_eq _
theorem tdiv_abs (n : Int) : (n.tdiv 10).natAbs = n.natAbs / 10 := by
 rw [Int.natAbs_tdiv]; rfl
theorem digN_le (n : Int) (h : I64 n) : digN n ≤ 20 := Lib.nDigits_le20 _ (by have := h.1; have := h.2; omega)
set_option maxHeartbeats 800000 in
theorem spec_Digits (n : Int) (w : World) (hn : I64 n) : Calls Tryz.prog 188 #[.int .i64 n] w fun e w' => e = .returned (.int .i64 (digN n)) ∧ Below w.heap.size w w' := by
 obtain ⟨hn0, hn1⟩ := hn
 have HD := Lib.hid (digN_eq n)
 have h20 := digN_le n ⟨hn0, hn1⟩
 go_enter Tryz.func188, Tryz.ntmps188
 go_wp2_with fail
 go_loopw [3, 4] (fun s q wr => ∃ (m : Int) (c : Nat), q = .int .i64 m ∧ s = .int .i64 c ∧ -9223372036854775808 ≤ m ∧ m ≤ 9223372036854775807 ∧ c ≤ 20 ∧ Hid (digN n = c + digC m.natAbs) ∧ Below w.heap.size w wr) (fun _ q _ => (intOf q).natAbs)
 case atStart => exact ⟨n.tdiv 10, 1, by go_num, rfl, by have := tdiv_abs n; omega, by have := tdiv_abs n; omega, by omega, by show _ = _; rw [tdiv_abs]; exact HD.out, Below.refl _ _⟩
 case round =>
  obtain ⟨m, c, rfl, rfl, hm0, hm1, hc, HC, hb⟩ := hrel
  by_cases hz : m = 0
  ·subst hz
   have HE := Lib.hid (show digN n = c from by have := HC.out; rw [show (0 : Int).natAbs = 0 from rfl, digC_zero] at this; omega)
   go_wp2_with fail
   go_ret
   exact ⟨by rw [HE.out]; rfl, hb⟩
  ·have hc2 : c + 1 ≤ 20 := by have := HC.out; rw [digC_pos _ (by omega)] at this; omega
   have HC2 := Lib.hid (show digN n = (c + 1) + digC (m.tdiv 10).natAbs from by have := HC.out; rw [digC_pos _ (by omega)] at this; rw [tdiv_abs]; omega)
   have hlt : (m.tdiv 10).natAbs < m.natAbs := by rw [tdiv_abs]; omega
   have ht0 : -9223372036854775808 ≤ m.tdiv 10 := by have := tdiv_abs m; omega
   have ht1 : m.tdiv 10 ≤ 9223372036854775807 := by have := tdiv_abs m; omega
   go_wp2_with fail
   go_roundw
   case rel => exact ⟨m.tdiv 10, c + 1, by go_num, by go_num, ht0, ht1, hc2, HC2.out, hb⟩
   case measure => exact hlt
def runeOk (n : Int) : Prop := (0 ≤ n ∧ n ≤ 1114111) ∧ ¬ (55296 ≤ n ∧ n ≤ 57343)
instance (n : Int) : Decidable (runeOk n) := by unfold runeOk; exact inferInstance
def wideN (n : Int) : Nat := if ¬ runeOk n then 0 else if n < 128 then 1 else if n < 2048 then 2 else if n < 65536 then 3 else 4
theorem spec_RuneOk (n : Int) (w : World) : Calls Tryz.prog 248 #[.int .i64 n] w fun e w' => e = .returned (.bool (decide (runeOk n))) ∧ Below w.heap.size w w' := by
 by_cases h1 : 0 ≤ n ∧ n ≤ 1114111
 ·by_cases h2 : 55296 ≤ n ∧ n ≤ 57343
  ·have HD := Lib.hid (show decide (runeOk n) = false from decide_eq_false (fun h => h.2 h2))
   have HA := Lib.hid (show decide (0 ≤ n ∧ n ≤ 1114111) = true from decide_eq_true h1)
   have HB := Lib.hid (show decide (55296 ≤ n ∧ n ≤ 57343) = true from decide_eq_true h2)
   rw [HD.out]
   have hacc := Below.refl w.heap.size w
   go_enter Tryz.func248, Tryz.ntmps248
   go_wp2_with (go_at_call 74; refine (spec_l1In _ _ _ _).mono ?_; rintro e v ⟨rfl, hb⟩; replace hacc := below_step hacc hb hacc.size; first | rw [HA.out] | rw [HB.out])
   go_ret
   exact ⟨rfl, hacc⟩
  ·have HD := Lib.hid (show decide (runeOk n) = true from decide_eq_true ⟨h1, h2⟩)
   have HA := Lib.hid (show decide (0 ≤ n ∧ n ≤ 1114111) = true from decide_eq_true h1)
   have HB := Lib.hid (show decide (55296 ≤ n ∧ n ≤ 57343) = false from decide_eq_false h2)
   rw [HD.out]
   have hacc := Below.refl w.heap.size w
   go_enter Tryz.func248, Tryz.ntmps248
   go_wp2_with (go_at_call 74; refine (spec_l1In _ _ _ _).mono ?_; rintro e v ⟨rfl, hb⟩; replace hacc := below_step hacc hb hacc.size; first | rw [HA.out] | rw [HB.out])
   go_ret
   exact ⟨rfl, hacc⟩
 ·have HD := Lib.hid (show decide (runeOk n) = false from decide_eq_false (fun h => h1 h.1))
  have HA := Lib.hid (show decide (0 ≤ n ∧ n ≤ 1114111) = false from decide_eq_false h1)
  rw [HD.out]
  have hacc := Below.refl w.heap.size w
  go_enter Tryz.func248, Tryz.ntmps248
  go_wp2_with (go_at_call 74; refine (spec_l1In _ _ _ _).mono ?_; rintro e v ⟨rfl, hb⟩; replace hacc := below_step hacc hb hacc.size; first | rw [HA.out])
  go_ret
  exact ⟨rfl, hacc⟩
theorem spec_WideOf (n : Int) (w : World) : Calls Tryz.prog 229 #[.int .i64 n] w fun e w' => e = .returned (.int .i64 (wideN n)) ∧ Below w.heap.size w w' := by
 by_cases h0 : runeOk n
 ·have HD := Lib.hid (show decide (runeOk n) = true from decide_eq_true h0)
  have hr := h0.1
  by_cases h1 : n < 128
  ·have HE := Lib.hid (show wideN n = 1 from by unfold wideN; rw [if_neg (by simp [h0]), if_pos h1])
   rw [HE.out]; clear h0
   go_enter Tryz.func229, Tryz.ntmps229
   go_wp2_with (go_at_call 248; refine (spec_RuneOk _ _).mono ?_; rintro e v ⟨rfl, hb⟩; rw [HD.out])
   go_ret
   exact ⟨rfl, by go_grown⟩
  by_cases h2 : n < 2048
  ·have HE := Lib.hid (show wideN n = 2 from by unfold wideN; rw [if_neg (by simp [h0]), if_neg h1, if_pos h2])
   rw [HE.out]; clear h0
   go_enter Tryz.func229, Tryz.ntmps229
   go_wp2_with (go_at_call 248; refine (spec_RuneOk _ _).mono ?_; rintro e v ⟨rfl, hb⟩; rw [HD.out])
   go_ret
   exact ⟨rfl, by go_grown⟩
  by_cases h3 : n < 65536
  ·have HE := Lib.hid (show wideN n = 3 from by unfold wideN; rw [if_neg (by simp [h0]), if_neg h1, if_neg h2, if_pos h3])
   rw [HE.out]; clear h0
   go_enter Tryz.func229, Tryz.ntmps229
   go_wp2_with (go_at_call 248; refine (spec_RuneOk _ _).mono ?_; rintro e v ⟨rfl, hb⟩; rw [HD.out])
   go_ret
   exact ⟨rfl, by go_grown⟩
  ·have HE := Lib.hid (show wideN n = 4 from by unfold wideN; rw [if_neg (by simp [h0]), if_neg h1, if_neg h2, if_neg h3])
   rw [HE.out]; clear h0
   go_enter Tryz.func229, Tryz.ntmps229
   go_wp2_with (go_at_call 248; refine (spec_RuneOk _ _).mono ?_; rintro e v ⟨rfl, hb⟩; rw [HD.out])
   go_ret
   exact ⟨rfl, by go_grown⟩
 ·have HD := Lib.hid (show decide (runeOk n) = false from decide_eq_false h0)
  have HE := Lib.hid (show wideN n = 0 from by unfold wideN; rw [if_pos h0])
  rw [HE.out]; clear h0
  go_enter Tryz.func229, Tryz.ntmps229
  go_wp2_with (go_at_call 248; refine (spec_RuneOk _ _).mono ?_; rintro e v ⟨rfl, hb⟩; rw [HD.out])
  go_ret
  exact ⟨rfl, by go_grown⟩
def UtfBelow (B : Nat) (w : World) : Prop := ∀ w', Below B w w' → Lib.Utf8Tabs (Tryz.laysValid_ren.g 3) (Tryz.laysValid_ren.g 4) w'
theorem UtfBelow.step {B : Nat} {w w' : World} (h : UtfBelow B w) (hb : Below B w w') : UtfBelow B w' := fun v hv => h v (hb.trans hv)
theorem impl_TextOk (s : ByteArray) (w : World) (hs : s.size ≤ 4611686018427387903) (hT : Lib.Utf8Tabs (Tryz.laysValid_ren.g 3) (Tryz.laysValid_ren.g 4) w) :
  Calls Tryz.prog 143 #[.string s] w fun e w' => e = .returned (.bool (Lib.validD s.data.toList)) ∧ Below w.heap.size w w' := by
 have cV : Calls Tryz.prog 212 #[.string s] w _ := Any.utf8_ValidString Tryz.laysValid s w (by omega) hT
 generalize Lib.validD s.data.toList = V at cV ⊢
 go_enter Tryz.func143, Tryz.ntmps143
 go_wp2_with (go_at_call 212; refine cV.mono ?_; rintro e w' ⟨rfl, hb⟩)
 go_ret
 exact ⟨rfl, hb⟩
theorem dec_head (u : Nat) : ∃ d r, d < 10 ∧ Lib.decDigits u = UInt8.ofNat (48 + d) :: r := by
 induction u using Nat.strongRecOn with
 | ind u ih =>
  by_cases h : u < 10
  ·exact ⟨u, [], h, Lib.decDigits_one h⟩
  ·obtain ⟨d, r, hd, he⟩ := ih (u / 10) (by omega)
   rw [Lib.decDigits, dif_neg h, he]
   exact ⟨d, _, hd, rfl⟩
theorem dec_noneg (u : Nat) : Lib.hasPrefix (Lib.decDigits u) [45] = false := by
 obtain ⟨d, r, hd, he⟩ := dec_head u
 rw [he]
 have : (45 == UInt8.ofNat (48 + d)) = false := by
  obtain rfl | rfl | rfl | rfl | rfl | rfl | rfl | rfl | rfl | rfl : d = 0 ∨ d = 1 ∨ d = 2 ∨ d = 3 ∨ d = 4 ∨ d = 5 ∨ d = 6 ∨ d = 7 ∨ d = 8 ∨ d = 9 := by omega
  all_goals rfl
 show ((45 == UInt8.ofNat (48 + d)) && _) = false
 rw [this]; rfl
theorem digits_trim (n : Int) : (Lib.trimPrefix (numT n).data.toList (⟨#[45]⟩ : ByteArray).data.toList).length = digN n := by
 unfold numT Lib.trimPrefix Lib.itoa digN
 by_cases h : n < 0
 ·rw [if_pos h]
  simp [Lib.hasPrefix, Lib.decDigits_length]
 ·rw [if_neg h]
  have e : n.natAbs = n.toNat := by omega
  rw [e]
  have hd : Lib.hasPrefix (⟨(Lib.decDigits n.toNat).toArray⟩ : ByteArray).data.toList (⟨#[45]⟩ : ByteArray).data.toList = false := dec_noneg _
  rw [hd]
  simp [Lib.decDigits_length]
theorem impl_Digits (n : Int) (w : World) (hn : I64 n) (htab : Lib.TabIs Tryz.prog w "internal/strconv.uint64pow10" .u64 Lib.pow10Tab) :
  Calls Tryz.prog 213 #[.int .i64 n] w fun e w' => e = .returned (.int .i64 (digN n)) ∧ Below w.heap.size w w' := by
 have HD := Lib.hid (digits_trim n)
 have HN := Lib.hid (digN_le n hn)
 go_enter Tryz.func213, Tryz.ntmps213
 go_wp2_with fail
 refine (impl_NumText n _ hn htab).mono ?_
 rintro e w2 ⟨rfl, hb2⟩
 go_wp2_with fail
 refine (Tryz.strings_TrimPrefix _ _ _).mono ?_
 rintro e w3 ⟨rfl, rfl⟩
 have hz : (⟨(Lib.trimPrefix (numT n).data.toList (⟨#[45]⟩ : ByteArray).data.toList).toArray⟩ : ByteArray).size = digN n := by
  rw [← HD.out]; simp [ByteArray.size]
 generalize (⟨(Lib.trimPrefix (numT n).data.toList (⟨#[45]⟩ : ByteArray).data.toList).toArray⟩ : ByteArray) = q at *
 have hN := HN.out
 go_wp2_with fail
 go_ret
 exact ⟨by rw [← hz]; rfl, hb2⟩
def decOk (n x : Int) : Prop := (x = 0 ∧ -1000000000000000 ≤ n ∧ n ≤ 1000000000000000) ∨ (x ≠ 0 ∧ (-16 ≤ x ∧ x ≤ -1) ∧ digN n ≤ 17 ∧ n.tmod 10 ≠ 0)
instance (n x : Int) : Decidable (decOk n x) := by unfold decOk; exact inferInstance
def fltOk (m e : Int) : Prop := (m = 0 ∧ e = 0) ∨ (m ≠ 0 ∧ (-65535 ≤ m ∧ m ≤ 65535) ∧ m.tmod 2 ≠ 0 ∧ -16 ≤ e ∧ (e ≤ 30 ∨ (e ≤ 46 ∧ -65535 ≤ m * 2 ^ (e - 30).toNat ∧ m * 2 ^ (e - 30).toNat ≤ 65535)))
instance (m e : Int) : Decidable (fltOk m e) := by unfold fltOk; exact inferInstance
theorem fltOk_big {m e : Int} (k : Nat) (he : e = 30 + k) (hk : 1 ≤ k ∧ k ≤ 16) (h0 : m ≠ 0) (h1 : -65535 ≤ m ∧ m ≤ 65535) (h2 : m.tmod 2 ≠ 0) : decide (fltOk m e) = decide (-65535 ≤ m * 2 ^ k ∧ m * 2 ^ k ≤ 65535) := by
 have e1 : (e - 30).toNat = k := by omega
 apply decide_eq_decide.2
 unfold fltOk
 rw [e1]
 constructor
 ·rintro (h | ⟨_, _, _, _, h | h⟩)
  ·exact absurd h.1 h0
  ·omega
  ·exact h.2
 ·intro h
  exact Or.inr ⟨h0, h1, h2, by omega, Or.inr ⟨by omega, h⟩⟩
abbrev cF (m e : Int) : Array Value := #[Value.int IntKind.i64 m, Value.int IntKind.i64 e]
set_option maxHeartbeats 2000000 in
theorem impl_DecOk (n x : Int) (w : World) (hn : I64 n) (hx : I64 x) (htab : Lib.TabBelow Tryz.prog w.heap.size w "internal/strconv.uint64pow10" .u64 Lib.pow10Tab) :
  Calls Tryz.prog 145 #[.agg (cF n x)] w fun e w' => e = .returned (.bool (decide (decOk n x))) ∧ Below w.heap.size w w' := by
 have HT := Lib.hid htab; clear htab
 have HN := Lib.hid hn
 obtain ⟨hn0, hn1⟩ := hn
 obtain ⟨hx0, hx1⟩ := hx
 have hl : w.heap.size < (w.alloc (.cells (cF n x) 100)).heap.size := by simp
 have H0 := Lib.hid (below1 w (.cells (cF n x) 100))
 have q0 := Is.new w (cF n x) 100
 by_cases h0 : x = 0
 ·subst h0
  have HD := Lib.hid (show decide (decOk n 0) = decide (-1000000000000000 ≤ n ∧ n ≤ 1000000000000000) from decide_eq_decide.2 (by unfold decOk; simp))
  obtain ⟨bb, hbb⟩ : ∃ bb, decide (-1000000000000000 ≤ n ∧ n ≤ 1000000000000000) = bb := ⟨_, rfl⟩
  rw [hbb] at HD
  have HBB := Lib.hid hbb; clear hbb
  go_enter Tryz.func145, Tryz.ntmps145
  go_wp2_with (go_at_call 125; refine (impl_within _ _ _ _).mono ?_; rintro e v ⟨rfl, hb⟩; rw [HBB.out])
  go_ret
  exact ⟨by rw [HD.out]; rfl, below_step H0.out hb (by simp)⟩
 by_cases h1 : -16 ≤ x ∧ x ≤ -1
 ·have D1 := Lib.hid (show decide ((-16 : Int) ≤ x ∧ x ≤ -1) = true from decide_eq_true h1)
  have hdl := digN_le n ⟨hn0, hn1⟩
  by_cases h2 : digN n ≤ 17
  ·by_cases h3 : n.tmod 10 = 0
   ·have HD := Lib.hid (show decide (decOk n x) = false from decide_eq_false (by unfold decOk; rintro (h | h); exact h0 h.1; exact h.2.2.2 h3))
    go_enter Tryz.func145, Tryz.ntmps145
    go_wp2_with (first | (go_at_call 125; refine (impl_within _ _ _ _).mono ?_; rintro e w2 ⟨rfl, hb⟩; rw [D1.out]; have HB2 := Lib.hid (below_step H0.out hb (by simp)); have q2 := q0.below hb hl; obtain ⟨r0, r1⟩ := q2.cells2; have hl2 : w.heap.size < w2.heap.size := Nat.lt_of_lt_of_le hl hb.size; have H2 := Lib.hid hb; clear hb) | (go_at_call 213; refine (impl_Digits n _ HN.out (HT.out _ HB2.out)).mono ?_; rintro e w3 ⟨rfl, hb⟩; have HB3 := Lib.hid (below_step HB2.out hb HB2.out.size); have q3 := q2.below hb hl2; obtain ⟨s0, s1⟩ := q3.cells2; have hl3 : w.heap.size < w3.heap.size := Nat.lt_of_lt_of_le hl2 hb.size; clear hb))
    go_ret
    exact ⟨by rw [HD.out]; rfl, HB3.out⟩
   ·have HD := Lib.hid (show decide (decOk n x) = true from decide_eq_true (Or.inr ⟨h0, h1, h2, h3⟩))
    go_enter Tryz.func145, Tryz.ntmps145
    go_wp2_with (first | (go_at_call 125; refine (impl_within _ _ _ _).mono ?_; rintro e w2 ⟨rfl, hb⟩; rw [D1.out]; have HB2 := Lib.hid (below_step H0.out hb (by simp)); have q2 := q0.below hb hl; obtain ⟨r0, r1⟩ := q2.cells2; have hl2 : w.heap.size < w2.heap.size := Nat.lt_of_lt_of_le hl hb.size; clear hb) | (go_at_call 213; refine (impl_Digits n _ HN.out (HT.out _ HB2.out)).mono ?_; rintro e w3 ⟨rfl, hb⟩; have HB3 := Lib.hid (below_step HB2.out hb HB2.out.size); have q3 := q2.below hb hl2; obtain ⟨s0, s1⟩ := q3.cells2; have hl3 : w.heap.size < w3.heap.size := Nat.lt_of_lt_of_le hl2 hb.size; clear hb))
    go_ret
    exact ⟨ret_b (by rw [HD.out]; simp [h3]), HB3.out⟩
  ·have HD := Lib.hid (show decide (decOk n x) = false from decide_eq_false (by unfold decOk; rintro (h | h); exact h0 h.1; exact h2 h.2.2.1))
   go_enter Tryz.func145, Tryz.ntmps145
   go_wp2_with (first | (go_at_call 125; refine (impl_within _ _ _ _).mono ?_; rintro e w2 ⟨rfl, hb⟩; rw [D1.out]; have HB2 := Lib.hid (below_step H0.out hb (by simp)); have q2 := q0.below hb hl; obtain ⟨r0, r1⟩ := q2.cells2; have hl2 : w.heap.size < w2.heap.size := Nat.lt_of_lt_of_le hl hb.size; clear hb) | (go_at_call 213; refine (impl_Digits n _ HN.out (HT.out _ HB2.out)).mono ?_; rintro e w3 ⟨rfl, hb⟩; have HB3 := Lib.hid (below_step HB2.out hb HB2.out.size); have q3 := q2.below hb hl2; obtain ⟨s0, s1⟩ := q3.cells2; have hl3 : w.heap.size < w3.heap.size := Nat.lt_of_lt_of_le hl2 hb.size; clear hb))
   go_ret
   exact ⟨by rw [HD.out]; rfl, HB3.out⟩
 ·have D1 := Lib.hid (show decide ((-16 : Int) ≤ x ∧ x ≤ -1) = false from decide_eq_false h1)
  have HD := Lib.hid (show decide (decOk n x) = false from decide_eq_false (by unfold decOk; rintro (h | h); exact h0 h.1; exact h1 h.2.1))
  go_enter Tryz.func145, Tryz.ntmps145
  go_wp2_with (go_at_call 125; refine (impl_within _ _ _ _).mono ?_; rintro e w2 ⟨rfl, hb⟩; rw [D1.out])
  go_ret
  exact ⟨by rw [HD.out]; rfl, below_step H0.out hb (by simp)⟩
set_option maxHeartbeats 2000000 in
theorem spec_DecOk (n x : Int) (w : World) (hn : I64 n) (hx : I64 x) :
  Calls Tryz.prog 123 #[.agg (cF n x)] w fun e w' => e = .returned (.bool (decide (decOk n x))) ∧ Below w.heap.size w w' := by
 have HN := Lib.hid hn
 obtain ⟨hn0, hn1⟩ := hn
 obtain ⟨hx0, hx1⟩ := hx
 have hl : w.heap.size < (w.alloc (.cells (cF n x) 100)).heap.size := by simp
 have H0 := Lib.hid (below1 w (.cells (cF n x) 100))
 have q0 := Is.new w (cF n x) 100
 by_cases h0 : x = 0
 ·subst h0
  have HD := Lib.hid (show decide (decOk n 0) = decide (-1000000000000000 ≤ n ∧ n ≤ 1000000000000000) from decide_eq_decide.2 (by unfold decOk; simp))
  obtain ⟨bb, hbb⟩ : ∃ bb, decide (-1000000000000000 ≤ n ∧ n ≤ 1000000000000000) = bb := ⟨_, rfl⟩
  rw [hbb] at HD
  have D1 := Lib.hid hbb; clear hbb
  go_enter Tryz.func123, Tryz.ntmps123
  go_wp2_with (first | (go_at_call 74; refine (spec_l1In _ _ _ _).mono ?_; rintro e w2 ⟨rfl, hb⟩; rw [D1.out]; have HB2 := Lib.hid (below_step H0.out hb (by simp)); have q2 := q0.below hb hl; obtain ⟨r0, r1⟩ := q2.cells2; have hl2 : w.heap.size < w2.heap.size := Nat.lt_of_lt_of_le hl hb.size; clear hb) | (go_at_call 188; refine (spec_Digits n _ HN.out).mono ?_; rintro e w3 ⟨rfl, hb⟩; have HB3 := Lib.hid (below_step HB2.out hb HB2.out.size); have q3 := q2.below hb hl2; obtain ⟨s0, s1⟩ := q3.cells2; have hl3 : w.heap.size < w3.heap.size := Nat.lt_of_lt_of_le hl2 hb.size; clear hb))
  go_ret
  exact ⟨ret_b (by rw [HD.out]), HB2.out⟩
 by_cases h1 : -16 ≤ x ∧ x ≤ -1
 ·have D1 := Lib.hid (show decide ((-16 : Int) ≤ x ∧ x ≤ -1) = true from decide_eq_true h1)
  have hdl := digN_le n ⟨hn0, hn1⟩
  by_cases h3 : n.tmod 10 = 0
  ·have HD := Lib.hid (show decide (decOk n x) = false from decide_eq_false (by unfold decOk; rintro (h | h); exact h0 h.1; exact h.2.2.2 h3))
   go_enter Tryz.func123, Tryz.ntmps123
   go_wp2_with (first | (go_at_call 74; refine (spec_l1In _ _ _ _).mono ?_; rintro e w2 ⟨rfl, hb⟩; rw [D1.out]; have HB2 := Lib.hid (below_step H0.out hb (by simp)); have q2 := q0.below hb hl; obtain ⟨r0, r1⟩ := q2.cells2; have hl2 : w.heap.size < w2.heap.size := Nat.lt_of_lt_of_le hl hb.size; clear hb) | (go_at_call 188; refine (spec_Digits n _ HN.out).mono ?_; rintro e w3 ⟨rfl, hb⟩; have HB3 := Lib.hid (below_step HB2.out hb HB2.out.size); have q3 := q2.below hb hl2; obtain ⟨s0, s1⟩ := q3.cells2; have hl3 : w.heap.size < w3.heap.size := Nat.lt_of_lt_of_le hl2 hb.size; clear hb))
   go_ret
   exact ⟨ret_b (by rw [HD.out]), HB2.out⟩
  ·by_cases h2 : digN n ≤ 17
   ·have HD := Lib.hid (show decide (decOk n x) = true from decide_eq_true (Or.inr ⟨h0, h1, h2, h3⟩))
    go_enter Tryz.func123, Tryz.ntmps123
    go_wp2_with (first | (go_at_call 74; refine (spec_l1In _ _ _ _).mono ?_; rintro e w2 ⟨rfl, hb⟩; rw [D1.out]; have HB2 := Lib.hid (below_step H0.out hb (by simp)); have q2 := q0.below hb hl; obtain ⟨r0, r1⟩ := q2.cells2; have hl2 : w.heap.size < w2.heap.size := Nat.lt_of_lt_of_le hl hb.size; clear hb) | (go_at_call 188; refine (spec_Digits n _ HN.out).mono ?_; rintro e w3 ⟨rfl, hb⟩; have HB3 := Lib.hid (below_step HB2.out hb HB2.out.size); have q3 := q2.below hb hl2; obtain ⟨s0, s1⟩ := q3.cells2; have hl3 : w.heap.size < w3.heap.size := Nat.lt_of_lt_of_le hl2 hb.size; clear hb))
    go_ret
    exact ⟨ret_b (by rw [HD.out]; first | rfl | simp; omega), HB3.out⟩
   ·have HD := Lib.hid (show decide (decOk n x) = false from decide_eq_false (by unfold decOk; rintro (h | h); exact h0 h.1; exact h2 h.2.2.1))
    go_enter Tryz.func123, Tryz.ntmps123
    go_wp2_with (first | (go_at_call 74; refine (spec_l1In _ _ _ _).mono ?_; rintro e w2 ⟨rfl, hb⟩; rw [D1.out]; have HB2 := Lib.hid (below_step H0.out hb (by simp)); have q2 := q0.below hb hl; obtain ⟨r0, r1⟩ := q2.cells2; have hl2 : w.heap.size < w2.heap.size := Nat.lt_of_lt_of_le hl hb.size; clear hb) | (go_at_call 188; refine (spec_Digits n _ HN.out).mono ?_; rintro e w3 ⟨rfl, hb⟩; have HB3 := Lib.hid (below_step HB2.out hb HB2.out.size); have q3 := q2.below hb hl2; obtain ⟨s0, s1⟩ := q3.cells2; have hl3 : w.heap.size < w3.heap.size := Nat.lt_of_lt_of_le hl2 hb.size; clear hb))
    go_ret
    exact ⟨ret_b (by rw [HD.out]; first | rfl | simp; omega), HB3.out⟩
 ·have D1 := Lib.hid (show decide ((-16 : Int) ≤ x ∧ x ≤ -1) = false from decide_eq_false h1)
  have HD := Lib.hid (show decide (decOk n x) = false from decide_eq_false (by unfold decOk; rintro (h | h); exact h0 h.1; exact h1 h.2.1))
  go_enter Tryz.func123, Tryz.ntmps123
  go_wp2_with (first | (go_at_call 74; refine (spec_l1In _ _ _ _).mono ?_; rintro e w2 ⟨rfl, hb⟩; rw [D1.out]; have HB2 := Lib.hid (below_step H0.out hb (by simp)); have q2 := q0.below hb hl; obtain ⟨r0, r1⟩ := q2.cells2; have hl2 : w.heap.size < w2.heap.size := Nat.lt_of_lt_of_le hl hb.size; clear hb) | (go_at_call 188; refine (spec_Digits n _ HN.out).mono ?_; rintro e w3 ⟨rfl, hb⟩; have HB3 := Lib.hid (below_step HB2.out hb HB2.out.size); have q3 := q2.below hb hl2; obtain ⟨s0, s1⟩ := q3.cells2; have hl3 : w.heap.size < w3.heap.size := Nat.lt_of_lt_of_le hl2 hb.size; clear hb))
  go_ret
  exact ⟨ret_b (by rw [HD.out]), HB2.out⟩
end Go.Proofs.YtggdenkmohnijaaGreatDoor
