/- Contracts and lemmas for the proofs of this seat: Num. No condition beyond those stated. -/
import Derived.Test.YtfbgmhjjdgglnaaDoorRows
import Derived.WalkKit
import Derived.ProofKit
import Derived.OpenShut
import Derived.Handy
import Derived.Lib.Hide
import Derived.Lib.SmallJoins
import Derived.Laws.BytesArg
import Derived.Lib.ItoaNum
import Derived.Lib.AppendIntMem
import Derived.Test.YtfbgmhjjdgglnaaDoorBase
import Derived.Test.YtfbgmhjjdgglnaaDoorGen
import Derived.Test.YtfbgmhjjdgglnaaDoorKit
import Derived.Test.YtfbgmhjjdgglnaaDoorShelf
namespace Go.Proofs.YtfbgmhjjdgglnaaDoor
open Go.ChangeShapes Go.WideShapes Go.ChangeAt Go.RowKit Go.Joins
set_option linter.unusedVariables false
set_option maxRecDepth 100000
def sdig (k : Nat) (out : ByteArray) : ByteArray := if h : k = 0 then out else sdig (k / 10) (strOfNums [48 + (k : Int) % 10] ++ out)
termination_by k
decreasing_by omega
theorem sdig_zero (out : ByteArray) : sdig 0 out = out := by rw [sdig]; simp
theorem sdig_pos (k : Nat) (h : k ≠ 0) (out : ByteArray) : sdig k out = sdig (k / 10) (strOfNums [48 + (k : Int) % 10] ++ out) := by rw [sdig]; simp [h]
theorem digit_one (k : Nat) (h : k < 10) : strOfNums [48 + (k : Int)] = ⟨#[UInt8.ofNat (48 + k)]⟩ := by
  have h1 : (48 + (k : Int)).toNat = 48 + k := by omega
  unfold strOfNums
  simp only [List.map, h1]
theorem sdig_dec (k : Nat) : ∀ out : ByteArray, k ≠ 0 → sdig k out = ⟨(Lib.decDigits k).toArray⟩ ++ out := by
  induction k using Nat.strongRecOn with
  | ind k ih =>
    intro out h
    rw [sdig_pos k h]
    have hm : (k : Int) % 10 = ((k % 10 : Nat) : Int) := by omega
    rw [hm, digit_one _ (by omega)]
    by_cases h10 : k < 10
    · rw [show k / 10 = 0 from by omega, sdig_zero, Lib.decDigits_one h10, Nat.mod_eq_of_lt h10]
    · rw [ih (k / 10) (by omega) _ (by omega), ← ByteArray.append_assoc]
      have e : Lib.decDigits k = Lib.decDigits (k / 10) ++ [UInt8.ofNat (48 + k % 10)] := by
        conv => lhs; rw [Lib.decDigits, dif_neg h10]
      rw [e]
      congr 1
theorem small_pow {m k : Nat} (h : m * 10 ^ k ≤ 9223372036854775808) (hm : m ≠ 0) : k ≤ 18 := by
  rcases Nat.lt_or_ge 18 k with hk | hk
  · exfalso
    have h1 : 10 ^ 19 ≤ 10 ^ k := Nat.pow_le_pow_right (by omega) hk
    have h2 : 1 * 10 ^ k ≤ m * 10 ^ k := Nat.mul_le_mul_right _ (by omega)
    have h3 : (10 : Nat) ^ 19 = 10000000000000000000 := by decide
    omega
  · exact hk
theorem next_pow {m k : Nat} (h : m * 10 ^ k ≤ 9223372036854775808) : m / 10 * 10 ^ (1 + k) ≤ 9223372036854775808 := by
  rw [Nat.pow_add, ← Nat.mul_assoc]
  have h1 : m / 10 * 10 ^ 1 ≤ m := by omega
  exact Nat.le_trans (Nat.mul_le_mul_right _ h1) h
/-- A number's numeral. -/
def numT (n : Int) : ByteArray := ⟨(Lib.itoa n).toArray⟩
theorem numT_zero : numT 0 = ⟨#[48]⟩ := by unfold numT Lib.itoa; rw [if_neg (by omega), Int.toNat_zero, Lib.decDigits_one (by omega)]; rfl
set_option maxHeartbeats 800000 in
theorem spec_NumText (n : Int) (w : World) (hn : I64 n) :
    Calls Tryd.prog 101 #[.int .i64 n] w fun e w' => e = .returned (.string (numT n)) ∧ Below w.heap.size w w' := by
  obtain ⟨hn0, hn1⟩ := hn
  by_cases hz : n = 0
  · subst hz
    go_enter Tryd.func101, Tryd.ntmps101
    go_wp2
    go_ret
    exact ⟨by rw [numT_zero]; rfl, by go_grown⟩
  · by_cases hp : 0 < n
    · obtain ⟨u, rfl⟩ : ∃ u : Nat, n = u := ⟨n.toNat, by omega⟩
      have hzb : ((u : Int) == 0) = false := by rw [beq_eq_false_iff_ne]; omega
      have HT := Lib.hid (show numT u = sdig u ⟨#[]⟩ from by rw [sdig_dec u _ (by omega)]; unfold numT Lib.itoa; rw [if_neg (by omega)]; simp; apply bytes_inj; simp)
      go_enter Tryd.func101, Tryd.ntmps101
      go_wp2_with fail
      go_loopw [3, 4, 5] (fun s q _ wr => ∃ (m : Nat) (o : ByteArray), q = .int .i64 m ∧ s = .string o ∧ m ≤ 9223372036854775807 ∧ o.size ≤ 19 ∧ Hid (m * 10 ^ o.size ≤ 9223372036854775808) ∧ Hid (sdig u ⟨#[]⟩ = sdig m o) ∧ Below w.heap.size w wr) (fun _ q _ _ => (intOf q).toNat)
      case atStart => exact ⟨u, ⟨#[]⟩, by go_num, rfl, by omega, by have h2 : (⟨#[]⟩ : ByteArray).size = 0 := rfl; omega, by have h2 : (⟨#[]⟩ : ByteArray).size = 0 := rfl; show _ ≤ _; rw [h2]; omega, rfl, Below.refl _ _⟩
      case round =>
        obtain ⟨m, o, rfl, rfl, hm1, hs, HPW, HM, hb⟩ := hrel
        by_cases hm : m = 0
        · subst hm
          go_wp2_with fail
          go_ret
          refine ⟨?_, hb⟩
          have h2 := HM.out
          rw [sdig_zero] at h2
          rw [HT.out, h2]; rfl
        · have hm0 : 0 < m := by omega
          have hmb : ((m : Int) == 0) = false := by rw [beq_eq_false_iff_ne]; omega
          have hcv := run_convert_bytes_arg (P := Tryd.prog) (wr.alloc (.cells #[.int .u8 (48 + (m : Int) % 10)] 5)) 82 5 Tryd.underlying82 Tryd.underlying5 wr.heap.size 0 1 1 [48 + (m : Int) % 10] rfl (by intro i hi; (obtain rfl : i = 0 := (by omega)); exact (Is.new wr _ _).cell 0 rfl) 9 Tryd.underlying9
          have hs18 := small_pow HPW.out hm
          have HPN := Lib.hid (next_pow HPW.out)
          have hd0 : ¬ ((m : Int) % 10 < 0) := by omega
          have HM2 := Lib.hid (HM.out.trans (sdig_pos m hm o))
          have hsz : (strOfNums [48 + (m : Int) % 10]).size = 1 := strOfNums_size _
          clear HM
          go_wp2_with fail
          go_roundw
          case rel => exact ⟨m / 10, _, by go_num, rfl, by omega, by rw [ByteArray.size_append]; omega, by show _ ≤ _; rw [ByteArray.size_append, hsz]; exact HPN.out, HM2.out, hb.trans ((below1 _ _).mono hb.size)⟩
          case measure => simp [intOf]; omega
    · obtain ⟨u, rfl⟩ : ∃ u : Nat, n = -(u : Int) := ⟨n.natAbs, by omega⟩
      have hzb : (-(u : Int) == 0) = false := by rw [beq_eq_false_iff_ne]; omega
      have hlt0 : -(u : Int) < 0 := by omega
      have HT := Lib.hid (show numT (-(u : Int)) = ⟨#[45]⟩ ++ sdig u ⟨#[]⟩ from by rw [sdig_dec u _ (by omega)]; unfold numT Lib.itoa; rw [if_pos (by omega)]; simp; apply bytes_inj; simp)
      go_enter Tryd.func101, Tryd.ntmps101
      go_wp2_with fail
      go_loopw [3, 4, 5] (fun s q _ wr => ∃ (m : Nat) (o : ByteArray), q = .int .i64 (-(m : Int)) ∧ s = .string o ∧ m ≤ 9223372036854775808 ∧ o.size ≤ 20 ∧ Hid (m * 10 ^ o.size ≤ 9223372036854775808) ∧ Hid (sdig u ⟨#[]⟩ = sdig m o) ∧ Below w.heap.size w wr) (fun _ q _ _ => (intOf q).natAbs)
      case atStart => exact ⟨u, ⟨#[]⟩, by go_num, rfl, by omega, by have h2 : (⟨#[]⟩ : ByteArray).size = 0 := rfl; omega, by have h2 : (⟨#[]⟩ : ByteArray).size = 0 := rfl; show _ ≤ _; rw [h2]; omega, rfl, Below.refl _ _⟩
      case round =>
        obtain ⟨m, o, rfl, rfl, hm1, hs, HPW, HM, hb⟩ := hrel
        by_cases hm : m = 0
        · subst hm
          go_wp2_with fail
          go_ret
          refine ⟨?_, hb⟩
          have h2 := HM.out
          rw [sdig_zero] at h2
          rw [HT.out, h2]; rfl
        · have hm0 : 0 < m := by omega
          have hmb : (-(m : Int) == 0) = false := by rw [beq_eq_false_iff_ne]; omega
          have hcv := run_convert_bytes_arg (P := Tryd.prog) (wr.alloc (.cells #[.int .u8 (48 + (m : Int) % 10)] 5)) 82 5 Tryd.underlying82 Tryd.underlying5 wr.heap.size 0 1 1 [48 + (m : Int) % 10] rfl (by intro i hi; (obtain rfl : i = 0 := (by omega)); exact (Is.new wr _ _).cell 0 rfl) 9 Tryd.underlying9
          have hs18 := small_pow HPW.out hm
          have HPN := Lib.hid (next_pow HPW.out)
          have htm : (-(m : Int)).tmod 10 = -((m : Int) % 10) := by rw [Int.neg_tmod, Int.tmod_eq_emod_of_nonneg (by omega)]
          have htd : (-(m : Int)).tdiv 10 = -((m : Int) / 10) := by rw [Int.neg_tdiv, Int.tdiv_eq_ediv_of_nonneg (by omega)]
          have HM2 := Lib.hid (HM.out.trans (sdig_pos m hm o))
          have hsz : (strOfNums [48 + (m : Int) % 10]).size = 1 := strOfNums_size _
          clear HM
          by_cases hd : (m : Int) % 10 = 0
          · have HM3 := Lib.hid (show sdig u ⟨#[]⟩ = sdig (m / 10) (strOfNums [48] ++ o) from by have := HM2.out; rw [hd] at this; exact this)
            have hsz3 : (strOfNums [48]).size = 1 := strOfNums_size _
            have hcv3 := run_convert_bytes_arg (P := Tryd.prog) (wr.alloc (.cells #[.int .u8 48] 5)) 82 5 Tryd.underlying82 Tryd.underlying5 wr.heap.size 0 1 1 [48] rfl (by intro i hi; (obtain rfl : i = 0 := (by omega)); exact (Is.new wr _ _).cell 0 rfl) 9 Tryd.underlying9
            clear hcv hsz HM2
            go_wp2_with fail
            go_roundw
            case rel => exact ⟨m / 10, _, by go_num, rfl, by omega, by rw [ByteArray.size_append]; omega, by show _ ≤ _; rw [ByteArray.size_append, hsz3]; exact HPN.out, HM3.out, hb.trans ((below1 _ _).mono hb.size)⟩
            case measure => simp [intOf]; omega
          · have hd0 : -((m : Int) % 10) < 0 := by omega
            go_wp2_with fail
            go_roundw
            case rel => exact ⟨m / 10, _, by go_num, rfl, by omega, by rw [ByteArray.size_append]; omega, by show _ ≤ _; rw [ByteArray.size_append, hsz]; exact HPN.out, HM2.out, hb.trans ((below1 _ _).mono hb.size)⟩
            case measure => simp [intOf]; omega
theorem impl_NumText (n : Int) (w : World) (hn : I64 n) (htab : Lib.TabIs Tryd.prog w "internal/strconv.uint64pow10" .u64 Lib.pow10Tab) :
    Calls Tryd.prog 109 #[.int .i64 n] w fun e w' => e = .returned (.string (numT n)) ∧ Below w.heap.size w w' := by
  have h := Tryd.strconv_Itoa n hn.1 hn.2 w htab
  go_enter Tryd.func109, Tryd.ntmps109
  go_wp2_with fail
  refine h.mono ?_
  rintro e w2 ⟨rfl, k, os, rfl⟩
  go_wp2_with fail
  go_ret
  exact ⟨rfl, Go.Lib.below_grow _ w (Nat.le_refl _) k os⟩
end Go.Proofs.YtfbgmhjjdgglnaaDoor
