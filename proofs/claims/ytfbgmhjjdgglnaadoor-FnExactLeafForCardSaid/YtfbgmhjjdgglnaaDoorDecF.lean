/- Contracts and lemmas for the proofs of this seat: DecF. No condition beyond those stated. -/
import Derived.Test.YtfbgmhjjdgglnaaDoorRows
import Derived.WalkKit
import Derived.ProofKit
import Derived.OpenShut
import Derived.Handy
import Derived.Lib.Hide
import Derived.Lib.SmallJoins
import Derived.Laws.BytesArg
import Derived.Lib.ItoaNum
import Derived.Lib.ItoaLen
import Derived.Lib.AppendIntMem
import Derived.Test.YtfbgmhjjdgglnaaDoorBase
import Derived.Test.YtfbgmhjjdgglnaaDoorGen
import Derived.Test.YtfbgmhjjdgglnaaDoorKit
import Derived.Test.YtfbgmhjjdgglnaaDoorShelf
import Derived.Test.YtfbgmhjjdgglnaaDoorNum
import Derived.Test.YtfbgmhjjdgglnaaDoorTextF
import Derived.Test.YtfbgmhjjdgglnaaDoorValF
import Derived.Test.YtfbgmhjjdgglnaaDoorValF2
import Derived.Test.YtfbgmhjjdgglnaaDoorValF3
namespace Go.Proofs.YtfbgmhjjdgglnaaDoor
open Go.ChangeShapes Go.WideShapes Go.ChangeAt Go.RowKit Go.Joins
set_option linter.unusedVariables false
set_option maxRecDepth 100000
theorem pow_mono {b j k : Nat} (hb : 1 ≤ b) (h : j ≤ k) : b ^ j ≤ b ^ k := Nat.pow_le_pow_right hb h
theorem pow_step {b j k : Nat} (hb : 1 ≤ b) (h : j < k) (hk : b ^ k ≤ 9223372036854775807) : (b ^ j : Nat) * b ≤ 9223372036854775807 := by
  rw [← Nat.pow_succ]; exact Nat.le_trans (pow_mono hb h) hk
theorem pow_int (b j : Nat) : (((b ^ j : Nat) : Int) * (b : Int)) = ((b ^ (j + 1) : Nat) : Int) := by
  rw [Nat.pow_succ]; exact (Int.natCast_mul _ _).symm
theorem impl_power (b k : Nat) (w : World) (hb : 1 ≤ b) (hb2 : b ≤ 100) (hk2 : k ≤ 100) (hk : b ^ k ≤ 9223372036854775807) :
    Calls Tryd.prog 100 #[.int .i64 b, .int .i64 k] w fun e w' => e = .returned (.int .i64 (b ^ k : Nat)) ∧ Below w.heap.size w w' := by
  go_enter Tryd.func100, Tryd.ntmps100
  go_wp2_with fail
  go_loopw [5, 7] (fun o i wr => ∃ (j p : Nat), j ≤ k ∧ i = .int .i64 j ∧ o = .int .i64 p ∧ Hid (p = b ^ j) ∧ Below w.heap.size w wr) (fun _ i _ => k - (intOf i).toNat)
  case atStart => exact ⟨0, 1, Nat.zero_le _, rfl, rfl, (Nat.pow_zero _).symm, Below.refl _ _⟩
  case round =>
    obtain ⟨j, p, hj, rfl, rfl, HP, hb'⟩ := hrel
    by_cases hlt : j < k
    · have h1 := pow_step hb hlt hk
      rw [← HP.out] at h1
      have h2 : (p : Int) * (b : Int) ≤ 9223372036854775807 := by rw [← Int.natCast_mul]; omega
      have h3 : (0 : Int) ≤ (p : Int) * (b : Int) := by rw [← Int.natCast_mul]; omega
      have HE := Lib.hid (show (p : Int) * (b : Int) = ((p * b : Nat) : Int) from (Int.natCast_mul p b).symm)
      have HQ := Lib.hid (show p * b = b ^ (j + 1) from by rw [Nat.pow_succ, HP.out])
      clear h1
      go_wp2_with fail
      go_roundw
      case rel => exact ⟨j + 1, p * b, by omega, by go_num, by first | go_num | (rw [HE.out]), HQ.out, hb'⟩
      case measure => simp [intOf]; omega
    · have HE := Lib.hid (show p = b ^ k from by rw [HP.out, show j = k from by omega])
      go_wp2_with fail
      go_ret
      exact ⟨by rw [← HE.out]; rfl, hb'⟩
theorem spec_Pow (b k : Nat) (w : World) (hb : b = 2 ∨ b = 5 ∨ b = 10) (hk2 : k ≤ 17) :
    Calls Tryd.prog 89 #[.int .i64 b, .int .i64 k] w fun e w' => e = .returned (.int .i64 (b ^ k : Nat)) ∧ Below w.heap.size w w' := by
  have hb1 : 1 ≤ b := by omega
  have hk : b ^ k ≤ 9223372036854775807 := by
    have h1 : b ^ k ≤ 10 ^ k := Nat.pow_le_pow_left (by omega) k
    have h2 : 10 ^ k ≤ 10 ^ 17 := Nat.pow_le_pow_right (by omega) hk2
    have h3 : (10 : Nat) ^ 17 = 100000000000000000 := by decide
    omega
  have HD := Lib.hid (show decide ((0 : Int) ≤ (k : Int) ∧ (k : Int) ≤ 17) = true from decide_eq_true ⟨by omega, by omega⟩)
  have HKK := Lib.hid hk; clear hk
  obtain ⟨P, hP⟩ : ∃ P, b ^ k = P := ⟨_, rfl⟩
  have HPP := Lib.hid hP; rw [hP]; clear hP
  obtain rfl | rfl | rfl := hb
  all_goals
    go_enter Tryd.func89, Tryd.ntmps89
    go_wp2_with (go_at_call 67; refine (spec_l1In _ _ _ _).mono ?_; rintro e w2 ⟨rfl, hb2⟩; rw [HD.out]; have HB2 := Lib.hid hb2)
    go_loopw [5, 6] (fun o i wr => ∃ (j p : Nat), j ≤ k ∧ i = .int .i64 j ∧ o = .int .i64 p ∧ Hid (p = _ ^ j) ∧ Below w.heap.size w wr) (fun _ i _ => k - (intOf i).toNat)
    case atStart => exact ⟨0, 1, Nat.zero_le _, rfl, rfl, by show _ = _; exact (Nat.pow_zero _).symm, HB2.out⟩
    case round =>
      obtain ⟨j, p, hj, rfl, rfl, HP, hb'⟩ := hrel
      by_cases hlt : j < k
      · have h1 := pow_step hb1 hlt HKK.out
        rw [← HP.out] at h1
        have HQ := Lib.hid (show p * _ = _ ^ (j + 1) from by rw [Nat.pow_succ, ← HP.out])
        go_wp2_with fail
        go_roundw
        case rel => exact ⟨j + 1, _, by omega, by go_num, by go_num, HQ.out, hb'⟩
        case measure => simp [intOf]; omega
      · have HE := Lib.hid (show p = P from by rw [HP.out, ← HPP.out, show j = k from by omega])
        go_wp2_with fail
        go_ret
        exact ⟨by rw [← HE.out]; rfl, hb'⟩
theorem spec_Pow5 (k : Nat) (kk : Int) (w : World) (h : kk = k) (hk2 : k ≤ 16) :
    Calls Tryd.prog 89 #[.int .i64 5, .int .i64 kk] w fun e w' => e = .returned (.int .i64 (5 ^ k : Nat)) ∧ Below w.heap.size w w' := by
  subst h; exact spec_Pow 5 k w (by omega) (by omega)
theorem impl_power5 (k : Nat) (kk : Int) (w : World) (h : kk = k) (hk2 : k ≤ 16) :
    Calls Tryd.prog 100 #[.int .i64 5, .int .i64 kk] w fun e w' => e = .returned (.int .i64 (5 ^ k : Nat)) ∧ Below w.heap.size w w' := by
  subst h; exact impl_power 5 k w (by omega) (by omega) (by omega) (by
    have h1 : 5 ^ k ≤ 5 ^ 16 := Nat.pow_le_pow_right (by omega) hk2
    have h2 : (5 : Nat) ^ 16 = 152587890625 := by decide
    omega)
end Go.Proofs.YtfbgmhjjdgglnaaDoor
