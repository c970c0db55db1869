/- Contracts and lemmas for the proofs of this seat: ValF. No condition beyond those stated. -/
import Derived.Test.YtfbgmhjjdgglnaaDoorRows
import Derived.WalkKit
import Derived.ProofKit
import Derived.OpenShut
import Derived.Handy
import Derived.Lib.Hide
import Derived.Lib.SmallJoins
import Derived.Laws.BytesArg
import Derived.Lib.ItoaNum
import Derived.Lib.ItoaLen
import Derived.Lib.AppendIntMem
import Derived.Lib.ValidLaws
import Derived.Lib.ValidAsc
import Derived.Test.YtfbgmhjjdgglnaaDoorBase
import Derived.Test.YtfbgmhjjdgglnaaDoorGen
import Derived.Test.YtfbgmhjjdgglnaaDoorKit
import Derived.Test.YtfbgmhjjdgglnaaDoorTextF
namespace Go.Proofs.YtfbgmhjjdgglnaaDoor
open Go.ChangeShapes Go.WideShapes Go.ChangeAt Go.RowKit Go.Joins
set_option linter.unusedVariables false
set_option maxRecDepth 100000
theorem spec_l1In (n lo hi : Int) (w : World) : Calls Tryd.prog 67 #[.int .i64 n, .int .i64 lo, .int .i64 hi] w fun e w' => e = .returned (.bool (decide (lo ≤ n ∧ n ≤ hi))) ∧ Below w.heap.size w w' := by
  by_cases h1 : lo ≤ n
  · by_cases h2 : n ≤ hi
    · have hd : decide (lo ≤ n ∧ n ≤ hi) = true := decide_eq_true ⟨h1, h2⟩
      rw [hd]; clear hd
      go_enter Tryd.func67, Tryd.ntmps67
      go_wp2
      go_ret
      exact ⟨rfl, by go_grown⟩
    · have hd : decide (lo ≤ n ∧ n ≤ hi) = false := decide_eq_false (fun h => h2 h.2)
      rw [hd]; clear hd
      go_enter Tryd.func67, Tryd.ntmps67
      go_wp2
      go_ret
      exact ⟨rfl, by go_grown⟩
  · have hd : decide (lo ≤ n ∧ n ≤ hi) = false := decide_eq_false (fun h => h1 h.1)
    rw [hd]; clear hd
    go_enter Tryd.func67, Tryd.ntmps67
    go_wp2
    go_ret
    exact ⟨rfl, by go_grown⟩
theorem impl_within (n lo hi : Int) (w : World) : Calls Tryd.prog 56 #[.int .i64 n, .int .i64 lo, .int .i64 hi] w fun e w' => e = .returned (.bool (decide (lo ≤ n ∧ n ≤ hi))) ∧ Below w.heap.size w w' := by
  by_cases h1 : lo ≤ n
  · by_cases h2 : n ≤ hi
    · have hd : decide (lo ≤ n ∧ n ≤ hi) = true := decide_eq_true ⟨h1, h2⟩
      rw [hd]; clear hd
      go_enter Tryd.func56, Tryd.ntmps56
      go_wp2
      go_ret
      exact ⟨rfl, by go_grown⟩
    · have hd : decide (lo ≤ n ∧ n ≤ hi) = false := decide_eq_false (fun h => h2 h.2)
      rw [hd]; clear hd
      go_enter Tryd.func56, Tryd.ntmps56
      go_wp2
      go_ret
      exact ⟨rfl, by go_grown⟩
  · have hd : decide (lo ≤ n ∧ n ≤ hi) = false := decide_eq_false (fun h => h1 h.1)
    rw [hd]; clear hd
    go_enter Tryd.func56, Tryd.ntmps56
    go_wp2
    go_ret
    exact ⟨rfl, by go_grown⟩
/-- The number of decimal digits. -/
def digN (n : Int) : Nat := Lib.nDigits n.natAbs
def digC (m : Nat) : Nat := if m = 0 then 0 else Lib.nDigits m
theorem digC_zero : digC 0 = 0 := rfl
theorem nDigits_eq (u : Nat) : Lib.nDigits u = 1 + digC (u / 10) := by
  rw [Lib.nDigits]
  by_cases h : u < 10
  · rw [dif_pos h, show u / 10 = 0 from by omega]; rfl
  · rw [dif_neg h]; unfold digC; rw [if_neg (by omega)]; omega
theorem digC_pos (m : Nat) (h : m ≠ 0) : digC m = digC (m / 10) + 1 := by
  conv => lhs; unfold digC
  rw [if_neg h, nDigits_eq]; omega
theorem digN_eq (n : Int) : digN n = 1 + digC (n.natAbs / 10) := nDigits_eq _
theorem tdiv_abs (n : Int) : (n.tdiv 10).natAbs = n.natAbs / 10 := by
  rw [Int.natAbs_tdiv]; rfl
theorem digN_le (n : Int) (h : I64 n) : digN n ≤ 20 := Lib.nDigits_le20 _ (by have := h.1; have := h.2; omega)
set_option maxHeartbeats 800000 in
theorem spec_Digits (n : Int) (w : World) (hn : I64 n) : Calls Tryd.prog 113 #[.int .i64 n] w fun e w' => e = .returned (.int .i64 (digN n)) ∧ Below w.heap.size w w' := by
  obtain ⟨hn0, hn1⟩ := hn
  have HD := Lib.hid (digN_eq n)
  have h20 := digN_le n ⟨hn0, hn1⟩
  go_enter Tryd.func113, Tryd.ntmps113
  go_wp2_with fail
  go_loopw [3, 4] (fun s q wr => ∃ (m : Int) (c : Nat), q = .int .i64 m ∧ s = .int .i64 c ∧ -9223372036854775808 ≤ m ∧ m ≤ 9223372036854775807 ∧ c ≤ 20 ∧ Hid (digN n = c + digC m.natAbs) ∧ Below w.heap.size w wr) (fun _ q _ => (intOf q).natAbs)
  case atStart => exact ⟨n.tdiv 10, 1, by go_num, rfl, by have := tdiv_abs n; omega, by have := tdiv_abs n; omega, by omega, by show _ = _; rw [tdiv_abs]; exact HD.out, Below.refl _ _⟩
  case round =>
    obtain ⟨m, c, rfl, rfl, hm0, hm1, hc, HC, hb⟩ := hrel
    by_cases hz : m = 0
    · subst hz
      have HE := Lib.hid (show digN n = c from by have := HC.out; rw [show (0 : Int).natAbs = 0 from rfl, digC_zero] at this; omega)
      go_wp2_with fail
      go_ret
      exact ⟨by rw [HE.out]; rfl, hb⟩
    · have hc2 : c + 1 ≤ 20 := by have := HC.out; rw [digC_pos _ (by omega)] at this; omega
      have HC2 := Lib.hid (show digN n = (c + 1) + digC (m.tdiv 10).natAbs from by have := HC.out; rw [digC_pos _ (by omega)] at this; rw [tdiv_abs]; omega)
      have hlt : (m.tdiv 10).natAbs < m.natAbs := by rw [tdiv_abs]; omega
      have ht0 : -9223372036854775808 ≤ m.tdiv 10 := by have := tdiv_abs m; omega
      have ht1 : m.tdiv 10 ≤ 9223372036854775807 := by have := tdiv_abs m; omega
      go_wp2_with fail
      go_roundw
      case rel => exact ⟨m.tdiv 10, c + 1, by go_num, by go_num, ht0, ht1, hc2, HC2.out, hb⟩
      case measure => exact hlt
end Go.Proofs.YtfbgmhjjdgglnaaDoor
