/- Contracts and lemmas for the proofs of this seat: Names. No condition beyond those stated. -/
import Derived.Test.YtfbgmhjjdgglnaaDoorRows
import Derived.WalkKit
import Derived.ProofKit
import Derived.OpenShut
import Derived.Handy
import Derived.Lib.Hide
import Derived.Lib.SmallJoins
import Derived.Deep.RegionHeld3
import Derived.Test.YtfbgmhjjdgglnaaDoorBase
namespace Go.Proofs.YtfbgmhjjdgglnaaDoor
open Go.ChangeShapes Go.WideShapes Go.ChangeAt Go.RowKit Go.Joins
set_option linter.unusedVariables false
set_option maxRecDepth 100000
/-- The name of number n. -/
def wayNm (n : Int) : ByteArray := if n = 1 then ⟨#[116, 101, 120, 116]⟩ else if n = 2 then ⟨#[116, 105, 103, 104, 116]⟩ else if n = 3 then ⟨#[112, 97, 99, 107, 101, 100]⟩ else if n = 4 then ⟨#[112, 108, 97, 105, 110]⟩ else ⟨#[]⟩
theorem wayNm_out (n : Int) (h : n < 1 ∨ 4 < n) : wayNm n = ⟨#[]⟩ := by unfold wayNm; rw [if_neg (by omega), if_neg (by omega), if_neg (by omega), if_neg (by omega)]
/-- The name of number n. -/
def lossNm (n : Int) : ByteArray := if n = 1 then ⟨#[107, 105, 110, 100]⟩ else if n = 2 then ⟨#[114, 111, 117, 110, 100]⟩ else if n = 3 then ⟨#[114, 97, 110, 103, 101]⟩ else if n = 4 then ⟨#[111, 100, 100]⟩ else if n = 5 then ⟨#[98, 121, 116, 101, 115]⟩ else if n = 6 then ⟨#[116, 97, 103]⟩ else if n = 7 then ⟨#[110, 97, 109, 101]⟩ else if n = 8 then ⟨#[116, 119, 105, 99, 101]⟩ else if n = 9 then ⟨#[111, 114, 100, 101, 114]⟩ else ⟨#[]⟩
theorem lossNm_out (n : Int) (h : n < 1 ∨ 9 < n) : lossNm n = ⟨#[]⟩ := by unfold lossNm; rw [if_neg (by omega), if_neg (by omega), if_neg (by omega), if_neg (by omega), if_neg (by omega), if_neg (by omega), if_neg (by omega), if_neg (by omega), if_neg (by omega)]
set_option maxHeartbeats 1600000 in
theorem spec_LossName (n : Int) (w : World) (hi : I64 n) : Calls Tryd.prog 28 #[.int .i64 n] w fun e w' => e = .returned (.string (lossNm n)) ∧ Below w.heap.size w w' := by
  by_cases h0 : n < 0
  · have H := Lib.hid (lossNm_out n (by omega))
    go_enter Tryd.func28, Tryd.ntmps28
    go_wp2
    go_ret
    exact ⟨ret_s H.out.symm, by go_grown⟩
  by_cases h1 : 9 < n
  · have hd1 : decide (n ≤ 9) = false := by simp; omega
    have H := Lib.hid (lossNm_out n (by omega))
    go_enter Tryd.func28, Tryd.ntmps28
    go_wp2
    go_ret
    exact ⟨ret_s H.out.symm, by go_grown⟩
  obtain rfl | rfl | rfl | rfl | rfl | rfl | rfl | rfl | rfl | rfl : n = 0 ∨ n = 1 ∨ n = 2 ∨ n = 3 ∨ n = 4 ∨ n = 5 ∨ n = 6 ∨ n = 7 ∨ n = 8 ∨ n = 9 := by omega
  all_goals
    go_enter Tryd.func28, Tryd.ntmps28
    go_wp2
    go_ret
    exact ⟨rfl, by go_grown⟩
set_option maxHeartbeats 1600000 in
theorem impl_LossName (n : Int) (w : World) (hi : I64 n) : Calls Tryd.prog 32 #[.int .i64 n] w fun e w' => e = .returned (.string (lossNm n)) ∧ Below w.heap.size w w' := by
  have x0 : ∀ w : World, (Instr.index 90 (.agg #[.string ⟨#[107, 105, 110, 100]⟩, .string ⟨#[114, 111, 117, 110, 100]⟩, .string ⟨#[114, 97, 110, 103, 101]⟩, .string ⟨#[111, 100, 100]⟩, .string ⟨#[98, 121, 116, 101, 115]⟩, .string ⟨#[116, 97, 103]⟩, .string ⟨#[110, 97, 109, 101]⟩, .string ⟨#[116, 119, 105, 99, 101]⟩, .string ⟨#[111, 114, 100, 101, 114]⟩]) (.int .i64 0)).run Tryd.prog w = .ok (.string ⟨#[107, 105, 110, 100]⟩) w := fun _ => by kernel_rfl
  have x1 : ∀ w : World, (Instr.index 90 (.agg #[.string ⟨#[107, 105, 110, 100]⟩, .string ⟨#[114, 111, 117, 110, 100]⟩, .string ⟨#[114, 97, 110, 103, 101]⟩, .string ⟨#[111, 100, 100]⟩, .string ⟨#[98, 121, 116, 101, 115]⟩, .string ⟨#[116, 97, 103]⟩, .string ⟨#[110, 97, 109, 101]⟩, .string ⟨#[116, 119, 105, 99, 101]⟩, .string ⟨#[111, 114, 100, 101, 114]⟩]) (.int .i64 1)).run Tryd.prog w = .ok (.string ⟨#[114, 111, 117, 110, 100]⟩) w := fun _ => by kernel_rfl
  have x2 : ∀ w : World, (Instr.index 90 (.agg #[.string ⟨#[107, 105, 110, 100]⟩, .string ⟨#[114, 111, 117, 110, 100]⟩, .string ⟨#[114, 97, 110, 103, 101]⟩, .string ⟨#[111, 100, 100]⟩, .string ⟨#[98, 121, 116, 101, 115]⟩, .string ⟨#[116, 97, 103]⟩, .string ⟨#[110, 97, 109, 101]⟩, .string ⟨#[116, 119, 105, 99, 101]⟩, .string ⟨#[111, 114, 100, 101, 114]⟩]) (.int .i64 2)).run Tryd.prog w = .ok (.string ⟨#[114, 97, 110, 103, 101]⟩) w := fun _ => by kernel_rfl
  have x3 : ∀ w : World, (Instr.index 90 (.agg #[.string ⟨#[107, 105, 110, 100]⟩, .string ⟨#[114, 111, 117, 110, 100]⟩, .string ⟨#[114, 97, 110, 103, 101]⟩, .string ⟨#[111, 100, 100]⟩, .string ⟨#[98, 121, 116, 101, 115]⟩, .string ⟨#[116, 97, 103]⟩, .string ⟨#[110, 97, 109, 101]⟩, .string ⟨#[116, 119, 105, 99, 101]⟩, .string ⟨#[111, 114, 100, 101, 114]⟩]) (.int .i64 3)).run Tryd.prog w = .ok (.string ⟨#[111, 100, 100]⟩) w := fun _ => by kernel_rfl
  have x4 : ∀ w : World, (Instr.index 90 (.agg #[.string ⟨#[107, 105, 110, 100]⟩, .string ⟨#[114, 111, 117, 110, 100]⟩, .string ⟨#[114, 97, 110, 103, 101]⟩, .string ⟨#[111, 100, 100]⟩, .string ⟨#[98, 121, 116, 101, 115]⟩, .string ⟨#[116, 97, 103]⟩, .string ⟨#[110, 97, 109, 101]⟩, .string ⟨#[116, 119, 105, 99, 101]⟩, .string ⟨#[111, 114, 100, 101, 114]⟩]) (.int .i64 4)).run Tryd.prog w = .ok (.string ⟨#[98, 121, 116, 101, 115]⟩) w := fun _ => by kernel_rfl
  have x5 : ∀ w : World, (Instr.index 90 (.agg #[.string ⟨#[107, 105, 110, 100]⟩, .string ⟨#[114, 111, 117, 110, 100]⟩, .string ⟨#[114, 97, 110, 103, 101]⟩, .string ⟨#[111, 100, 100]⟩, .string ⟨#[98, 121, 116, 101, 115]⟩, .string ⟨#[116, 97, 103]⟩, .string ⟨#[110, 97, 109, 101]⟩, .string ⟨#[116, 119, 105, 99, 101]⟩, .string ⟨#[111, 114, 100, 101, 114]⟩]) (.int .i64 5)).run Tryd.prog w = .ok (.string ⟨#[116, 97, 103]⟩) w := fun _ => by kernel_rfl
  have x6 : ∀ w : World, (Instr.index 90 (.agg #[.string ⟨#[107, 105, 110, 100]⟩, .string ⟨#[114, 111, 117, 110, 100]⟩, .string ⟨#[114, 97, 110, 103, 101]⟩, .string ⟨#[111, 100, 100]⟩, .string ⟨#[98, 121, 116, 101, 115]⟩, .string ⟨#[116, 97, 103]⟩, .string ⟨#[110, 97, 109, 101]⟩, .string ⟨#[116, 119, 105, 99, 101]⟩, .string ⟨#[111, 114, 100, 101, 114]⟩]) (.int .i64 6)).run Tryd.prog w = .ok (.string ⟨#[110, 97, 109, 101]⟩) w := fun _ => by kernel_rfl
  have x7 : ∀ w : World, (Instr.index 90 (.agg #[.string ⟨#[107, 105, 110, 100]⟩, .string ⟨#[114, 111, 117, 110, 100]⟩, .string ⟨#[114, 97, 110, 103, 101]⟩, .string ⟨#[111, 100, 100]⟩, .string ⟨#[98, 121, 116, 101, 115]⟩, .string ⟨#[116, 97, 103]⟩, .string ⟨#[110, 97, 109, 101]⟩, .string ⟨#[116, 119, 105, 99, 101]⟩, .string ⟨#[111, 114, 100, 101, 114]⟩]) (.int .i64 7)).run Tryd.prog w = .ok (.string ⟨#[116, 119, 105, 99, 101]⟩) w := fun _ => by kernel_rfl
  have x8 : ∀ w : World, (Instr.index 90 (.agg #[.string ⟨#[107, 105, 110, 100]⟩, .string ⟨#[114, 111, 117, 110, 100]⟩, .string ⟨#[114, 97, 110, 103, 101]⟩, .string ⟨#[111, 100, 100]⟩, .string ⟨#[98, 121, 116, 101, 115]⟩, .string ⟨#[116, 97, 103]⟩, .string ⟨#[110, 97, 109, 101]⟩, .string ⟨#[116, 119, 105, 99, 101]⟩, .string ⟨#[111, 114, 100, 101, 114]⟩]) (.int .i64 8)).run Tryd.prog w = .ok (.string ⟨#[111, 114, 100, 101, 114]⟩) w := fun _ => by kernel_rfl
  by_cases h0 : n < 1
  · have H := Lib.hid (lossNm_out n (by omega))
    go_enter Tryd.func32, Tryd.ntmps32
    go_wp2
    go_ret
    exact ⟨ret_s H.out.symm, by go_grown⟩
  by_cases h1 : 9 < n
  · have hd1 : decide (n ≤ 9) = false := by simp; omega
    have H := Lib.hid (lossNm_out n (by omega))
    go_enter Tryd.func32, Tryd.ntmps32
    go_wp2
    go_ret
    exact ⟨ret_s H.out.symm, by go_grown⟩
  obtain rfl | rfl | rfl | rfl | rfl | rfl | rfl | rfl | rfl : n = 1 ∨ n = 2 ∨ n = 3 ∨ n = 4 ∨ n = 5 ∨ n = 6 ∨ n = 7 ∨ n = 8 ∨ n = 9 := by omega
  all_goals
    go_enter Tryd.func32, Tryd.ntmps32
    go_wp2
    go_ret
    exact ⟨rfl, by go_grown⟩
end Go.Proofs.YtfbgmhjjdgglnaaDoor
