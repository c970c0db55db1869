/- Contracts and lemmas for the proofs of this seat: WayOf. No condition beyond those stated. -/
import Derived.Test.YtfpnpnbiofijaabRows
import Derived.WalkKit
import Derived.ProofKit
import Derived.OpenShut
import Derived.Handy
import Derived.Lib.Hide
import Derived.Lib.SmallJoins
import Derived.Deep.RegionHeld3
import Derived.Test.YtfpnpnbiofijaabBase
import Derived.Test.YtfpnpnbiofijaabNames
namespace Go.Proofs.Ytfpnpnbiofijaab
open Go.ChangeShapes Go.WideShapes Go.ChangeAt Go.RowKit Go.Joins
set_option linter.unusedVariables false
/-- The format with a name. -/
def wayOf (s : ByteArray) : Int := if wayNm 1 = s then 1 else if wayNm 2 = s then 2 else if wayNm 3 = s then 3 else if wayNm 4 = s then 4 else 0
theorem wayOf_hit (s : ByteArray) (k : Nat) (h0 : 1 ≤ k) (h1 : k ≤ 4) (hk : wayNm k = s) (hb : ∀ j : Nat, 1 ≤ j → j < k → wayNm j ≠ s) : wayOf s = k := by
  have b1 := hb 1; have b2 := hb 2; have b3 := hb 3
  obtain rfl | rfl | rfl | rfl : k = 1 ∨ k = 2 ∨ k = 3 ∨ k = 4 := by omega
  all_goals simp_all [wayOf]
theorem wayOf_none (s : ByteArray) (hb : ∀ j : Nat, 1 ≤ j → j < 5 → wayNm j ≠ s) : wayOf s = 0 := by
  have b1 := hb 1; have b2 := hb 2; have b3 := hb 3; have b4 := hb 4
  simp_all [wayOf]
theorem spec_WayOf (s : ByteArray) (w : World) : Calls Try.prog 12 #[.string s] w fun e w' => e = .returned (.int .i64 (wayOf s)) ∧ Below w.heap.size w w' := by
  go_enter Try.func12, Try.ntmps12
  go_wp2_with fail
  go_loopw [3] (fun i wr => ∃ k : Nat, 1 ≤ k ∧ k ≤ 5 ∧ i = .int .i64 k ∧ Hid (∀ j : Nat, 1 ≤ j → j < k → wayNm j ≠ s) ∧ Below w.heap.size w wr) (fun i _ => 5 - (intOf i).toNat)
  case atStart => exact ⟨1, by omega, by omega, rfl, fun j h1 h2 => by omega, Below.refl _ _⟩
  case round =>
    obtain ⟨k, h1, h2, rfl, hh, hb⟩ := hrel
    by_cases hk : k ≤ 4
    · go_wp2_with fail
      refine (spec_WayName _ _ (by unfold I64; omega)).mono ?_
      rintro e w1 ⟨rfl, hb1⟩
      have HB := Lib.hid hb1; clear hb1
      by_cases he : wayNm k = s
      · have H := Lib.hid he
        go_wp2_with fail
        go_ret
        exact ⟨ret_i (wayOf_hit s k h1 hk H.out hh.out).symm, below_step hb HB.out hb.size⟩
      · have H := Lib.hid he
        have he' := bytes_ne he
        clear he
        go_wp2_with fail
        go_roundw
        case rel => exact ⟨k + 1, by omega, by omega, by go_num, fun j g1 g2 => if hj : j = k then by subst hj; exact H.out else hh.out j g1 (by omega), below_step hb HB.out hb.size⟩
        case measure => simp [intOf]; omega
    · go_wp2_with fail
      go_ret
      exact ⟨ret_i (wayOf_none s fun j g1 g2 => hh.out j g1 (by omega)).symm, hb⟩
theorem impl_WayOf (s : ByteArray) (w : World) : Calls Try.prog 13 #[.string s] w fun e w' => e = .returned (.int .i64 (wayOf s)) ∧ Below w.heap.size w w' := by
  go_enter Try.func13, Try.ntmps13
  go_wp2_with fail
  go_loopw [3] (fun i wr => ∃ k : Nat, 1 ≤ k ∧ k ≤ 5 ∧ i = .int .i64 k ∧ Hid (∀ j : Nat, 1 ≤ j → j < k → wayNm j ≠ s) ∧ Below w.heap.size w wr) (fun i _ => 5 - (intOf i).toNat)
  case atStart => exact ⟨1, by omega, by omega, rfl, fun j h1 h2 => by omega, Below.refl _ _⟩
  case round =>
    obtain ⟨k, h1, h2, rfl, hh, hb⟩ := hrel
    by_cases hk : k ≤ 4
    · go_wp2_with fail
      refine (impl_WayName _ _ (by unfold I64; omega)).mono ?_
      rintro e w1 ⟨rfl, hb1⟩
      have HB := Lib.hid hb1; clear hb1
      by_cases he : wayNm k = s
      · have H := Lib.hid he
        go_wp2_with fail
        go_ret
        exact ⟨ret_i (wayOf_hit s k h1 hk H.out hh.out).symm, below_step hb HB.out hb.size⟩
      · have H := Lib.hid he
        have he' := bytes_ne he
        clear he
        go_wp2_with fail
        go_roundw
        case rel => exact ⟨k + 1, by omega, by omega, by go_num, fun j g1 g2 => if hj : j = k then by subst hj; exact H.out else hh.out j g1 (by omega), below_step hb HB.out hb.size⟩
        case measure => simp [intOf]; omega
    · go_wp2_with fail
      go_ret
      exact ⟨ret_i (wayOf_none s fun j g1 g2 => hh.out j g1 (by omega)).symm, hb⟩
theorem FnExactWayOf_walk (s : ByteArray) (w : World) (hi : s.size ≤ maxLen) : Calls Try.prog 5 #[.string s] w fun e w' => e = .returned (.bool true) ∧ Below w.heap.size w w' := by
  unfold maxLen at hi
  by_cases hs : (1048576 : Int) < s.size
  · go_enter Try.func5, Try.ntmps5
    go_wp2_with fail
    go_ret
    exact ⟨rfl, Below.refl _ _⟩
  go_enter Try.func5, Try.ntmps5
  go_wp2_with fail
  refine (spec_WayOf _ _).mono ?_
  rintro e w1 ⟨rfl, hb1⟩
  go_wp2_with fail
  refine (impl_WayOf _ _).mono ?_
  rintro e w2 ⟨rfl, hb2⟩
  go_wp2_with fail
  go_ret
  exact ⟨rfl, below_step hb1 hb2 hb1.size⟩
end Go.Proofs.Ytfpnpnbiofijaab
