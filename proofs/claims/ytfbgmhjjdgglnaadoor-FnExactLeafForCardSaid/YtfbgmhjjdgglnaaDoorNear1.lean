/- Contracts and lemmas for the proofs of this seat: Near1. No condition beyond those stated. -/
import Derived.Test.YtfbgmhjjdgglnaaDoorRows
import Derived.WalkKit
import Derived.ProofKit
import Derived.OpenShut
import Derived.Handy
import Derived.Lib.Hide
import Derived.Lib.SmallJoins
import Derived.Deep.RegionHeld3
import Derived.Laws.Bits64b
import Derived.Laws.BitsLemmas
import Derived.Lib.Mul64
import Derived.Test.YtfbgmhjjdgglnaaDoorBase
import Derived.Test.YtfbgmhjjdgglnaaDoorShelf
import Derived.Test.YtfbgmhjjdgglnaaDoorDiv
import Derived.Test.YtfbgmhjjdgglnaaDoorDiv2
namespace Go.Proofs.YtfbgmhjjdgglnaaDoor
open Go.ChangeShapes Go.WideShapes Go.ChangeAt Go.RowKit Go.Joins
set_option linter.unusedVariables false
set_option maxRecDepth 100000
def cmpH (r d : Nat) : Int := if d < 2 * r then 1 else if 2 * r = d then 0 else -1
def shD (n k d : Nat) : Nat × Int := if d ≤ n * 2 ^ k / 18446744073709551616 then (9223372036854775808, 0) else (n * 2 ^ k / d, cmpH (n * 2 ^ k % d) d)
set_option maxHeartbeats 4000000 in
set_option maxRecDepth 100000 in
theorem impl_shifted (n k d : Nat) (w : World) (hn : n < 18446744073709551616) (hk : k ≤ 16) (hd0 : 0 < d) (hd : d < 18446744073709551616) :
    Calls Tryd.prog 123 #[.int .u64 n, .int .u64 k, .int .u64 d] w fun e w' => e = .returned (.tuple #[.int .u64 ((shD n k d).1 : Int), .int .i64 (shD n k d).2]) ∧ Below w.heap.size w w' := by
  obtain ⟨K, hK⟩ : ∃ K : Nat, K = 2 ^ k := ⟨_, rfl⟩
  have hKb : K ≤ 65536 := by
    have h1 : 2 ^ k ≤ 2 ^ 16 := Nat.pow_le_pow_right (by omega) hk
    have h2 : (2 : Nat) ^ 16 = 65536 := by decide
    omega
  have eK : IntKind.u64.wrap ((2 : Int) ^ k) = (K : Int) := by
    rw [show (2 : Int) ^ k = (K : Int) from by rw [hK, Int.natCast_pow]; rfl]; exact Mul64.wrapN K (by omega)
  obtain ⟨Z, hZ⟩ : ∃ Z : Nat, Z = n * K := ⟨_, rfl⟩
  obtain ⟨H, hH⟩ : ∃ H : Nat, H = Z / 18446744073709551616 := ⟨_, rfl⟩
  obtain ⟨L, hL⟩ : ∃ L : Nat, L = Z % 18446744073709551616 := ⟨_, rfl⟩
  have hHL := Lib.hid (show H * 18446744073709551616 + L = Z from by omega)
  have hL2 : L < 18446744073709551616 := by omega
  have hZb : Z ≤ 18446744073709551616 * 65536 := by rw [hZ]; exact Nat.mul_le_mul (by omega) hKb
  have hHb : H ≤ 65536 := by omega
  have HSH := Lib.hid (show shD n k d = if d ≤ H then (9223372036854775808, 0) else (Z / d, cmpH (Z % d) d) from by unfold shD; rw [← hK, ← hZ, ← hH])
  have HM := Lib.hid (And.intro hZ (And.intro hH hL))
  have hmin : min k 64 = k := by omega
  clear hK hH hL hZb hZ
  by_cases hdH : d ≤ H
  · have HR := Lib.hid (HSH.out.trans (if_pos hdH))
    have hi : (d : Int) ≤ (H : Int) := by omega
    go_enter Tryd.func123, Tryd.ntmps123
    go_wp2_with fail
    refine (Tryd.bits_Mul64 n K hn (by omega) w).mono ?_
    rintro e w2 ⟨rfl, hw⟩
    rw [← HM.out.1, ← HM.out.2.1, ← HM.out.2.2, hw]; clear hw
    go_wp2_with fail
    refine bodyPost_ret (v := .tuple #[.int .u64 9223372036854775808, .int .i64 0]) (by simp [results, Tryd.results123, go_sem]) rfl ⟨by rw [HR.out]; rfl, Below.refl _ _⟩
  · have HR := Lib.hid (HSH.out.trans (if_neg hdH))
    have hi : ¬ (d : Int) ≤ (H : Int) := by omega
    obtain ⟨q, hq⟩ : ∃ q : Nat, q = Z / d := ⟨_, rfl⟩
    obtain ⟨r, hr⟩ : ∃ r : Nat, r = Z % d := ⟨_, rfl⟩
    have hrd : r < d := by rw [hr]; exact Nat.mod_lt _ hd0
    have HQ := Lib.hid (And.intro hq hr); clear hq hr
    obtain ⟨t, ht⟩ : ∃ t : Nat, t = d - r := ⟨_, rfl⟩
    have et : IntKind.u64.wrap ((d : Int) - (r : Int)) = (t : Int) := by rw [show (d : Int) - (r : Int) = (t : Int) from by omega]; exact Mul64.wrapN t (by omega)
    go_enter Tryd.func123, Tryd.ntmps123
    go_wp2_with fail
    refine (Tryd.bits_Mul64 n K hn (by omega) w).mono ?_
    rintro e w2 ⟨rfl, hw⟩
    rw [← HM.out.1, ← HM.out.2.1, ← HM.out.2.2, hw]; clear hw
    go_wp2_with fail
    refine (bits_Div64 H L d hd hL2 (by omega) w).mono ?_
    rintro e w3 ⟨rfl, hb⟩
    rw [hHL.out, ← HQ.out.1, ← HQ.out.2]
    have HB := Lib.hid hb; clear hb
    rcases Nat.lt_trichotomy t r with h | h | h
    · have HC := Lib.hid (show cmpH r d = 1 from if_pos (by omega))
      have h1 : (t : Int) < (r : Int) := by omega
      clear ht
      go_wp2_with fail
      refine bodyPost_ret (v := .tuple #[.int .u64 (q : Int), .int .i64 1]) (by simp [results, Tryd.results123, go_sem]) rfl ⟨by rw [HR.out, ← HQ.out.1, ← HQ.out.2, HC.out], HB.out⟩
    · have HC := Lib.hid (show cmpH r d = 0 from by unfold cmpH; rw [if_neg (by omega), if_pos (by omega)])
      clear ht
      subst h
      go_wp2_with fail
      refine bodyPost_ret (v := .tuple #[.int .u64 (q : Int), .int .i64 0]) (by simp [results, Tryd.results123, go_sem]) rfl ⟨by rw [HR.out, ← HQ.out.1, ← HQ.out.2, HC.out], HB.out⟩
    · have HC := Lib.hid (show cmpH r d = -1 from by unfold cmpH; rw [if_neg (by omega), if_neg (by omega)])
      have h1 : ¬ t < r := by omega
      have h2 : ¬ r = t := by omega
      clear ht
      go_wp2_with fail
      refine bodyPost_ret (v := .tuple #[.int .u64 (q : Int), .int .i64 (-1)]) (by simp [results, Tryd.results123, go_sem]) rfl ⟨by rw [HR.out, ← HQ.out.1, ← HQ.out.2, HC.out], HB.out⟩
end Go.Proofs.YtfbgmhjjdgglnaaDoor
