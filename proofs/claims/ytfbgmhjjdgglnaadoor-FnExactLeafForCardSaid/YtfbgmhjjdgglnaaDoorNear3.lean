/- Contracts and lemmas for the proofs of this seat: Near3. No condition beyond those stated. -/
import Derived.Test.YtfbgmhjjdgglnaaDoorRows
import Derived.WalkKit
import Derived.ProofKit
import Derived.OpenShut
import Derived.Handy
import Derived.Lib.Hide
import Derived.Lib.SmallJoins
import Derived.Deep.RegionHeld3
import Derived.Laws.Bits64b
import Derived.Laws.BitsLemmas
import Derived.Lib.Mul64
import Derived.Test.YtfbgmhjjdgglnaaDoorBase
import Derived.Test.YtfbgmhjjdgglnaaDoorShelf
import Derived.Test.YtfbgmhjjdgglnaaDoorDiv
import Derived.Test.YtfbgmhjjdgglnaaDoorDiv2
import Derived.Test.YtfbgmhjjdgglnaaDoorNear1
namespace Go.Proofs.YtfbgmhjjdgglnaaDoor
open Go.ChangeShapes Go.WideShapes Go.ChangeAt Go.RowKit Go.Joins
set_option linter.unusedVariables false
set_option maxRecDepth 100000
theorem dbl (n p i : Nat) (hp : 0 < p) : (p ≤ 2 * (n * 2 ^ i % p) → n * 2 ^ (i + 1) / p = 2 * (n * 2 ^ i / p) + 1 ∧ n * 2 ^ (i + 1) % p = 2 * (n * 2 ^ i % p) - p) ∧ (2 * (n * 2 ^ i % p) < p → n * 2 ^ (i + 1) / p = 2 * (n * 2 ^ i / p) ∧ n * 2 ^ (i + 1) % p = 2 * (n * 2 ^ i % p)) := by
  have h1 := Nat.mod_add_div (n * 2 ^ i) p
  have h2 := Nat.mod_lt (n * 2 ^ i) hp
  have e : n * 2 ^ (i + 1) = 2 * (n * 2 ^ i) := by rw [Nat.pow_succ, ← Nat.mul_assoc]; omega
  rw [e]
  generalize n * 2 ^ i = x at *
  generalize x % p = r at *
  generalize x / p = q at *
  constructor
  · intro h
    refine (Nat.div_mod_unique hp).2 ⟨?_, by omega⟩
    rw [Nat.mul_add, Nat.mul_one, Nat.mul_left_comm]; omega
  · intro h
    refine (Nat.div_mod_unique hp).2 ⟨?_, by omega⟩
    rw [Nat.mul_left_comm]; omega
theorem scaled_le (n p i : Nat) (hp : 0 < p) (hq : n / p ≤ 65535) (hi : i ≤ 17) : n * 2 ^ i / p < 8589934592 := by
  have h1 : n < 65536 * p := by rw [← Nat.div_lt_iff_lt_mul hp]; omega
  have h2 : 2 ^ i ≤ 2 ^ 17 := Nat.pow_le_pow_right (by omega) hi
  have h3 : (2 : Nat) ^ 17 = 131072 := by decide
  rw [Nat.div_lt_iff_lt_mul hp]
  have h4 : n * 2 ^ i ≤ n * 131072 := Nat.mul_le_mul_left _ (by omega)
  omega
set_option maxHeartbeats 4000000 in
set_option maxRecDepth 100000 in
theorem spec_l5Scaled (n p s : Nat) (w : World) (hn : n < 100000000000000000) (hp : 0 < p) (hp2 : p ≤ 10000000000000000) (hq : n / p ≤ 65535) (hs : s ≤ 17) :
    Calls Tryd.prog 90 #[.int .i64 n, .int .i64 p, .int .i64 s] w fun e w' => e = .returned (.tuple #[.int .i64 ((n * 2 ^ s / p : Nat) : Int), .int .i64 (cmpH (n * 2 ^ s % p) p), .bool (decide (0 < n * 2 ^ s % p))]) ∧ Below w.heap.size w w' := by
  obtain ⟨qS, hqS⟩ : ∃ x : Nat, n * 2 ^ s / p = x := ⟨_, rfl⟩
  obtain ⟨rS, hrS⟩ : ∃ x : Nat, n * 2 ^ s % p = x := ⟨_, rfl⟩
  rw [hqS, hrS]
  have HQS := Lib.hid hqS
  have HRS := Lib.hid hrS
  clear hqS hrS
  obtain ⟨q0, hq0⟩ : ∃ q0 : Nat, q0 = n * 2 ^ 0 / p := ⟨_, rfl⟩
  obtain ⟨r0, hr0⟩ : ∃ r0 : Nat, r0 = n * 2 ^ 0 % p := ⟨_, rfl⟩
  have eq0 : (n : Int).tdiv (p : Int) = (q0 : Int) := by rw [hq0, Nat.pow_zero, Nat.mul_one]; rfl
  have er0 : (n : Int).tmod (p : Int) = (r0 : Int) := by rw [hr0, Nat.pow_zero, Nat.mul_one]; rfl
  have hq0b : q0 ≤ 65535 := by rw [hq0, Nat.pow_zero, Nat.mul_one]; exact hq
  have hr0b : r0 < p := by rw [hr0]; exact Nat.mod_lt _ hp
  have HQ0 := Lib.hid hq0
  have HR0 := Lib.hid hr0
  have HQ := Lib.hid hq
  have hpi : ¬ (p : Int) = 0 := by omega
  clear hq0 hr0 hq
  go_enter Tryd.func90, Tryd.ntmps90
  go_wp2_with fail
  go_loopw [9, 10, 11] (fun qv rv iv wr => ∃ (q r i : Nat), qv = .int .i64 q ∧ rv = .int .i64 r ∧ iv = .int .i64 i ∧ i ≤ s ∧ q < 8589934592 ∧ r < p ∧ Hid (q = n * 2 ^ i / p) ∧ Hid (r = n * 2 ^ i % p) ∧ Below w.heap.size w wr) (fun _ _ iv _ => s - (intOf iv).toNat)
  case atStart => exact ⟨q0, r0, 0, rfl, rfl, rfl, by omega, by omega, hr0b, HQ0, HR0, Below.refl _ _⟩
  case round =>
    obtain ⟨q, r, i, rfl, rfl, rfl, hi, hqb, hrp, HQi, HRi, hb⟩ := hrel
    have hdb := dbl n p i hp
    rw [← HQi.out, ← HRi.out] at hdb
    by_cases his : i < s
    · have hi2 : (i : Int) < (s : Int) := by omega
      have hqn := scaled_le n p (i + 1) hp HQ.out (by omega)
      by_cases hc : p ≤ 2 * r
      · obtain ⟨d1, d2⟩ := hdb.1 hc
        have HQ2 := Lib.hid d1.symm
        have HR2 := Lib.hid d2.symm
        rw [d1] at hqn
        have hci : (p : Int) ≤ 2 * (r : Int) := by omega
        clear hdb d1 d2
        go_wp2_with fail
        go_roundw
        case rel => exact ⟨2 * q + 1, 2 * r - p, i + 1, by go_num, by go_num, by go_num, by omega, by omega, by omega, HQ2, HR2, hb⟩
        case measure => simp [intOf]; omega
      · obtain ⟨d1, d2⟩ := hdb.2 (by omega)
        have HQ2 := Lib.hid d1.symm
        have HR2 := Lib.hid d2.symm
        rw [d1] at hqn
        have hci : ¬ (p : Int) ≤ 2 * (r : Int) := by omega
        clear hdb d1 d2
        go_wp2_with fail
        go_roundw
        case rel => exact ⟨2 * q, 2 * r, i + 1, by go_num, by go_num, by go_num, by omega, by omega, by omega, HQ2, HR2, hb⟩
        case measure => simp [intOf]; omega
    · obtain rfl : i = s := by omega
      have HB := Lib.hid hb
      obtain rfl : q = qS := HQi.out.trans HQS.out
      obtain rfl : r = rS := HRi.out.trans HRS.out
      clear hdb hb
      rcases Nat.lt_trichotomy (2 * r) p with h | h | h
      · have HC := Lib.hid (show cmpH r p = -1 from by unfold cmpH; rw [if_neg (by omega), if_neg (by omega)])
        have h1 : 2 * (r : Int) < (p : Int) := by omega
        go_wp2_with fail
        refine bodyPost_ret (v := .tuple #[.int .i64 (q : Int), .int .i64 (-1), .bool (decide (0 < (r : Int)))]) (by simp [results, Tryd.results90, go_sem]) rfl ⟨by rw [HC.out]; simp, HB.out⟩
      · have HC := Lib.hid (show cmpH r p = 0 from by unfold cmpH; rw [if_neg (by omega), if_pos (by omega)])
        have h1 : ¬ 2 * (r : Int) < (p : Int) := by omega
        have h2 : ¬ (p : Int) < 2 * (r : Int) := by omega
        have hr1 : 0 < r := by omega
        go_wp2_with fail
        refine bodyPost_ret (v := .tuple #[.int .i64 (q : Int), .int .i64 0, .bool true]) (by simp [results, Tryd.results90, go_sem]) rfl ⟨by rw [HC.out], HB.out⟩
      · have HC := Lib.hid (show cmpH r p = 1 from if_pos (by omega))
        have h1 : ¬ 2 * (r : Int) < (p : Int) := by omega
        have h2 : (p : Int) < 2 * (r : Int) := by omega
        have hr1 : 0 < r := by omega
        go_wp2_with fail
        refine bodyPost_ret (v := .tuple #[.int .i64 (q : Int), .int .i64 1, .bool true]) (by simp [results, Tryd.results90, go_sem]) rfl ⟨by rw [HC.out], HB.out⟩
end Go.Proofs.YtfbgmhjjdgglnaaDoor
