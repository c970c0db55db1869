/- Contracts and lemmas for the proofs of this seat: Div. No condition beyond those stated. -/
import Derived.Test.YtfbgmhjjdgglnaaDoorRows
import Derived.WalkKit
import Derived.ProofKit
import Derived.OpenShut
import Derived.Handy
import Derived.Lib.Hide
import Derived.Lib.SmallJoins
import Derived.Deep.RegionHeld3
import Derived.Deep.QuietTactic
import Derived.BigQuiet
import Derived.Laws.Bits64b
import Derived.Laws.BitsLemmas
import Derived.Lib.Mul64
import Derived.Shelf.Bits.Mul64
import Derived.Test.YtfbgmhjjdgglnaaDoorBase
import Derived.Test.YtfbgmhjjdgglnaaDoorShelf
namespace Go.Proofs.YtfbgmhjjdgglnaaDoor
open Go.ChangeShapes Go.WideShapes Go.ChangeAt Go.RowKit Go.Joins
set_option linter.unusedVariables false
set_option maxRecDepth 100000
/-- One digit of the quotient. -/
theorem knuth (b y1 y0 u d q r : Nat) (hb : 0 < b) (h0 : y0 < b) (hd : d < b) (hu : q * y1 + r = u)
    (hle : (u * b + d) / (y1 * b + y0) ≤ q) (hq : q < b) (h : q * y0 ≤ b * r + d) (hy : 0 < y1) : (u * b + d) / (y1 * b + y0) = q := by
  refine Nat.le_antisymm hle ?_
  rw [Nat.le_div_iff_mul_le (Nat.lt_of_lt_of_le (Nat.mul_pos hy hb) (Nat.le_add_right _ _))]
  have e : q * (y1 * b + y0) + b * r = u * b + q * y0 := by rw [← hu]; grind
  omega
theorem knuth_break (b y1 y0 u d q r : Nat) (hb : 0 < b) (h0 : y0 < b) (hd : d < b) (hu : q * y1 + r = u)
    (hle : (u * b + d) / (y1 * b + y0) ≤ q) (hq : q ≤ b) (h : b ≤ r) (hy : 0 < y1) : (u * b + d) / (y1 * b + y0) = q := by
  refine Nat.le_antisymm hle ?_
  rw [Nat.le_div_iff_mul_le (Nat.lt_of_lt_of_le (Nat.mul_pos hy hb) (Nat.le_add_right _ _))]
  have e : q * (y1 * b + y0) + b * r = u * b + q * y0 := by rw [← hu]; grind
  have e2 : q * y0 ≤ b * y0 := Nat.mul_le_mul_right _ hq
  have e3 : b * y0 ≤ b * r := Nat.mul_le_mul_left _ (by omega)
  omega
theorem knuth_down (b y1 y0 u d q r : Nat) (hb : 0 < b) (h0 : y0 < b) (hd : d < b) (hu : q * y1 + r = u) (hub : u < y1 * b + y0)
    (hle : (u * b + d) / (y1 * b + y0) ≤ q) (h : b ≤ q ∨ b * r + d < q * y0) (hy : 0 < y1) : (u * b + d) / (y1 * b + y0) ≤ q - 1 ∧ 0 < q := by
  have hY : 0 < y1 * b + y0 := Nat.lt_of_lt_of_le (Nat.mul_pos hy hb) (Nat.le_add_right _ _)
  have key : (u * b + d) / (y1 * b + y0) < q := by
    rcases h with h | h
    · refine Nat.lt_of_lt_of_le ?_ h
      rw [Nat.div_lt_iff_lt_mul hY]
      have h1 : (u + 1) * b ≤ (y1 * b + y0) * b := Nat.mul_le_mul_right _ hub
      rw [Nat.mul_comm b]
      generalize (y1 * b + y0) * b = Z at *
      rw [Nat.add_mul, Nat.one_mul] at h1
      omega
    · rw [Nat.div_lt_iff_lt_mul hY]
      have e : q * (y1 * b + y0) + b * r = u * b + q * y0 := by rw [← hu]; grind
      generalize q * (y1 * b + y0) = Z at *
      omega
  generalize (u * b + d) / (y1 * b + y0) = Z at *
  omega
theorem knuth_top (b y1 y0 u : Nat) (h0 : y0 < b) (hub : u < y1 * b + y0) (hy : b ≤ 2 * y1) (hb : 2 < b) : u / y1 ≤ b + 1 := by
  have hy1 : 0 < y1 := by omega
  have : u / y1 < b + 2 := by
    rw [Nat.div_lt_iff_lt_mul hy1, Nat.add_mul, Nat.mul_comm b]
    omega
  omega
theorem knuth_both (b Y u d e : Nat) (hb : 0 < b) (hY : 0 < Y) (hu : u < Y) (he : e < b) :
    ((u * b + d) * b + e) / Y = ((u * b + d) / Y) * b + ((u * b + d) % Y * b + e) / Y ∧ ((u * b + d) * b + e) % Y = ((u * b + d) % Y * b + e) % Y := by
  have h := Nat.div_add_mod (u * b + d) Y
  have e1 : (u * b + d) * b + e = ((u * b + d) / Y * b) * Y + ((u * b + d) % Y * b + e) := by
    generalize (u * b + d) / Y = q at *
    generalize (u * b + d) % Y = r at *
    rw [← h]; grind
  constructor
  · rw [e1, Nat.mul_comm _ Y, Nat.mul_add_div hY]
  · rw [e1, Nat.mul_comm _ Y, Nat.mul_add_mod]
theorem w_mulpow (y s Y : Nat) (h : Y = y * 2 ^ s) (hb : Y < 18446744073709551616) : IntKind.u64.wrap ((y : Int) * 2 ^ s) = (Y : Int) := by
  have e : (y : Int) * 2 ^ s = (Y : Int) := by rw [h, Int.natCast_mul, Int.natCast_pow]; rfl
  rw [e]; exact Mul64.wrapN Y hb
theorem w_mulpow2 (y s : Nat) : IntKind.u64.wrap ((y : Int) * 2 ^ s) = ((y * 2 ^ s % 18446744073709551616 : Nat) : Int) := by
  have e : (y : Int) * 2 ^ s = ((y * 2 ^ s : Nat) : Int) := by rw [Int.natCast_mul, Int.natCast_pow]; rfl
  rw [e]; exact Mul64.wrapM _
theorem d_pow (y s : Nat) : (y : Int) / 2 ^ s = ((y / 2 ^ s : Nat) : Int) := by
  rw [Int.natCast_ediv, Int.natCast_pow]; rfl
theorem or_low (a c s : Nat) (ha : a * 2 ^ s < 18446744073709551616) (hc : c < 2 ^ s) (hs : s ≤ 63) : bits .or .u64 ((a * 2 ^ s : Nat) : Int) (c : Int) = ((a * 2 ^ s + c : Nat) : Int) := by
  have hp : (2 : Nat) ^ s ≤ 2 ^ 63 := Nat.pow_le_pow_right (by omega) hs
  have e64 : (2 : Int) ^ 64 = 18446744073709551616 := by decide
  have es : ((2 ^ s : Nat) : Int) = (2 : Int) ^ s := by rw [Int.natCast_pow]; rfl
  have p63 : (2 : Nat) ^ 63 = 9223372036854775808 := by decide
  have h1 := bits_join .u64 64 (by decide) (fun n h0 h1 => by rw [IntKind.wrap_u64]; exact Int.emod_eq_of_lt h0 h1) s ((a * 2 ^ s : Nat) : Int) (c : Int) (by omega) (by rw [Int.natCast_mul, Int.natCast_pow]; exact Int.mul_emod_left _ _) (by rw [e64]; omega) (by omega) (by rw [← es]; omega) (by rw [e64]; omega)
  rw [h1, Int.natCast_add]
theorem split_shift (hi lo s : Nat) (hs : s ≤ 64) : (hi * 18446744073709551616 + lo) * 2 ^ s = (hi * 2 ^ s + lo / 2 ^ (64 - s)) * 18446744073709551616 + lo * 2 ^ s % 18446744073709551616 := by
  have e : (18446744073709551616 : Nat) = 2 ^ (64 - s) * 2 ^ s := by rw [← Nat.pow_add, Nat.sub_add_cancel hs]
  have h1 : lo * 2 ^ s / 18446744073709551616 = lo / 2 ^ (64 - s) := by
    rw [e]; exact Nat.mul_div_mul_right _ _ (Nat.two_pow_pos s)
  have h2 := Nat.div_add_mod (lo * 2 ^ s) 18446744073709551616
  rw [h1] at h2
  have h3 : hi * 18446744073709551616 * 2 ^ s = hi * 2 ^ s * 18446744073709551616 := by rw [Nat.mul_right_comm]
  rw [Nat.add_mul, Nat.add_mul, h3]
  omega
theorem knuth_start (b y1 y0 u d : Nat) (hd : d < b) (hy : 0 < y1) : (u * b + d) / (y1 * b + y0) ≤ u / y1 := by
  have hb : 0 < b := by omega
  have h1 : (u * b + d) / (y1 * b + y0) ≤ (u * b + d) / (y1 * b) := Nat.div_le_div_left (Nat.le_add_right _ _) (Nat.mul_pos hy hb)
  have h2 : (u * b + d) / (y1 * b) = u / y1 := by
    rw [Nat.mul_comm y1 b, ← Nat.div_div_eq_div_mul, Nat.mul_comm u b, Nat.mul_add_div hb, Nat.div_eq_of_lt hd, Nat.add_zero]
  omega
end Go.Proofs.YtfbgmhjjdgglnaaDoor
