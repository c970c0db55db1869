/- Contracts and lemmas for the proofs of this seat: TextF. No condition beyond those stated. -/
import Derived.Test.YtfbgmhjjdgglnaaDoorRows
import Derived.WalkKit
import Derived.ProofKit
import Derived.OpenShut
import Derived.Handy
import Derived.Lib.Hide
import Derived.Lib.SmallJoins
import Derived.Lib.ValidLaws
import Derived.Lib.ValidAsc
import Derived.Test.YtfbgmhjjdgglnaaDoorBase
namespace Go.Proofs.YtfbgmhjjdgglnaaDoor
open Go.ChangeShapes Go.WideShapes Go.ChangeAt Go.RowKit Go.Joins
set_option linter.unusedVariables false
set_option maxRecDepth 100000
/-- The character at the head of a text of n bytes that begins b0 b1 b2 b3, and its width; width 0: none. -/
def grW (n b0 b1 b2 b3 : Nat) : Nat × Nat :=
  if b0 < 128 then (b0, 1)
  else if 192 ≤ b0 ∧ b0 ≤ 223 then (if 2 ≤ n ∧ (128 ≤ b1 ∧ b1 ≤ 191) ∧ 128 ≤ (b0 - 192) * 64 + (b1 - 128) then ((b0 - 192) * 64 + (b1 - 128), 2) else (0, 0))
  else if 224 ≤ b0 ∧ b0 ≤ 239 then (if 3 ≤ n ∧ (128 ≤ b1 ∧ b1 ≤ 191) ∧ (128 ≤ b2 ∧ b2 ≤ 191) ∧ 2048 ≤ (b0 - 224) * 4096 + (b1 - 128) * 64 + (b2 - 128) ∧ ¬ (55296 ≤ (b0 - 224) * 4096 + (b1 - 128) * 64 + (b2 - 128) ∧ (b0 - 224) * 4096 + (b1 - 128) * 64 + (b2 - 128) ≤ 57343) then ((b0 - 224) * 4096 + (b1 - 128) * 64 + (b2 - 128), 3) else (0, 0))
  else if 240 ≤ b0 ∧ b0 ≤ 247 then (if 4 ≤ n ∧ (128 ≤ b1 ∧ b1 ≤ 191) ∧ (128 ≤ b2 ∧ b2 ≤ 191) ∧ (128 ≤ b3 ∧ b3 ≤ 191) ∧ 65536 ≤ (b0 - 240) * 262144 + (b1 - 128) * 4096 + (b2 - 128) * 64 + (b3 - 128) ∧ (b0 - 240) * 262144 + (b1 - 128) * 4096 + (b2 - 128) * 64 + (b3 - 128) ≤ 1114111 then ((b0 - 240) * 262144 + (b1 - 128) * 4096 + (b2 - 128) * 64 + (b3 - 128), 4) else (0, 0))
  else (0, 0)
set_option maxHeartbeats 4000000 in
theorem grW_decode (n b0 b1 b2 b3 : Nat) (hn : 1 ≤ n) (h0 : b0 < 256) (h1 : b1 < 256) (h2 : b2 < 256) (h3 : b3 < 256) :
    ((grW n b0 b1 b2 b3).2 = 0 ∧ Lib.decodeN n b0 b1 b2 b3 = (65533, 1)) ∨ ((grW n b0 b1 b2 b3).2 ≠ 0 ∧ Lib.decodeN n b0 b1 b2 b3 = grW n b0 b1 b2 b3 ∧ (grW n b0 b1 b2 b3).2 ≤ n ∧ ((grW n b0 b1 b2 b3).2 = 1 → (grW n b0 b1 b2 b3).1 < 128)) := by
  unfold grW Lib.decodeN
  by_cases c0 : b0 < 128
  · rw [if_pos c0]; right; exact ⟨by simp, by rw [if_pos c0], by simpa using hn, fun _ => c0⟩
  rw [if_neg c0, if_neg c0]
  by_cases c1 : 192 ≤ b0 ∧ b0 ≤ 223
  · rw [if_pos c1]
    by_cases d : 2 ≤ n ∧ (128 ≤ b1 ∧ b1 ≤ 191) ∧ 128 ≤ (b0 - 192) * 64 + (b1 - 128)
    · rw [if_pos d, if_pos (by omega), if_pos (by omega)]; right
      exact ⟨by simp, by apply Prod.ext <;> simp only <;> omega, by simp only; omega, by simp⟩
    · rw [if_neg d]; left
      refine ⟨rfl, ?_⟩
      by_cases e : b0 / 32 = 6 ∧ (1 < n ∧ b1 / 64 = 2)
      · rw [if_pos e, if_neg (by omega)]
      · rw [if_neg e, if_neg (by omega), if_neg (by omega)]
  rw [if_neg c1]
  by_cases c2 : 224 ≤ b0 ∧ b0 ≤ 239
  · rw [if_pos c2]
    by_cases d : 3 ≤ n ∧ (128 ≤ b1 ∧ b1 ≤ 191) ∧ (128 ≤ b2 ∧ b2 ≤ 191) ∧ 2048 ≤ (b0 - 224) * 4096 + (b1 - 128) * 64 + (b2 - 128) ∧ ¬ (55296 ≤ (b0 - 224) * 4096 + (b1 - 128) * 64 + (b2 - 128) ∧ (b0 - 224) * 4096 + (b1 - 128) * 64 + (b2 - 128) ≤ 57343)
    · rw [if_pos d, if_neg (by omega), if_pos (by omega), if_pos (by omega)]; right
      exact ⟨by simp, by apply Prod.ext <;> simp only <;> omega, by simp only; omega, by simp⟩
    · rw [if_neg d]; left
      refine ⟨rfl, ?_⟩
      rw [if_neg (by omega)]
      by_cases e : b0 / 16 = 14 ∧ (1 < n ∧ b1 / 64 = 2) ∧ (2 < n ∧ b2 / 64 = 2)
      · rw [if_pos e, if_neg (by omega)]
      · rw [if_neg e, if_neg (by omega)]
  rw [if_neg c2]
  by_cases c3 : 240 ≤ b0 ∧ b0 ≤ 247
  · rw [if_pos c3]
    by_cases d : 4 ≤ n ∧ (128 ≤ b1 ∧ b1 ≤ 191) ∧ (128 ≤ b2 ∧ b2 ≤ 191) ∧ (128 ≤ b3 ∧ b3 ≤ 191) ∧ 65536 ≤ (b0 - 240) * 262144 + (b1 - 128) * 4096 + (b2 - 128) * 64 + (b3 - 128) ∧ (b0 - 240) * 262144 + (b1 - 128) * 4096 + (b2 - 128) * 64 + (b3 - 128) ≤ 1114111
    · rw [if_pos d, if_neg (by omega), if_neg (by omega), if_pos (by omega), if_pos (by omega)]; right
      exact ⟨by simp, by apply Prod.ext <;> simp only <;> omega, by simp only; omega, by simp⟩
    · rw [if_neg d]; left
      refine ⟨rfl, ?_⟩
      rw [if_neg (by omega), if_neg (by omega)]
      by_cases e : b0 / 8 = 30 ∧ (1 < n ∧ b1 / 64 = 2) ∧ (2 < n ∧ b2 / 64 = 2) ∧ (3 < n ∧ b3 / 64 = 2)
      · rw [if_pos e, if_neg (by omega)]
      · rw [if_neg e]
  rw [if_neg c3]; left
  exact ⟨rfl, by rw [if_neg (by omega), if_neg (by omega), if_neg (by omega)]⟩
def grL (l : List UInt8) : Nat × Nat := grW l.length (l.getD 0 0).toNat (l.getD 1 0).toNat (l.getD 2 0).toNat (l.getD 3 0).toNat
theorem grL_cases (l : List UInt8) (hne : l ≠ []) : ((grL l).2 = 0 ∧ Lib.decodeL l = (65533, 1)) ∨ ((grL l).2 ≠ 0 ∧ Lib.decodeL l = grL l ∧ (grL l).2 ≤ l.length ∧ ((grL l).2 = 1 → (grL l).1 < 128)) := by
  have hl : 0 < l.length := List.length_pos_iff.2 hne
  rw [Lib.decodeL_N]
  exact grW_decode _ _ _ _ _ hl (l.getD 0 0).toNat_lt (l.getD 1 0).toNat_lt (l.getD 2 0).toNat_lt (l.getD 3 0).toNat_lt
theorem validD_gr (l : List UInt8) (hne : l ≠ []) : Lib.validD l = if (grL l).2 = 0 then false else Lib.validD (l.drop (grL l).2) := by
  rw [Lib.validD_step l hne]
  rcases grL_cases l hne with ⟨h1, h2⟩ | ⟨h1, h2, h3, h4⟩
  · rw [h2, if_pos h1]; simp
  · rw [h2, if_neg h1, if_neg (fun h => by have := h4 h.2; omega)]
end Go.Proofs.YtfbgmhjjdgglnaaDoor
