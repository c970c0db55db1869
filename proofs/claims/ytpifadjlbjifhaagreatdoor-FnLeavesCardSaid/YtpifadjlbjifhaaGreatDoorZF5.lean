/- Texts of this proof, merged: TextF, ValF, Rune, Rune2, ValF2, ValF3. No condition beyond what each theorem states. -/
import Derived.Test.YtpifadjlbjifhaaGreatDoorRows
import Derived.WalkKit
import Derived.ProofKit
import Derived.OpenShut
import Derived.Handy
import Derived.Lib.Hide
import Derived.Lib.SmallJoins
import Derived.Lib.ValidLaws
import Derived.Lib.ValidAsc
import Derived.Test.YtpifadjlbjifhaaGreatDoorZF1
import Derived.Laws.BytesArg
import Derived.Lib.ItoaNum
import Derived.Lib.ItoaLen
import Derived.Lib.AppendIntMem
import Derived.Test.YtpifadjlbjifhaaGreatDoorZF2
import Derived.Lib.ConvBytes
import Derived.Shelf.Unicode.ValidAny
import Derived.Test.YtpifadjlbjifhaaGreatDoorShelf
import Derived.Test.YtpifadjlbjifhaaGreatDoorZF4
set_option linter.unusedSimpArgs false
set_option linter.unnecessarySimpa false
namespace Go.Proofs.YtpifadjlbjifhaaGreatDoor
open Go.ChangeShapes Go.WideShapes Go.ChangeAt Go.RowKit Go.Joins
set_option linter.unusedVariables false
set_option maxRecDepth 100000
/-- The character at the head of a text of n bytes that begins b0 b1 b2 b3, and its width; width 0: none. -/
def grW (n b0 b1 b2 b3 : Nat) : Nat × Nat :=
  if b0 < 128 then (b0, 1)
  else if 192 ≤ b0 ∧ b0 ≤ 223 then (if 2 ≤ n ∧ (128 ≤ b1 ∧ b1 ≤ 191) ∧ 128 ≤ (b0 - 192) * 64 + (b1 - 128) then ((b0 - 192) * 64 + (b1 - 128), 2) else (0, 0))
  else if 224 ≤ b0 ∧ b0 ≤ 239 then (if 3 ≤ n ∧ (128 ≤ b1 ∧ b1 ≤ 191) ∧ (128 ≤ b2 ∧ b2 ≤ 191) ∧ 2048 ≤ (b0 - 224) * 4096 + (b1 - 128) * 64 + (b2 - 128) ∧ ¬ (55296 ≤ (b0 - 224) * 4096 + (b1 - 128) * 64 + (b2 - 128) ∧ (b0 - 224) * 4096 + (b1 - 128) * 64 + (b2 - 128) ≤ 57343) then ((b0 - 224) * 4096 + (b1 - 128) * 64 + (b2 - 128), 3) else (0, 0))
  else if 240 ≤ b0 ∧ b0 ≤ 247 then (if 4 ≤ n ∧ (128 ≤ b1 ∧ b1 ≤ 191) ∧ (128 ≤ b2 ∧ b2 ≤ 191) ∧ (128 ≤ b3 ∧ b3 ≤ 191) ∧ 65536 ≤ (b0 - 240) * 262144 + (b1 - 128) * 4096 + (b2 - 128) * 64 + (b3 - 128) ∧ (b0 - 240) * 262144 + (b1 - 128) * 4096 + (b2 - 128) * 64 + (b3 - 128) ≤ 1114111 then ((b0 - 240) * 262144 + (b1 - 128) * 4096 + (b2 - 128) * 64 + (b3 - 128), 4) else (0, 0))
  else (0, 0)
set_option maxHeartbeats 4000000 in
theorem grW_decode (n b0 b1 b2 b3 : Nat) (hn : 1 ≤ n) (h0 : b0 < 256) (h1 : b1 < 256) (h2 : b2 < 256) (h3 : b3 < 256) :
    ((grW n b0 b1 b2 b3).2 = 0 ∧ Lib.decodeN n b0 b1 b2 b3 = (65533, 1)) ∨ ((grW n b0 b1 b2 b3).2 ≠ 0 ∧ Lib.decodeN n b0 b1 b2 b3 = grW n b0 b1 b2 b3 ∧ (grW n b0 b1 b2 b3).2 ≤ n ∧ ((grW n b0 b1 b2 b3).2 = 1 → (grW n b0 b1 b2 b3).1 < 128)) := by
  unfold grW Lib.decodeN
  by_cases c0 : b0 < 128
  · rw [if_pos c0]; right; exact ⟨by simp, by rw [if_pos c0], by simpa using hn, fun _ => c0⟩
  rw [if_neg c0, if_neg c0]
  by_cases c1 : 192 ≤ b0 ∧ b0 ≤ 223
  · rw [if_pos c1]
    by_cases d : 2 ≤ n ∧ (128 ≤ b1 ∧ b1 ≤ 191) ∧ 128 ≤ (b0 - 192) * 64 + (b1 - 128)
    · rw [if_pos d, if_pos (by omega), if_pos (by omega)]; right
      exact ⟨by simp, by apply Prod.ext <;> simp only <;> omega, by simp only; omega, by simp⟩
    · rw [if_neg d]; left
      refine ⟨rfl, ?_⟩
      by_cases e : b0 / 32 = 6 ∧ (1 < n ∧ b1 / 64 = 2)
      · rw [if_pos e, if_neg (by omega)]
      · rw [if_neg e, if_neg (by omega), if_neg (by omega)]
  rw [if_neg c1]
  by_cases c2 : 224 ≤ b0 ∧ b0 ≤ 239
  · rw [if_pos c2]
    by_cases d : 3 ≤ n ∧ (128 ≤ b1 ∧ b1 ≤ 191) ∧ (128 ≤ b2 ∧ b2 ≤ 191) ∧ 2048 ≤ (b0 - 224) * 4096 + (b1 - 128) * 64 + (b2 - 128) ∧ ¬ (55296 ≤ (b0 - 224) * 4096 + (b1 - 128) * 64 + (b2 - 128) ∧ (b0 - 224) * 4096 + (b1 - 128) * 64 + (b2 - 128) ≤ 57343)
    · rw [if_pos d, if_neg (by omega), if_pos (by omega), if_pos (by omega)]; right
      exact ⟨by simp, by apply Prod.ext <;> simp only <;> omega, by simp only; omega, by simp⟩
    · rw [if_neg d]; left
      refine ⟨rfl, ?_⟩
      rw [if_neg (by omega)]
      by_cases e : b0 / 16 = 14 ∧ (1 < n ∧ b1 / 64 = 2) ∧ (2 < n ∧ b2 / 64 = 2)
      · rw [if_pos e, if_neg (by omega)]
      · rw [if_neg e, if_neg (by omega)]
  rw [if_neg c2]
  by_cases c3 : 240 ≤ b0 ∧ b0 ≤ 247
  · rw [if_pos c3]
    by_cases d : 4 ≤ n ∧ (128 ≤ b1 ∧ b1 ≤ 191) ∧ (128 ≤ b2 ∧ b2 ≤ 191) ∧ (128 ≤ b3 ∧ b3 ≤ 191) ∧ 65536 ≤ (b0 - 240) * 262144 + (b1 - 128) * 4096 + (b2 - 128) * 64 + (b3 - 128) ∧ (b0 - 240) * 262144 + (b1 - 128) * 4096 + (b2 - 128) * 64 + (b3 - 128) ≤ 1114111
    · rw [if_pos d, if_neg (by omega), if_neg (by omega), if_pos (by omega), if_pos (by omega)]; right
      exact ⟨by simp, by apply Prod.ext <;> simp only <;> omega, by simp only; omega, by simp⟩
    · rw [if_neg d]; left
      refine ⟨rfl, ?_⟩
      rw [if_neg (by omega), if_neg (by omega)]
      by_cases e : b0 / 8 = 30 ∧ (1 < n ∧ b1 / 64 = 2) ∧ (2 < n ∧ b2 / 64 = 2) ∧ (3 < n ∧ b3 / 64 = 2)
      · rw [if_pos e, if_neg (by omega)]
      · rw [if_neg e]
  rw [if_neg c3]; left
  exact ⟨rfl, by rw [if_neg (by omega), if_neg (by omega), if_neg (by omega)]⟩
def grL (l : List UInt8) : Nat × Nat := grW l.length (l.getD 0 0).toNat (l.getD 1 0).toNat (l.getD 2 0).toNat (l.getD 3 0).toNat
theorem grL_cases (l : List UInt8) (hne : l ≠ []) : ((grL l).2 = 0 ∧ Lib.decodeL l = (65533, 1)) ∨ ((grL l).2 ≠ 0 ∧ Lib.decodeL l = grL l ∧ (grL l).2 ≤ l.length ∧ ((grL l).2 = 1 → (grL l).1 < 128)) := by
  have hl : 0 < l.length := List.length_pos_iff.2 hne
  rw [Lib.decodeL_N]
  exact grW_decode _ _ _ _ _ hl (l.getD 0 0).toNat_lt (l.getD 1 0).toNat_lt (l.getD 2 0).toNat_lt (l.getD 3 0).toNat_lt
theorem validD_gr (l : List UInt8) (hne : l ≠ []) : Lib.validD l = if (grL l).2 = 0 then false else Lib.validD (l.drop (grL l).2) := by
  rw [Lib.validD_step l hne]
  rcases grL_cases l hne with ⟨h1, h2⟩ | ⟨h1, h2, h3, h4⟩
  · rw [h2, if_pos h1]; simp
  · rw [h2, if_neg h1, if_neg (fun h => by have := h4 h.2; omega)]
end Go.Proofs.YtpifadjlbjifhaaGreatDoor
namespace Go.Proofs.YtpifadjlbjifhaaGreatDoor
open Go.ChangeShapes Go.WideShapes Go.ChangeAt Go.RowKit Go.Joins
set_option linter.unusedVariables false
set_option maxRecDepth 100000
theorem spec_l1In (n lo hi : Int) (w : World) : Calls Tryz.prog 71 #[.int .i64 n, .int .i64 lo, .int .i64 hi] w fun e w' => e = .returned (.bool (decide (lo ≤ n ∧ n ≤ hi))) ∧ Below w.heap.size w w' := by
  by_cases h1 : lo ≤ n
  · by_cases h2 : n ≤ hi
    · have hd : decide (lo ≤ n ∧ n ≤ hi) = true := decide_eq_true ⟨h1, h2⟩
      rw [hd]; clear hd
      go_enter Tryz.func71, Tryz.ntmps71
      go_wp2
      go_ret
      exact ⟨rfl, by go_grown⟩
    · have hd : decide (lo ≤ n ∧ n ≤ hi) = false := decide_eq_false (fun h => h2 h.2)
      rw [hd]; clear hd
      go_enter Tryz.func71, Tryz.ntmps71
      go_wp2
      go_ret
      exact ⟨rfl, by go_grown⟩
  · have hd : decide (lo ≤ n ∧ n ≤ hi) = false := decide_eq_false (fun h => h1 h.1)
    rw [hd]; clear hd
    go_enter Tryz.func71, Tryz.ntmps71
    go_wp2
    go_ret
    exact ⟨rfl, by go_grown⟩
theorem impl_within (n lo hi : Int) (w : World) : Calls Tryz.prog 77 #[.int .i64 n, .int .i64 lo, .int .i64 hi] w fun e w' => e = .returned (.bool (decide (lo ≤ n ∧ n ≤ hi))) ∧ Below w.heap.size w w' := by
  by_cases h1 : lo ≤ n
  · by_cases h2 : n ≤ hi
    · have hd : decide (lo ≤ n ∧ n ≤ hi) = true := decide_eq_true ⟨h1, h2⟩
      rw [hd]; clear hd
      go_enter Tryz.func77, Tryz.ntmps77
      go_wp2
      go_ret
      exact ⟨rfl, by go_grown⟩
    · have hd : decide (lo ≤ n ∧ n ≤ hi) = false := decide_eq_false (fun h => h2 h.2)
      rw [hd]; clear hd
      go_enter Tryz.func77, Tryz.ntmps77
      go_wp2
      go_ret
      exact ⟨rfl, by go_grown⟩
  · have hd : decide (lo ≤ n ∧ n ≤ hi) = false := decide_eq_false (fun h => h1 h.1)
    rw [hd]; clear hd
    go_enter Tryz.func77, Tryz.ntmps77
    go_wp2
    go_ret
    exact ⟨rfl, by go_grown⟩
/-- The number of decimal digits. -/
def digN (n : Int) : Nat := Lib.nDigits n.natAbs
def digC (m : Nat) : Nat := if m = 0 then 0 else Lib.nDigits m
theorem digC_zero : digC 0 = 0 := rfl
theorem nDigits_eq (u : Nat) : Lib.nDigits u = 1 + digC (u / 10) := by
  rw [Lib.nDigits]
  by_cases h : u < 10
  · rw [dif_pos h, show u / 10 = 0 from by omega]; rfl
  · rw [dif_neg h]; unfold digC; rw [if_neg (by omega)]; omega
theorem digC_pos (m : Nat) (h : m ≠ 0) : digC m = digC (m / 10) + 1 := by
  conv => lhs; unfold digC
  rw [if_neg h, nDigits_eq]; omega
theorem digN_eq (n : Int) : digN n = 1 + digC (n.natAbs / 10) := nDigits_eq _
theorem tdiv_abs (n : Int) : (n.tdiv 10).natAbs = n.natAbs / 10 := by
  rw [Int.natAbs_tdiv]; rfl
theorem digN_le (n : Int) (h : I64 n) : digN n ≤ 20 := Lib.nDigits_le20 _ (by have := h.1; have := h.2; omega)
set_option maxHeartbeats 800000 in
theorem spec_Digits (n : Int) (w : World) (hn : I64 n) : Calls Tryz.prog 165 #[.int .i64 n] w fun e w' => e = .returned (.int .i64 (digN n)) ∧ Below w.heap.size w w' := by
  obtain ⟨hn0, hn1⟩ := hn
  have HD := Lib.hid (digN_eq n)
  have h20 := digN_le n ⟨hn0, hn1⟩
  go_enter Tryz.func165, Tryz.ntmps165
  go_wp2_with fail
  go_loopw [3, 4] (fun s q wr => ∃ (m : Int) (c : Nat), q = .int .i64 m ∧ s = .int .i64 c ∧ -9223372036854775808 ≤ m ∧ m ≤ 9223372036854775807 ∧ c ≤ 20 ∧ Hid (digN n = c + digC m.natAbs) ∧ Below w.heap.size w wr) (fun _ q _ => (intOf q).natAbs)
  case atStart => exact ⟨n.tdiv 10, 1, by go_num, rfl, by have := tdiv_abs n; omega, by have := tdiv_abs n; omega, by omega, by show _ = _; rw [tdiv_abs]; exact HD.out, Below.refl _ _⟩
  case round =>
    obtain ⟨m, c, rfl, rfl, hm0, hm1, hc, HC, hb⟩ := hrel
    by_cases hz : m = 0
    · subst hz
      have HE := Lib.hid (show digN n = c from by have := HC.out; rw [show (0 : Int).natAbs = 0 from rfl, digC_zero] at this; omega)
      go_wp2_with fail
      go_ret
      exact ⟨by rw [HE.out]; rfl, hb⟩
    · have hc2 : c + 1 ≤ 20 := by have := HC.out; rw [digC_pos _ (by omega)] at this; omega
      have HC2 := Lib.hid (show digN n = (c + 1) + digC (m.tdiv 10).natAbs from by have := HC.out; rw [digC_pos _ (by omega)] at this; rw [tdiv_abs]; omega)
      have hlt : (m.tdiv 10).natAbs < m.natAbs := by rw [tdiv_abs]; omega
      have ht0 : -9223372036854775808 ≤ m.tdiv 10 := by have := tdiv_abs m; omega
      have ht1 : m.tdiv 10 ≤ 9223372036854775807 := by have := tdiv_abs m; omega
      go_wp2_with fail
      go_roundw
      case rel => exact ⟨m.tdiv 10, c + 1, by go_num, by go_num, ht0, ht1, hc2, HC2.out, hb⟩
      case measure => exact hlt
end Go.Proofs.YtpifadjlbjifhaaGreatDoor
namespace Go.Proofs.YtpifadjlbjifhaaGreatDoor
open Go.ChangeShapes Go.WideShapes Go.ChangeAt Go.RowKit Go.Joins
set_option linter.unusedVariables false
set_option maxRecDepth 100000
def runeOk (n : Int) : Prop := (0 ≤ n ∧ n ≤ 1114111) ∧ ¬ (55296 ≤ n ∧ n ≤ 57343)
instance (n : Int) : Decidable (runeOk n) := by unfold runeOk; exact inferInstance
def wideN (n : Int) : Nat := if ¬ runeOk n then 0 else if n < 128 then 1 else if n < 2048 then 2 else if n < 65536 then 3 else 4
theorem spec_RuneOk (n : Int) (w : World) : Calls Tryz.prog 209 #[.int .i64 n] w fun e w' => e = .returned (.bool (decide (runeOk n))) ∧ Below w.heap.size w w' := by
  by_cases h1 : 0 ≤ n ∧ n ≤ 1114111
  · by_cases h2 : 55296 ≤ n ∧ n ≤ 57343
    · have HD := Lib.hid (show decide (runeOk n) = false from decide_eq_false (fun h => h.2 h2))
      have HA := Lib.hid (show decide (0 ≤ n ∧ n ≤ 1114111) = true from decide_eq_true h1)
      have HB := Lib.hid (show decide (55296 ≤ n ∧ n ≤ 57343) = true from decide_eq_true h2)
      rw [HD.out]
      have hacc := Below.refl w.heap.size w
      go_enter Tryz.func209, Tryz.ntmps209
      go_wp2_with (go_at_call 71; refine (spec_l1In _ _ _ _).mono ?_; rintro e v ⟨rfl, hb⟩; replace hacc := below_step hacc hb hacc.size; first | rw [HA.out] | rw [HB.out])
      go_ret
      exact ⟨rfl, hacc⟩
    · have HD := Lib.hid (show decide (runeOk n) = true from decide_eq_true ⟨h1, h2⟩)
      have HA := Lib.hid (show decide (0 ≤ n ∧ n ≤ 1114111) = true from decide_eq_true h1)
      have HB := Lib.hid (show decide (55296 ≤ n ∧ n ≤ 57343) = false from decide_eq_false h2)
      rw [HD.out]
      have hacc := Below.refl w.heap.size w
      go_enter Tryz.func209, Tryz.ntmps209
      go_wp2_with (go_at_call 71; refine (spec_l1In _ _ _ _).mono ?_; rintro e v ⟨rfl, hb⟩; replace hacc := below_step hacc hb hacc.size; first | rw [HA.out] | rw [HB.out])
      go_ret
      exact ⟨rfl, hacc⟩
  · have HD := Lib.hid (show decide (runeOk n) = false from decide_eq_false (fun h => h1 h.1))
    have HA := Lib.hid (show decide (0 ≤ n ∧ n ≤ 1114111) = false from decide_eq_false h1)
    rw [HD.out]
    have hacc := Below.refl w.heap.size w
    go_enter Tryz.func209, Tryz.ntmps209
    go_wp2_with (go_at_call 71; refine (spec_l1In _ _ _ _).mono ?_; rintro e v ⟨rfl, hb⟩; replace hacc := below_step hacc hb hacc.size; first | rw [HA.out])
    go_ret
    exact ⟨rfl, hacc⟩
theorem spec_WideOf (n : Int) (w : World) : Calls Tryz.prog 202 #[.int .i64 n] w fun e w' => e = .returned (.int .i64 (wideN n)) ∧ Below w.heap.size w w' := by
  by_cases h0 : runeOk n
  · have HD := Lib.hid (show decide (runeOk n) = true from decide_eq_true h0)
    have hr := h0.1
    by_cases h1 : n < 128
    · have HE := Lib.hid (show wideN n = 1 from by unfold wideN; rw [if_neg (by simp [h0]), if_pos h1])
      rw [HE.out]; clear h0
      go_enter Tryz.func202, Tryz.ntmps202
      go_wp2_with (go_at_call 209; refine (spec_RuneOk _ _).mono ?_; rintro e v ⟨rfl, hb⟩; rw [HD.out])
      go_ret
      exact ⟨rfl, by go_grown⟩
    by_cases h2 : n < 2048
    · have HE := Lib.hid (show wideN n = 2 from by unfold wideN; rw [if_neg (by simp [h0]), if_neg h1, if_pos h2])
      rw [HE.out]; clear h0
      go_enter Tryz.func202, Tryz.ntmps202
      go_wp2_with (go_at_call 209; refine (spec_RuneOk _ _).mono ?_; rintro e v ⟨rfl, hb⟩; rw [HD.out])
      go_ret
      exact ⟨rfl, by go_grown⟩
    by_cases h3 : n < 65536
    · have HE := Lib.hid (show wideN n = 3 from by unfold wideN; rw [if_neg (by simp [h0]), if_neg h1, if_neg h2, if_pos h3])
      rw [HE.out]; clear h0
      go_enter Tryz.func202, Tryz.ntmps202
      go_wp2_with (go_at_call 209; refine (spec_RuneOk _ _).mono ?_; rintro e v ⟨rfl, hb⟩; rw [HD.out])
      go_ret
      exact ⟨rfl, by go_grown⟩
    · have HE := Lib.hid (show wideN n = 4 from by unfold wideN; rw [if_neg (by simp [h0]), if_neg h1, if_neg h2, if_neg h3])
      rw [HE.out]; clear h0
      go_enter Tryz.func202, Tryz.ntmps202
      go_wp2_with (go_at_call 209; refine (spec_RuneOk _ _).mono ?_; rintro e v ⟨rfl, hb⟩; rw [HD.out])
      go_ret
      exact ⟨rfl, by go_grown⟩
  · have HD := Lib.hid (show decide (runeOk n) = false from decide_eq_false h0)
    have HE := Lib.hid (show wideN n = 0 from by unfold wideN; rw [if_pos h0])
    rw [HE.out]; clear h0
    go_enter Tryz.func202, Tryz.ntmps202
    go_wp2_with (go_at_call 209; refine (spec_RuneOk _ _).mono ?_; rintro e v ⟨rfl, hb⟩; rw [HD.out])
    go_ret
    exact ⟨rfl, by go_grown⟩
theorem grW_one (n x0 y1 y2 y3 : Nat) (h : x0 < 128) : grW n x0 y1 y2 y3 = (x0, 1) := if_pos h
theorem grW_bad (n x0 y1 y2 y3 : Nat) (h : ¬ x0 < 128) (h1 : ¬ (192 ≤ x0 ∧ x0 ≤ 223)) (h2 : ¬ (224 ≤ x0 ∧ x0 ≤ 239)) (h3 : ¬ (240 ≤ x0 ∧ x0 ≤ 247)) : grW n x0 y1 y2 y3 = (0, 0) := by
  unfold grW; rw [if_neg h, if_neg h1, if_neg h2, if_neg h3]
/-- What the contract of GetRune says of the pair. -/
abbrev grV (at' : Nat) (p : Nat × Nat) : Value := .tuple #[.int .i64 p.1, .int .i64 (if p.2 = 0 then 0 else at' + p.2 : Nat), .bool (decide (p.2 ≠ 0))]
theorem grV_eq {p q : Nat × Nat} {i : Nat} {a b : Int} {c : Bool} (h : p = q) (ha : a = q.1) (hb : b = (if q.2 = 0 then 0 else i + q.2 : Nat)) (hc : c = decide (q.2 ≠ 0)) : Ending.returned (.tuple #[.int .i64 a, .int .i64 b, .bool c]) = .returned (grV i p) := by
  subst h ha hb hc; rfl
theorem grW_2 (n x0 y1 y2 y3 : Nat) (h0 : ¬ x0 < 128) (h : 192 ≤ x0 ∧ x0 ≤ 223) : grW n x0 y1 y2 y3 = if 2 ≤ n ∧ (128 ≤ y1 ∧ y1 ≤ 191) ∧ wideN (64 * ((x0 : Int) - 192) + (y1 : Int) - 128) = 2 then ((64 * ((x0 : Int) - 192) + (y1 : Int) - 128).toNat, 2) else (0, 0) := by
  unfold grW
  rw [if_neg h0]
  rw [if_pos h]
  have e : ∀ (P Q : Prop) [Decidable P] [Decidable Q] (a b : Nat), (P ↔ Q) → (Q → a = b) → (if P then (a, 2) else (0, 0)) = (if Q then (b, 2) else (0, 0)) := by
    intro P Q _ _ a b h1 h2
    by_cases hq : Q
    · rw [if_pos (h1.2 hq), if_pos hq, h2 hq]
    · rw [if_neg (fun hp => hq (h1.1 hp)), if_neg hq]
  refine e _ _ _ _ ?_ ?_
  · constructor
    · rintro h
      refine ⟨by omega, by omega, ?_⟩
      unfold wideN runeOk
      rw [if_neg (by omega), if_neg (by omega), if_pos (by omega)]
    · rintro ⟨h1, hc1, hw⟩
      unfold wideN runeOk at hw
      by_cases c0 : ¬ ((0 ≤ (64 * ((x0 : Int) - 192) + (y1 : Int) - 128) ∧ (64 * ((x0 : Int) - 192) + (y1 : Int) - 128) ≤ 1114111) ∧ ¬ (55296 ≤ (64 * ((x0 : Int) - 192) + (y1 : Int) - 128) ∧ (64 * ((x0 : Int) - 192) + (y1 : Int) - 128) ≤ 57343))
      · rw [if_pos c0] at hw; omega
      · rw [if_neg c0] at hw
        by_cases c1 : (64 * ((x0 : Int) - 192) + (y1 : Int) - 128) < 128
        · rw [if_pos c1] at hw; omega
        · rw [if_neg c1] at hw
          by_cases c2 : (64 * ((x0 : Int) - 192) + (y1 : Int) - 128) < 2048
          · rw [if_pos c2] at hw; omega
          · rw [if_neg c2] at hw
            by_cases c3 : (64 * ((x0 : Int) - 192) + (y1 : Int) - 128) < 65536
            · rw [if_pos c3] at hw; omega
            · rw [if_neg c3] at hw; omega
  · rintro h; omega
theorem grW_3 (n x0 y1 y2 y3 : Nat) (h0 : ¬ x0 < 128) (h : 224 ≤ x0 ∧ x0 ≤ 239) : grW n x0 y1 y2 y3 = if 3 ≤ n ∧ (128 ≤ y1 ∧ y1 ≤ 191) ∧ (128 ≤ y2 ∧ y2 ≤ 191) ∧ wideN (64 * (64 * ((x0 : Int) - 224) + (y1 : Int) - 128) + (y2 : Int) - 128) = 3 then ((64 * (64 * ((x0 : Int) - 224) + (y1 : Int) - 128) + (y2 : Int) - 128).toNat, 3) else (0, 0) := by
  unfold grW
  rw [if_neg h0]
  rw [if_neg (by omega)]
  rw [if_pos h]
  have e : ∀ (P Q : Prop) [Decidable P] [Decidable Q] (a b : Nat), (P ↔ Q) → (Q → a = b) → (if P then (a, 3) else (0, 0)) = (if Q then (b, 3) else (0, 0)) := by
    intro P Q _ _ a b h1 h2
    by_cases hq : Q
    · rw [if_pos (h1.2 hq), if_pos hq, h2 hq]
    · rw [if_neg (fun hp => hq (h1.1 hp)), if_neg hq]
  refine e _ _ _ _ ?_ ?_
  · constructor
    · rintro h
      refine ⟨by omega, by omega, by omega, ?_⟩
      unfold wideN runeOk
      rw [if_neg (by omega), if_neg (by omega), if_neg (by omega), if_pos (by omega)]
    · rintro ⟨h1, hc1, hc2, hw⟩
      unfold wideN runeOk at hw
      by_cases c0 : ¬ ((0 ≤ (64 * (64 * ((x0 : Int) - 224) + (y1 : Int) - 128) + (y2 : Int) - 128) ∧ (64 * (64 * ((x0 : Int) - 224) + (y1 : Int) - 128) + (y2 : Int) - 128) ≤ 1114111) ∧ ¬ (55296 ≤ (64 * (64 * ((x0 : Int) - 224) + (y1 : Int) - 128) + (y2 : Int) - 128) ∧ (64 * (64 * ((x0 : Int) - 224) + (y1 : Int) - 128) + (y2 : Int) - 128) ≤ 57343))
      · rw [if_pos c0] at hw; omega
      · rw [if_neg c0] at hw
        by_cases c1 : (64 * (64 * ((x0 : Int) - 224) + (y1 : Int) - 128) + (y2 : Int) - 128) < 128
        · rw [if_pos c1] at hw; omega
        · rw [if_neg c1] at hw
          by_cases c2 : (64 * (64 * ((x0 : Int) - 224) + (y1 : Int) - 128) + (y2 : Int) - 128) < 2048
          · rw [if_pos c2] at hw; omega
          · rw [if_neg c2] at hw
            by_cases c3 : (64 * (64 * ((x0 : Int) - 224) + (y1 : Int) - 128) + (y2 : Int) - 128) < 65536
            · rw [if_pos c3] at hw; omega
            · rw [if_neg c3] at hw; omega
  · rintro h; omega
theorem grW_4 (n x0 y1 y2 y3 : Nat) (h0 : ¬ x0 < 128) (h : 240 ≤ x0 ∧ x0 ≤ 247) : grW n x0 y1 y2 y3 = if 4 ≤ n ∧ (128 ≤ y1 ∧ y1 ≤ 191) ∧ (128 ≤ y2 ∧ y2 ≤ 191) ∧ (128 ≤ y3 ∧ y3 ≤ 191) ∧ wideN (64 * (64 * (64 * ((x0 : Int) - 240) + (y1 : Int) - 128) + (y2 : Int) - 128) + (y3 : Int) - 128) = 4 then ((64 * (64 * (64 * ((x0 : Int) - 240) + (y1 : Int) - 128) + (y2 : Int) - 128) + (y3 : Int) - 128).toNat, 4) else (0, 0) := by
  unfold grW
  rw [if_neg h0]
  rw [if_neg (by omega)]
  rw [if_neg (by omega)]
  rw [if_pos h]
  have e : ∀ (P Q : Prop) [Decidable P] [Decidable Q] (a b : Nat), (P ↔ Q) → (Q → a = b) → (if P then (a, 4) else (0, 0)) = (if Q then (b, 4) else (0, 0)) := by
    intro P Q _ _ a b h1 h2
    by_cases hq : Q
    · rw [if_pos (h1.2 hq), if_pos hq, h2 hq]
    · rw [if_neg (fun hp => hq (h1.1 hp)), if_neg hq]
  refine e _ _ _ _ ?_ ?_
  · constructor
    · rintro h
      refine ⟨by omega, by omega, by omega, by omega, ?_⟩
      unfold wideN runeOk
      rw [if_neg (by omega), if_neg (by omega), if_neg (by omega), if_neg (by omega)]
    · rintro ⟨h1, hc1, hc2, hc3, hw⟩
      unfold wideN runeOk at hw
      by_cases c0 : ¬ ((0 ≤ (64 * (64 * (64 * ((x0 : Int) - 240) + (y1 : Int) - 128) + (y2 : Int) - 128) + (y3 : Int) - 128) ∧ (64 * (64 * (64 * ((x0 : Int) - 240) + (y1 : Int) - 128) + (y2 : Int) - 128) + (y3 : Int) - 128) ≤ 1114111) ∧ ¬ (55296 ≤ (64 * (64 * (64 * ((x0 : Int) - 240) + (y1 : Int) - 128) + (y2 : Int) - 128) + (y3 : Int) - 128) ∧ (64 * (64 * (64 * ((x0 : Int) - 240) + (y1 : Int) - 128) + (y2 : Int) - 128) + (y3 : Int) - 128) ≤ 57343))
      · rw [if_pos c0] at hw; omega
      · rw [if_neg c0] at hw
        by_cases c1 : (64 * (64 * (64 * ((x0 : Int) - 240) + (y1 : Int) - 128) + (y2 : Int) - 128) + (y3 : Int) - 128) < 128
        · rw [if_pos c1] at hw; omega
        · rw [if_neg c1] at hw
          by_cases c2 : (64 * (64 * (64 * ((x0 : Int) - 240) + (y1 : Int) - 128) + (y2 : Int) - 128) + (y3 : Int) - 128) < 2048
          · rw [if_pos c2] at hw; omega
          · rw [if_neg c2] at hw
            by_cases c3 : (64 * (64 * (64 * ((x0 : Int) - 240) + (y1 : Int) - 128) + (y2 : Int) - 128) + (y3 : Int) - 128) < 65536
            · rw [if_pos c3] at hw; omega
            · rw [if_neg c3] at hw; omega
  · rintro h; omega
end Go.Proofs.YtpifadjlbjifhaaGreatDoor
namespace Go.Proofs.YtpifadjlbjifhaaGreatDoor
open Go.ChangeShapes Go.WideShapes Go.ChangeAt Go.RowKit Go.Joins
set_option linter.unusedVariables false
set_option maxRecDepth 100000
theorem bytesWorld_below (w : World) (e : TypeId) (s : ByteArray) : Below w.heap.size w (Lib.bytesWorld w e s) := ⟨rfl, rfl, rfl, by rw [Lib.bytesWorld_size]; omega, fun j hj => Lib.bytesWorld_at_old w e s j hj⟩
theorem grL_at (l : List UInt8) (i : Nat) : grL (l.drop i) = grW (l.length - i) (l.getD i 0).toNat (l.getD (i + 1) 0).toNat (l.getD (i + 2) 0).toNat (l.getD (i + 3) 0).toNat := by
  unfold grL
  simp [List.getD_eq_getElem?_getD, List.getElem?_drop, List.length_drop]
/-- The two tables of utf8 stand, whatever is laid behind B. -/
def UtfBelow (B : Nat) (w : World) : Prop := ∀ w', Below B w w' → Lib.Utf8Tabs (Tryz.laysValid_ren.g 3) (Tryz.laysValid_ren.g 4) w'
theorem UtfBelow.step {B : Nat} {w w' : World} (h : UtfBelow B w) (hb : Below B w w') : UtfBelow B w' := fun v hv => h v (hb.trans hv)
theorem impl_TextOk (s : ByteArray) (w : World) (hs : s.size ≤ 4611686018427387903) (hT : Lib.Utf8Tabs (Tryz.laysValid_ren.g 3) (Tryz.laysValid_ren.g 4) w) :
    Calls Tryz.prog 130 #[.string s] w fun e w' => e = .returned (.bool (Lib.validD s.data.toList)) ∧ Below w.heap.size w w' := by
  have cV : Calls Tryz.prog 167 #[.string s] w _ := Any.utf8_ValidString Tryz.laysValid s w (by omega) hT
  generalize Lib.validD s.data.toList = V at cV ⊢
  go_enter Tryz.func130, Tryz.ntmps130
  go_wp2_with (go_at_call 167; refine cV.mono ?_; rintro e w' ⟨rfl, hb⟩)
  go_ret
  exact ⟨rfl, hb⟩
end Go.Proofs.YtpifadjlbjifhaaGreatDoor
namespace Go.Proofs.YtpifadjlbjifhaaGreatDoor
open Go.ChangeShapes Go.WideShapes Go.ChangeAt Go.RowKit Go.Joins
set_option linter.unusedVariables false
set_option maxRecDepth 100000
theorem dec_head (u : Nat) : ∃ d r, d < 10 ∧ Lib.decDigits u = UInt8.ofNat (48 + d) :: r := by
  induction u using Nat.strongRecOn with
  | ind u ih =>
    by_cases h : u < 10
    · exact ⟨u, [], h, Lib.decDigits_one h⟩
    · obtain ⟨d, r, hd, he⟩ := ih (u / 10) (by omega)
      rw [Lib.decDigits, dif_neg h, he]
      exact ⟨d, _, hd, rfl⟩
theorem dec_noneg (u : Nat) : Lib.hasPrefix (Lib.decDigits u) [45] = false := by
  obtain ⟨d, r, hd, he⟩ := dec_head u
  rw [he]
  have : (45 == UInt8.ofNat (48 + d)) = false := by
    obtain rfl | rfl | rfl | rfl | rfl | rfl | rfl | rfl | rfl | rfl : d = 0 ∨ d = 1 ∨ d = 2 ∨ d = 3 ∨ d = 4 ∨ d = 5 ∨ d = 6 ∨ d = 7 ∨ d = 8 ∨ d = 9 := by omega
    all_goals rfl
  show ((45 == UInt8.ofNat (48 + d)) && _) = false
  rw [this]; rfl
theorem digits_trim (n : Int) : (Lib.trimPrefix (numT n).data.toList (⟨#[45]⟩ : ByteArray).data.toList).length = digN n := by
  unfold numT Lib.trimPrefix Lib.itoa digN
  by_cases h : n < 0
  · rw [if_pos h]
    simp [Lib.hasPrefix, Lib.decDigits_length]
  · rw [if_neg h]
    have e : n.natAbs = n.toNat := by omega
    rw [e]
    have hd : Lib.hasPrefix (⟨(Lib.decDigits n.toNat).toArray⟩ : ByteArray).data.toList (⟨#[45]⟩ : ByteArray).data.toList = false := dec_noneg _
    rw [hd]
    simp [Lib.decDigits_length]
theorem impl_Digits (n : Int) (w : World) (hn : I64 n) (htab : Lib.TabIs Tryz.prog w "internal/strconv.uint64pow10" .u64 Lib.pow10Tab) :
    Calls Tryz.prog 161 #[.int .i64 n] w fun e w' => e = .returned (.int .i64 (digN n)) ∧ Below w.heap.size w w' := by
  have HD := Lib.hid (digits_trim n)
  have HN := Lib.hid (digN_le n hn)
  go_enter Tryz.func161, Tryz.ntmps161
  go_wp2_with fail
  refine (impl_NumText n _ hn htab).mono ?_
  rintro e w2 ⟨rfl, hb2⟩
  go_wp2_with fail
  refine (Tryz.strings_TrimPrefix _ _ _).mono ?_
  rintro e w3 ⟨rfl, rfl⟩
  have hz : (⟨(Lib.trimPrefix (numT n).data.toList (⟨#[45]⟩ : ByteArray).data.toList).toArray⟩ : ByteArray).size = digN n := by
    rw [← HD.out]; simp [ByteArray.size]
  generalize (⟨(Lib.trimPrefix (numT n).data.toList (⟨#[45]⟩ : ByteArray).data.toList).toArray⟩ : ByteArray) = q at *
  have hN := HN.out
  go_wp2_with fail
  go_ret
  exact ⟨by rw [← hz]; rfl, hb2⟩
def decOk (n x : Int) : Prop := (x = 0 ∧ -1000000000000000 ≤ n ∧ n ≤ 1000000000000000) ∨ (x ≠ 0 ∧ (-16 ≤ x ∧ x ≤ -1) ∧ digN n ≤ 17 ∧ n.tmod 10 ≠ 0)
instance (n x : Int) : Decidable (decOk n x) := by unfold decOk; exact inferInstance
def fltOk (m e : Int) : Prop := (m = 0 ∧ e = 0) ∨ (m ≠ 0 ∧ (-65535 ≤ m ∧ m ≤ 65535) ∧ m.tmod 2 ≠ 0 ∧ -16 ≤ e ∧ (e ≤ 30 ∨ (e ≤ 46 ∧ -65535 ≤ m * 2 ^ (e - 30).toNat ∧ m * 2 ^ (e - 30).toNat ≤ 65535)))
instance (m e : Int) : Decidable (fltOk m e) := by unfold fltOk; exact inferInstance
theorem fltOk_big {m e : Int} (k : Nat) (he : e = 30 + k) (hk : 1 ≤ k ∧ k ≤ 16) (h0 : m ≠ 0) (h1 : -65535 ≤ m ∧ m ≤ 65535) (h2 : m.tmod 2 ≠ 0) : decide (fltOk m e) = decide (-65535 ≤ m * 2 ^ k ∧ m * 2 ^ k ≤ 65535) := by
  have e1 : (e - 30).toNat = k := by omega
  apply decide_eq_decide.2
  unfold fltOk
  rw [e1]
  constructor
  · rintro (h | ⟨_, _, _, _, h | h⟩)
    · exact absurd h.1 h0
    · omega
    · exact h.2
  · intro h
    exact Or.inr ⟨h0, h1, h2, by omega, Or.inr ⟨by omega, h⟩⟩
abbrev cF (m e : Int) : Array Value := #[Value.int IntKind.i64 m, Value.int IntKind.i64 e]
set_option maxHeartbeats 2000000 in
theorem impl_DecOk (n x : Int) (w : World) (hn : I64 n) (hx : I64 x) (htab : Lib.TabBelow Tryz.prog w.heap.size w "internal/strconv.uint64pow10" .u64 Lib.pow10Tab) :
    Calls Tryz.prog 131 #[.agg (cF n x)] w fun e w' => e = .returned (.bool (decide (decOk n x))) ∧ Below w.heap.size w w' := by
  have HT := Lib.hid htab; clear htab
  have HN := Lib.hid hn
  obtain ⟨hn0, hn1⟩ := hn
  obtain ⟨hx0, hx1⟩ := hx
  have hl : w.heap.size < (w.alloc (.cells (cF n x) 91)).heap.size := by simp
  have H0 := Lib.hid (below1 w (.cells (cF n x) 91))
  have q0 := Is.new w (cF n x) 91
  by_cases h0 : x = 0
  · subst h0
    have HD := Lib.hid (show decide (decOk n 0) = decide (-1000000000000000 ≤ n ∧ n ≤ 1000000000000000) from decide_eq_decide.2 (by unfold decOk; simp))
    obtain ⟨bb, hbb⟩ : ∃ bb, decide (-1000000000000000 ≤ n ∧ n ≤ 1000000000000000) = bb := ⟨_, rfl⟩
    rw [hbb] at HD
    have HBB := Lib.hid hbb; clear hbb
    go_enter Tryz.func131, Tryz.ntmps131
    go_wp2_with (go_at_call 77; refine (impl_within _ _ _ _).mono ?_; rintro e v ⟨rfl, hb⟩; rw [HBB.out])
    go_ret
    exact ⟨by rw [HD.out]; rfl, below_step H0.out hb (by simp)⟩
  by_cases h1 : -16 ≤ x ∧ x ≤ -1
  · have D1 := Lib.hid (show decide ((-16 : Int) ≤ x ∧ x ≤ -1) = true from decide_eq_true h1)
    have hdl := digN_le n ⟨hn0, hn1⟩
    by_cases h2 : digN n ≤ 17
    · by_cases h3 : n.tmod 10 = 0
      · have HD := Lib.hid (show decide (decOk n x) = false from decide_eq_false (by unfold decOk; rintro (h | h); exact h0 h.1; exact h.2.2.2 h3))
        go_enter Tryz.func131, Tryz.ntmps131
        go_wp2_with (first | (go_at_call 77; refine (impl_within _ _ _ _).mono ?_; rintro e w2 ⟨rfl, hb⟩; rw [D1.out]; have HB2 := Lib.hid (below_step H0.out hb (by simp)); have q2 := q0.below hb hl; obtain ⟨r0, r1⟩ := q2.cells2; have hl2 : w.heap.size < w2.heap.size := Nat.lt_of_lt_of_le hl hb.size; have H2 := Lib.hid hb; clear hb) | (go_at_call 161; refine (impl_Digits n _ HN.out (HT.out _ HB2.out)).mono ?_; rintro e w3 ⟨rfl, hb⟩; have HB3 := Lib.hid (below_step HB2.out hb HB2.out.size); have q3 := q2.below hb hl2; obtain ⟨s0, s1⟩ := q3.cells2; have hl3 : w.heap.size < w3.heap.size := Nat.lt_of_lt_of_le hl2 hb.size; clear hb))
        go_ret
        exact ⟨by rw [HD.out]; rfl, HB3.out⟩
      · have HD := Lib.hid (show decide (decOk n x) = true from decide_eq_true (Or.inr ⟨h0, h1, h2, h3⟩))
        go_enter Tryz.func131, Tryz.ntmps131
        go_wp2_with (first | (go_at_call 77; refine (impl_within _ _ _ _).mono ?_; rintro e w2 ⟨rfl, hb⟩; rw [D1.out]; have HB2 := Lib.hid (below_step H0.out hb (by simp)); have q2 := q0.below hb hl; obtain ⟨r0, r1⟩ := q2.cells2; have hl2 : w.heap.size < w2.heap.size := Nat.lt_of_lt_of_le hl hb.size; clear hb) | (go_at_call 161; refine (impl_Digits n _ HN.out (HT.out _ HB2.out)).mono ?_; rintro e w3 ⟨rfl, hb⟩; have HB3 := Lib.hid (below_step HB2.out hb HB2.out.size); have q3 := q2.below hb hl2; obtain ⟨s0, s1⟩ := q3.cells2; have hl3 : w.heap.size < w3.heap.size := Nat.lt_of_lt_of_le hl2 hb.size; clear hb))
        go_ret
        exact ⟨ret_b (by rw [HD.out]; simp [h3]), HB3.out⟩
    · have HD := Lib.hid (show decide (decOk n x) = false from decide_eq_false (by unfold decOk; rintro (h | h); exact h0 h.1; exact h2 h.2.2.1))
      go_enter Tryz.func131, Tryz.ntmps131
      go_wp2_with (first | (go_at_call 77; refine (impl_within _ _ _ _).mono ?_; rintro e w2 ⟨rfl, hb⟩; rw [D1.out]; have HB2 := Lib.hid (below_step H0.out hb (by simp)); have q2 := q0.below hb hl; obtain ⟨r0, r1⟩ := q2.cells2; have hl2 : w.heap.size < w2.heap.size := Nat.lt_of_lt_of_le hl hb.size; clear hb) | (go_at_call 161; refine (impl_Digits n _ HN.out (HT.out _ HB2.out)).mono ?_; rintro e w3 ⟨rfl, hb⟩; have HB3 := Lib.hid (below_step HB2.out hb HB2.out.size); have q3 := q2.below hb hl2; obtain ⟨s0, s1⟩ := q3.cells2; have hl3 : w.heap.size < w3.heap.size := Nat.lt_of_lt_of_le hl2 hb.size; clear hb))
      go_ret
      exact ⟨by rw [HD.out]; rfl, HB3.out⟩
  · have D1 := Lib.hid (show decide ((-16 : Int) ≤ x ∧ x ≤ -1) = false from decide_eq_false h1)
    have HD := Lib.hid (show decide (decOk n x) = false from decide_eq_false (by unfold decOk; rintro (h | h); exact h0 h.1; exact h1 h.2.1))
    go_enter Tryz.func131, Tryz.ntmps131
    go_wp2_with (go_at_call 77; refine (impl_within _ _ _ _).mono ?_; rintro e w2 ⟨rfl, hb⟩; rw [D1.out])
    go_ret
    exact ⟨by rw [HD.out]; rfl, below_step H0.out hb (by simp)⟩
set_option maxHeartbeats 2000000 in
theorem spec_DecOk (n x : Int) (w : World) (hn : I64 n) (hx : I64 x) :
    Calls Tryz.prog 162 #[.agg (cF n x)] w fun e w' => e = .returned (.bool (decide (decOk n x))) ∧ Below w.heap.size w w' := by
  have HN := Lib.hid hn
  obtain ⟨hn0, hn1⟩ := hn
  obtain ⟨hx0, hx1⟩ := hx
  have hl : w.heap.size < (w.alloc (.cells (cF n x) 91)).heap.size := by simp
  have H0 := Lib.hid (below1 w (.cells (cF n x) 91))
  have q0 := Is.new w (cF n x) 91
  by_cases h0 : x = 0
  · subst h0
    have HD := Lib.hid (show decide (decOk n 0) = decide (-1000000000000000 ≤ n ∧ n ≤ 1000000000000000) from decide_eq_decide.2 (by unfold decOk; simp))
    obtain ⟨bb, hbb⟩ : ∃ bb, decide (-1000000000000000 ≤ n ∧ n ≤ 1000000000000000) = bb := ⟨_, rfl⟩
    rw [hbb] at HD
    have D1 := Lib.hid hbb; clear hbb
    go_enter Tryz.func162, Tryz.ntmps162
    go_wp2_with (first | (go_at_call 71; refine (spec_l1In _ _ _ _).mono ?_; rintro e w2 ⟨rfl, hb⟩; rw [D1.out]; have HB2 := Lib.hid (below_step H0.out hb (by simp)); have q2 := q0.below hb hl; obtain ⟨r0, r1⟩ := q2.cells2; have hl2 : w.heap.size < w2.heap.size := Nat.lt_of_lt_of_le hl hb.size; clear hb) | (go_at_call 165; refine (spec_Digits n _ HN.out).mono ?_; rintro e w3 ⟨rfl, hb⟩; have HB3 := Lib.hid (below_step HB2.out hb HB2.out.size); have q3 := q2.below hb hl2; obtain ⟨s0, s1⟩ := q3.cells2; have hl3 : w.heap.size < w3.heap.size := Nat.lt_of_lt_of_le hl2 hb.size; clear hb))
    go_ret
    exact ⟨ret_b (by rw [HD.out]), HB2.out⟩
  by_cases h1 : -16 ≤ x ∧ x ≤ -1
  · have D1 := Lib.hid (show decide ((-16 : Int) ≤ x ∧ x ≤ -1) = true from decide_eq_true h1)
    have hdl := digN_le n ⟨hn0, hn1⟩
    by_cases h3 : n.tmod 10 = 0
    · have HD := Lib.hid (show decide (decOk n x) = false from decide_eq_false (by unfold decOk; rintro (h | h); exact h0 h.1; exact h.2.2.2 h3))
      go_enter Tryz.func162, Tryz.ntmps162
      go_wp2_with (first | (go_at_call 71; refine (spec_l1In _ _ _ _).mono ?_; rintro e w2 ⟨rfl, hb⟩; rw [D1.out]; have HB2 := Lib.hid (below_step H0.out hb (by simp)); have q2 := q0.below hb hl; obtain ⟨r0, r1⟩ := q2.cells2; have hl2 : w.heap.size < w2.heap.size := Nat.lt_of_lt_of_le hl hb.size; clear hb) | (go_at_call 165; refine (spec_Digits n _ HN.out).mono ?_; rintro e w3 ⟨rfl, hb⟩; have HB3 := Lib.hid (below_step HB2.out hb HB2.out.size); have q3 := q2.below hb hl2; obtain ⟨s0, s1⟩ := q3.cells2; have hl3 : w.heap.size < w3.heap.size := Nat.lt_of_lt_of_le hl2 hb.size; clear hb))
      go_ret
      exact ⟨ret_b (by rw [HD.out]), HB2.out⟩
    · by_cases h2 : digN n ≤ 17
      · have HD := Lib.hid (show decide (decOk n x) = true from decide_eq_true (Or.inr ⟨h0, h1, h2, h3⟩))
        go_enter Tryz.func162, Tryz.ntmps162
        go_wp2_with (first | (go_at_call 71; refine (spec_l1In _ _ _ _).mono ?_; rintro e w2 ⟨rfl, hb⟩; rw [D1.out]; have HB2 := Lib.hid (below_step H0.out hb (by simp)); have q2 := q0.below hb hl; obtain ⟨r0, r1⟩ := q2.cells2; have hl2 : w.heap.size < w2.heap.size := Nat.lt_of_lt_of_le hl hb.size; clear hb) | (go_at_call 165; refine (spec_Digits n _ HN.out).mono ?_; rintro e w3 ⟨rfl, hb⟩; have HB3 := Lib.hid (below_step HB2.out hb HB2.out.size); have q3 := q2.below hb hl2; obtain ⟨s0, s1⟩ := q3.cells2; have hl3 : w.heap.size < w3.heap.size := Nat.lt_of_lt_of_le hl2 hb.size; clear hb))
        go_ret
        exact ⟨ret_b (by rw [HD.out]; first | rfl | simp; omega), HB3.out⟩
      · have HD := Lib.hid (show decide (decOk n x) = false from decide_eq_false (by unfold decOk; rintro (h | h); exact h0 h.1; exact h2 h.2.2.1))
        go_enter Tryz.func162, Tryz.ntmps162
        go_wp2_with (first | (go_at_call 71; refine (spec_l1In _ _ _ _).mono ?_; rintro e w2 ⟨rfl, hb⟩; rw [D1.out]; have HB2 := Lib.hid (below_step H0.out hb (by simp)); have q2 := q0.below hb hl; obtain ⟨r0, r1⟩ := q2.cells2; have hl2 : w.heap.size < w2.heap.size := Nat.lt_of_lt_of_le hl hb.size; clear hb) | (go_at_call 165; refine (spec_Digits n _ HN.out).mono ?_; rintro e w3 ⟨rfl, hb⟩; have HB3 := Lib.hid (below_step HB2.out hb HB2.out.size); have q3 := q2.below hb hl2; obtain ⟨s0, s1⟩ := q3.cells2; have hl3 : w.heap.size < w3.heap.size := Nat.lt_of_lt_of_le hl2 hb.size; clear hb))
        go_ret
        exact ⟨ret_b (by rw [HD.out]; first | rfl | simp; omega), HB3.out⟩
  · have D1 := Lib.hid (show decide ((-16 : Int) ≤ x ∧ x ≤ -1) = false from decide_eq_false h1)
    have HD := Lib.hid (show decide (decOk n x) = false from decide_eq_false (by unfold decOk; rintro (h | h); exact h0 h.1; exact h1 h.2.1))
    go_enter Tryz.func162, Tryz.ntmps162
    go_wp2_with (first | (go_at_call 71; refine (spec_l1In _ _ _ _).mono ?_; rintro e w2 ⟨rfl, hb⟩; rw [D1.out]; have HB2 := Lib.hid (below_step H0.out hb (by simp)); have q2 := q0.below hb hl; obtain ⟨r0, r1⟩ := q2.cells2; have hl2 : w.heap.size < w2.heap.size := Nat.lt_of_lt_of_le hl hb.size; clear hb) | (go_at_call 165; refine (spec_Digits n _ HN.out).mono ?_; rintro e w3 ⟨rfl, hb⟩; have HB3 := Lib.hid (below_step HB2.out hb HB2.out.size); have q3 := q2.below hb hl2; obtain ⟨s0, s1⟩ := q3.cells2; have hl3 : w.heap.size < w3.heap.size := Nat.lt_of_lt_of_le hl2 hb.size; clear hb))
    go_ret
    exact ⟨ret_b (by rw [HD.out]), HB2.out⟩
end Go.Proofs.YtpifadjlbjifhaaGreatDoor
namespace Go.Proofs.YtpifadjlbjifhaaGreatDoor
open Go.ChangeShapes Go.WideShapes Go.ChangeAt Go.RowKit Go.Joins
set_option linter.unusedVariables false
set_option maxRecDepth 100000
set_option maxHeartbeats 2000000 in
theorem impl_FltOk (m x : Int) (w : World) (hm : I64 m) (hx : I64 x) :
    Calls Tryz.prog 118 #[.agg (cF m x)] w fun e w' => e = .returned (.bool (decide (fltOk m x))) ∧ Below w.heap.size w w' := by
  obtain ⟨hm0, hm1⟩ := hm
  obtain ⟨hx0, hx1⟩ := hx
  have hl : w.heap.size < (w.alloc (.cells (cF m x) 95)).heap.size := by simp
  have H0 := Lib.hid (below1 w (.cells (cF m x) 95))
  have q0 := Is.new w (cF m x) 95
  by_cases h0 : m = 0
  · subst h0
    by_cases h1 : x = 0
    · subst h1
      have HD := Lib.hid (show decide (fltOk 0 0) = true from decide_eq_true (Or.inl ⟨rfl, rfl⟩))
      go_enter Tryz.func118, Tryz.ntmps118
      go_wp2_with fail
      go_ret
      exact ⟨ret_b (by rw [HD.out]), H0.out⟩
    · have HD := Lib.hid (show decide (fltOk 0 x) = false from decide_eq_false (by rintro (h | h); exact h1 h.2; exact h.1 rfl))
      go_enter Tryz.func118, Tryz.ntmps118
      go_wp2_with fail
      go_ret
      exact ⟨ret_b (by rw [HD.out]; simp [h1]), H0.out⟩
  by_cases h1 : m.tmod 2 = 0
  · have HD := Lib.hid (show decide (fltOk m x) = false from decide_eq_false (by rintro (h | h); exact h0 h.1; exact h.2.2.1 h1))
    go_enter Tryz.func118, Tryz.ntmps118
    go_wp2_with fail
    go_ret
    exact ⟨ret_b (by rw [HD.out]), H0.out⟩
  by_cases h2 : -65535 ≤ m ∧ m ≤ 65535
  · have D2 := Lib.hid (show decide ((-65535 : Int) ≤ m ∧ m ≤ 65535) = true from decide_eq_true h2)
    by_cases h3 : x < -16
    · have HD := Lib.hid (show decide (fltOk m x) = false from decide_eq_false (by rintro (h | h); exact h0 h.1; have := h.2.2.2.1; omega))
      go_enter Tryz.func118, Tryz.ntmps118
      go_wp2_with (go_at_call 77; refine (impl_within _ _ _ _).mono ?_; rintro e w2 ⟨rfl, hb⟩; rw [D2.out]; have HB2 := Lib.hid (below_step H0.out hb (by simp)); have q2 := q0.below hb hl; obtain ⟨r0, r1⟩ := q2.cells2; have hl2 : w.heap.size < w2.heap.size := Nat.lt_of_lt_of_le hl hb.size; clear hb)
      go_ret
      exact ⟨ret_b (by rw [HD.out]), HB2.out⟩
    have h3' : -16 ≤ x := by omega
    have h3d : decide (x < -16) = false := decide_eq_false h3
    by_cases h4 : x ≤ 30
    · have HD := Lib.hid (show decide (fltOk m x) = true from decide_eq_true (Or.inr ⟨h0, h2, h1, by omega, Or.inl h4⟩))
      go_enter Tryz.func118, Tryz.ntmps118
      go_wp2_with (go_at_call 77; refine (impl_within _ _ _ _).mono ?_; rintro e w2 ⟨rfl, hb⟩; rw [D2.out]; have HB2 := Lib.hid (below_step H0.out hb (by simp)); have q2 := q0.below hb hl; obtain ⟨r0, r1⟩ := q2.cells2; have hl2 : w.heap.size < w2.heap.size := Nat.lt_of_lt_of_le hl hb.size; clear hb)
      go_ret
      exact ⟨ret_b (by rw [HD.out]), HB2.out⟩
    by_cases h5 : x ≤ 46
    · obtain ⟨bb, hbb⟩ : ∃ bb, decide (-65535 ≤ m * 2 ^ (x - 30).toNat ∧ m * 2 ^ (x - 30).toNat ≤ 65535) = bb := ⟨_, rfl⟩
      have HD := Lib.hid ((fltOk_big (m := m) (e := x) (x - 30).toNat (by omega) (by omega) h0 h2 h1).trans hbb)
      obtain rfl | rfl | rfl | rfl | rfl | rfl | rfl | rfl | rfl | rfl | rfl | rfl | rfl | rfl | rfl | rfl : x = 31 ∨ x = 32 ∨ x = 33 ∨ x = 34 ∨ x = 35 ∨ x = 36 ∨ x = 37 ∨ x = 38 ∨ x = 39 ∨ x = 40 ∨ x = 41 ∨ x = 42 ∨ x = 43 ∨ x = 44 ∨ x = 45 ∨ x = 46 := by omega
      all_goals
        simp only [Int.reduceSub, Int.reduceToNat, Int.reducePow] at hbb
        have HBB := Lib.hid hbb; clear hbb
        go_enter Tryz.func118, Tryz.ntmps118
        go_wp2_with (go_at_call 77; refine (impl_within _ _ _ _).mono ?_; rintro e w2 ⟨rfl, hb⟩; first | (rw [D2.out]; have HB2 := Lib.hid (below_step H0.out hb (by simp)); have q2 := q0.below hb hl; obtain ⟨r0, r1⟩ := q2.cells2; have hl2 : w.heap.size < w2.heap.size := Nat.lt_of_lt_of_le hl hb.size; clear hb) | (rw [HBB.out]; have HB3 := Lib.hid (below_step HB2.out hb HB2.out.size)))
        go_ret
        exact ⟨ret_b (by rw [HD.out]), HB3.out⟩
    · have HD := Lib.hid (show decide (fltOk m x) = false from decide_eq_false (by rintro (h | h); exact h0 h.1; have := h.2.2.2.2; omega))
      go_enter Tryz.func118, Tryz.ntmps118
      go_wp2_with (go_at_call 77; refine (impl_within _ _ _ _).mono ?_; rintro e w2 ⟨rfl, hb⟩; rw [D2.out]; have HB2 := Lib.hid (below_step H0.out hb (by simp)); have q2 := q0.below hb hl; obtain ⟨r0, r1⟩ := q2.cells2; have hl2 : w.heap.size < w2.heap.size := Nat.lt_of_lt_of_le hl hb.size; clear hb)
      go_ret
      exact ⟨ret_b (by rw [HD.out]), HB2.out⟩
  · have D2 := Lib.hid (show decide ((-65535 : Int) ≤ m ∧ m ≤ 65535) = false from decide_eq_false h2)
    have HD := Lib.hid (show decide (fltOk m x) = false from decide_eq_false (by rintro (h | h); exact h0 h.1; exact h2 h.2.1))
    go_enter Tryz.func118, Tryz.ntmps118
    go_wp2_with (go_at_call 77; refine (impl_within _ _ _ _).mono ?_; rintro e w2 ⟨rfl, hb⟩; rw [D2.out]; have HB2 := Lib.hid (below_step H0.out hb (by simp)); clear hb)
    go_ret
    exact ⟨ret_b (by rw [HD.out]), HB2.out⟩
set_option maxHeartbeats 2000000 in
theorem spec_FltOk (m x : Int) (w : World) (hm : I64 m) (hx : I64 x) :
    Calls Tryz.prog 125 #[.agg (cF m x)] w fun e w' => e = .returned (.bool (decide (fltOk m x))) ∧ Below w.heap.size w w' := by
  obtain ⟨hm0, hm1⟩ := hm
  obtain ⟨hx0, hx1⟩ := hx
  have hl : w.heap.size < (w.alloc (.cells (cF m x) 95)).heap.size := by simp
  have H0 := Lib.hid (below1 w (.cells (cF m x) 95))
  have q0 := Is.new w (cF m x) 95
  by_cases h0 : m = 0
  · subst h0
    by_cases h1 : x = 0
    · subst h1
      have HD := Lib.hid (show decide (fltOk 0 0) = true from decide_eq_true (Or.inl ⟨rfl, rfl⟩))
      go_enter Tryz.func125, Tryz.ntmps125
      go_wp2_with fail
      go_ret
      exact ⟨ret_b (by rw [HD.out]), H0.out⟩
    · have HD := Lib.hid (show decide (fltOk 0 x) = false from decide_eq_false (by rintro (h | h); exact h1 h.2; exact h.1 rfl))
      go_enter Tryz.func125, Tryz.ntmps125
      go_wp2_with fail
      go_ret
      exact ⟨ret_b (by rw [HD.out]; simp [h1]), H0.out⟩
  by_cases h2 : -65535 ≤ m ∧ m ≤ 65535
  · have D2 := Lib.hid (show decide ((-65535 : Int) ≤ m ∧ m ≤ 65535) = true from decide_eq_true h2)
    by_cases h1 : m.tmod 2 = 0
    · have HD := Lib.hid (show decide (fltOk m x) = false from decide_eq_false (by rintro (h | h); exact h0 h.1; exact h.2.2.1 h1))
      go_enter Tryz.func125, Tryz.ntmps125
      go_wp2_with (go_at_call 71; refine (spec_l1In _ _ _ _).mono ?_; rintro e w2 ⟨rfl, hb⟩; first | (rw [D2.out]; have HB2 := Lib.hid (below_step H0.out hb (by simp)); have q2 := q0.below hb hl; obtain ⟨r0, r1⟩ := q2.cells2; have hl2 : w.heap.size < w2.heap.size := Nat.lt_of_lt_of_le hl hb.size; clear hb) | (rw [D3.out]; have HB3 := Lib.hid (below_step HB2.out hb HB2.out.size); have q3 := q2.below hb hl2; obtain ⟨s0, s1⟩ := q3.cells2; have hl3 : w.heap.size < w2.heap.size := Nat.lt_of_lt_of_le hl2 hb.size; clear hb) | (rw [HBB.out]; have HB4 := Lib.hid (below_step HB3.out hb HB3.out.size)))
      go_ret
      exact ⟨ret_b (by rw [HD.out]), HB2.out⟩
    by_cases h3 : -16 ≤ x ∧ x ≤ 45
    · have D3 := Lib.hid (show decide ((-16 : Int) ≤ x ∧ x ≤ 45) = true from decide_eq_true h3)
      by_cases h4 : x ≤ 30
      · have HD := Lib.hid (show decide (fltOk m x) = true from decide_eq_true (Or.inr ⟨h0, h2, h1, by omega, Or.inl h4⟩))
        go_enter Tryz.func125, Tryz.ntmps125
        go_wp2_with (go_at_call 71; refine (spec_l1In _ _ _ _).mono ?_; rintro e w2 ⟨rfl, hb⟩; first | (rw [D2.out]; have HB2 := Lib.hid (below_step H0.out hb (by simp)); have q2 := q0.below hb hl; obtain ⟨r0, r1⟩ := q2.cells2; have hl2 : w.heap.size < w2.heap.size := Nat.lt_of_lt_of_le hl hb.size; clear hb) | (rw [D3.out]; have HB3 := Lib.hid (below_step HB2.out hb HB2.out.size); have q3 := q2.below hb hl2; obtain ⟨s0, s1⟩ := q3.cells2; have hl3 : w.heap.size < w2.heap.size := Nat.lt_of_lt_of_le hl2 hb.size; clear hb) | (rw [HBB.out]; have HB4 := Lib.hid (below_step HB3.out hb HB3.out.size)))
        go_ret
        exact ⟨ret_b (by rw [HD.out]), HB3.out⟩
      · obtain ⟨bb, hbb⟩ : ∃ bb, decide (-65535 ≤ m * 2 ^ (x - 30).toNat ∧ m * 2 ^ (x - 30).toNat ≤ 65535) = bb := ⟨_, rfl⟩
        have HD := Lib.hid ((fltOk_big (m := m) (e := x) (x - 30).toNat (by omega) (by omega) h0 h2 h1).trans hbb)
        obtain rfl | rfl | rfl | rfl | rfl | rfl | rfl | rfl | rfl | rfl | rfl | rfl | rfl | rfl | rfl : x = 31 ∨ x = 32 ∨ x = 33 ∨ x = 34 ∨ x = 35 ∨ x = 36 ∨ x = 37 ∨ x = 38 ∨ x = 39 ∨ x = 40 ∨ x = 41 ∨ x = 42 ∨ x = 43 ∨ x = 44 ∨ x = 45 := by omega
        all_goals
          simp only [Int.reduceSub, Int.reduceToNat, Int.reducePow] at hbb
          have HBB := Lib.hid hbb; clear hbb
          go_enter Tryz.func125, Tryz.ntmps125
          go_wp2_with (go_at_call 71; refine (spec_l1In _ _ _ _).mono ?_; rintro e w2 ⟨rfl, hb⟩; first | (rw [D2.out]; have HB2 := Lib.hid (below_step H0.out hb (by simp)); have q2 := q0.below hb hl; obtain ⟨r0, r1⟩ := q2.cells2; have hl2 : w.heap.size < w2.heap.size := Nat.lt_of_lt_of_le hl hb.size; clear hb) | (rw [D3.out]; have HB3 := Lib.hid (below_step HB2.out hb HB2.out.size); have q3 := q2.below hb hl2; obtain ⟨s0, s1⟩ := q3.cells2; have hl3 : w.heap.size < w2.heap.size := Nat.lt_of_lt_of_le hl2 hb.size; clear hb) | (rw [HBB.out]; have HB4 := Lib.hid (below_step HB3.out hb HB3.out.size)))
          go_ret
          exact ⟨ret_b (by rw [HD.out]), HB4.out⟩
    · have D3 := Lib.hid (show decide ((-16 : Int) ≤ x ∧ x ≤ 45) = false from decide_eq_false h3)
      have HD := Lib.hid (show decide (fltOk m x) = false from decide_eq_false (by
        rintro (h | h); exact h0 h.1
        have e46 := h.2.2.2.2
        by_cases h46 : x = 46
        · subst h46
          rcases e46 with h | h
          · omega
          · simp only [Int.reduceSub, Int.reduceToNat, Int.reducePow] at h; omega
        · omega))
      go_enter Tryz.func125, Tryz.ntmps125
      go_wp2_with (go_at_call 71; refine (spec_l1In _ _ _ _).mono ?_; rintro e w2 ⟨rfl, hb⟩; first | (rw [D2.out]; have HB2 := Lib.hid (below_step H0.out hb (by simp)); have q2 := q0.below hb hl; obtain ⟨r0, r1⟩ := q2.cells2; have hl2 : w.heap.size < w2.heap.size := Nat.lt_of_lt_of_le hl hb.size; clear hb) | (rw [D3.out]; have HB3 := Lib.hid (below_step HB2.out hb HB2.out.size); have q3 := q2.below hb hl2; obtain ⟨s0, s1⟩ := q3.cells2; have hl3 : w.heap.size < w2.heap.size := Nat.lt_of_lt_of_le hl2 hb.size; clear hb) | (rw [HBB.out]; have HB4 := Lib.hid (below_step HB3.out hb HB3.out.size)))
      go_ret
      exact ⟨ret_b (by rw [HD.out]), HB3.out⟩
  · have D2 := Lib.hid (show decide ((-65535 : Int) ≤ m ∧ m ≤ 65535) = false from decide_eq_false h2)
    have HD := Lib.hid (show decide (fltOk m x) = false from decide_eq_false (by rintro (h | h); exact h0 h.1; exact h2 h.2.1))
    go_enter Tryz.func125, Tryz.ntmps125
    go_wp2_with (go_at_call 71; refine (spec_l1In _ _ _ _).mono ?_; rintro e w2 ⟨rfl, hb⟩; first | (rw [D2.out]; have HB2 := Lib.hid (below_step H0.out hb (by simp)); have q2 := q0.below hb hl; obtain ⟨r0, r1⟩ := q2.cells2; have hl2 : w.heap.size < w2.heap.size := Nat.lt_of_lt_of_le hl hb.size; clear hb) | (rw [D3.out]; have HB3 := Lib.hid (below_step HB2.out hb HB2.out.size); have q3 := q2.below hb hl2; obtain ⟨s0, s1⟩ := q3.cells2; have hl3 : w.heap.size < w2.heap.size := Nat.lt_of_lt_of_le hl2 hb.size; clear hb) | (rw [HBB.out]; have HB4 := Lib.hid (below_step HB3.out hb HB3.out.size)))
    go_ret
    exact ⟨ret_b (by rw [HD.out]), HB2.out⟩
end Go.Proofs.YtpifadjlbjifhaaGreatDoor
