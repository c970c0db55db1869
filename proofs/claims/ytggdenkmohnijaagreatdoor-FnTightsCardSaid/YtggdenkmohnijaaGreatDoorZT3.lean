/- Texts of this proof, merged: ValF, Rune, Rune2, ValF2. No condition beyond what each theorem states. -/
import Derived.Lib.ItoaLen
import Derived.Test.YtggdenkmohnijaaGreatDoorZT2
import Derived.Lib.ConvBytes
import Derived.Shelf.Unicode.ValidAny
set_option linter.unusedSimpArgs false
set_option linter.unnecessarySimpa false
namespace Go.Proofs.YtggdenkmohnijaaGreatDoor
open Go.ChangeShapes Go.WideShapes Go.ChangeAt Go.RowKit Go.Joins
set_option linter.unusedVariables false
set_option maxRecDepth 100000
theorem spec_l1In (n lo hi : Int) (w : World) : Calls Tryz.prog 74 #[.int .i64 n, .int .i64 lo, .int .i64 hi] w fun e w' => e = .returned (.bool (decide (lo ≤ n ∧ n ≤ hi))) ∧ Below w.heap.size w w' := by
  by_cases h1 : lo ≤ n
  · by_cases h2 : n ≤ hi
    · have hd : decide (lo ≤ n ∧ n ≤ hi) = true := decide_eq_true ⟨h1, h2⟩
      rw [hd]; clear hd
      go_enter Tryz.func74, Tryz.ntmps74
      go_wp2
      go_ret
      exact ⟨rfl, by go_grown⟩
    · have hd : decide (lo ≤ n ∧ n ≤ hi) = false := decide_eq_false (fun h => h2 h.2)
      rw [hd]; clear hd
      go_enter Tryz.func74, Tryz.ntmps74
      go_wp2
      go_ret
      exact ⟨rfl, by go_grown⟩
  · have hd : decide (lo ≤ n ∧ n ≤ hi) = false := decide_eq_false (fun h => h1 h.1)
    rw [hd]; clear hd
    go_enter Tryz.func74, Tryz.ntmps74
    go_wp2
    go_ret
    exact ⟨rfl, by go_grown⟩
theorem impl_within (n lo hi : Int) (w : World) : Calls Tryz.prog 125 #[.int .i64 n, .int .i64 lo, .int .i64 hi] w fun e w' => e = .returned (.bool (decide (lo ≤ n ∧ n ≤ hi))) ∧ Below w.heap.size w w' := by
  by_cases h1 : lo ≤ n
  · by_cases h2 : n ≤ hi
    · have hd : decide (lo ≤ n ∧ n ≤ hi) = true := decide_eq_true ⟨h1, h2⟩
      rw [hd]; clear hd
      go_enter Tryz.func125, Tryz.ntmps125
      go_wp2
      go_ret
      exact ⟨rfl, by go_grown⟩
    · have hd : decide (lo ≤ n ∧ n ≤ hi) = false := decide_eq_false (fun h => h2 h.2)
      rw [hd]; clear hd
      go_enter Tryz.func125, Tryz.ntmps125
      go_wp2
      go_ret
      exact ⟨rfl, by go_grown⟩
  · have hd : decide (lo ≤ n ∧ n ≤ hi) = false := decide_eq_false (fun h => h1 h.1)
    rw [hd]; clear hd
    go_enter Tryz.func125, Tryz.ntmps125
    go_wp2
    go_ret
    exact ⟨rfl, by go_grown⟩
def digN (n : Int) : Nat := Lib.nDigits n.natAbs
def digC (m : Nat) : Nat := if m = 0 then 0 else Lib.nDigits m
theorem digC_zero : digC 0 = 0 := rfl
theorem nDigits_eq (u : Nat) : Lib.nDigits u = 1 + digC (u / 10) := by
  rw [Lib.nDigits]
  by_cases h : u < 10
  · rw [dif_pos h, show u / 10 = 0 from by omega]; rfl
  · rw [dif_neg h]; unfold digC; rw [if_neg (by omega)]; omega
theorem digC_pos (m : Nat) (h : m ≠ 0) : digC m = digC (m / 10) + 1 := by
  conv => lhs; unfold digC
  rw [if_neg h, nDigits_eq]; omega
theorem digN_eq (n : Int) : digN n = 1 + digC (n.natAbs / 10) := nDigits_eq _
theorem tdiv_abs (n : Int) : (n.tdiv 10).natAbs = n.natAbs / 10 := by
  rw [Int.natAbs_tdiv]; rfl
theorem digN_le (n : Int) (h : I64 n) : digN n ≤ 20 := Lib.nDigits_le20 _ (by have := h.1; have := h.2; omega)
set_option maxHeartbeats 800000 in
theorem spec_Digits (n : Int) (w : World) (hn : I64 n) : Calls Tryz.prog 188 #[.int .i64 n] w fun e w' => e = .returned (.int .i64 (digN n)) ∧ Below w.heap.size w w' := by
  obtain ⟨hn0, hn1⟩ := hn
  have HD := Lib.hid (digN_eq n)
  have h20 := digN_le n ⟨hn0, hn1⟩
  go_enter Tryz.func188, Tryz.ntmps188
  go_wp2_with fail
  go_loopw [3, 4] (fun s q wr => ∃ (m : Int) (c : Nat), q = .int .i64 m ∧ s = .int .i64 c ∧ -9223372036854775808 ≤ m ∧ m ≤ 9223372036854775807 ∧ c ≤ 20 ∧ Hid (digN n = c + digC m.natAbs) ∧ Below w.heap.size w wr) (fun _ q _ => (intOf q).natAbs)
  case atStart => exact ⟨n.tdiv 10, 1, by go_num, rfl, by have := tdiv_abs n; omega, by have := tdiv_abs n; omega, by omega, by show _ = _; rw [tdiv_abs]; exact HD.out, Below.refl _ _⟩
  case round =>
    obtain ⟨m, c, rfl, rfl, hm0, hm1, hc, HC, hb⟩ := hrel
    by_cases hz : m = 0
    · subst hz
      have HE := Lib.hid (show digN n = c from by have := HC.out; rw [show (0 : Int).natAbs = 0 from rfl, digC_zero] at this; omega)
      go_wp2_with fail
      go_ret
      exact ⟨by rw [HE.out]; rfl, hb⟩
    · have hc2 : c + 1 ≤ 20 := by have := HC.out; rw [digC_pos _ (by omega)] at this; omega
      have HC2 := Lib.hid (show digN n = (c + 1) + digC (m.tdiv 10).natAbs from by have := HC.out; rw [digC_pos _ (by omega)] at this; rw [tdiv_abs]; omega)
      have hlt : (m.tdiv 10).natAbs < m.natAbs := by rw [tdiv_abs]; omega
      have ht0 : -9223372036854775808 ≤ m.tdiv 10 := by have := tdiv_abs m; omega
      have ht1 : m.tdiv 10 ≤ 9223372036854775807 := by have := tdiv_abs m; omega
      go_wp2_with fail
      go_roundw
      case rel => exact ⟨m.tdiv 10, c + 1, by go_num, by go_num, ht0, ht1, hc2, HC2.out, hb⟩
      case measure => exact hlt
def runeOk (n : Int) : Prop := (0 ≤ n ∧ n ≤ 1114111) ∧ ¬ (55296 ≤ n ∧ n ≤ 57343)
instance (n : Int) : Decidable (runeOk n) := by unfold runeOk; exact inferInstance
def wideN (n : Int) : Nat := if ¬ runeOk n then 0 else if n < 128 then 1 else if n < 2048 then 2 else if n < 65536 then 3 else 4
theorem spec_RuneOk (n : Int) (w : World) : Calls Tryz.prog 248 #[.int .i64 n] w fun e w' => e = .returned (.bool (decide (runeOk n))) ∧ Below w.heap.size w w' := by
  by_cases h1 : 0 ≤ n ∧ n ≤ 1114111
  · by_cases h2 : 55296 ≤ n ∧ n ≤ 57343
    · have HD := Lib.hid (show decide (runeOk n) = false from decide_eq_false (fun h => h.2 h2))
      have HA := Lib.hid (show decide (0 ≤ n ∧ n ≤ 1114111) = true from decide_eq_true h1)
      have HB := Lib.hid (show decide (55296 ≤ n ∧ n ≤ 57343) = true from decide_eq_true h2)
      rw [HD.out]
      have hacc := Below.refl w.heap.size w
      go_enter Tryz.func248, Tryz.ntmps248
      go_wp2_with (go_at_call 74; refine (spec_l1In _ _ _ _).mono ?_; rintro e v ⟨rfl, hb⟩; replace hacc := below_step hacc hb hacc.size; first | rw [HA.out] | rw [HB.out])
      go_ret
      exact ⟨rfl, hacc⟩
    · have HD := Lib.hid (show decide (runeOk n) = true from decide_eq_true ⟨h1, h2⟩)
      have HA := Lib.hid (show decide (0 ≤ n ∧ n ≤ 1114111) = true from decide_eq_true h1)
      have HB := Lib.hid (show decide (55296 ≤ n ∧ n ≤ 57343) = false from decide_eq_false h2)
      rw [HD.out]
      have hacc := Below.refl w.heap.size w
      go_enter Tryz.func248, Tryz.ntmps248
      go_wp2_with (go_at_call 74; refine (spec_l1In _ _ _ _).mono ?_; rintro e v ⟨rfl, hb⟩; replace hacc := below_step hacc hb hacc.size; first | rw [HA.out] | rw [HB.out])
      go_ret
      exact ⟨rfl, hacc⟩
  · have HD := Lib.hid (show decide (runeOk n) = false from decide_eq_false (fun h => h1 h.1))
    have HA := Lib.hid (show decide (0 ≤ n ∧ n ≤ 1114111) = false from decide_eq_false h1)
    rw [HD.out]
    have hacc := Below.refl w.heap.size w
    go_enter Tryz.func248, Tryz.ntmps248
    go_wp2_with (go_at_call 74; refine (spec_l1In _ _ _ _).mono ?_; rintro e v ⟨rfl, hb⟩; replace hacc := below_step hacc hb hacc.size; first | rw [HA.out])
    go_ret
    exact ⟨rfl, hacc⟩
theorem spec_WideOf (n : Int) (w : World) : Calls Tryz.prog 229 #[.int .i64 n] w fun e w' => e = .returned (.int .i64 (wideN n)) ∧ Below w.heap.size w w' := by
  by_cases h0 : runeOk n
  · have HD := Lib.hid (show decide (runeOk n) = true from decide_eq_true h0)
    have hr := h0.1
    by_cases h1 : n < 128
    · have HE := Lib.hid (show wideN n = 1 from by unfold wideN; rw [if_neg (by simp [h0]), if_pos h1])
      rw [HE.out]; clear h0
      go_enter Tryz.func229, Tryz.ntmps229
      go_wp2_with (go_at_call 248; refine (spec_RuneOk _ _).mono ?_; rintro e v ⟨rfl, hb⟩; rw [HD.out])
      go_ret
      exact ⟨rfl, by go_grown⟩
    by_cases h2 : n < 2048
    · have HE := Lib.hid (show wideN n = 2 from by unfold wideN; rw [if_neg (by simp [h0]), if_neg h1, if_pos h2])
      rw [HE.out]; clear h0
      go_enter Tryz.func229, Tryz.ntmps229
      go_wp2_with (go_at_call 248; refine (spec_RuneOk _ _).mono ?_; rintro e v ⟨rfl, hb⟩; rw [HD.out])
      go_ret
      exact ⟨rfl, by go_grown⟩
    by_cases h3 : n < 65536
    · have HE := Lib.hid (show wideN n = 3 from by unfold wideN; rw [if_neg (by simp [h0]), if_neg h1, if_neg h2, if_pos h3])
      rw [HE.out]; clear h0
      go_enter Tryz.func229, Tryz.ntmps229
      go_wp2_with (go_at_call 248; refine (spec_RuneOk _ _).mono ?_; rintro e v ⟨rfl, hb⟩; rw [HD.out])
      go_ret
      exact ⟨rfl, by go_grown⟩
    · have HE := Lib.hid (show wideN n = 4 from by unfold wideN; rw [if_neg (by simp [h0]), if_neg h1, if_neg h2, if_neg h3])
      rw [HE.out]; clear h0
      go_enter Tryz.func229, Tryz.ntmps229
      go_wp2_with (go_at_call 248; refine (spec_RuneOk _ _).mono ?_; rintro e v ⟨rfl, hb⟩; rw [HD.out])
      go_ret
      exact ⟨rfl, by go_grown⟩
  · have HD := Lib.hid (show decide (runeOk n) = false from decide_eq_false h0)
    have HE := Lib.hid (show wideN n = 0 from by unfold wideN; rw [if_pos h0])
    rw [HE.out]; clear h0
    go_enter Tryz.func229, Tryz.ntmps229
    go_wp2_with (go_at_call 248; refine (spec_RuneOk _ _).mono ?_; rintro e v ⟨rfl, hb⟩; rw [HD.out])
    go_ret
    exact ⟨rfl, by go_grown⟩
theorem grW_one (n x0 y1 y2 y3 : Nat) (h : x0 < 128) : grW n x0 y1 y2 y3 = (x0, 1) := if_pos h
theorem grW_bad (n x0 y1 y2 y3 : Nat) (h : ¬ x0 < 128) (h1 : ¬ (192 ≤ x0 ∧ x0 ≤ 223)) (h2 : ¬ (224 ≤ x0 ∧ x0 ≤ 239)) (h3 : ¬ (240 ≤ x0 ∧ x0 ≤ 247)) : grW n x0 y1 y2 y3 = (0, 0) := by
  unfold grW; rw [if_neg h, if_neg h1, if_neg h2, if_neg h3]
abbrev grV (at' : Nat) (p : Nat × Nat) : Value := .tuple #[.int .i64 p.1, .int .i64 (if p.2 = 0 then 0 else at' + p.2 : Nat), .bool (decide (p.2 ≠ 0))]
theorem grV_eq {p q : Nat × Nat} {i : Nat} {a b : Int} {c : Bool} (h : p = q) (ha : a = q.1) (hb : b = (if q.2 = 0 then 0 else i + q.2 : Nat)) (hc : c = decide (q.2 ≠ 0)) : Ending.returned (.tuple #[.int .i64 a, .int .i64 b, .bool c]) = .returned (grV i p) := by
  subst h ha hb hc; rfl
theorem grW_2 (n x0 y1 y2 y3 : Nat) (h0 : ¬ x0 < 128) (h : 192 ≤ x0 ∧ x0 ≤ 223) : grW n x0 y1 y2 y3 = if 2 ≤ n ∧ (128 ≤ y1 ∧ y1 ≤ 191) ∧ wideN (64 * ((x0 : Int) - 192) + (y1 : Int) - 128) = 2 then ((64 * ((x0 : Int) - 192) + (y1 : Int) - 128).toNat, 2) else (0, 0) := by
  unfold grW
  rw [if_neg h0]
  rw [if_pos h]
  have e : ∀ (P Q : Prop) [Decidable P] [Decidable Q] (a b : Nat), (P ↔ Q) → (Q → a = b) → (if P then (a, 2) else (0, 0)) = (if Q then (b, 2) else (0, 0)) := by
    intro P Q _ _ a b h1 h2
    by_cases hq : Q
    · rw [if_pos (h1.2 hq), if_pos hq, h2 hq]
    · rw [if_neg (fun hp => hq (h1.1 hp)), if_neg hq]
  refine e _ _ _ _ ?_ ?_
  · constructor
    · rintro h
      refine ⟨by omega, by omega, ?_⟩
      unfold wideN runeOk
      rw [if_neg (by omega), if_neg (by omega), if_pos (by omega)]
    · rintro ⟨h1, hc1, hw⟩
      unfold wideN runeOk at hw
      by_cases c0 : ¬ ((0 ≤ (64 * ((x0 : Int) - 192) + (y1 : Int) - 128) ∧ (64 * ((x0 : Int) - 192) + (y1 : Int) - 128) ≤ 1114111) ∧ ¬ (55296 ≤ (64 * ((x0 : Int) - 192) + (y1 : Int) - 128) ∧ (64 * ((x0 : Int) - 192) + (y1 : Int) - 128) ≤ 57343))
      · rw [if_pos c0] at hw; omega
      · rw [if_neg c0] at hw
        by_cases c1 : (64 * ((x0 : Int) - 192) + (y1 : Int) - 128) < 128
        · rw [if_pos c1] at hw; omega
        · rw [if_neg c1] at hw
          by_cases c2 : (64 * ((x0 : Int) - 192) + (y1 : Int) - 128) < 2048
          · rw [if_pos c2] at hw; omega
          · rw [if_neg c2] at hw
            by_cases c3 : (64 * ((x0 : Int) - 192) + (y1 : Int) - 128) < 65536
            · rw [if_pos c3] at hw; omega
            · rw [if_neg c3] at hw; omega
  · rintro h; omega
theorem grW_3 (n x0 y1 y2 y3 : Nat) (h0 : ¬ x0 < 128) (h : 224 ≤ x0 ∧ x0 ≤ 239) : grW n x0 y1 y2 y3 = if 3 ≤ n ∧ (128 ≤ y1 ∧ y1 ≤ 191) ∧ (128 ≤ y2 ∧ y2 ≤ 191) ∧ wideN (64 * (64 * ((x0 : Int) - 224) + (y1 : Int) - 128) + (y2 : Int) - 128) = 3 then ((64 * (64 * ((x0 : Int) - 224) + (y1 : Int) - 128) + (y2 : Int) - 128).toNat, 3) else (0, 0) := by
  unfold grW
  rw [if_neg h0]
  rw [if_neg (by omega)]
  rw [if_pos h]
  have e : ∀ (P Q : Prop) [Decidable P] [Decidable Q] (a b : Nat), (P ↔ Q) → (Q → a = b) → (if P then (a, 3) else (0, 0)) = (if Q then (b, 3) else (0, 0)) := by
    intro P Q _ _ a b h1 h2
    by_cases hq : Q
    · rw [if_pos (h1.2 hq), if_pos hq, h2 hq]
    · rw [if_neg (fun hp => hq (h1.1 hp)), if_neg hq]
  refine e _ _ _ _ ?_ ?_
  · constructor
    · rintro h
      refine ⟨by omega, by omega, by omega, ?_⟩
      unfold wideN runeOk
      rw [if_neg (by omega), if_neg (by omega), if_neg (by omega), if_pos (by omega)]
    · rintro ⟨h1, hc1, hc2, hw⟩
      unfold wideN runeOk at hw
      by_cases c0 : ¬ ((0 ≤ (64 * (64 * ((x0 : Int) - 224) + (y1 : Int) - 128) + (y2 : Int) - 128) ∧ (64 * (64 * ((x0 : Int) - 224) + (y1 : Int) - 128) + (y2 : Int) - 128) ≤ 1114111) ∧ ¬ (55296 ≤ (64 * (64 * ((x0 : Int) - 224) + (y1 : Int) - 128) + (y2 : Int) - 128) ∧ (64 * (64 * ((x0 : Int) - 224) + (y1 : Int) - 128) + (y2 : Int) - 128) ≤ 57343))
      · rw [if_pos c0] at hw; omega
      · rw [if_neg c0] at hw
        by_cases c1 : (64 * (64 * ((x0 : Int) - 224) + (y1 : Int) - 128) + (y2 : Int) - 128) < 128
        · rw [if_pos c1] at hw; omega
        · rw [if_neg c1] at hw
          by_cases c2 : (64 * (64 * ((x0 : Int) - 224) + (y1 : Int) - 128) + (y2 : Int) - 128) < 2048
          · rw [if_pos c2] at hw; omega
          · rw [if_neg c2] at hw
            by_cases c3 : (64 * (64 * ((x0 : Int) - 224) + (y1 : Int) - 128) + (y2 : Int) - 128) < 65536
            · rw [if_pos c3] at hw; omega
            · rw [if_neg c3] at hw; omega
  · rintro h; omega
theorem grW_4 (n x0 y1 y2 y3 : Nat) (h0 : ¬ x0 < 128) (h : 240 ≤ x0 ∧ x0 ≤ 247) : grW n x0 y1 y2 y3 = if 4 ≤ n ∧ (128 ≤ y1 ∧ y1 ≤ 191) ∧ (128 ≤ y2 ∧ y2 ≤ 191) ∧ (128 ≤ y3 ∧ y3 ≤ 191) ∧ wideN (64 * (64 * (64 * ((x0 : Int) - 240) + (y1 : Int) - 128) + (y2 : Int) - 128) + (y3 : Int) - 128) = 4 then ((64 * (64 * (64 * ((x0 : Int) - 240) + (y1 : Int) - 128) + (y2 : Int) - 128) + (y3 : Int) - 128).toNat, 4) else (0, 0) := by
  unfold grW
  rw [if_neg h0]
  rw [if_neg (by omega)]
  rw [if_neg (by omega)]
  rw [if_pos h]
  have e : ∀ (P Q : Prop) [Decidable P] [Decidable Q] (a b : Nat), (P ↔ Q) → (Q → a = b) → (if P then (a, 4) else (0, 0)) = (if Q then (b, 4) else (0, 0)) := by
    intro P Q _ _ a b h1 h2
    by_cases hq : Q
    · rw [if_pos (h1.2 hq), if_pos hq, h2 hq]
    · rw [if_neg (fun hp => hq (h1.1 hp)), if_neg hq]
  refine e _ _ _ _ ?_ ?_
  · constructor
    · rintro h
      refine ⟨by omega, by omega, by omega, by omega, ?_⟩
      unfold wideN runeOk
      rw [if_neg (by omega), if_neg (by omega), if_neg (by omega), if_neg (by omega)]
    · rintro ⟨h1, hc1, hc2, hc3, hw⟩
      unfold wideN runeOk at hw
      by_cases c0 : ¬ ((0 ≤ (64 * (64 * (64 * ((x0 : Int) - 240) + (y1 : Int) - 128) + (y2 : Int) - 128) + (y3 : Int) - 128) ∧ (64 * (64 * (64 * ((x0 : Int) - 240) + (y1 : Int) - 128) + (y2 : Int) - 128) + (y3 : Int) - 128) ≤ 1114111) ∧ ¬ (55296 ≤ (64 * (64 * (64 * ((x0 : Int) - 240) + (y1 : Int) - 128) + (y2 : Int) - 128) + (y3 : Int) - 128) ∧ (64 * (64 * (64 * ((x0 : Int) - 240) + (y1 : Int) - 128) + (y2 : Int) - 128) + (y3 : Int) - 128) ≤ 57343))
      · rw [if_pos c0] at hw; omega
      · rw [if_neg c0] at hw
        by_cases c1 : (64 * (64 * (64 * ((x0 : Int) - 240) + (y1 : Int) - 128) + (y2 : Int) - 128) + (y3 : Int) - 128) < 128
        · rw [if_pos c1] at hw; omega
        · rw [if_neg c1] at hw
          by_cases c2 : (64 * (64 * (64 * ((x0 : Int) - 240) + (y1 : Int) - 128) + (y2 : Int) - 128) + (y3 : Int) - 128) < 2048
          · rw [if_pos c2] at hw; omega
          · rw [if_neg c2] at hw
            by_cases c3 : (64 * (64 * (64 * ((x0 : Int) - 240) + (y1 : Int) - 128) + (y2 : Int) - 128) + (y3 : Int) - 128) < 65536
            · rw [if_pos c3] at hw; omega
            · rw [if_neg c3] at hw; omega
  · rintro h; omega
set_option maxHeartbeats 4000000 in
theorem spec_GetRune (N b o cap i x0 y1 y2 y3 : Nat) (w : World) (hat : i < N) (hcap : N ≤ cap) (hN : cap ≤ 9223372036854775807) (hbl : b < w.heap.size) (hx0 : x0 < 256) (hy1 : y1 < 256) (hy2 : y2 < 256) (hy3 : y3 < 256)
    (c0 : w.cell? ⟨b, o + i, none⟩ = some (.int .u8 x0)) (c1 : i + 1 < N → w.cell? ⟨b, o + (i + 1), none⟩ = some (.int .u8 y1)) (c2 : i + 2 < N → w.cell? ⟨b, o + (i + 2), none⟩ = some (.int .u8 y2)) (c3 : i + 3 < N → w.cell? ⟨b, o + (i + 3), none⟩ = some (.int .u8 y3)) :
    Calls Tryz.prog 173 #[.slice (some ⟨b, o, none⟩) N cap, .int .i64 i] w fun e w' => e = .returned (grV i (grW (N - i) x0 y1 y2 y3)) ∧ Below w.heap.size w w' := by
  by_cases h0 : x0 < 128
  · have GE := Lib.hid (grW_one (N - i) x0 y1 y2 y3 h0)
    have hw : wideN (x0 : Int) = 1 := by unfold wideN runeOk; rw [if_neg (by omega), if_pos (by omega)]
    have hfit : ¬ ((1 : Int) > (N : Int) - i) := by omega
    go_enter Tryz.func173, Tryz.ntmps173
    go_wp2_with fail
    go_loopw [10, 9, 11] (fun j n _ wr => j = .int .i64 1 ∧ n = .int .i64 x0 ∧ Below w.heap.size w wr) (fun _ _ _ _ => 0)
    case atStart => exact ⟨rfl, rfl, Below.refl _ _⟩
    case round =>
      obtain ⟨rfl, rfl, hb⟩ := hrel
      go_wp2_with (go_at_call 229; refine (spec_WideOf _ _).mono ?_; rintro e v ⟨rfl, hb2⟩; rw [hw])
      refine bodyPost_ret (v := .tuple #[.int .i64 ((x0 : Int)), .int .i64 ((i : Int) + 1), .bool true]) (by simp [results, Tryz.results173, go_sem]) rfl ⟨grV_eq GE.out (by first | rfl | (simp only []; omega)) (by first | rfl | (simp only []; first | omega | (rw [if_neg (by omega)]; omega))) rfl, below_step hb hb2 hb.size⟩
  by_cases k2 : 192 ≤ x0 ∧ x0 ≤ 223
  · have GW := Lib.hid (grW_2 (N - i) x0 y1 y2 y3 h0 k2)
    have hacc := Below.refl w.heap.size w
    have D2 := Lib.hid (show decide ((192 : Int) ≤ (x0 : Int) ∧ (x0 : Int) ≤ 223) = true from by simp; omega)
    have D3 := Lib.hid (show decide ((224 : Int) ≤ (x0 : Int) ∧ (x0 : Int) ≤ 239) = false from by simp; omega)
    have D4 := Lib.hid (show decide ((240 : Int) ≤ (x0 : Int) ∧ (x0 : Int) ≤ 247) = false from by simp; omega)
    by_cases hn : 2 ≤ N - i
    · have hfit : ¬ ((2 : Int) > (N : Int) - i) := by omega
      have d1 := c1 (by omega)
      clear c1 c2 c3
      go_enter Tryz.func173, Tryz.ntmps173
      go_wp2_with (go_at_call 74; refine (spec_l1In _ _ _ _).mono ?_; rintro e v ⟨rfl, hb⟩; replace hacc := below_step hacc hb hacc.size; first | rw [D2.out] | rw [D3.out] | rw [D4.out])
      go_loopw [10, 9, 11] (fun q z _ wr => ∃ (j : Nat) (n : Int), q = .int .i64 j ∧ z = .int .i64 n ∧ ((j = 1 ∧ n = ((x0 : Int) - 192)) ∨ (j = 2 ∧ n = (64 * ((x0 : Int) - 192) + (y1 : Int) - 128) ∧ 128 ≤ y1 ∧ y1 ≤ 191)) ∧ Below w.heap.size w wr) (fun q _ _ _ => 2 - (intOf q).toNat)
      case atStart => exact ⟨1, _, rfl, rfl, Or.inl ⟨rfl, rfl⟩, hacc⟩
      case round =>
        obtain ⟨j, n, rfl, rfl, hcase, hbb⟩ := hrel
        have hbs := hbb.size
        have e1 : wr.cell? ⟨b, o + (i + 1), none⟩ = some (.int .u8 y1) := (hbb.cell (by simpa using hbl)).trans d1
        have hlb : b < wr.heap.size := by omega
        obtain ⟨rfl, rfl⟩ | ⟨rfl, rfl, p1, q1⟩ := hcase
        · by_cases hy : 128 ≤ y1 ∧ y1 ≤ 191
          · have DY := Lib.hid (show decide ((128 : Int) ≤ (y1 : Int) ∧ (y1 : Int) ≤ 191) = true from by simp; omega)
            obtain ⟨hya, hyb⟩ := hy
            go_wp2_with (go_at_call 74; refine (spec_l1In _ _ _ _).mono ?_; rintro e v ⟨rfl, hb2⟩; rw [DY.out])
            go_roundw
            case rel => exact ⟨2, _, by go_num, by go_num, Or.inr (⟨rfl, rfl, hya, hyb⟩), below_step hbb hb2 hbs⟩
            case measure => simp [intOf]
          · have DY := Lib.hid (show decide ((128 : Int) ≤ (y1 : Int) ∧ (y1 : Int) ≤ 191) = false from by simp; omega)
            have GE := Lib.hid (GW.out.trans (if_neg (fun h => hy (by omega))))
            clear hy
            go_wp2_with (go_at_call 74; refine (spec_l1In _ _ _ _).mono ?_; rintro e v ⟨rfl, hb2⟩; rw [DY.out])
            refine bodyPost_ret (v := .tuple #[.int .i64 (0), .int .i64 (0), .bool false]) (by simp [results, Tryz.results173, go_sem]) rfl ⟨grV_eq GE.out (by first | rfl | (simp only []; omega)) (by first | rfl | (simp only []; first | omega | (rw [if_neg (by omega)]; omega))) rfl, below_step hbb hb2 hbs⟩
        · by_cases hw : wideN (64 * ((x0 : Int) - 192) + (y1 : Int) - 128) = 2
          · have GE := Lib.hid (GW.out.trans (if_pos ⟨hn, ⟨by omega, by omega⟩, hw⟩))
            go_wp2_with (go_at_call 229; refine (spec_WideOf _ _).mono ?_; rintro e v ⟨rfl, hb2⟩; rw [hw])
            refine bodyPost_ret (v := .tuple #[.int .i64 ((64 * ((x0 : Int) - 192) + (y1 : Int) - 128)), .int .i64 ((i : Int) + 2), .bool true]) (by simp [results, Tryz.results173, go_sem]) rfl ⟨grV_eq GE.out (by first | rfl | (simp only []; omega)) (by first | rfl | (simp only []; first | omega | (rw [if_neg (by omega)]; omega))) rfl, below_step hbb hb2 hbs⟩
          · have GE := Lib.hid (GW.out.trans (if_neg (fun h => hw (by have := h.2.2; exact this))))
            have hw2 : ((wideN (64 * ((x0 : Int) - 192) + (y1 : Int) - 128) : Nat) : Int) ≠ 2 := by omega
            go_wp2_with (go_at_call 229; refine (spec_WideOf _ _).mono ?_; rintro e v ⟨rfl, hb2⟩)
            refine bodyPost_ret (v := .tuple #[.int .i64 (0), .int .i64 (0), .bool false]) (by simp [results, Tryz.results173, go_sem]) rfl ⟨grV_eq GE.out (by first | rfl | (simp only []; omega)) (by first | rfl | (simp only []; first | omega | (rw [if_neg (by omega)]; omega))) rfl, below_step hbb hb2 hbs⟩
    · have hfit : (2 : Int) > (N : Int) - i := by omega
      have GE := Lib.hid (GW.out.trans (if_neg (fun h => hn h.1)))
      go_enter Tryz.func173, Tryz.ntmps173
      go_wp2_with (go_at_call 74; refine (spec_l1In _ _ _ _).mono ?_; rintro e v ⟨rfl, hb⟩; replace hacc := below_step hacc hb hacc.size; first | rw [D2.out] | rw [D3.out] | rw [D4.out])
      refine bodyPost_ret (v := .tuple #[.int .i64 (0), .int .i64 (0), .bool false]) (by simp [results, Tryz.results173, go_sem]) rfl ⟨grV_eq GE.out (by first | rfl | (simp only []; omega)) (by first | rfl | (simp only []; first | omega | (rw [if_neg (by omega)]; omega))) rfl, hacc⟩
  by_cases k3 : 224 ≤ x0 ∧ x0 ≤ 239
  · have GW := Lib.hid (grW_3 (N - i) x0 y1 y2 y3 h0 k3)
    have hacc := Below.refl w.heap.size w
    have D2 := Lib.hid (show decide ((192 : Int) ≤ (x0 : Int) ∧ (x0 : Int) ≤ 223) = false from by simp; omega)
    have D3 := Lib.hid (show decide ((224 : Int) ≤ (x0 : Int) ∧ (x0 : Int) ≤ 239) = true from by simp; omega)
    have D4 := Lib.hid (show decide ((240 : Int) ≤ (x0 : Int) ∧ (x0 : Int) ≤ 247) = false from by simp; omega)
    by_cases hn : 3 ≤ N - i
    · have hfit : ¬ ((3 : Int) > (N : Int) - i) := by omega
      have d1 := c1 (by omega)
      have d2 := c2 (by omega)
      clear c1 c2 c3
      go_enter Tryz.func173, Tryz.ntmps173
      go_wp2_with (go_at_call 74; refine (spec_l1In _ _ _ _).mono ?_; rintro e v ⟨rfl, hb⟩; replace hacc := below_step hacc hb hacc.size; first | rw [D2.out] | rw [D3.out] | rw [D4.out])
      go_loopw [10, 9, 11] (fun q z _ wr => ∃ (j : Nat) (n : Int), q = .int .i64 j ∧ z = .int .i64 n ∧ ((j = 1 ∧ n = ((x0 : Int) - 224)) ∨ (j = 2 ∧ n = (64 * ((x0 : Int) - 224) + (y1 : Int) - 128) ∧ 128 ≤ y1 ∧ y1 ≤ 191) ∨ (j = 3 ∧ n = (64 * (64 * ((x0 : Int) - 224) + (y1 : Int) - 128) + (y2 : Int) - 128) ∧ 128 ≤ y1 ∧ y1 ≤ 191 ∧ 128 ≤ y2 ∧ y2 ≤ 191)) ∧ Below w.heap.size w wr) (fun q _ _ _ => 3 - (intOf q).toNat)
      case atStart => exact ⟨1, _, rfl, rfl, Or.inl ⟨rfl, rfl⟩, hacc⟩
      case round =>
        obtain ⟨j, n, rfl, rfl, hcase, hbb⟩ := hrel
        have hbs := hbb.size
        have e1 : wr.cell? ⟨b, o + (i + 1), none⟩ = some (.int .u8 y1) := (hbb.cell (by simpa using hbl)).trans d1
        have e2 : wr.cell? ⟨b, o + (i + 2), none⟩ = some (.int .u8 y2) := (hbb.cell (by simpa using hbl)).trans d2
        have hlb : b < wr.heap.size := by omega
        obtain ⟨rfl, rfl⟩ | ⟨rfl, rfl, p1, q1⟩ | ⟨rfl, rfl, p1, q1, p2, q2⟩ := hcase
        · by_cases hy : 128 ≤ y1 ∧ y1 ≤ 191
          · have DY := Lib.hid (show decide ((128 : Int) ≤ (y1 : Int) ∧ (y1 : Int) ≤ 191) = true from by simp; omega)
            obtain ⟨hya, hyb⟩ := hy
            go_wp2_with (go_at_call 74; refine (spec_l1In _ _ _ _).mono ?_; rintro e v ⟨rfl, hb2⟩; rw [DY.out])
            go_roundw
            case rel => exact ⟨2, _, by go_num, by go_num, Or.inr (Or.inl ⟨rfl, rfl, hya, hyb⟩), below_step hbb hb2 hbs⟩
            case measure => simp [intOf]
          · have DY := Lib.hid (show decide ((128 : Int) ≤ (y1 : Int) ∧ (y1 : Int) ≤ 191) = false from by simp; omega)
            have GE := Lib.hid (GW.out.trans (if_neg (fun h => hy (by omega))))
            clear hy
            go_wp2_with (go_at_call 74; refine (spec_l1In _ _ _ _).mono ?_; rintro e v ⟨rfl, hb2⟩; rw [DY.out])
            refine bodyPost_ret (v := .tuple #[.int .i64 (0), .int .i64 (0), .bool false]) (by simp [results, Tryz.results173, go_sem]) rfl ⟨grV_eq GE.out (by first | rfl | (simp only []; omega)) (by first | rfl | (simp only []; first | omega | (rw [if_neg (by omega)]; omega))) rfl, below_step hbb hb2 hbs⟩
        · by_cases hy : 128 ≤ y2 ∧ y2 ≤ 191
          · have DY := Lib.hid (show decide ((128 : Int) ≤ (y2 : Int) ∧ (y2 : Int) ≤ 191) = true from by simp; omega)
            obtain ⟨hya, hyb⟩ := hy
            go_wp2_with (go_at_call 74; refine (spec_l1In _ _ _ _).mono ?_; rintro e v ⟨rfl, hb2⟩; rw [DY.out])
            go_roundw
            case rel => exact ⟨3, _, by go_num, by go_num, Or.inr (Or.inr (⟨rfl, rfl, p1, q1, hya, hyb⟩)), below_step hbb hb2 hbs⟩
            case measure => simp [intOf]
          · have DY := Lib.hid (show decide ((128 : Int) ≤ (y2 : Int) ∧ (y2 : Int) ≤ 191) = false from by simp; omega)
            have GE := Lib.hid (GW.out.trans (if_neg (fun h => hy (by omega))))
            clear hy
            go_wp2_with (go_at_call 74; refine (spec_l1In _ _ _ _).mono ?_; rintro e v ⟨rfl, hb2⟩; rw [DY.out])
            refine bodyPost_ret (v := .tuple #[.int .i64 (0), .int .i64 (0), .bool false]) (by simp [results, Tryz.results173, go_sem]) rfl ⟨grV_eq GE.out (by first | rfl | (simp only []; omega)) (by first | rfl | (simp only []; first | omega | (rw [if_neg (by omega)]; omega))) rfl, below_step hbb hb2 hbs⟩
        · by_cases hw : wideN (64 * (64 * ((x0 : Int) - 224) + (y1 : Int) - 128) + (y2 : Int) - 128) = 3
          · have GE := Lib.hid (GW.out.trans (if_pos ⟨hn, ⟨by omega, by omega⟩, ⟨by omega, by omega⟩, hw⟩))
            go_wp2_with (go_at_call 229; refine (spec_WideOf _ _).mono ?_; rintro e v ⟨rfl, hb2⟩; rw [hw])
            refine bodyPost_ret (v := .tuple #[.int .i64 ((64 * (64 * ((x0 : Int) - 224) + (y1 : Int) - 128) + (y2 : Int) - 128)), .int .i64 ((i : Int) + 3), .bool true]) (by simp [results, Tryz.results173, go_sem]) rfl ⟨grV_eq GE.out (by first | rfl | (simp only []; omega)) (by first | rfl | (simp only []; first | omega | (rw [if_neg (by omega)]; omega))) rfl, below_step hbb hb2 hbs⟩
          · have GE := Lib.hid (GW.out.trans (if_neg (fun h => hw (by have := h.2.2.2; exact this))))
            have hw2 : ((wideN (64 * (64 * ((x0 : Int) - 224) + (y1 : Int) - 128) + (y2 : Int) - 128) : Nat) : Int) ≠ 3 := by omega
            go_wp2_with (go_at_call 229; refine (spec_WideOf _ _).mono ?_; rintro e v ⟨rfl, hb2⟩)
            refine bodyPost_ret (v := .tuple #[.int .i64 (0), .int .i64 (0), .bool false]) (by simp [results, Tryz.results173, go_sem]) rfl ⟨grV_eq GE.out (by first | rfl | (simp only []; omega)) (by first | rfl | (simp only []; first | omega | (rw [if_neg (by omega)]; omega))) rfl, below_step hbb hb2 hbs⟩
    · have hfit : (3 : Int) > (N : Int) - i := by omega
      have GE := Lib.hid (GW.out.trans (if_neg (fun h => hn h.1)))
      go_enter Tryz.func173, Tryz.ntmps173
      go_wp2_with (go_at_call 74; refine (spec_l1In _ _ _ _).mono ?_; rintro e v ⟨rfl, hb⟩; replace hacc := below_step hacc hb hacc.size; first | rw [D2.out] | rw [D3.out] | rw [D4.out])
      refine bodyPost_ret (v := .tuple #[.int .i64 (0), .int .i64 (0), .bool false]) (by simp [results, Tryz.results173, go_sem]) rfl ⟨grV_eq GE.out (by first | rfl | (simp only []; omega)) (by first | rfl | (simp only []; first | omega | (rw [if_neg (by omega)]; omega))) rfl, hacc⟩
  by_cases k4 : 240 ≤ x0 ∧ x0 ≤ 247
  · have GW := Lib.hid (grW_4 (N - i) x0 y1 y2 y3 h0 k4)
    have hacc := Below.refl w.heap.size w
    have D2 := Lib.hid (show decide ((192 : Int) ≤ (x0 : Int) ∧ (x0 : Int) ≤ 223) = false from by simp; omega)
    have D3 := Lib.hid (show decide ((224 : Int) ≤ (x0 : Int) ∧ (x0 : Int) ≤ 239) = false from by simp; omega)
    have D4 := Lib.hid (show decide ((240 : Int) ≤ (x0 : Int) ∧ (x0 : Int) ≤ 247) = true from by simp; omega)
    by_cases hn : 4 ≤ N - i
    · have hfit : ¬ ((4 : Int) > (N : Int) - i) := by omega
      have d1 := c1 (by omega)
      have d2 := c2 (by omega)
      have d3 := c3 (by omega)
      clear c1 c2 c3
      go_enter Tryz.func173, Tryz.ntmps173
      go_wp2_with (go_at_call 74; refine (spec_l1In _ _ _ _).mono ?_; rintro e v ⟨rfl, hb⟩; replace hacc := below_step hacc hb hacc.size; first | rw [D2.out] | rw [D3.out] | rw [D4.out])
      go_loopw [10, 9, 11] (fun q z _ wr => ∃ (j : Nat) (n : Int), q = .int .i64 j ∧ z = .int .i64 n ∧ ((j = 1 ∧ n = ((x0 : Int) - 240)) ∨ (j = 2 ∧ n = (64 * ((x0 : Int) - 240) + (y1 : Int) - 128) ∧ 128 ≤ y1 ∧ y1 ≤ 191) ∨ (j = 3 ∧ n = (64 * (64 * ((x0 : Int) - 240) + (y1 : Int) - 128) + (y2 : Int) - 128) ∧ 128 ≤ y1 ∧ y1 ≤ 191 ∧ 128 ≤ y2 ∧ y2 ≤ 191) ∨ (j = 4 ∧ n = (64 * (64 * (64 * ((x0 : Int) - 240) + (y1 : Int) - 128) + (y2 : Int) - 128) + (y3 : Int) - 128) ∧ 128 ≤ y1 ∧ y1 ≤ 191 ∧ 128 ≤ y2 ∧ y2 ≤ 191 ∧ 128 ≤ y3 ∧ y3 ≤ 191)) ∧ Below w.heap.size w wr) (fun q _ _ _ => 4 - (intOf q).toNat)
      case atStart => exact ⟨1, _, rfl, rfl, Or.inl ⟨rfl, rfl⟩, hacc⟩
      case round =>
        obtain ⟨j, n, rfl, rfl, hcase, hbb⟩ := hrel
        have hbs := hbb.size
        have e1 : wr.cell? ⟨b, o + (i + 1), none⟩ = some (.int .u8 y1) := (hbb.cell (by simpa using hbl)).trans d1
        have e2 : wr.cell? ⟨b, o + (i + 2), none⟩ = some (.int .u8 y2) := (hbb.cell (by simpa using hbl)).trans d2
        have e3 : wr.cell? ⟨b, o + (i + 3), none⟩ = some (.int .u8 y3) := (hbb.cell (by simpa using hbl)).trans d3
        have hlb : b < wr.heap.size := by omega
        obtain ⟨rfl, rfl⟩ | ⟨rfl, rfl, p1, q1⟩ | ⟨rfl, rfl, p1, q1, p2, q2⟩ | ⟨rfl, rfl, p1, q1, p2, q2, p3, q3⟩ := hcase
        · by_cases hy : 128 ≤ y1 ∧ y1 ≤ 191
          · have DY := Lib.hid (show decide ((128 : Int) ≤ (y1 : Int) ∧ (y1 : Int) ≤ 191) = true from by simp; omega)
            obtain ⟨hya, hyb⟩ := hy
            go_wp2_with (go_at_call 74; refine (spec_l1In _ _ _ _).mono ?_; rintro e v ⟨rfl, hb2⟩; rw [DY.out])
            go_roundw
            case rel => exact ⟨2, _, by go_num, by go_num, Or.inr (Or.inl ⟨rfl, rfl, hya, hyb⟩), below_step hbb hb2 hbs⟩
            case measure => simp [intOf]
          · have DY := Lib.hid (show decide ((128 : Int) ≤ (y1 : Int) ∧ (y1 : Int) ≤ 191) = false from by simp; omega)
            have GE := Lib.hid (GW.out.trans (if_neg (fun h => hy (by omega))))
            clear hy
            go_wp2_with (go_at_call 74; refine (spec_l1In _ _ _ _).mono ?_; rintro e v ⟨rfl, hb2⟩; rw [DY.out])
            refine bodyPost_ret (v := .tuple #[.int .i64 (0), .int .i64 (0), .bool false]) (by simp [results, Tryz.results173, go_sem]) rfl ⟨grV_eq GE.out (by first | rfl | (simp only []; omega)) (by first | rfl | (simp only []; first | omega | (rw [if_neg (by omega)]; omega))) rfl, below_step hbb hb2 hbs⟩
        · by_cases hy : 128 ≤ y2 ∧ y2 ≤ 191
          · have DY := Lib.hid (show decide ((128 : Int) ≤ (y2 : Int) ∧ (y2 : Int) ≤ 191) = true from by simp; omega)
            obtain ⟨hya, hyb⟩ := hy
            go_wp2_with (go_at_call 74; refine (spec_l1In _ _ _ _).mono ?_; rintro e v ⟨rfl, hb2⟩; rw [DY.out])
            go_roundw
            case rel => exact ⟨3, _, by go_num, by go_num, Or.inr (Or.inr (Or.inl ⟨rfl, rfl, p1, q1, hya, hyb⟩)), below_step hbb hb2 hbs⟩
            case measure => simp [intOf]
          · have DY := Lib.hid (show decide ((128 : Int) ≤ (y2 : Int) ∧ (y2 : Int) ≤ 191) = false from by simp; omega)
            have GE := Lib.hid (GW.out.trans (if_neg (fun h => hy (by omega))))
            clear hy
            go_wp2_with (go_at_call 74; refine (spec_l1In _ _ _ _).mono ?_; rintro e v ⟨rfl, hb2⟩; rw [DY.out])
            refine bodyPost_ret (v := .tuple #[.int .i64 (0), .int .i64 (0), .bool false]) (by simp [results, Tryz.results173, go_sem]) rfl ⟨grV_eq GE.out (by first | rfl | (simp only []; omega)) (by first | rfl | (simp only []; first | omega | (rw [if_neg (by omega)]; omega))) rfl, below_step hbb hb2 hbs⟩
        · by_cases hy : 128 ≤ y3 ∧ y3 ≤ 191
          · have DY := Lib.hid (show decide ((128 : Int) ≤ (y3 : Int) ∧ (y3 : Int) ≤ 191) = true from by simp; omega)
            obtain ⟨hya, hyb⟩ := hy
            go_wp2_with (go_at_call 74; refine (spec_l1In _ _ _ _).mono ?_; rintro e v ⟨rfl, hb2⟩; rw [DY.out])
            go_roundw
            case rel => exact ⟨4, _, by go_num, by go_num, Or.inr (Or.inr (Or.inr (⟨rfl, rfl, p1, q1, p2, q2, hya, hyb⟩))), below_step hbb hb2 hbs⟩
            case measure => simp [intOf]
          · have DY := Lib.hid (show decide ((128 : Int) ≤ (y3 : Int) ∧ (y3 : Int) ≤ 191) = false from by simp; omega)
            have GE := Lib.hid (GW.out.trans (if_neg (fun h => hy (by omega))))
            clear hy
            go_wp2_with (go_at_call 74; refine (spec_l1In _ _ _ _).mono ?_; rintro e v ⟨rfl, hb2⟩; rw [DY.out])
            refine bodyPost_ret (v := .tuple #[.int .i64 (0), .int .i64 (0), .bool false]) (by simp [results, Tryz.results173, go_sem]) rfl ⟨grV_eq GE.out (by first | rfl | (simp only []; omega)) (by first | rfl | (simp only []; first | omega | (rw [if_neg (by omega)]; omega))) rfl, below_step hbb hb2 hbs⟩
        · by_cases hw : wideN (64 * (64 * (64 * ((x0 : Int) - 240) + (y1 : Int) - 128) + (y2 : Int) - 128) + (y3 : Int) - 128) = 4
          · have GE := Lib.hid (GW.out.trans (if_pos ⟨hn, ⟨by omega, by omega⟩, ⟨by omega, by omega⟩, ⟨by omega, by omega⟩, hw⟩))
            go_wp2_with (go_at_call 229; refine (spec_WideOf _ _).mono ?_; rintro e v ⟨rfl, hb2⟩; rw [hw])
            refine bodyPost_ret (v := .tuple #[.int .i64 ((64 * (64 * (64 * ((x0 : Int) - 240) + (y1 : Int) - 128) + (y2 : Int) - 128) + (y3 : Int) - 128)), .int .i64 ((i : Int) + 4), .bool true]) (by simp [results, Tryz.results173, go_sem]) rfl ⟨grV_eq GE.out (by first | rfl | (simp only []; omega)) (by first | rfl | (simp only []; first | omega | (rw [if_neg (by omega)]; omega))) rfl, below_step hbb hb2 hbs⟩
          · have GE := Lib.hid (GW.out.trans (if_neg (fun h => hw (by have := h.2.2.2.2; exact this))))
            have hw2 : ((wideN (64 * (64 * (64 * ((x0 : Int) - 240) + (y1 : Int) - 128) + (y2 : Int) - 128) + (y3 : Int) - 128) : Nat) : Int) ≠ 4 := by omega
            go_wp2_with (go_at_call 229; refine (spec_WideOf _ _).mono ?_; rintro e v ⟨rfl, hb2⟩)
            refine bodyPost_ret (v := .tuple #[.int .i64 (0), .int .i64 (0), .bool false]) (by simp [results, Tryz.results173, go_sem]) rfl ⟨grV_eq GE.out (by first | rfl | (simp only []; omega)) (by first | rfl | (simp only []; first | omega | (rw [if_neg (by omega)]; omega))) rfl, below_step hbb hb2 hbs⟩
    · have hfit : (4 : Int) > (N : Int) - i := by omega
      have GE := Lib.hid (GW.out.trans (if_neg (fun h => hn h.1)))
      go_enter Tryz.func173, Tryz.ntmps173
      go_wp2_with (go_at_call 74; refine (spec_l1In _ _ _ _).mono ?_; rintro e v ⟨rfl, hb⟩; replace hacc := below_step hacc hb hacc.size; first | rw [D2.out] | rw [D3.out] | rw [D4.out])
      refine bodyPost_ret (v := .tuple #[.int .i64 (0), .int .i64 (0), .bool false]) (by simp [results, Tryz.results173, go_sem]) rfl ⟨grV_eq GE.out (by first | rfl | (simp only []; omega)) (by first | rfl | (simp only []; first | omega | (rw [if_neg (by omega)]; omega))) rfl, hacc⟩
  have GE := Lib.hid (grW_bad (N - i) x0 y1 y2 y3 h0 k2 k3 k4)
  have hacc := Below.refl w.heap.size w
  have D2 := Lib.hid (show decide ((192 : Int) ≤ (x0 : Int) ∧ (x0 : Int) ≤ 223) = false from by simp; omega)
  have D3 := Lib.hid (show decide ((224 : Int) ≤ (x0 : Int) ∧ (x0 : Int) ≤ 239) = false from by simp; omega)
  have D4 := Lib.hid (show decide ((240 : Int) ≤ (x0 : Int) ∧ (x0 : Int) ≤ 247) = false from by simp; omega)
  go_enter Tryz.func173, Tryz.ntmps173
  go_wp2_with (go_at_call 74; refine (spec_l1In _ _ _ _).mono ?_; rintro e v ⟨rfl, hb⟩; replace hacc := below_step hacc hb hacc.size; first | rw [D2.out] | rw [D3.out] | rw [D4.out])
  refine bodyPost_ret (v := .tuple #[.int .i64 (0), .int .i64 (0), .bool false]) (by simp [results, Tryz.results173, go_sem]) rfl ⟨grV_eq GE.out (by first | rfl | (simp only []; omega)) (by first | rfl | (simp only []; first | omega | (rw [if_neg (by omega)]; omega))) rfl, hacc⟩
theorem bytesWorld_below (w : World) (e : TypeId) (s : ByteArray) : Below w.heap.size w (Lib.bytesWorld w e s) := ⟨rfl, rfl, rfl, by rw [Lib.bytesWorld_size]; omega, fun j hj => Lib.bytesWorld_at_old w e s j hj⟩
theorem grL_at (l : List UInt8) (i : Nat) : grL (l.drop i) = grW (l.length - i) (l.getD i 0).toNat (l.getD (i + 1) 0).toNat (l.getD (i + 2) 0).toNat (l.getD (i + 3) 0).toNat := by
  unfold grL
  simp [List.getD_eq_getElem?_getD, List.getElem?_drop, List.length_drop]
set_option maxHeartbeats 2000000 in
theorem spec_TextOk (s : ByteArray) (w : World) (hs : s.size ≤ 4611686018427387903) :
    Calls Tryz.prog 109 #[.string s] w fun e w' => e = .returned (.bool (Lib.validD s.data.toList)) ∧ Below w.heap.size w w' := by
  have hcv := Lib.run_convert_string_bytes (P := Tryz.prog) w 9 22 5 s Tryz.underlying9 Tryz.underlying22 Tryz.underlying5
  have hge := grownCap_ge w s.size 0 5
  have hle := grownCap_le_maxLen w s.size 0 5 (by unfold maxLen; omega)
  unfold maxLen at hle
  generalize grownCap w s.size 0 5 = cap at hcv hge hle
  have HB := Lib.hid (bytesWorld_below w 5 s)
  have hsz := Lib.bytesWorld_size w 5 s
  have HC := Lib.hid (fun j (hj : j < s.size) => Lib.bytesWorld_cell w 5 s j hj)
  generalize Lib.bytesWorld w 5 s = W1 at hcv HB hsz HC
  go_enter Tryz.func109, Tryz.ntmps109
  go_wp2_with fail
  go_loopw [4, 14, 5, 6, 7] (fun i _ _ _ _ wr => ∃ (j : Nat), j ≤ s.size ∧ i = .int .i64 j ∧ Hid (Lib.validD s.data.toList = Lib.validD (s.data.toList.drop j)) ∧ Below W1.heap.size W1 wr) (fun i _ _ _ _ _ => s.size - (intOf i).toNat)
  case atStart => exact ⟨0, Nat.zero_le _, rfl, rfl, Below.refl _ _⟩
  case round =>
    obtain ⟨j, hj, rfl, HV, hb⟩ := hrel
    have hbs := hb.size
    have HBB := Lib.hid (HB.out.trans (hb.mono (by omega)))
    have HLEN := Lib.hid (Lib.size_eq s)
    by_cases hlt : j < s.size
    · have hne : s.data.toList.drop j ≠ [] := by
        intro e
        have := congrArg List.length e
        simp only [List.length_drop, List.length_nil] at this; have := HLEN.out; omega
      have HG := Lib.hid (validD_gr _ hne)
      have HA := Lib.hid (grL_at s.data.toList j)
      have HL := Lib.hid (grL_cases _ hne)
      have cell : ∀ k, k < s.size → wr.cell? ⟨w.heap.size, 0 + k, none⟩ = some (.int .u8 (s.data.toList.getD k 0).toNat) := fun k hk => by rw [Nat.zero_add]; exact (hb.cell (by show w.heap.size < _; omega)).trans (HC.out k hk)
      have HK := Lib.hid cell; clear cell
      go_wp2_with fail
      refine (spec_GetRune s.size w.heap.size 0 cap j (s.data.toList.getD j 0).toNat (s.data.toList.getD (j + 1) 0).toNat (s.data.toList.getD (j + 2) 0).toNat (s.data.toList.getD (j + 3) 0).toNat wr hlt hge hle (by omega) (UInt8.toNat_lt _) (UInt8.toNat_lt _) (UInt8.toNat_lt _) (UInt8.toNat_lt _) (HK.out j hlt) (fun h => HK.out _ h) (fun h => HK.out _ h) (fun h => HK.out _ h)).mono ?_
      rw [show s.size - j = s.data.toList.length - j from by rw [HLEN.out], ← HA.out]
      rintro e w3 ⟨rfl, hb3⟩
      by_cases hz : (grL (s.data.toList.drop j)).2 = 0
      · have HE := Lib.hid (show Lib.validD s.data.toList = false from HV.out.trans (HG.out.trans (if_pos hz)))
        have hd : decide ((grL (s.data.toList.drop j)).2 ≠ 0) = false := decide_eq_false (fun h => h hz)
        rw [grV, hd]
        clear HV HG HL
        go_wp2_with fail
        go_ret
        exact ⟨by rw [HE.out]; rfl, HBB.out.trans (hb3.mono HBB.out.size)⟩
      · have HE := Lib.hid (show Lib.validD s.data.toList = Lib.validD (s.data.toList.drop (j + (grL (s.data.toList.drop j)).2)) from HV.out.trans (HG.out.trans ((if_neg hz).trans (by rw [List.drop_drop]))))
        have hd : decide ((grL (s.data.toList.drop j)).2 ≠ 0) = true := decide_eq_true hz
        have hk : (grL (s.data.toList.drop j)).2 ≤ s.size - j := by
          rcases HL.out with h | h
          · exact absurd h.1 hz
          · have := h.2.2.1; simp only [List.length_drop] at this; have := HLEN.out; omega
        have hif : (if (grL (s.data.toList.drop j)).2 = 0 then 0 else j + (grL (s.data.toList.drop j)).2) = j + (grL (s.data.toList.drop j)).2 := if_neg hz
        rw [grV, hd, hif]
        generalize grL (s.data.toList.drop j) = g at *
        clear HV HG HL hif
        go_wp2_with fail
        go_roundw
        case rel => exact ⟨j + g.2, by omega, by go_num, HE.out, hb.trans (hb3.mono hbs)⟩
        case measure => simp [intOf]; omega
    · have hjj : s.size = j := by omega
      have HE := Lib.hid (show Lib.validD s.data.toList = true from by rw [HV.out, List.drop_eq_nil_of_le (by have := HLEN.out; omega)]; rfl)
      go_wp2_with fail
      go_ret
      exact ⟨by rw [HE.out]; rfl, HBB.out⟩
def UtfBelow (B : Nat) (w : World) : Prop := ∀ w', Below B w w' → Lib.Utf8Tabs (Tryz.laysValid_ren.g 3) (Tryz.laysValid_ren.g 4) w'
theorem UtfBelow.step {B : Nat} {w w' : World} (h : UtfBelow B w) (hb : Below B w w') : UtfBelow B w' := fun v hv => h v (hb.trans hv)
theorem impl_TextOk (s : ByteArray) (w : World) (hs : s.size ≤ 4611686018427387903) (hT : Lib.Utf8Tabs (Tryz.laysValid_ren.g 3) (Tryz.laysValid_ren.g 4) w) :
    Calls Tryz.prog 143 #[.string s] w fun e w' => e = .returned (.bool (Lib.validD s.data.toList)) ∧ Below w.heap.size w w' := by
  have cV : Calls Tryz.prog 212 #[.string s] w _ := Any.utf8_ValidString Tryz.laysValid s w (by omega) hT
  generalize Lib.validD s.data.toList = V at cV ⊢
  go_enter Tryz.func143, Tryz.ntmps143
  go_wp2_with (go_at_call 212; refine cV.mono ?_; rintro e w' ⟨rfl, hb⟩)
  go_ret
  exact ⟨rfl, hb⟩
theorem dec_head (u : Nat) : ∃ d r, d < 10 ∧ Lib.decDigits u = UInt8.ofNat (48 + d) :: r := by
  induction u using Nat.strongRecOn with
  | ind u ih =>
    by_cases h : u < 10
    · exact ⟨u, [], h, Lib.decDigits_one h⟩
    · obtain ⟨d, r, hd, he⟩ := ih (u / 10) (by omega)
      rw [Lib.decDigits, dif_neg h, he]
      exact ⟨d, _, hd, rfl⟩
theorem dec_noneg (u : Nat) : Lib.hasPrefix (Lib.decDigits u) [45] = false := by
  obtain ⟨d, r, hd, he⟩ := dec_head u
  rw [he]
  have : (45 == UInt8.ofNat (48 + d)) = false := by
    obtain rfl | rfl | rfl | rfl | rfl | rfl | rfl | rfl | rfl | rfl : d = 0 ∨ d = 1 ∨ d = 2 ∨ d = 3 ∨ d = 4 ∨ d = 5 ∨ d = 6 ∨ d = 7 ∨ d = 8 ∨ d = 9 := by omega
    all_goals rfl
  show ((45 == UInt8.ofNat (48 + d)) && _) = false
  rw [this]; rfl
theorem digits_trim (n : Int) : (Lib.trimPrefix (numT n).data.toList (⟨#[45]⟩ : ByteArray).data.toList).length = digN n := by
  unfold numT Lib.trimPrefix Lib.itoa digN
  by_cases h : n < 0
  · rw [if_pos h]
    simp [Lib.hasPrefix, Lib.decDigits_length]
  · rw [if_neg h]
    have e : n.natAbs = n.toNat := by omega
    rw [e]
    have hd : Lib.hasPrefix (⟨(Lib.decDigits n.toNat).toArray⟩ : ByteArray).data.toList (⟨#[45]⟩ : ByteArray).data.toList = false := dec_noneg _
    rw [hd]
    simp [Lib.decDigits_length]
theorem impl_Digits (n : Int) (w : World) (hn : I64 n) (htab : Lib.TabIs Tryz.prog w "internal/strconv.uint64pow10" .u64 Lib.pow10Tab) :
    Calls Tryz.prog 213 #[.int .i64 n] w fun e w' => e = .returned (.int .i64 (digN n)) ∧ Below w.heap.size w w' := by
  have HD := Lib.hid (digits_trim n)
  have HN := Lib.hid (digN_le n hn)
  go_enter Tryz.func213, Tryz.ntmps213
  go_wp2_with fail
  refine (impl_NumText n _ hn htab).mono ?_
  rintro e w2 ⟨rfl, hb2⟩
  go_wp2_with fail
  refine (Tryz.strings_TrimPrefix _ _ _).mono ?_
  rintro e w3 ⟨rfl, rfl⟩
  have hz : (⟨(Lib.trimPrefix (numT n).data.toList (⟨#[45]⟩ : ByteArray).data.toList).toArray⟩ : ByteArray).size = digN n := by
    rw [← HD.out]; simp [ByteArray.size]
  generalize (⟨(Lib.trimPrefix (numT n).data.toList (⟨#[45]⟩ : ByteArray).data.toList).toArray⟩ : ByteArray) = q at *
  have hN := HN.out
  go_wp2_with fail
  go_ret
  exact ⟨by rw [← hz]; rfl, hb2⟩
def decOk (n x : Int) : Prop := (x = 0 ∧ -1000000000000000 ≤ n ∧ n ≤ 1000000000000000) ∨ (x ≠ 0 ∧ (-16 ≤ x ∧ x ≤ -1) ∧ digN n ≤ 17 ∧ n.tmod 10 ≠ 0)
instance (n x : Int) : Decidable (decOk n x) := by unfold decOk; exact inferInstance
def fltOk (m e : Int) : Prop := (m = 0 ∧ e = 0) ∨ (m ≠ 0 ∧ (-65535 ≤ m ∧ m ≤ 65535) ∧ m.tmod 2 ≠ 0 ∧ -16 ≤ e ∧ (e ≤ 30 ∨ (e ≤ 46 ∧ -65535 ≤ m * 2 ^ (e - 30).toNat ∧ m * 2 ^ (e - 30).toNat ≤ 65535)))
instance (m e : Int) : Decidable (fltOk m e) := by unfold fltOk; exact inferInstance
theorem fltOk_big {m e : Int} (k : Nat) (he : e = 30 + k) (hk : 1 ≤ k ∧ k ≤ 16) (h0 : m ≠ 0) (h1 : -65535 ≤ m ∧ m ≤ 65535) (h2 : m.tmod 2 ≠ 0) : decide (fltOk m e) = decide (-65535 ≤ m * 2 ^ k ∧ m * 2 ^ k ≤ 65535) := by
  have e1 : (e - 30).toNat = k := by omega
  apply decide_eq_decide.2
  unfold fltOk
  rw [e1]
  constructor
  · rintro (h | ⟨_, _, _, _, h | h⟩)
    · exact absurd h.1 h0
    · omega
    · exact h.2
  · intro h
    exact Or.inr ⟨h0, h1, h2, by omega, Or.inr ⟨by omega, h⟩⟩
abbrev cF (m e : Int) : Array Value := #[Value.int IntKind.i64 m, Value.int IntKind.i64 e]
set_option maxHeartbeats 2000000 in
theorem impl_DecOk (n x : Int) (w : World) (hn : I64 n) (hx : I64 x) (htab : Lib.TabBelow Tryz.prog w.heap.size w "internal/strconv.uint64pow10" .u64 Lib.pow10Tab) :
    Calls Tryz.prog 145 #[.agg (cF n x)] w fun e w' => e = .returned (.bool (decide (decOk n x))) ∧ Below w.heap.size w w' := by
  have HT := Lib.hid htab; clear htab
  have HN := Lib.hid hn
  obtain ⟨hn0, hn1⟩ := hn
  obtain ⟨hx0, hx1⟩ := hx
  have hl : w.heap.size < (w.alloc (.cells (cF n x) 100)).heap.size := by simp
  have H0 := Lib.hid (below1 w (.cells (cF n x) 100))
  have q0 := Is.new w (cF n x) 100
  by_cases h0 : x = 0
  · subst h0
    have HD := Lib.hid (show decide (decOk n 0) = decide (-1000000000000000 ≤ n ∧ n ≤ 1000000000000000) from decide_eq_decide.2 (by unfold decOk; simp))
    obtain ⟨bb, hbb⟩ : ∃ bb, decide (-1000000000000000 ≤ n ∧ n ≤ 1000000000000000) = bb := ⟨_, rfl⟩
    rw [hbb] at HD
    have HBB := Lib.hid hbb; clear hbb
    go_enter Tryz.func145, Tryz.ntmps145
    go_wp2_with (go_at_call 125; refine (impl_within _ _ _ _).mono ?_; rintro e v ⟨rfl, hb⟩; rw [HBB.out])
    go_ret
    exact ⟨by rw [HD.out]; rfl, below_step H0.out hb (by simp)⟩
  by_cases h1 : -16 ≤ x ∧ x ≤ -1
  · have D1 := Lib.hid (show decide ((-16 : Int) ≤ x ∧ x ≤ -1) = true from decide_eq_true h1)
    have hdl := digN_le n ⟨hn0, hn1⟩
    by_cases h2 : digN n ≤ 17
    · by_cases h3 : n.tmod 10 = 0
      · have HD := Lib.hid (show decide (decOk n x) = false from decide_eq_false (by unfold decOk; rintro (h | h); exact h0 h.1; exact h.2.2.2 h3))
        go_enter Tryz.func145, Tryz.ntmps145
        go_wp2_with (first | (go_at_call 125; refine (impl_within _ _ _ _).mono ?_; rintro e w2 ⟨rfl, hb⟩; rw [D1.out]; have HB2 := Lib.hid (below_step H0.out hb (by simp)); have q2 := q0.below hb hl; obtain ⟨r0, r1⟩ := q2.cells2; have hl2 : w.heap.size < w2.heap.size := Nat.lt_of_lt_of_le hl hb.size; have H2 := Lib.hid hb; clear hb) | (go_at_call 213; refine (impl_Digits n _ HN.out (HT.out _ HB2.out)).mono ?_; rintro e w3 ⟨rfl, hb⟩; have HB3 := Lib.hid (below_step HB2.out hb HB2.out.size); have q3 := q2.below hb hl2; obtain ⟨s0, s1⟩ := q3.cells2; have hl3 : w.heap.size < w3.heap.size := Nat.lt_of_lt_of_le hl2 hb.size; clear hb))
        go_ret
        exact ⟨by rw [HD.out]; rfl, HB3.out⟩
      · have HD := Lib.hid (show decide (decOk n x) = true from decide_eq_true (Or.inr ⟨h0, h1, h2, h3⟩))
        go_enter Tryz.func145, Tryz.ntmps145
        go_wp2_with (first | (go_at_call 125; refine (impl_within _ _ _ _).mono ?_; rintro e w2 ⟨rfl, hb⟩; rw [D1.out]; have HB2 := Lib.hid (below_step H0.out hb (by simp)); have q2 := q0.below hb hl; obtain ⟨r0, r1⟩ := q2.cells2; have hl2 : w.heap.size < w2.heap.size := Nat.lt_of_lt_of_le hl hb.size; clear hb) | (go_at_call 213; refine (impl_Digits n _ HN.out (HT.out _ HB2.out)).mono ?_; rintro e w3 ⟨rfl, hb⟩; have HB3 := Lib.hid (below_step HB2.out hb HB2.out.size); have q3 := q2.below hb hl2; obtain ⟨s0, s1⟩ := q3.cells2; have hl3 : w.heap.size < w3.heap.size := Nat.lt_of_lt_of_le hl2 hb.size; clear hb))
        go_ret
        exact ⟨ret_b (by rw [HD.out]; simp [h3]), HB3.out⟩
    · have HD := Lib.hid (show decide (decOk n x) = false from decide_eq_false (by unfold decOk; rintro (h | h); exact h0 h.1; exact h2 h.2.2.1))
      go_enter Tryz.func145, Tryz.ntmps145
      go_wp2_with (first | (go_at_call 125; refine (impl_within _ _ _ _).mono ?_; rintro e w2 ⟨rfl, hb⟩; rw [D1.out]; have HB2 := Lib.hid (below_step H0.out hb (by simp)); have q2 := q0.below hb hl; obtain ⟨r0, r1⟩ := q2.cells2; have hl2 : w.heap.size < w2.heap.size := Nat.lt_of_lt_of_le hl hb.size; clear hb) | (go_at_call 213; refine (impl_Digits n _ HN.out (HT.out _ HB2.out)).mono ?_; rintro e w3 ⟨rfl, hb⟩; have HB3 := Lib.hid (below_step HB2.out hb HB2.out.size); have q3 := q2.below hb hl2; obtain ⟨s0, s1⟩ := q3.cells2; have hl3 : w.heap.size < w3.heap.size := Nat.lt_of_lt_of_le hl2 hb.size; clear hb))
      go_ret
      exact ⟨by rw [HD.out]; rfl, HB3.out⟩
  · have D1 := Lib.hid (show decide ((-16 : Int) ≤ x ∧ x ≤ -1) = false from decide_eq_false h1)
    have HD := Lib.hid (show decide (decOk n x) = false from decide_eq_false (by unfold decOk; rintro (h | h); exact h0 h.1; exact h1 h.2.1))
    go_enter Tryz.func145, Tryz.ntmps145
    go_wp2_with (go_at_call 125; refine (impl_within _ _ _ _).mono ?_; rintro e w2 ⟨rfl, hb⟩; rw [D1.out])
    go_ret
    exact ⟨by rw [HD.out]; rfl, below_step H0.out hb (by simp)⟩
set_option maxHeartbeats 2000000 in
theorem spec_DecOk (n x : Int) (w : World) (hn : I64 n) (hx : I64 x) :
    Calls Tryz.prog 123 #[.agg (cF n x)] w fun e w' => e = .returned (.bool (decide (decOk n x))) ∧ Below w.heap.size w w' := by
  have HN := Lib.hid hn
  obtain ⟨hn0, hn1⟩ := hn
  obtain ⟨hx0, hx1⟩ := hx
  have hl : w.heap.size < (w.alloc (.cells (cF n x) 100)).heap.size := by simp
  have H0 := Lib.hid (below1 w (.cells (cF n x) 100))
  have q0 := Is.new w (cF n x) 100
  by_cases h0 : x = 0
  · subst h0
    have HD := Lib.hid (show decide (decOk n 0) = decide (-1000000000000000 ≤ n ∧ n ≤ 1000000000000000) from decide_eq_decide.2 (by unfold decOk; simp))
    obtain ⟨bb, hbb⟩ : ∃ bb, decide (-1000000000000000 ≤ n ∧ n ≤ 1000000000000000) = bb := ⟨_, rfl⟩
    rw [hbb] at HD
    have D1 := Lib.hid hbb; clear hbb
    go_enter Tryz.func123, Tryz.ntmps123
    go_wp2_with (first | (go_at_call 74; refine (spec_l1In _ _ _ _).mono ?_; rintro e w2 ⟨rfl, hb⟩; rw [D1.out]; have HB2 := Lib.hid (below_step H0.out hb (by simp)); have q2 := q0.below hb hl; obtain ⟨r0, r1⟩ := q2.cells2; have hl2 : w.heap.size < w2.heap.size := Nat.lt_of_lt_of_le hl hb.size; clear hb) | (go_at_call 188; refine (spec_Digits n _ HN.out).mono ?_; rintro e w3 ⟨rfl, hb⟩; have HB3 := Lib.hid (below_step HB2.out hb HB2.out.size); have q3 := q2.below hb hl2; obtain ⟨s0, s1⟩ := q3.cells2; have hl3 : w.heap.size < w3.heap.size := Nat.lt_of_lt_of_le hl2 hb.size; clear hb))
    go_ret
    exact ⟨ret_b (by rw [HD.out]), HB2.out⟩
  by_cases h1 : -16 ≤ x ∧ x ≤ -1
  · have D1 := Lib.hid (show decide ((-16 : Int) ≤ x ∧ x ≤ -1) = true from decide_eq_true h1)
    have hdl := digN_le n ⟨hn0, hn1⟩
    by_cases h3 : n.tmod 10 = 0
    · have HD := Lib.hid (show decide (decOk n x) = false from decide_eq_false (by unfold decOk; rintro (h | h); exact h0 h.1; exact h.2.2.2 h3))
      go_enter Tryz.func123, Tryz.ntmps123
      go_wp2_with (first | (go_at_call 74; refine (spec_l1In _ _ _ _).mono ?_; rintro e w2 ⟨rfl, hb⟩; rw [D1.out]; have HB2 := Lib.hid (below_step H0.out hb (by simp)); have q2 := q0.below hb hl; obtain ⟨r0, r1⟩ := q2.cells2; have hl2 : w.heap.size < w2.heap.size := Nat.lt_of_lt_of_le hl hb.size; clear hb) | (go_at_call 188; refine (spec_Digits n _ HN.out).mono ?_; rintro e w3 ⟨rfl, hb⟩; have HB3 := Lib.hid (below_step HB2.out hb HB2.out.size); have q3 := q2.below hb hl2; obtain ⟨s0, s1⟩ := q3.cells2; have hl3 : w.heap.size < w3.heap.size := Nat.lt_of_lt_of_le hl2 hb.size; clear hb))
      go_ret
      exact ⟨ret_b (by rw [HD.out]), HB2.out⟩
    · by_cases h2 : digN n ≤ 17
      · have HD := Lib.hid (show decide (decOk n x) = true from decide_eq_true (Or.inr ⟨h0, h1, h2, h3⟩))
        go_enter Tryz.func123, Tryz.ntmps123
        go_wp2_with (first | (go_at_call 74; refine (spec_l1In _ _ _ _).mono ?_; rintro e w2 ⟨rfl, hb⟩; rw [D1.out]; have HB2 := Lib.hid (below_step H0.out hb (by simp)); have q2 := q0.below hb hl; obtain ⟨r0, r1⟩ := q2.cells2; have hl2 : w.heap.size < w2.heap.size := Nat.lt_of_lt_of_le hl hb.size; clear hb) | (go_at_call 188; refine (spec_Digits n _ HN.out).mono ?_; rintro e w3 ⟨rfl, hb⟩; have HB3 := Lib.hid (below_step HB2.out hb HB2.out.size); have q3 := q2.below hb hl2; obtain ⟨s0, s1⟩ := q3.cells2; have hl3 : w.heap.size < w3.heap.size := Nat.lt_of_lt_of_le hl2 hb.size; clear hb))
        go_ret
        exact ⟨ret_b (by rw [HD.out]; first | rfl | simp; omega), HB3.out⟩
      · have HD := Lib.hid (show decide (decOk n x) = false from decide_eq_false (by unfold decOk; rintro (h | h); exact h0 h.1; exact h2 h.2.2.1))
        go_enter Tryz.func123, Tryz.ntmps123
        go_wp2_with (first | (go_at_call 74; refine (spec_l1In _ _ _ _).mono ?_; rintro e w2 ⟨rfl, hb⟩; rw [D1.out]; have HB2 := Lib.hid (below_step H0.out hb (by simp)); have q2 := q0.below hb hl; obtain ⟨r0, r1⟩ := q2.cells2; have hl2 : w.heap.size < w2.heap.size := Nat.lt_of_lt_of_le hl hb.size; clear hb) | (go_at_call 188; refine (spec_Digits n _ HN.out).mono ?_; rintro e w3 ⟨rfl, hb⟩; have HB3 := Lib.hid (below_step HB2.out hb HB2.out.size); have q3 := q2.below hb hl2; obtain ⟨s0, s1⟩ := q3.cells2; have hl3 : w.heap.size < w3.heap.size := Nat.lt_of_lt_of_le hl2 hb.size; clear hb))
        go_ret
        exact ⟨ret_b (by rw [HD.out]; first | rfl | simp; omega), HB3.out⟩
  · have D1 := Lib.hid (show decide ((-16 : Int) ≤ x ∧ x ≤ -1) = false from decide_eq_false h1)
    have HD := Lib.hid (show decide (decOk n x) = false from decide_eq_false (by unfold decOk; rintro (h | h); exact h0 h.1; exact h1 h.2.1))
    go_enter Tryz.func123, Tryz.ntmps123
    go_wp2_with (first | (go_at_call 74; refine (spec_l1In _ _ _ _).mono ?_; rintro e w2 ⟨rfl, hb⟩; rw [D1.out]; have HB2 := Lib.hid (below_step H0.out hb (by simp)); have q2 := q0.below hb hl; obtain ⟨r0, r1⟩ := q2.cells2; have hl2 : w.heap.size < w2.heap.size := Nat.lt_of_lt_of_le hl hb.size; clear hb) | (go_at_call 188; refine (spec_Digits n _ HN.out).mono ?_; rintro e w3 ⟨rfl, hb⟩; have HB3 := Lib.hid (below_step HB2.out hb HB2.out.size); have q3 := q2.below hb hl2; obtain ⟨s0, s1⟩ := q3.cells2; have hl3 : w.heap.size < w3.heap.size := Nat.lt_of_lt_of_le hl2 hb.size; clear hb))
    go_ret
    exact ⟨ret_b (by rw [HD.out]), HB2.out⟩
end Go.Proofs.YtggdenkmohnijaaGreatDoor
