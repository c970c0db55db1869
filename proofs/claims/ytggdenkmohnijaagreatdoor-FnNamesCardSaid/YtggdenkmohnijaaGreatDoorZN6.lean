/- Texts of this proof, merged: Rune. No condition beyond what each theorem states. -/
import Derived.Test.YtggdenkmohnijaaGreatDoorZN5
set_option linter.unusedSimpArgs false
set_option linter.unnecessarySimpa false
namespace Go.Proofs.YtggdenkmohnijaaGreatDoor
open Go.ChangeShapes Go.WideShapes Go.ChangeAt Go.RowKit Go.Joins
set_option linter.unusedVariables false
set_option maxRecDepth 100000
def runeOk (n : Int) : Prop := (0 ≤ n ∧ n ≤ 1114111) ∧ ¬ (55296 ≤ n ∧ n ≤ 57343)
instance (n : Int) : Decidable (runeOk n) := by unfold runeOk; exact inferInstance
def wideN (n : Int) : Nat := if ¬ runeOk n then 0 else if n < 128 then 1 else if n < 2048 then 2 else if n < 65536 then 3 else 4
theorem spec_RuneOk (n : Int) (w : World) : Calls Tryz.prog 248 #[.int .i64 n] w fun e w' => e = .returned (.bool (decide (runeOk n))) ∧ Below w.heap.size w w' := by
  by_cases h1 : 0 ≤ n ∧ n ≤ 1114111
  · by_cases h2 : 55296 ≤ n ∧ n ≤ 57343
    · have HD := Lib.hid (show decide (runeOk n) = false from decide_eq_false (fun h => h.2 h2))
      have HA := Lib.hid (show decide (0 ≤ n ∧ n ≤ 1114111) = true from decide_eq_true h1)
      have HB := Lib.hid (show decide (55296 ≤ n ∧ n ≤ 57343) = true from decide_eq_true h2)
      rw [HD.out]
      have hacc := Below.refl w.heap.size w
      go_enter Tryz.func248, Tryz.ntmps248
      go_wp2_with (go_at_call 74; refine (spec_l1In _ _ _ _).mono ?_; rintro e v ⟨rfl, hb⟩; replace hacc := below_step hacc hb hacc.size; first | rw [HA.out] | rw [HB.out])
      go_ret
      exact ⟨rfl, hacc⟩
    · have HD := Lib.hid (show decide (runeOk n) = true from decide_eq_true ⟨h1, h2⟩)
      have HA := Lib.hid (show decide (0 ≤ n ∧ n ≤ 1114111) = true from decide_eq_true h1)
      have HB := Lib.hid (show decide (55296 ≤ n ∧ n ≤ 57343) = false from decide_eq_false h2)
      rw [HD.out]
      have hacc := Below.refl w.heap.size w
      go_enter Tryz.func248, Tryz.ntmps248
      go_wp2_with (go_at_call 74; refine (spec_l1In _ _ _ _).mono ?_; rintro e v ⟨rfl, hb⟩; replace hacc := below_step hacc hb hacc.size; first | rw [HA.out] | rw [HB.out])
      go_ret
      exact ⟨rfl, hacc⟩
  · have HD := Lib.hid (show decide (runeOk n) = false from decide_eq_false (fun h => h1 h.1))
    have HA := Lib.hid (show decide (0 ≤ n ∧ n ≤ 1114111) = false from decide_eq_false h1)
    rw [HD.out]
    have hacc := Below.refl w.heap.size w
    go_enter Tryz.func248, Tryz.ntmps248
    go_wp2_with (go_at_call 74; refine (spec_l1In _ _ _ _).mono ?_; rintro e v ⟨rfl, hb⟩; replace hacc := below_step hacc hb hacc.size; first | rw [HA.out])
    go_ret
    exact ⟨rfl, hacc⟩
theorem spec_WideOf (n : Int) (w : World) : Calls Tryz.prog 229 #[.int .i64 n] w fun e w' => e = .returned (.int .i64 (wideN n)) ∧ Below w.heap.size w w' := by
  by_cases h0 : runeOk n
  · have HD := Lib.hid (show decide (runeOk n) = true from decide_eq_true h0)
    have hr := h0.1
    by_cases h1 : n < 128
    · have HE := Lib.hid (show wideN n = 1 from by unfold wideN; rw [if_neg (by simp [h0]), if_pos h1])
      rw [HE.out]; clear h0
      go_enter Tryz.func229, Tryz.ntmps229
      go_wp2_with (go_at_call 248; refine (spec_RuneOk _ _).mono ?_; rintro e v ⟨rfl, hb⟩; rw [HD.out])
      go_ret
      exact ⟨rfl, by go_grown⟩
    by_cases h2 : n < 2048
    · have HE := Lib.hid (show wideN n = 2 from by unfold wideN; rw [if_neg (by simp [h0]), if_neg h1, if_pos h2])
      rw [HE.out]; clear h0
      go_enter Tryz.func229, Tryz.ntmps229
      go_wp2_with (go_at_call 248; refine (spec_RuneOk _ _).mono ?_; rintro e v ⟨rfl, hb⟩; rw [HD.out])
      go_ret
      exact ⟨rfl, by go_grown⟩
    by_cases h3 : n < 65536
    · have HE := Lib.hid (show wideN n = 3 from by unfold wideN; rw [if_neg (by simp [h0]), if_neg h1, if_neg h2, if_pos h3])
      rw [HE.out]; clear h0
      go_enter Tryz.func229, Tryz.ntmps229
      go_wp2_with (go_at_call 248; refine (spec_RuneOk _ _).mono ?_; rintro e v ⟨rfl, hb⟩; rw [HD.out])
      go_ret
      exact ⟨rfl, by go_grown⟩
    · have HE := Lib.hid (show wideN n = 4 from by unfold wideN; rw [if_neg (by simp [h0]), if_neg h1, if_neg h2, if_neg h3])
      rw [HE.out]; clear h0
      go_enter Tryz.func229, Tryz.ntmps229
      go_wp2_with (go_at_call 248; refine (spec_RuneOk _ _).mono ?_; rintro e v ⟨rfl, hb⟩; rw [HD.out])
      go_ret
      exact ⟨rfl, by go_grown⟩
  · have HD := Lib.hid (show decide (runeOk n) = false from decide_eq_false h0)
    have HE := Lib.hid (show wideN n = 0 from by unfold wideN; rw [if_pos h0])
    rw [HE.out]; clear h0
    go_enter Tryz.func229, Tryz.ntmps229
    go_wp2_with (go_at_call 248; refine (spec_RuneOk _ _).mono ?_; rintro e v ⟨rfl, hb⟩; rw [HD.out])
    go_ret
    exact ⟨rfl, by go_grown⟩
theorem grW_one (n x0 y1 y2 y3 : Nat) (h : x0 < 128) : grW n x0 y1 y2 y3 = (x0, 1) := if_pos h
theorem grW_bad (n x0 y1 y2 y3 : Nat) (h : ¬ x0 < 128) (h1 : ¬ (192 ≤ x0 ∧ x0 ≤ 223)) (h2 : ¬ (224 ≤ x0 ∧ x0 ≤ 239)) (h3 : ¬ (240 ≤ x0 ∧ x0 ≤ 247)) : grW n x0 y1 y2 y3 = (0, 0) := by
  unfold grW; rw [if_neg h, if_neg h1, if_neg h2, if_neg h3]
abbrev grV (at' : Nat) (p : Nat × Nat) : Value := .tuple #[.int .i64 p.1, .int .i64 (if p.2 = 0 then 0 else at' + p.2 : Nat), .bool (decide (p.2 ≠ 0))]
theorem grV_eq {p q : Nat × Nat} {i : Nat} {a b : Int} {c : Bool} (h : p = q) (ha : a = q.1) (hb : b = (if q.2 = 0 then 0 else i + q.2 : Nat)) (hc : c = decide (q.2 ≠ 0)) : Ending.returned (.tuple #[.int .i64 a, .int .i64 b, .bool c]) = .returned (grV i p) := by
  subst h ha hb hc; rfl
theorem grW_2 (n x0 y1 y2 y3 : Nat) (h0 : ¬ x0 < 128) (h : 192 ≤ x0 ∧ x0 ≤ 223) : grW n x0 y1 y2 y3 = if 2 ≤ n ∧ (128 ≤ y1 ∧ y1 ≤ 191) ∧ wideN (64 * ((x0 : Int) - 192) + (y1 : Int) - 128) = 2 then ((64 * ((x0 : Int) - 192) + (y1 : Int) - 128).toNat, 2) else (0, 0) := by
  unfold grW
  rw [if_neg h0]
  rw [if_pos h]
  have e : ∀ (P Q : Prop) [Decidable P] [Decidable Q] (a b : Nat), (P ↔ Q) → (Q → a = b) → (if P then (a, 2) else (0, 0)) = (if Q then (b, 2) else (0, 0)) := by
    intro P Q _ _ a b h1 h2
    by_cases hq : Q
    · rw [if_pos (h1.2 hq), if_pos hq, h2 hq]
    · rw [if_neg (fun hp => hq (h1.1 hp)), if_neg hq]
  refine e _ _ _ _ ?_ ?_
  · constructor
    · rintro h
      refine ⟨by omega, by omega, ?_⟩
      unfold wideN runeOk
      rw [if_neg (by omega), if_neg (by omega), if_pos (by omega)]
    · rintro ⟨h1, hc1, hw⟩
      unfold wideN runeOk at hw
      by_cases c0 : ¬ ((0 ≤ (64 * ((x0 : Int) - 192) + (y1 : Int) - 128) ∧ (64 * ((x0 : Int) - 192) + (y1 : Int) - 128) ≤ 1114111) ∧ ¬ (55296 ≤ (64 * ((x0 : Int) - 192) + (y1 : Int) - 128) ∧ (64 * ((x0 : Int) - 192) + (y1 : Int) - 128) ≤ 57343))
      · rw [if_pos c0] at hw; omega
      · rw [if_neg c0] at hw
        by_cases c1 : (64 * ((x0 : Int) - 192) + (y1 : Int) - 128) < 128
        · rw [if_pos c1] at hw; omega
        · rw [if_neg c1] at hw
          by_cases c2 : (64 * ((x0 : Int) - 192) + (y1 : Int) - 128) < 2048
          · rw [if_pos c2] at hw; omega
          · rw [if_neg c2] at hw
            by_cases c3 : (64 * ((x0 : Int) - 192) + (y1 : Int) - 128) < 65536
            · rw [if_pos c3] at hw; omega
            · rw [if_neg c3] at hw; omega
  · rintro h; omega
theorem grW_3 (n x0 y1 y2 y3 : Nat) (h0 : ¬ x0 < 128) (h : 224 ≤ x0 ∧ x0 ≤ 239) : grW n x0 y1 y2 y3 = if 3 ≤ n ∧ (128 ≤ y1 ∧ y1 ≤ 191) ∧ (128 ≤ y2 ∧ y2 ≤ 191) ∧ wideN (64 * (64 * ((x0 : Int) - 224) + (y1 : Int) - 128) + (y2 : Int) - 128) = 3 then ((64 * (64 * ((x0 : Int) - 224) + (y1 : Int) - 128) + (y2 : Int) - 128).toNat, 3) else (0, 0) := by
  unfold grW
  rw [if_neg h0]
  rw [if_neg (by omega)]
  rw [if_pos h]
  have e : ∀ (P Q : Prop) [Decidable P] [Decidable Q] (a b : Nat), (P ↔ Q) → (Q → a = b) → (if P then (a, 3) else (0, 0)) = (if Q then (b, 3) else (0, 0)) := by
    intro P Q _ _ a b h1 h2
    by_cases hq : Q
    · rw [if_pos (h1.2 hq), if_pos hq, h2 hq]
    · rw [if_neg (fun hp => hq (h1.1 hp)), if_neg hq]
  refine e _ _ _ _ ?_ ?_
  · constructor
    · rintro h
      refine ⟨by omega, by omega, by omega, ?_⟩
      unfold wideN runeOk
      rw [if_neg (by omega), if_neg (by omega), if_neg (by omega), if_pos (by omega)]
    · rintro ⟨h1, hc1, hc2, hw⟩
      unfold wideN runeOk at hw
      by_cases c0 : ¬ ((0 ≤ (64 * (64 * ((x0 : Int) - 224) + (y1 : Int) - 128) + (y2 : Int) - 128) ∧ (64 * (64 * ((x0 : Int) - 224) + (y1 : Int) - 128) + (y2 : Int) - 128) ≤ 1114111) ∧ ¬ (55296 ≤ (64 * (64 * ((x0 : Int) - 224) + (y1 : Int) - 128) + (y2 : Int) - 128) ∧ (64 * (64 * ((x0 : Int) - 224) + (y1 : Int) - 128) + (y2 : Int) - 128) ≤ 57343))
      · rw [if_pos c0] at hw; omega
      · rw [if_neg c0] at hw
        by_cases c1 : (64 * (64 * ((x0 : Int) - 224) + (y1 : Int) - 128) + (y2 : Int) - 128) < 128
        · rw [if_pos c1] at hw; omega
        · rw [if_neg c1] at hw
          by_cases c2 : (64 * (64 * ((x0 : Int) - 224) + (y1 : Int) - 128) + (y2 : Int) - 128) < 2048
          · rw [if_pos c2] at hw; omega
          · rw [if_neg c2] at hw
            by_cases c3 : (64 * (64 * ((x0 : Int) - 224) + (y1 : Int) - 128) + (y2 : Int) - 128) < 65536
            · rw [if_pos c3] at hw; omega
            · rw [if_neg c3] at hw; omega
  · rintro h; omega
theorem grW_4 (n x0 y1 y2 y3 : Nat) (h0 : ¬ x0 < 128) (h : 240 ≤ x0 ∧ x0 ≤ 247) : grW n x0 y1 y2 y3 = if 4 ≤ n ∧ (128 ≤ y1 ∧ y1 ≤ 191) ∧ (128 ≤ y2 ∧ y2 ≤ 191) ∧ (128 ≤ y3 ∧ y3 ≤ 191) ∧ wideN (64 * (64 * (64 * ((x0 : Int) - 240) + (y1 : Int) - 128) + (y2 : Int) - 128) + (y3 : Int) - 128) = 4 then ((64 * (64 * (64 * ((x0 : Int) - 240) + (y1 : Int) - 128) + (y2 : Int) - 128) + (y3 : Int) - 128).toNat, 4) else (0, 0) := by
  unfold grW
  rw [if_neg h0]
  rw [if_neg (by omega)]
  rw [if_neg (by omega)]
  rw [if_pos h]
  have e : ∀ (P Q : Prop) [Decidable P] [Decidable Q] (a b : Nat), (P ↔ Q) → (Q → a = b) → (if P then (a, 4) else (0, 0)) = (if Q then (b, 4) else (0, 0)) := by
    intro P Q _ _ a b h1 h2
    by_cases hq : Q
    · rw [if_pos (h1.2 hq), if_pos hq, h2 hq]
    · rw [if_neg (fun hp => hq (h1.1 hp)), if_neg hq]
  refine e _ _ _ _ ?_ ?_
  · constructor
    · rintro h
      refine ⟨by omega, by omega, by omega, by omega, ?_⟩
      unfold wideN runeOk
      rw [if_neg (by omega), if_neg (by omega), if_neg (by omega), if_neg (by omega)]
    · rintro ⟨h1, hc1, hc2, hc3, hw⟩
      unfold wideN runeOk at hw
      by_cases c0 : ¬ ((0 ≤ (64 * (64 * (64 * ((x0 : Int) - 240) + (y1 : Int) - 128) + (y2 : Int) - 128) + (y3 : Int) - 128) ∧ (64 * (64 * (64 * ((x0 : Int) - 240) + (y1 : Int) - 128) + (y2 : Int) - 128) + (y3 : Int) - 128) ≤ 1114111) ∧ ¬ (55296 ≤ (64 * (64 * (64 * ((x0 : Int) - 240) + (y1 : Int) - 128) + (y2 : Int) - 128) + (y3 : Int) - 128) ∧ (64 * (64 * (64 * ((x0 : Int) - 240) + (y1 : Int) - 128) + (y2 : Int) - 128) + (y3 : Int) - 128) ≤ 57343))
      · rw [if_pos c0] at hw; omega
      · rw [if_neg c0] at hw
        by_cases c1 : (64 * (64 * (64 * ((x0 : Int) - 240) + (y1 : Int) - 128) + (y2 : Int) - 128) + (y3 : Int) - 128) < 128
        · rw [if_pos c1] at hw; omega
        · rw [if_neg c1] at hw
          by_cases c2 : (64 * (64 * (64 * ((x0 : Int) - 240) + (y1 : Int) - 128) + (y2 : Int) - 128) + (y3 : Int) - 128) < 2048
          · rw [if_pos c2] at hw; omega
          · rw [if_neg c2] at hw
            by_cases c3 : (64 * (64 * (64 * ((x0 : Int) - 240) + (y1 : Int) - 128) + (y2 : Int) - 128) + (y3 : Int) - 128) < 65536
            · rw [if_pos c3] at hw; omega
            · rw [if_neg c3] at hw; omega
  · rintro h; omega
set_option maxHeartbeats 4000000 in
theorem spec_GetRune (N b o cap i x0 y1 y2 y3 : Nat) (w : World) (hat : i < N) (hcap : N ≤ cap) (hN : cap ≤ 9223372036854775807) (hbl : b < w.heap.size) (hx0 : x0 < 256) (hy1 : y1 < 256) (hy2 : y2 < 256) (hy3 : y3 < 256)
    (c0 : w.cell? ⟨b, o + i, none⟩ = some (.int .u8 x0)) (c1 : i + 1 < N → w.cell? ⟨b, o + (i + 1), none⟩ = some (.int .u8 y1)) (c2 : i + 2 < N → w.cell? ⟨b, o + (i + 2), none⟩ = some (.int .u8 y2)) (c3 : i + 3 < N → w.cell? ⟨b, o + (i + 3), none⟩ = some (.int .u8 y3)) :
    Calls Tryz.prog 173 #[.slice (some ⟨b, o, none⟩) N cap, .int .i64 i] w fun e w' => e = .returned (grV i (grW (N - i) x0 y1 y2 y3)) ∧ Below w.heap.size w w' := by
  by_cases h0 : x0 < 128
  · have GE := Lib.hid (grW_one (N - i) x0 y1 y2 y3 h0)
    have hw : wideN (x0 : Int) = 1 := by unfold wideN runeOk; rw [if_neg (by omega), if_pos (by omega)]
    have hfit : ¬ ((1 : Int) > (N : Int) - i) := by omega
    go_enter Tryz.func173, Tryz.ntmps173
    go_wp2_with fail
    go_loopw [10, 9, 11] (fun j n _ wr => j = .int .i64 1 ∧ n = .int .i64 x0 ∧ Below w.heap.size w wr) (fun _ _ _ _ => 0)
    case atStart => exact ⟨rfl, rfl, Below.refl _ _⟩
    case round =>
      obtain ⟨rfl, rfl, hb⟩ := hrel
      go_wp2_with (go_at_call 229; refine (spec_WideOf _ _).mono ?_; rintro e v ⟨rfl, hb2⟩; rw [hw])
      refine bodyPost_ret (v := .tuple #[.int .i64 ((x0 : Int)), .int .i64 ((i : Int) + 1), .bool true]) (by simp [results, Tryz.results173, go_sem]) rfl ⟨grV_eq GE.out (by first | rfl | (simp only []; omega)) (by first | rfl | (simp only []; first | omega | (rw [if_neg (by omega)]; omega))) rfl, below_step hb hb2 hb.size⟩
  by_cases k2 : 192 ≤ x0 ∧ x0 ≤ 223
  · have GW := Lib.hid (grW_2 (N - i) x0 y1 y2 y3 h0 k2)
    have hacc := Below.refl w.heap.size w
    have D2 := Lib.hid (show decide ((192 : Int) ≤ (x0 : Int) ∧ (x0 : Int) ≤ 223) = true from by simp; omega)
    have D3 := Lib.hid (show decide ((224 : Int) ≤ (x0 : Int) ∧ (x0 : Int) ≤ 239) = false from by simp; omega)
    have D4 := Lib.hid (show decide ((240 : Int) ≤ (x0 : Int) ∧ (x0 : Int) ≤ 247) = false from by simp; omega)
    by_cases hn : 2 ≤ N - i
    · have hfit : ¬ ((2 : Int) > (N : Int) - i) := by omega
      have d1 := c1 (by omega)
      clear c1 c2 c3
      go_enter Tryz.func173, Tryz.ntmps173
      go_wp2_with (go_at_call 74; refine (spec_l1In _ _ _ _).mono ?_; rintro e v ⟨rfl, hb⟩; replace hacc := below_step hacc hb hacc.size; first | rw [D2.out] | rw [D3.out] | rw [D4.out])
      go_loopw [10, 9, 11] (fun q z _ wr => ∃ (j : Nat) (n : Int), q = .int .i64 j ∧ z = .int .i64 n ∧ ((j = 1 ∧ n = ((x0 : Int) - 192)) ∨ (j = 2 ∧ n = (64 * ((x0 : Int) - 192) + (y1 : Int) - 128) ∧ 128 ≤ y1 ∧ y1 ≤ 191)) ∧ Below w.heap.size w wr) (fun q _ _ _ => 2 - (intOf q).toNat)
      case atStart => exact ⟨1, _, rfl, rfl, Or.inl ⟨rfl, rfl⟩, hacc⟩
      case round =>
        obtain ⟨j, n, rfl, rfl, hcase, hbb⟩ := hrel
        have hbs := hbb.size
        have e1 : wr.cell? ⟨b, o + (i + 1), none⟩ = some (.int .u8 y1) := (hbb.cell (by simpa using hbl)).trans d1
        have hlb : b < wr.heap.size := by omega
        obtain ⟨rfl, rfl⟩ | ⟨rfl, rfl, p1, q1⟩ := hcase
        · by_cases hy : 128 ≤ y1 ∧ y1 ≤ 191
          · have DY := Lib.hid (show decide ((128 : Int) ≤ (y1 : Int) ∧ (y1 : Int) ≤ 191) = true from by simp; omega)
            obtain ⟨hya, hyb⟩ := hy
            go_wp2_with (go_at_call 74; refine (spec_l1In _ _ _ _).mono ?_; rintro e v ⟨rfl, hb2⟩; rw [DY.out])
            go_roundw
            case rel => exact ⟨2, _, by go_num, by go_num, Or.inr (⟨rfl, rfl, hya, hyb⟩), below_step hbb hb2 hbs⟩
            case measure => simp [intOf]
          · have DY := Lib.hid (show decide ((128 : Int) ≤ (y1 : Int) ∧ (y1 : Int) ≤ 191) = false from by simp; omega)
            have GE := Lib.hid (GW.out.trans (if_neg (fun h => hy (by omega))))
            clear hy
            go_wp2_with (go_at_call 74; refine (spec_l1In _ _ _ _).mono ?_; rintro e v ⟨rfl, hb2⟩; rw [DY.out])
            refine bodyPost_ret (v := .tuple #[.int .i64 (0), .int .i64 (0), .bool false]) (by simp [results, Tryz.results173, go_sem]) rfl ⟨grV_eq GE.out (by first | rfl | (simp only []; omega)) (by first | rfl | (simp only []; first | omega | (rw [if_neg (by omega)]; omega))) rfl, below_step hbb hb2 hbs⟩
        · by_cases hw : wideN (64 * ((x0 : Int) - 192) + (y1 : Int) - 128) = 2
          · have GE := Lib.hid (GW.out.trans (if_pos ⟨hn, ⟨by omega, by omega⟩, hw⟩))
            go_wp2_with (go_at_call 229; refine (spec_WideOf _ _).mono ?_; rintro e v ⟨rfl, hb2⟩; rw [hw])
            refine bodyPost_ret (v := .tuple #[.int .i64 ((64 * ((x0 : Int) - 192) + (y1 : Int) - 128)), .int .i64 ((i : Int) + 2), .bool true]) (by simp [results, Tryz.results173, go_sem]) rfl ⟨grV_eq GE.out (by first | rfl | (simp only []; omega)) (by first | rfl | (simp only []; first | omega | (rw [if_neg (by omega)]; omega))) rfl, below_step hbb hb2 hbs⟩
          · have GE := Lib.hid (GW.out.trans (if_neg (fun h => hw (by have := h.2.2; exact this))))
            have hw2 : ((wideN (64 * ((x0 : Int) - 192) + (y1 : Int) - 128) : Nat) : Int) ≠ 2 := by omega
            go_wp2_with (go_at_call 229; refine (spec_WideOf _ _).mono ?_; rintro e v ⟨rfl, hb2⟩)
            refine bodyPost_ret (v := .tuple #[.int .i64 (0), .int .i64 (0), .bool false]) (by simp [results, Tryz.results173, go_sem]) rfl ⟨grV_eq GE.out (by first | rfl | (simp only []; omega)) (by first | rfl | (simp only []; first | omega | (rw [if_neg (by omega)]; omega))) rfl, below_step hbb hb2 hbs⟩
    · have hfit : (2 : Int) > (N : Int) - i := by omega
      have GE := Lib.hid (GW.out.trans (if_neg (fun h => hn h.1)))
      go_enter Tryz.func173, Tryz.ntmps173
      go_wp2_with (go_at_call 74; refine (spec_l1In _ _ _ _).mono ?_; rintro e v ⟨rfl, hb⟩; replace hacc := below_step hacc hb hacc.size; first | rw [D2.out] | rw [D3.out] | rw [D4.out])
      refine bodyPost_ret (v := .tuple #[.int .i64 (0), .int .i64 (0), .bool false]) (by simp [results, Tryz.results173, go_sem]) rfl ⟨grV_eq GE.out (by first | rfl | (simp only []; omega)) (by first | rfl | (simp only []; first | omega | (rw [if_neg (by omega)]; omega))) rfl, hacc⟩
  by_cases k3 : 224 ≤ x0 ∧ x0 ≤ 239
  · have GW := Lib.hid (grW_3 (N - i) x0 y1 y2 y3 h0 k3)
    have hacc := Below.refl w.heap.size w
    have D2 := Lib.hid (show decide ((192 : Int) ≤ (x0 : Int) ∧ (x0 : Int) ≤ 223) = false from by simp; omega)
    have D3 := Lib.hid (show decide ((224 : Int) ≤ (x0 : Int) ∧ (x0 : Int) ≤ 239) = true from by simp; omega)
    have D4 := Lib.hid (show decide ((240 : Int) ≤ (x0 : Int) ∧ (x0 : Int) ≤ 247) = false from by simp; omega)
    by_cases hn : 3 ≤ N - i
    · have hfit : ¬ ((3 : Int) > (N : Int) - i) := by omega
      have d1 := c1 (by omega)
      have d2 := c2 (by omega)
      clear c1 c2 c3
      go_enter Tryz.func173, Tryz.ntmps173
      go_wp2_with (go_at_call 74; refine (spec_l1In _ _ _ _).mono ?_; rintro e v ⟨rfl, hb⟩; replace hacc := below_step hacc hb hacc.size; first | rw [D2.out] | rw [D3.out] | rw [D4.out])
      go_loopw [10, 9, 11] (fun q z _ wr => ∃ (j : Nat) (n : Int), q = .int .i64 j ∧ z = .int .i64 n ∧ ((j = 1 ∧ n = ((x0 : Int) - 224)) ∨ (j = 2 ∧ n = (64 * ((x0 : Int) - 224) + (y1 : Int) - 128) ∧ 128 ≤ y1 ∧ y1 ≤ 191) ∨ (j = 3 ∧ n = (64 * (64 * ((x0 : Int) - 224) + (y1 : Int) - 128) + (y2 : Int) - 128) ∧ 128 ≤ y1 ∧ y1 ≤ 191 ∧ 128 ≤ y2 ∧ y2 ≤ 191)) ∧ Below w.heap.size w wr) (fun q _ _ _ => 3 - (intOf q).toNat)
      case atStart => exact ⟨1, _, rfl, rfl, Or.inl ⟨rfl, rfl⟩, hacc⟩
      case round =>
        obtain ⟨j, n, rfl, rfl, hcase, hbb⟩ := hrel
        have hbs := hbb.size
        have e1 : wr.cell? ⟨b, o + (i + 1), none⟩ = some (.int .u8 y1) := (hbb.cell (by simpa using hbl)).trans d1
        have e2 : wr.cell? ⟨b, o + (i + 2), none⟩ = some (.int .u8 y2) := (hbb.cell (by simpa using hbl)).trans d2
        have hlb : b < wr.heap.size := by omega
        obtain ⟨rfl, rfl⟩ | ⟨rfl, rfl, p1, q1⟩ | ⟨rfl, rfl, p1, q1, p2, q2⟩ := hcase
        · by_cases hy : 128 ≤ y1 ∧ y1 ≤ 191
          · have DY := Lib.hid (show decide ((128 : Int) ≤ (y1 : Int) ∧ (y1 : Int) ≤ 191) = true from by simp; omega)
            obtain ⟨hya, hyb⟩ := hy
            go_wp2_with (go_at_call 74; refine (spec_l1In _ _ _ _).mono ?_; rintro e v ⟨rfl, hb2⟩; rw [DY.out])
            go_roundw
            case rel => exact ⟨2, _, by go_num, by go_num, Or.inr (Or.inl ⟨rfl, rfl, hya, hyb⟩), below_step hbb hb2 hbs⟩
            case measure => simp [intOf]
          · have DY := Lib.hid (show decide ((128 : Int) ≤ (y1 : Int) ∧ (y1 : Int) ≤ 191) = false from by simp; omega)
            have GE := Lib.hid (GW.out.trans (if_neg (fun h => hy (by omega))))
            clear hy
            go_wp2_with (go_at_call 74; refine (spec_l1In _ _ _ _).mono ?_; rintro e v ⟨rfl, hb2⟩; rw [DY.out])
            refine bodyPost_ret (v := .tuple #[.int .i64 (0), .int .i64 (0), .bool false]) (by simp [results, Tryz.results173, go_sem]) rfl ⟨grV_eq GE.out (by first | rfl | (simp only []; omega)) (by first | rfl | (simp only []; first | omega | (rw [if_neg (by omega)]; omega))) rfl, below_step hbb hb2 hbs⟩
        · by_cases hy : 128 ≤ y2 ∧ y2 ≤ 191
          · have DY := Lib.hid (show decide ((128 : Int) ≤ (y2 : Int) ∧ (y2 : Int) ≤ 191) = true from by simp; omega)
            obtain ⟨hya, hyb⟩ := hy
            go_wp2_with (go_at_call 74; refine (spec_l1In _ _ _ _).mono ?_; rintro e v ⟨rfl, hb2⟩; rw [DY.out])
            go_roundw
            case rel => exact ⟨3, _, by go_num, by go_num, Or.inr (Or.inr (⟨rfl, rfl, p1, q1, hya, hyb⟩)), below_step hbb hb2 hbs⟩
            case measure => simp [intOf]
          · have DY := Lib.hid (show decide ((128 : Int) ≤ (y2 : Int) ∧ (y2 : Int) ≤ 191) = false from by simp; omega)
            have GE := Lib.hid (GW.out.trans (if_neg (fun h => hy (by omega))))
            clear hy
            go_wp2_with (go_at_call 74; refine (spec_l1In _ _ _ _).mono ?_; rintro e v ⟨rfl, hb2⟩; rw [DY.out])
            refine bodyPost_ret (v := .tuple #[.int .i64 (0), .int .i64 (0), .bool false]) (by simp [results, Tryz.results173, go_sem]) rfl ⟨grV_eq GE.out (by first | rfl | (simp only []; omega)) (by first | rfl | (simp only []; first | omega | (rw [if_neg (by omega)]; omega))) rfl, below_step hbb hb2 hbs⟩
        · by_cases hw : wideN (64 * (64 * ((x0 : Int) - 224) + (y1 : Int) - 128) + (y2 : Int) - 128) = 3
          · have GE := Lib.hid (GW.out.trans (if_pos ⟨hn, ⟨by omega, by omega⟩, ⟨by omega, by omega⟩, hw⟩))
            go_wp2_with (go_at_call 229; refine (spec_WideOf _ _).mono ?_; rintro e v ⟨rfl, hb2⟩; rw [hw])
            refine bodyPost_ret (v := .tuple #[.int .i64 ((64 * (64 * ((x0 : Int) - 224) + (y1 : Int) - 128) + (y2 : Int) - 128)), .int .i64 ((i : Int) + 3), .bool true]) (by simp [results, Tryz.results173, go_sem]) rfl ⟨grV_eq GE.out (by first | rfl | (simp only []; omega)) (by first | rfl | (simp only []; first | omega | (rw [if_neg (by omega)]; omega))) rfl, below_step hbb hb2 hbs⟩
          · have GE := Lib.hid (GW.out.trans (if_neg (fun h => hw (by have := h.2.2.2; exact this))))
            have hw2 : ((wideN (64 * (64 * ((x0 : Int) - 224) + (y1 : Int) - 128) + (y2 : Int) - 128) : Nat) : Int) ≠ 3 := by omega
            go_wp2_with (go_at_call 229; refine (spec_WideOf _ _).mono ?_; rintro e v ⟨rfl, hb2⟩)
            refine bodyPost_ret (v := .tuple #[.int .i64 (0), .int .i64 (0), .bool false]) (by simp [results, Tryz.results173, go_sem]) rfl ⟨grV_eq GE.out (by first | rfl | (simp only []; omega)) (by first | rfl | (simp only []; first | omega | (rw [if_neg (by omega)]; omega))) rfl, below_step hbb hb2 hbs⟩
    · have hfit : (3 : Int) > (N : Int) - i := by omega
      have GE := Lib.hid (GW.out.trans (if_neg (fun h => hn h.1)))
      go_enter Tryz.func173, Tryz.ntmps173
      go_wp2_with (go_at_call 74; refine (spec_l1In _ _ _ _).mono ?_; rintro e v ⟨rfl, hb⟩; replace hacc := below_step hacc hb hacc.size; first | rw [D2.out] | rw [D3.out] | rw [D4.out])
      refine bodyPost_ret (v := .tuple #[.int .i64 (0), .int .i64 (0), .bool false]) (by simp [results, Tryz.results173, go_sem]) rfl ⟨grV_eq GE.out (by first | rfl | (simp only []; omega)) (by first | rfl | (simp only []; first | omega | (rw [if_neg (by omega)]; omega))) rfl, hacc⟩
  by_cases k4 : 240 ≤ x0 ∧ x0 ≤ 247
  · have GW := Lib.hid (grW_4 (N - i) x0 y1 y2 y3 h0 k4)
    have hacc := Below.refl w.heap.size w
    have D2 := Lib.hid (show decide ((192 : Int) ≤ (x0 : Int) ∧ (x0 : Int) ≤ 223) = false from by simp; omega)
    have D3 := Lib.hid (show decide ((224 : Int) ≤ (x0 : Int) ∧ (x0 : Int) ≤ 239) = false from by simp; omega)
    have D4 := Lib.hid (show decide ((240 : Int) ≤ (x0 : Int) ∧ (x0 : Int) ≤ 247) = true from by simp; omega)
    by_cases hn : 4 ≤ N - i
    · have hfit : ¬ ((4 : Int) > (N : Int) - i) := by omega
      have d1 := c1 (by omega)
      have d2 := c2 (by omega)
      have d3 := c3 (by omega)
      clear c1 c2 c3
      go_enter Tryz.func173, Tryz.ntmps173
      go_wp2_with (go_at_call 74; refine (spec_l1In _ _ _ _).mono ?_; rintro e v ⟨rfl, hb⟩; replace hacc := below_step hacc hb hacc.size; first | rw [D2.out] | rw [D3.out] | rw [D4.out])
      go_loopw [10, 9, 11] (fun q z _ wr => ∃ (j : Nat) (n : Int), q = .int .i64 j ∧ z = .int .i64 n ∧ ((j = 1 ∧ n = ((x0 : Int) - 240)) ∨ (j = 2 ∧ n = (64 * ((x0 : Int) - 240) + (y1 : Int) - 128) ∧ 128 ≤ y1 ∧ y1 ≤ 191) ∨ (j = 3 ∧ n = (64 * (64 * ((x0 : Int) - 240) + (y1 : Int) - 128) + (y2 : Int) - 128) ∧ 128 ≤ y1 ∧ y1 ≤ 191 ∧ 128 ≤ y2 ∧ y2 ≤ 191) ∨ (j = 4 ∧ n = (64 * (64 * (64 * ((x0 : Int) - 240) + (y1 : Int) - 128) + (y2 : Int) - 128) + (y3 : Int) - 128) ∧ 128 ≤ y1 ∧ y1 ≤ 191 ∧ 128 ≤ y2 ∧ y2 ≤ 191 ∧ 128 ≤ y3 ∧ y3 ≤ 191)) ∧ Below w.heap.size w wr) (fun q _ _ _ => 4 - (intOf q).toNat)
      case atStart => exact ⟨1, _, rfl, rfl, Or.inl ⟨rfl, rfl⟩, hacc⟩
      case round =>
        obtain ⟨j, n, rfl, rfl, hcase, hbb⟩ := hrel
        have hbs := hbb.size
        have e1 : wr.cell? ⟨b, o + (i + 1), none⟩ = some (.int .u8 y1) := (hbb.cell (by simpa using hbl)).trans d1
        have e2 : wr.cell? ⟨b, o + (i + 2), none⟩ = some (.int .u8 y2) := (hbb.cell (by simpa using hbl)).trans d2
        have e3 : wr.cell? ⟨b, o + (i + 3), none⟩ = some (.int .u8 y3) := (hbb.cell (by simpa using hbl)).trans d3
        have hlb : b < wr.heap.size := by omega
        obtain ⟨rfl, rfl⟩ | ⟨rfl, rfl, p1, q1⟩ | ⟨rfl, rfl, p1, q1, p2, q2⟩ | ⟨rfl, rfl, p1, q1, p2, q2, p3, q3⟩ := hcase
        · by_cases hy : 128 ≤ y1 ∧ y1 ≤ 191
          · have DY := Lib.hid (show decide ((128 : Int) ≤ (y1 : Int) ∧ (y1 : Int) ≤ 191) = true from by simp; omega)
            obtain ⟨hya, hyb⟩ := hy
            go_wp2_with (go_at_call 74; refine (spec_l1In _ _ _ _).mono ?_; rintro e v ⟨rfl, hb2⟩; rw [DY.out])
            go_roundw
            case rel => exact ⟨2, _, by go_num, by go_num, Or.inr (Or.inl ⟨rfl, rfl, hya, hyb⟩), below_step hbb hb2 hbs⟩
            case measure => simp [intOf]
          · have DY := Lib.hid (show decide ((128 : Int) ≤ (y1 : Int) ∧ (y1 : Int) ≤ 191) = false from by simp; omega)
            have GE := Lib.hid (GW.out.trans (if_neg (fun h => hy (by omega))))
            clear hy
            go_wp2_with (go_at_call 74; refine (spec_l1In _ _ _ _).mono ?_; rintro e v ⟨rfl, hb2⟩; rw [DY.out])
            refine bodyPost_ret (v := .tuple #[.int .i64 (0), .int .i64 (0), .bool false]) (by simp [results, Tryz.results173, go_sem]) rfl ⟨grV_eq GE.out (by first | rfl | (simp only []; omega)) (by first | rfl | (simp only []; first | omega | (rw [if_neg (by omega)]; omega))) rfl, below_step hbb hb2 hbs⟩
        · by_cases hy : 128 ≤ y2 ∧ y2 ≤ 191
          · have DY := Lib.hid (show decide ((128 : Int) ≤ (y2 : Int) ∧ (y2 : Int) ≤ 191) = true from by simp; omega)
            obtain ⟨hya, hyb⟩ := hy
            go_wp2_with (go_at_call 74; refine (spec_l1In _ _ _ _).mono ?_; rintro e v ⟨rfl, hb2⟩; rw [DY.out])
            go_roundw
            case rel => exact ⟨3, _, by go_num, by go_num, Or.inr (Or.inr (Or.inl ⟨rfl, rfl, p1, q1, hya, hyb⟩)), below_step hbb hb2 hbs⟩
            case measure => simp [intOf]
          · have DY := Lib.hid (show decide ((128 : Int) ≤ (y2 : Int) ∧ (y2 : Int) ≤ 191) = false from by simp; omega)
            have GE := Lib.hid (GW.out.trans (if_neg (fun h => hy (by omega))))
            clear hy
            go_wp2_with (go_at_call 74; refine (spec_l1In _ _ _ _).mono ?_; rintro e v ⟨rfl, hb2⟩; rw [DY.out])
            refine bodyPost_ret (v := .tuple #[.int .i64 (0), .int .i64 (0), .bool false]) (by simp [results, Tryz.results173, go_sem]) rfl ⟨grV_eq GE.out (by first | rfl | (simp only []; omega)) (by first | rfl | (simp only []; first | omega | (rw [if_neg (by omega)]; omega))) rfl, below_step hbb hb2 hbs⟩
        · by_cases hy : 128 ≤ y3 ∧ y3 ≤ 191
          · have DY := Lib.hid (show decide ((128 : Int) ≤ (y3 : Int) ∧ (y3 : Int) ≤ 191) = true from by simp; omega)
            obtain ⟨hya, hyb⟩ := hy
            go_wp2_with (go_at_call 74; refine (spec_l1In _ _ _ _).mono ?_; rintro e v ⟨rfl, hb2⟩; rw [DY.out])
            go_roundw
            case rel => exact ⟨4, _, by go_num, by go_num, Or.inr (Or.inr (Or.inr (⟨rfl, rfl, p1, q1, p2, q2, hya, hyb⟩))), below_step hbb hb2 hbs⟩
            case measure => simp [intOf]
          · have DY := Lib.hid (show decide ((128 : Int) ≤ (y3 : Int) ∧ (y3 : Int) ≤ 191) = false from by simp; omega)
            have GE := Lib.hid (GW.out.trans (if_neg (fun h => hy (by omega))))
            clear hy
            go_wp2_with (go_at_call 74; refine (spec_l1In _ _ _ _).mono ?_; rintro e v ⟨rfl, hb2⟩; rw [DY.out])
            refine bodyPost_ret (v := .tuple #[.int .i64 (0), .int .i64 (0), .bool false]) (by simp [results, Tryz.results173, go_sem]) rfl ⟨grV_eq GE.out (by first | rfl | (simp only []; omega)) (by first | rfl | (simp only []; first | omega | (rw [if_neg (by omega)]; omega))) rfl, below_step hbb hb2 hbs⟩
        · by_cases hw : wideN (64 * (64 * (64 * ((x0 : Int) - 240) + (y1 : Int) - 128) + (y2 : Int) - 128) + (y3 : Int) - 128) = 4
          · have GE := Lib.hid (GW.out.trans (if_pos ⟨hn, ⟨by omega, by omega⟩, ⟨by omega, by omega⟩, ⟨by omega, by omega⟩, hw⟩))
            go_wp2_with (go_at_call 229; refine (spec_WideOf _ _).mono ?_; rintro e v ⟨rfl, hb2⟩; rw [hw])
            refine bodyPost_ret (v := .tuple #[.int .i64 ((64 * (64 * (64 * ((x0 : Int) - 240) + (y1 : Int) - 128) + (y2 : Int) - 128) + (y3 : Int) - 128)), .int .i64 ((i : Int) + 4), .bool true]) (by simp [results, Tryz.results173, go_sem]) rfl ⟨grV_eq GE.out (by first | rfl | (simp only []; omega)) (by first | rfl | (simp only []; first | omega | (rw [if_neg (by omega)]; omega))) rfl, below_step hbb hb2 hbs⟩
          · have GE := Lib.hid (GW.out.trans (if_neg (fun h => hw (by have := h.2.2.2.2; exact this))))
            have hw2 : ((wideN (64 * (64 * (64 * ((x0 : Int) - 240) + (y1 : Int) - 128) + (y2 : Int) - 128) + (y3 : Int) - 128) : Nat) : Int) ≠ 4 := by omega
            go_wp2_with (go_at_call 229; refine (spec_WideOf _ _).mono ?_; rintro e v ⟨rfl, hb2⟩)
            refine bodyPost_ret (v := .tuple #[.int .i64 (0), .int .i64 (0), .bool false]) (by simp [results, Tryz.results173, go_sem]) rfl ⟨grV_eq GE.out (by first | rfl | (simp only []; omega)) (by first | rfl | (simp only []; first | omega | (rw [if_neg (by omega)]; omega))) rfl, below_step hbb hb2 hbs⟩
    · have hfit : (4 : Int) > (N : Int) - i := by omega
      have GE := Lib.hid (GW.out.trans (if_neg (fun h => hn h.1)))
      go_enter Tryz.func173, Tryz.ntmps173
      go_wp2_with (go_at_call 74; refine (spec_l1In _ _ _ _).mono ?_; rintro e v ⟨rfl, hb⟩; replace hacc := below_step hacc hb hacc.size; first | rw [D2.out] | rw [D3.out] | rw [D4.out])
      refine bodyPost_ret (v := .tuple #[.int .i64 (0), .int .i64 (0), .bool false]) (by simp [results, Tryz.results173, go_sem]) rfl ⟨grV_eq GE.out (by first | rfl | (simp only []; omega)) (by first | rfl | (simp only []; first | omega | (rw [if_neg (by omega)]; omega))) rfl, hacc⟩
  have GE := Lib.hid (grW_bad (N - i) x0 y1 y2 y3 h0 k2 k3 k4)
  have hacc := Below.refl w.heap.size w
  have D2 := Lib.hid (show decide ((192 : Int) ≤ (x0 : Int) ∧ (x0 : Int) ≤ 223) = false from by simp; omega)
  have D3 := Lib.hid (show decide ((224 : Int) ≤ (x0 : Int) ∧ (x0 : Int) ≤ 239) = false from by simp; omega)
  have D4 := Lib.hid (show decide ((240 : Int) ≤ (x0 : Int) ∧ (x0 : Int) ≤ 247) = false from by simp; omega)
  go_enter Tryz.func173, Tryz.ntmps173
  go_wp2_with (go_at_call 74; refine (spec_l1In _ _ _ _).mono ?_; rintro e v ⟨rfl, hb⟩; replace hacc := below_step hacc hb hacc.size; first | rw [D2.out] | rw [D3.out] | rw [D4.out])
  refine bodyPost_ret (v := .tuple #[.int .i64 (0), .int .i64 (0), .bool false]) (by simp [results, Tryz.results173, go_sem]) rfl ⟨grV_eq GE.out (by first | rfl | (simp only []; omega)) (by first | rfl | (simp only []; first | omega | (rw [if_neg (by omega)]; omega))) rfl, hacc⟩
end Go.Proofs.YtggdenkmohnijaaGreatDoor
