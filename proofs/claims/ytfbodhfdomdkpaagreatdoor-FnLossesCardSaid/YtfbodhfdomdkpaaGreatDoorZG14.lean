/- Texts of this proof, merged: ValF2, BigP, Big1, LawsE. No condition beyond what each theorem states. -/
import Derived.Test.YtfbodhfdomdkpaaGreatDoorRows
import Derived.WalkKit
import Derived.ProofKit
import Derived.OpenShut
import Derived.Handy
import Derived.Lib.Hide
import Derived.Lib.SmallJoins
import Derived.Laws.BytesArg
import Derived.Lib.ItoaNum
import Derived.Lib.ItoaLen
import Derived.Lib.AppendIntMem
import Derived.Lib.ValidLaws
import Derived.Lib.ValidAsc
import Derived.Test.YtfbodhfdomdkpaaGreatDoorZG1
import Derived.Test.YtfbodhfdomdkpaaGreatDoorZG2
import Derived.Test.YtfbodhfdomdkpaaGreatDoorShelf
import Derived.Test.YtfbodhfdomdkpaaGreatDoorZG6
import Derived.Test.YtfbodhfdomdkpaaGreatDoorZG13
import Derived.Deep.RegionHeld3
import Derived.Deep.QuietTactic
import Derived.BigQuiet
import Derived.Test.YtfbodhfdomdkpaaGreatDoorZG3
import Derived.Test.YtfbodhfdomdkpaaGreatDoorZG4
import Derived.Test.YtfbodhfdomdkpaaGreatDoorZG8
set_option linter.unusedSimpArgs false
set_option linter.unnecessarySimpa false
namespace Go.Proofs.YtfbodhfdomdkpaaGreatDoor
open Go.ChangeShapes Go.WideShapes Go.ChangeAt Go.RowKit Go.Joins
set_option linter.unusedVariables false
set_option maxRecDepth 100000
theorem dec_head (u : Nat) : ∃ d r, d < 10 ∧ Lib.decDigits u = UInt8.ofNat (48 + d) :: r := by
  induction u using Nat.strongRecOn with
  | ind u ih =>
    by_cases h : u < 10
    · exact ⟨u, [], h, Lib.decDigits_one h⟩
    · obtain ⟨d, r, hd, he⟩ := ih (u / 10) (by omega)
      rw [Lib.decDigits, dif_neg h, he]
      exact ⟨d, _, hd, rfl⟩
theorem dec_noneg (u : Nat) : Lib.hasPrefix (Lib.decDigits u) [45] = false := by
  obtain ⟨d, r, hd, he⟩ := dec_head u
  rw [he]
  have : (45 == UInt8.ofNat (48 + d)) = false := by
    obtain rfl | rfl | rfl | rfl | rfl | rfl | rfl | rfl | rfl | rfl : d = 0 ∨ d = 1 ∨ d = 2 ∨ d = 3 ∨ d = 4 ∨ d = 5 ∨ d = 6 ∨ d = 7 ∨ d = 8 ∨ d = 9 := by omega
    all_goals rfl
  show ((45 == UInt8.ofNat (48 + d)) && _) = false
  rw [this]; rfl
theorem digits_trim (n : Int) : (Lib.trimPrefix (numT n).data.toList (⟨#[45]⟩ : ByteArray).data.toList).length = digN n := by
  unfold numT Lib.trimPrefix Lib.itoa digN
  by_cases h : n < 0
  · rw [if_pos h]
    simp [Lib.hasPrefix, Lib.decDigits_length]
  · rw [if_neg h]
    have e : n.natAbs = n.toNat := by omega
    rw [e]
    have hd : Lib.hasPrefix (⟨(Lib.decDigits n.toNat).toArray⟩ : ByteArray).data.toList (⟨#[45]⟩ : ByteArray).data.toList = false := dec_noneg _
    rw [hd]
    simp [Lib.decDigits_length]
theorem impl_Digits (n : Int) (w : World) (hn : I64 n) (htab : Lib.TabIs Tryz.prog w "internal/strconv.uint64pow10" .u64 Lib.pow10Tab) :
    Calls Tryz.prog 234 #[.int .i64 n] w fun e w' => e = .returned (.int .i64 (digN n)) ∧ Below w.heap.size w w' := by
  have HD := Lib.hid (digits_trim n)
  have HN := Lib.hid (digN_le n hn)
  go_enter Tryz.func234, Tryz.ntmps234
  go_wp2_with fail
  refine (impl_NumText n _ hn htab).mono ?_
  rintro e w2 ⟨rfl, hb2⟩
  go_wp2_with fail
  refine (Tryz.strings_TrimPrefix _ _ _).mono ?_
  rintro e w3 ⟨rfl, rfl⟩
  have hz : (⟨(Lib.trimPrefix (numT n).data.toList (⟨#[45]⟩ : ByteArray).data.toList).toArray⟩ : ByteArray).size = digN n := by
    rw [← HD.out]; simp [ByteArray.size]
  generalize (⟨(Lib.trimPrefix (numT n).data.toList (⟨#[45]⟩ : ByteArray).data.toList).toArray⟩ : ByteArray) = q at *
  have hN := HN.out
  go_wp2_with fail
  go_ret
  exact ⟨by rw [← hz]; rfl, hb2⟩
def decOk (n x : Int) : Prop := (x = 0 ∧ -1000000000000000 ≤ n ∧ n ≤ 1000000000000000) ∨ (x ≠ 0 ∧ (-16 ≤ x ∧ x ≤ -1) ∧ digN n ≤ 17 ∧ n.tmod 10 ≠ 0)
instance (n x : Int) : Decidable (decOk n x) := by unfold decOk; exact inferInstance
def fltOk (m e : Int) : Prop := (m = 0 ∧ e = 0) ∨ (m ≠ 0 ∧ (-65535 ≤ m ∧ m ≤ 65535) ∧ m.tmod 2 ≠ 0 ∧ -16 ≤ e ∧ (e ≤ 30 ∨ (e ≤ 46 ∧ -65535 ≤ m * 2 ^ (e - 30).toNat ∧ m * 2 ^ (e - 30).toNat ≤ 65535)))
instance (m e : Int) : Decidable (fltOk m e) := by unfold fltOk; exact inferInstance
theorem fltOk_big {m e : Int} (k : Nat) (he : e = 30 + k) (hk : 1 ≤ k ∧ k ≤ 16) (h0 : m ≠ 0) (h1 : -65535 ≤ m ∧ m ≤ 65535) (h2 : m.tmod 2 ≠ 0) : decide (fltOk m e) = decide (-65535 ≤ m * 2 ^ k ∧ m * 2 ^ k ≤ 65535) := by
  have e1 : (e - 30).toNat = k := by omega
  apply decide_eq_decide.2
  unfold fltOk
  rw [e1]
  constructor
  · rintro (h | ⟨_, _, _, _, h | h⟩)
    · exact absurd h.1 h0
    · omega
    · exact h.2
  · intro h
    exact Or.inr ⟨h0, h1, h2, by omega, Or.inr ⟨by omega, h⟩⟩
abbrev cF (m e : Int) : Array Value := #[Value.int IntKind.i64 m, Value.int IntKind.i64 e]
set_option maxHeartbeats 2000000 in
theorem impl_DecOk (n x : Int) (w : World) (hn : I64 n) (hx : I64 x) (htab : Lib.TabBelow Tryz.prog w.heap.size w "internal/strconv.uint64pow10" .u64 Lib.pow10Tab) :
    Calls Tryz.prog 168 #[.agg (cF n x)] w fun e w' => e = .returned (.bool (decide (decOk n x))) ∧ Below w.heap.size w w' := by
  have HT := Lib.hid htab; clear htab
  have HN := Lib.hid hn
  obtain ⟨hn0, hn1⟩ := hn
  obtain ⟨hx0, hx1⟩ := hx
  have hl : w.heap.size < (w.alloc (.cells (cF n x) 143)).heap.size := by simp
  have H0 := Lib.hid (below1 w (.cells (cF n x) 143))
  have q0 := Is.new w (cF n x) 143
  by_cases h0 : x = 0
  · subst h0
    have HD := Lib.hid (show decide (decOk n 0) = decide (-1000000000000000 ≤ n ∧ n ≤ 1000000000000000) from decide_eq_decide.2 (by unfold decOk; simp))
    obtain ⟨bb, hbb⟩ : ∃ bb, decide (-1000000000000000 ≤ n ∧ n ≤ 1000000000000000) = bb := ⟨_, rfl⟩
    rw [hbb] at HD
    have HBB := Lib.hid hbb; clear hbb
    go_enter Tryz.func168, Tryz.ntmps168
    go_wp2_with (go_at_call 140; refine (impl_within _ _ _ _).mono ?_; rintro e v ⟨rfl, hb⟩; rw [HBB.out])
    go_ret
    exact ⟨by rw [HD.out]; rfl, below_step H0.out hb (by simp)⟩
  by_cases h1 : -16 ≤ x ∧ x ≤ -1
  · have D1 := Lib.hid (show decide ((-16 : Int) ≤ x ∧ x ≤ -1) = true from decide_eq_true h1)
    have hdl := digN_le n ⟨hn0, hn1⟩
    by_cases h2 : digN n ≤ 17
    · by_cases h3 : n.tmod 10 = 0
      · have HD := Lib.hid (show decide (decOk n x) = false from decide_eq_false (by unfold decOk; rintro (h | h); exact h0 h.1; exact h.2.2.2 h3))
        go_enter Tryz.func168, Tryz.ntmps168
        go_wp2_with (first | (go_at_call 140; refine (impl_within _ _ _ _).mono ?_; rintro e w2 ⟨rfl, hb⟩; rw [D1.out]; have HB2 := Lib.hid (below_step H0.out hb (by simp)); have q2 := q0.below hb hl; obtain ⟨r0, r1⟩ := q2.cells2; have hl2 : w.heap.size < w2.heap.size := Nat.lt_of_lt_of_le hl hb.size; have H2 := Lib.hid hb; clear hb) | (go_at_call 234; refine (impl_Digits n _ HN.out (HT.out _ HB2.out)).mono ?_; rintro e w3 ⟨rfl, hb⟩; have HB3 := Lib.hid (below_step HB2.out hb HB2.out.size); have q3 := q2.below hb hl2; obtain ⟨s0, s1⟩ := q3.cells2; have hl3 : w.heap.size < w3.heap.size := Nat.lt_of_lt_of_le hl2 hb.size; clear hb))
        go_ret
        exact ⟨by rw [HD.out]; rfl, HB3.out⟩
      · have HD := Lib.hid (show decide (decOk n x) = true from decide_eq_true (Or.inr ⟨h0, h1, h2, h3⟩))
        go_enter Tryz.func168, Tryz.ntmps168
        go_wp2_with (first | (go_at_call 140; refine (impl_within _ _ _ _).mono ?_; rintro e w2 ⟨rfl, hb⟩; rw [D1.out]; have HB2 := Lib.hid (below_step H0.out hb (by simp)); have q2 := q0.below hb hl; obtain ⟨r0, r1⟩ := q2.cells2; have hl2 : w.heap.size < w2.heap.size := Nat.lt_of_lt_of_le hl hb.size; clear hb) | (go_at_call 234; refine (impl_Digits n _ HN.out (HT.out _ HB2.out)).mono ?_; rintro e w3 ⟨rfl, hb⟩; have HB3 := Lib.hid (below_step HB2.out hb HB2.out.size); have q3 := q2.below hb hl2; obtain ⟨s0, s1⟩ := q3.cells2; have hl3 : w.heap.size < w3.heap.size := Nat.lt_of_lt_of_le hl2 hb.size; clear hb))
        go_ret
        exact ⟨ret_b (by rw [HD.out]; simp [h3]), HB3.out⟩
    · have HD := Lib.hid (show decide (decOk n x) = false from decide_eq_false (by unfold decOk; rintro (h | h); exact h0 h.1; exact h2 h.2.2.1))
      go_enter Tryz.func168, Tryz.ntmps168
      go_wp2_with (first | (go_at_call 140; refine (impl_within _ _ _ _).mono ?_; rintro e w2 ⟨rfl, hb⟩; rw [D1.out]; have HB2 := Lib.hid (below_step H0.out hb (by simp)); have q2 := q0.below hb hl; obtain ⟨r0, r1⟩ := q2.cells2; have hl2 : w.heap.size < w2.heap.size := Nat.lt_of_lt_of_le hl hb.size; clear hb) | (go_at_call 234; refine (impl_Digits n _ HN.out (HT.out _ HB2.out)).mono ?_; rintro e w3 ⟨rfl, hb⟩; have HB3 := Lib.hid (below_step HB2.out hb HB2.out.size); have q3 := q2.below hb hl2; obtain ⟨s0, s1⟩ := q3.cells2; have hl3 : w.heap.size < w3.heap.size := Nat.lt_of_lt_of_le hl2 hb.size; clear hb))
      go_ret
      exact ⟨by rw [HD.out]; rfl, HB3.out⟩
  · have D1 := Lib.hid (show decide ((-16 : Int) ≤ x ∧ x ≤ -1) = false from decide_eq_false h1)
    have HD := Lib.hid (show decide (decOk n x) = false from decide_eq_false (by unfold decOk; rintro (h | h); exact h0 h.1; exact h1 h.2.1))
    go_enter Tryz.func168, Tryz.ntmps168
    go_wp2_with (go_at_call 140; refine (impl_within _ _ _ _).mono ?_; rintro e w2 ⟨rfl, hb⟩; rw [D1.out])
    go_ret
    exact ⟨by rw [HD.out]; rfl, below_step H0.out hb (by simp)⟩
set_option maxHeartbeats 2000000 in
theorem spec_DecOk (n x : Int) (w : World) (hn : I64 n) (hx : I64 x) :
    Calls Tryz.prog 156 #[.agg (cF n x)] w fun e w' => e = .returned (.bool (decide (decOk n x))) ∧ Below w.heap.size w w' := by
  have HN := Lib.hid hn
  obtain ⟨hn0, hn1⟩ := hn
  obtain ⟨hx0, hx1⟩ := hx
  have hl : w.heap.size < (w.alloc (.cells (cF n x) 143)).heap.size := by simp
  have H0 := Lib.hid (below1 w (.cells (cF n x) 143))
  have q0 := Is.new w (cF n x) 143
  by_cases h0 : x = 0
  · subst h0
    have HD := Lib.hid (show decide (decOk n 0) = decide (-1000000000000000 ≤ n ∧ n ≤ 1000000000000000) from decide_eq_decide.2 (by unfold decOk; simp))
    obtain ⟨bb, hbb⟩ : ∃ bb, decide (-1000000000000000 ≤ n ∧ n ≤ 1000000000000000) = bb := ⟨_, rfl⟩
    rw [hbb] at HD
    have D1 := Lib.hid hbb; clear hbb
    go_enter Tryz.func156, Tryz.ntmps156
    go_wp2_with (first | (go_at_call 88; refine (spec_l1In _ _ _ _).mono ?_; rintro e w2 ⟨rfl, hb⟩; rw [D1.out]; have HB2 := Lib.hid (below_step H0.out hb (by simp)); have q2 := q0.below hb hl; obtain ⟨r0, r1⟩ := q2.cells2; have hl2 : w.heap.size < w2.heap.size := Nat.lt_of_lt_of_le hl hb.size; clear hb) | (go_at_call 222; refine (spec_Digits n _ HN.out).mono ?_; rintro e w3 ⟨rfl, hb⟩; have HB3 := Lib.hid (below_step HB2.out hb HB2.out.size); have q3 := q2.below hb hl2; obtain ⟨s0, s1⟩ := q3.cells2; have hl3 : w.heap.size < w3.heap.size := Nat.lt_of_lt_of_le hl2 hb.size; clear hb))
    go_ret
    exact ⟨ret_b (by rw [HD.out]), HB2.out⟩
  by_cases h1 : -16 ≤ x ∧ x ≤ -1
  · have D1 := Lib.hid (show decide ((-16 : Int) ≤ x ∧ x ≤ -1) = true from decide_eq_true h1)
    have hdl := digN_le n ⟨hn0, hn1⟩
    by_cases h3 : n.tmod 10 = 0
    · have HD := Lib.hid (show decide (decOk n x) = false from decide_eq_false (by unfold decOk; rintro (h | h); exact h0 h.1; exact h.2.2.2 h3))
      go_enter Tryz.func156, Tryz.ntmps156
      go_wp2_with (first | (go_at_call 88; refine (spec_l1In _ _ _ _).mono ?_; rintro e w2 ⟨rfl, hb⟩; rw [D1.out]; have HB2 := Lib.hid (below_step H0.out hb (by simp)); have q2 := q0.below hb hl; obtain ⟨r0, r1⟩ := q2.cells2; have hl2 : w.heap.size < w2.heap.size := Nat.lt_of_lt_of_le hl hb.size; clear hb) | (go_at_call 222; refine (spec_Digits n _ HN.out).mono ?_; rintro e w3 ⟨rfl, hb⟩; have HB3 := Lib.hid (below_step HB2.out hb HB2.out.size); have q3 := q2.below hb hl2; obtain ⟨s0, s1⟩ := q3.cells2; have hl3 : w.heap.size < w3.heap.size := Nat.lt_of_lt_of_le hl2 hb.size; clear hb))
      go_ret
      exact ⟨ret_b (by rw [HD.out]), HB2.out⟩
    · by_cases h2 : digN n ≤ 17
      · have HD := Lib.hid (show decide (decOk n x) = true from decide_eq_true (Or.inr ⟨h0, h1, h2, h3⟩))
        go_enter Tryz.func156, Tryz.ntmps156
        go_wp2_with (first | (go_at_call 88; refine (spec_l1In _ _ _ _).mono ?_; rintro e w2 ⟨rfl, hb⟩; rw [D1.out]; have HB2 := Lib.hid (below_step H0.out hb (by simp)); have q2 := q0.below hb hl; obtain ⟨r0, r1⟩ := q2.cells2; have hl2 : w.heap.size < w2.heap.size := Nat.lt_of_lt_of_le hl hb.size; clear hb) | (go_at_call 222; refine (spec_Digits n _ HN.out).mono ?_; rintro e w3 ⟨rfl, hb⟩; have HB3 := Lib.hid (below_step HB2.out hb HB2.out.size); have q3 := q2.below hb hl2; obtain ⟨s0, s1⟩ := q3.cells2; have hl3 : w.heap.size < w3.heap.size := Nat.lt_of_lt_of_le hl2 hb.size; clear hb))
        go_ret
        exact ⟨ret_b (by rw [HD.out]; first | rfl | simp; omega), HB3.out⟩
      · have HD := Lib.hid (show decide (decOk n x) = false from decide_eq_false (by unfold decOk; rintro (h | h); exact h0 h.1; exact h2 h.2.2.1))
        go_enter Tryz.func156, Tryz.ntmps156
        go_wp2_with (first | (go_at_call 88; refine (spec_l1In _ _ _ _).mono ?_; rintro e w2 ⟨rfl, hb⟩; rw [D1.out]; have HB2 := Lib.hid (below_step H0.out hb (by simp)); have q2 := q0.below hb hl; obtain ⟨r0, r1⟩ := q2.cells2; have hl2 : w.heap.size < w2.heap.size := Nat.lt_of_lt_of_le hl hb.size; clear hb) | (go_at_call 222; refine (spec_Digits n _ HN.out).mono ?_; rintro e w3 ⟨rfl, hb⟩; have HB3 := Lib.hid (below_step HB2.out hb HB2.out.size); have q3 := q2.below hb hl2; obtain ⟨s0, s1⟩ := q3.cells2; have hl3 : w.heap.size < w3.heap.size := Nat.lt_of_lt_of_le hl2 hb.size; clear hb))
        go_ret
        exact ⟨ret_b (by rw [HD.out]; first | rfl | simp; omega), HB3.out⟩
  · have D1 := Lib.hid (show decide ((-16 : Int) ≤ x ∧ x ≤ -1) = false from decide_eq_false h1)
    have HD := Lib.hid (show decide (decOk n x) = false from decide_eq_false (by unfold decOk; rintro (h | h); exact h0 h.1; exact h1 h.2.1))
    go_enter Tryz.func156, Tryz.ntmps156
    go_wp2_with (first | (go_at_call 88; refine (spec_l1In _ _ _ _).mono ?_; rintro e w2 ⟨rfl, hb⟩; rw [D1.out]; have HB2 := Lib.hid (below_step H0.out hb (by simp)); have q2 := q0.below hb hl; obtain ⟨r0, r1⟩ := q2.cells2; have hl2 : w.heap.size < w2.heap.size := Nat.lt_of_lt_of_le hl hb.size; clear hb) | (go_at_call 222; refine (spec_Digits n _ HN.out).mono ?_; rintro e w3 ⟨rfl, hb⟩; have HB3 := Lib.hid (below_step HB2.out hb HB2.out.size); have q3 := q2.below hb hl2; obtain ⟨s0, s1⟩ := q3.cells2; have hl3 : w.heap.size < w3.heap.size := Nat.lt_of_lt_of_le hl2 hb.size; clear hb))
    go_ret
    exact ⟨ret_b (by rw [HD.out]), HB2.out⟩
end Go.Proofs.YtfbodhfdomdkpaaGreatDoor
namespace Go.Proofs.YtfbodhfdomdkpaaGreatDoor
open Go.ChangeShapes Go.WideShapes Go.ChangeAt Go.RowKit Go.Joins
set_option linter.unusedVariables false
set_option maxRecDepth 100000
/-! ### Numbers in bytes, the greatest first; heads. No program in sight. -/
/-- A number stands in so many bytes. -/
def fitW (n w : Int) : Prop := 0 ≤ n ∧ ((w = 1 ∧ n < 256) ∨ (w = 2 ∧ n < 65536) ∨ (w = 4 ∧ n < 4294967296) ∨ w = 8)
instance (n w : Int) : Decidable (fitW n w) := by unfold fitW; infer_instance
def bigL (n : Int) : Nat → List Int
  | 0 => []
  | w + 1 => (n / 256 ^ w) % 256 :: bigL n w
theorem bigL_len (n : Int) : ∀ w : Nat, (bigL n w).length = w
  | 0 => rfl
  | w + 1 => by rw [bigL, List.length_cons, bigL_len n w]
theorem bigL_u8 (n : Int) : ∀ w : Nat, ∀ x ∈ bigL n w, U8 x
  | 0, x, h => by cases h
  | w + 1, x, h => by
    rw [bigL] at h
    rcases List.mem_cons.1 h with rfl | h
    · unfold U8; omega
    · exact bigL_u8 n w x h
def putBigD (b : List Int) (n w : Int) : List Int := if fitW n w then b ++ bigL n w.toNat else b
def widthD (n : Int) : Int := if n < 0 then 0 else if n < 256 then 1 else if n < 65536 then 2 else if n < 4294967296 then 4 else 8
theorem widthD_fit (n w : Int) (hn : 0 ≤ n) (hw : w = 1 ∨ w = 2 ∨ w = 4 ∨ w = 8) : fitW n w ↔ widthD n ≤ w := by
  unfold fitW widthD
  rw [if_neg (by omega)]
  by_cases h1 : n < 256
  · rw [if_pos h1]; omega
  · rw [if_neg h1]
    by_cases h2 : n < 65536
    · rw [if_pos h2]; omega
    · rw [if_neg h2]
      by_cases h3 : n < 4294967296
      · rw [if_pos h3]; omega
      · rw [if_neg h3]; omega
def headOk (maj n wide : Int) : Prop := (0 ≤ maj ∧ maj ≤ 7) ∧ (0 ≤ n ∧ n ≤ 1000000000000000) ∧ ((wide = 0 ∧ n ≤ 23) ∨ ((wide = 1 ∨ wide = 2 ∨ wide = 4 ∨ wide = 8) ∧ widthD n ≤ wide) ∨ (wide = -1 ∧ n = 0 ∧ maj ≠ 0 ∧ maj ≠ 1 ∧ maj ≠ 6))
instance (a b c : Int) : Decidable (headOk a b c) := by unfold headOk; infer_instance
def headForD (maj n : Int) : Int × Int × Int := if headOk maj n (if 23 < n then widthD n else 0) then (maj, n, if 23 < n then widthD n else 0) else (0, 0, 0)
def infoD (n wide : Int) : Int := if wide = 0 then n else if wide = 1 then 24 else if wide = 2 then 25 else if wide = 4 then 26 else if wide = 8 then 27 else 31
def headL (maj n wide : Int) : List Int := if headOk maj n wide then (32 * maj + infoD n wide) :: bigL n wide.toNat else []
theorem infoD_in {maj n wide : Int} (h : headOk maj n wide) : 0 ≤ infoD n wide ∧ infoD n wide ≤ 31 := by
  obtain ⟨_, h2, h3⟩ := h
  unfold infoD
  split
  · omega
  split
  · omega
  split
  · omega
  split
  · omega
  split <;> omega
theorem headL_len (maj n wide : Int) : (headL maj n wide).length ≤ 9 := by
  unfold headL
  split
  · rename_i h
    rw [List.length_cons, bigL_len]
    obtain ⟨_, _, h3⟩ := h
    omega
  · simp
theorem headL_u8 (maj n wide : Int) : ∀ x ∈ headL maj n wide, U8 x := by
  intro x hx
  unfold headL at hx
  split at hx
  · rename_i h
    rcases List.mem_cons.1 hx with rfl | hx
    · have := infoD_in h; obtain ⟨h1, _⟩ := h; unfold U8; omega
    · exact bigL_u8 _ _ x hx
  · cases hx
theorem headOk_fit {maj n wide : Int} (h : headOk maj n wide) (hw : 0 < wide) : fitW n wide := by
  obtain ⟨h1, h2, h3⟩ := h
  exact (widthD_fit n wide h2.1 (by omega)).2 (by omega)
/-- A head for a number, as bytes. -/
def hdL (maj n : Int) : List Int := headL (headForD maj n).1 (headForD maj n).2.1 (headForD maj n).2.2
theorem hdL_u8 (maj n : Int) : ∀ x ∈ hdL maj n, U8 x := headL_u8 _ _ _
theorem hdL_len (maj n : Int) : (hdL maj n).length ≤ 9 := headL_len _ _ _
theorem widthD_in (n : Int) (h : 0 ≤ n) : widthD n = 1 ∨ widthD n = 2 ∨ widthD n = 4 ∨ widthD n = 8 := by
  unfold widthD
  rw [if_neg (by omega)]
  split
  · omega
  split
  · omega
  split <;> omega
theorem headFor_ok {maj n : Int} (h1 : 0 ≤ maj ∧ maj ≤ 7) (h2 : 0 ≤ n ∧ n ≤ 1000000000000000) : headOk maj n (if 23 < n then widthD n else 0) := by
  have := widthD_in n h2.1
  refine ⟨h1, h2, ?_⟩
  by_cases h : 23 < n
  · rw [if_pos h]; exact Or.inr (Or.inl ⟨this, Int.le_refl _⟩)
  · rw [if_neg h]; exact Or.inl ⟨rfl, by omega⟩
theorem headForD_ok {maj n : Int} (h1 : 0 ≤ maj ∧ maj ≤ 7) (h2 : 0 ≤ n ∧ n ≤ 1000000000000000) : headForD maj n = (maj, n, if 23 < n then widthD n else 0) := if_pos (headFor_ok h1 h2)
def fltBitsD (m e : Int) : Int := if fltOk m e then 65536 * (e + 16) + m.natAbs + (if m < 0 then 16777216 else 0) else -1
theorem fltBitsD_in (m e : Int) : fltBitsD m e = -1 ∨ (0 ≤ fltBitsD m e ∧ fltBitsD m e ≤ 33554431) := by
  unfold fltBitsD
  split
  · rename_i h
    refine Or.inr ?_
    rcases h with ⟨rfl, rfl⟩ | ⟨h1, h2, h3, h4, h5⟩
    · simp
    · split <;> omega
  · exact Or.inl rfl
mutual
/-- A tree's bytes in the compact format. -/
def packT : T → List Int
  | .mk k n x s l =>
    if k = 1 then headL 7 22 0 else if k = 2 then headL 7 (if n = 1 then 21 else 20) 0
    else if k = 3 then (if -1000000000000000 ≤ n ∧ n ≤ 1000000000000000 then (if n < 0 then hdL 1 (-1 - n) else hdL 0 n) else [])
    else if k = 4 then headL 7 (fltBitsD n x) 4
    else if k = 5 then (if 0 ≤ n ∧ n ≤ 2 then headL 7 (32 + n) 1 else [])
    else if k = 7 then hdL 3 s.size ++ byteL s
    else if k = 8 then hdL 2 s.size ++ byteL s
    else if k = 9 then hdL 4 l.length ++ packTs l
    else if k = 10 then hdL 5 ((l.length / 2 : Nat) : Int) ++ packTs l
    else if k = 11 then (if 0 ≤ n ∧ n ≤ 1000000000000000 then hdL 6 n ++ packTs l else [])
    else []
def packTs : List T → List Int
  | [] => []
  | t :: r => packT t ++ packTs r
end
theorem packTs_append (a b : List T) : packTs (a ++ b) = packTs a ++ packTs b := by
  induction a with
  | nil => rfl
  | cons t r ih => rw [List.cons_append, packTs, packTs, ih, List.append_assoc]
theorem packTs_succ (l : List T) (j : Nat) (h : j < l.length) : packTs (l.take (j + 1)) = packTs (l.take j) ++ packT l[j] := by
  rw [take_snoc l j h, packTs_append]; simp [packTs]
theorem packT_u8 : ∀ t : T, ∀ x ∈ packT t, U8 x := by
  apply T.ind
  intro k n x s l ih y hy
  have hl : ∀ r : List T, (∀ t ∈ r, t ∈ l) → ∀ y ∈ packTs r, U8 y := by
    intro r
    induction r with
    | nil => intro _ y hy; cases hy
    | cons t r ihr =>
      intro hm y hy
      rw [packTs] at hy
      rcases List.mem_append.1 hy with hy | hy
      · exact ih t (hm t (List.mem_cons_self ..)) y hy
      · exact ihr (fun u hu => hm u (List.mem_cons_of_mem _ hu)) y hy
  have hl2 := hl l (fun _ h => h)
  rw [packT] at hy
  repeat' split at hy
  all_goals first
    | exact headL_u8 _ _ _ y hy
    | exact hdL_u8 _ _ y hy
    | (rcases List.mem_append.1 hy with hy | hy
       · exact hdL_u8 _ _ y hy
       · first | exact byteL_u8 _ y hy | exact hl2 y hy)
    | (cases hy)
theorem packT_len : ∀ t : T, (packT t).length ≤ 9 + 10 * T.sz t := by
  apply T.ind
  intro k n x s l ih
  have hl : ∀ r : List T, (∀ t ∈ r, t ∈ l) → (packTs r).length ≤ 10 * T.szL r := by
    intro r
    induction r with
    | nil => intro _; simp [packTs]
    | cons t r ihr =>
      intro hm
      have h1 := ih t (hm t (List.mem_cons_self ..))
      have h2 := ihr (fun u hu => hm u (List.mem_cons_of_mem _ hu))
      rw [packTs, List.length_append]; simp only [T.szL]; omega
  have hl2 := hl l (fun _ h => h)
  have hb := byteL_len s
  rw [packT]
  simp only [T.sz]
  repeat' split
  all_goals first
    | (have := headL_len 7 22 0; omega)
    | (have := headL_len 7 21 0; omega)
    | (have := headL_len 7 20 0; omega)
    | (have := headL_len 7 (fltBitsD n x) 4; omega)
    | (have := headL_len 7 (32 + n) 1; omega)
    | (have := hdL_len 1 (-1 - n); omega)
    | (have := hdL_len 0 n; omega)
    | (rw [List.length_append]; have := hdL_len 3 (s.size : Int); omega)
    | (rw [List.length_append]; have := hdL_len 2 (s.size : Int); omega)
    | (rw [List.length_append]; have := hdL_len 4 (l.length : Int); omega)
    | (rw [List.length_append]; have := hdL_len 5 ((l.length / 2 : Nat) : Int); omega)
    | (rw [List.length_append]; have := hdL_len 6 n; omega)
    | simp
theorem packTs_len (l : List T) : (packTs l).length ≤ 10 * T.szL l := by
  induction l with
  | nil => simp [packTs]
  | cons t r ih => rw [packTs, List.length_append]; simp only [T.szL]; have := packT_len t; omega
/-- The order of bytes. -/
def lexB : List Int → List Int → Bool
  | _, [] => false
  | [], _ :: _ => true
  | a :: x, b :: y => if a = b then lexB x y else decide (a < b)
/-- The names ascend. -/
def ascN : List T → Bool
  | a :: _ :: b :: r => lexB (packT a) (packT b) && ascN (b :: r)
  | _ => true
def tightB (t : T) : Bool := (decide (t.k ≠ 10) || ascN t.l) && decide (t.k ≠ 6)
end Go.Proofs.YtfbodhfdomdkpaaGreatDoor
namespace Go.Proofs.YtfbodhfdomdkpaaGreatDoor
open Go.ChangeShapes Go.WideShapes Go.ChangeAt Go.RowKit Go.Joins
set_option linter.unusedVariables false
set_option maxRecDepth 100000
theorem spec_l1InE (n lo hi : Int) (w : World) : Calls Tryz.prog 88 #[.int .i64 n, .int .i64 lo, .int .i64 hi] w fun e w' => e = .returned (.bool (decide (lo ≤ n ∧ n ≤ hi))) ∧ w' = w := by
  by_cases h1 : lo ≤ n
  · by_cases h2 : n ≤ hi
    · have hd : decide (lo ≤ n ∧ n ≤ hi) = true := decide_eq_true ⟨h1, h2⟩
      rw [hd]; clear hd
      go_enter Tryz.func88, Tryz.ntmps88
      go_wp2
      go_ret
      exact ⟨rfl, rfl⟩
    · have hd : decide (lo ≤ n ∧ n ≤ hi) = false := decide_eq_false (fun h => h2 h.2)
      rw [hd]; clear hd
      go_enter Tryz.func88, Tryz.ntmps88
      go_wp2
      go_ret
      exact ⟨rfl, rfl⟩
  · have hd : decide (lo ≤ n ∧ n ≤ hi) = false := decide_eq_false (fun h => h1 h.1)
    rw [hd]; clear hd
    go_enter Tryz.func88, Tryz.ntmps88
    go_wp2
    go_ret
    exact ⟨rfl, rfl⟩
theorem impl_withinE (n lo hi : Int) (w : World) : Calls Tryz.prog 140 #[.int .i64 n, .int .i64 lo, .int .i64 hi] w fun e w' => e = .returned (.bool (decide (lo ≤ n ∧ n ≤ hi))) ∧ w' = w := by
  by_cases h1 : lo ≤ n
  · by_cases h2 : n ≤ hi
    · have hd : decide (lo ≤ n ∧ n ≤ hi) = true := decide_eq_true ⟨h1, h2⟩
      rw [hd]; clear hd
      go_enter Tryz.func140, Tryz.ntmps140
      go_wp2
      go_ret
      exact ⟨rfl, rfl⟩
    · have hd : decide (lo ≤ n ∧ n ≤ hi) = false := decide_eq_false (fun h => h2 h.2)
      rw [hd]; clear hd
      go_enter Tryz.func140, Tryz.ntmps140
      go_wp2
      go_ret
      exact ⟨rfl, rfl⟩
  · have hd : decide (lo ≤ n ∧ n ≤ hi) = false := decide_eq_false (fun h => h1 h.1)
    rw [hd]; clear hd
    go_enter Tryz.func140, Tryz.ntmps140
    go_wp2
    go_ret
    exact ⟨rfl, rfl⟩
def okW (w : Int) : Bool := w == 1 || w == 2 || w == 4 || w == 8
theorem okW_iff (w : Int) : okW w = true ↔ (w = 1 ∨ w = 2 ∨ w = 4 ∨ w = 8) := by unfold okW; simp [or_assoc]
theorem spec_l3WidthE (n : Int) (w : World) : Calls Tryz.prog 245 #[.int .i64 n] w fun e w' => e = .returned (.bool (okW n)) ∧ w' = w := by
  go_enter Tryz.func245, Tryz.ntmps245
  go_wp2
  all_goals
    go_ret
    exact ⟨ret_b (by first | rfl | (simp [okW]; done) | (simp [okW]; omega)), rfl⟩
theorem spec_l3Width (n : Int) (w : World) : Calls Tryz.prog 245 #[.int .i64 n] w fun e w' => e = .returned (.bool (okW n)) ∧ Below w.heap.size w w' := (spec_l3WidthE n w).mono (fun _ _ h => ⟨h.1, h.2 ▸ Below.refl _ _⟩)
theorem impl_isWidthE (n : Int) (w : World) : Calls Tryz.prog 286 #[.int .i64 n] w fun e w' => e = .returned (.bool (okW n)) ∧ w' = w := by
  go_enter Tryz.func286, Tryz.ntmps286
  go_wp2
  all_goals
    go_ret
    exact ⟨ret_b (by first | rfl | (simp [okW]; done) | (simp [okW]; omega)), rfl⟩
theorem impl_isWidth (n : Int) (w : World) : Calls Tryz.prog 286 #[.int .i64 n] w fun e w' => e = .returned (.bool (okW n)) ∧ Below w.heap.size w w' := (impl_isWidthE n w).mono (fun _ _ h => ⟨h.1, h.2 ▸ Below.refl _ _⟩)
theorem spec_WidthForE (n : Int) (w : World) : Calls Tryz.prog 191 #[.int .i64 n] w fun e w' => e = .returned (.int .i64 (widthD n)) ∧ w' = w := by
  have HD := Lib.hid (show widthD n = if n < 0 then 0 else if n < 256 then 1 else if n < 65536 then 2 else if n < 4294967296 then 4 else 8 from rfl)
  by_cases h1 : n < 0
  · go_enter Tryz.func191, Tryz.ntmps191
    go_wp2
    go_ret
    exact ⟨ret_i (by rw [HD.out, if_pos (by omega)]), rfl⟩
  by_cases h2 : n < 256
  · go_enter Tryz.func191, Tryz.ntmps191
    go_wp2
    go_ret
    exact ⟨ret_i (by rw [HD.out, if_neg (by omega), if_pos (by omega)]), rfl⟩
  by_cases h3 : n < 65536
  · go_enter Tryz.func191, Tryz.ntmps191
    go_wp2
    go_ret
    exact ⟨ret_i (by rw [HD.out, if_neg (by omega), if_neg (by omega), if_pos (by omega)]), rfl⟩
  by_cases h4 : n < 4294967296
  · go_enter Tryz.func191, Tryz.ntmps191
    go_wp2
    go_ret
    exact ⟨ret_i (by rw [HD.out, if_neg (by omega), if_neg (by omega), if_neg (by omega), if_pos (by omega)]), rfl⟩
  go_enter Tryz.func191, Tryz.ntmps191
  go_wp2
  go_ret
  exact ⟨ret_i (by rw [HD.out, if_neg (by omega), if_neg (by omega), if_neg (by omega), if_neg (by omega)]), rfl⟩
theorem spec_WidthFor (n : Int) (w : World) : Calls Tryz.prog 191 #[.int .i64 n] w fun e w' => e = .returned (.int .i64 (widthD n)) ∧ Below w.heap.size w w' := (spec_WidthForE n w).mono (fun _ _ h => ⟨h.1, h.2 ▸ Below.refl _ _⟩)
theorem impl_fitsIntoE (n k : Int) (w : World) (hk : k = 1 ∨ k = 2 ∨ k = 4 ∨ k = 8) (hn : I64 n) : Calls Tryz.prog 287 #[.int .i64 n, .int .i64 k] w fun e w' => e = .returned (.bool (decide (fitW n k))) ∧ w' = w := by
  obtain ⟨hn0, hn1⟩ := hn
  by_cases h0 : n < 0
  · have hd : decide (fitW n k) = false := decide_eq_false (by unfold fitW; omega)
    rw [hd]; clear hd
    go_enter Tryz.func287, Tryz.ntmps287
    go_wp2
    go_ret
    exact ⟨rfl, rfl⟩
  obtain rfl | rfl | rfl | rfl := hk
  · have hd : (n / 256 == 0) = decide (fitW n 1) := by rw [Bool.eq_iff_iff]; simp only [beq_iff_eq, decide_eq_true_iff]; unfold fitW; omega
    rw [← hd]; clear hd
    go_enter Tryz.func287, Tryz.ntmps287
    go_wp2
    go_ret
    exact ⟨rfl, rfl⟩
  · have hd : (n / 65536 == 0) = decide (fitW n 2) := by rw [Bool.eq_iff_iff]; simp only [beq_iff_eq, decide_eq_true_iff]; unfold fitW; omega
    rw [← hd]; clear hd
    go_enter Tryz.func287, Tryz.ntmps287
    go_wp2
    go_ret
    exact ⟨rfl, rfl⟩
  · have hd : (n / 4294967296 == 0) = decide (fitW n 4) := by rw [Bool.eq_iff_iff]; simp only [beq_iff_eq, decide_eq_true_iff]; unfold fitW; omega
    rw [← hd]; clear hd
    go_enter Tryz.func287, Tryz.ntmps287
    go_wp2
    go_ret
    exact ⟨rfl, rfl⟩
  · have hd : decide (fitW n 8) = true := decide_eq_true (by unfold fitW; omega)
    rw [hd]; clear hd
    go_enter Tryz.func287, Tryz.ntmps287
    go_wp2
    go_ret
    exact ⟨rfl, rfl⟩
theorem impl_fitsInto (n k : Int) (w : World) (hk : k = 1 ∨ k = 2 ∨ k = 4 ∨ k = 8) (hn : I64 n) : Calls Tryz.prog 287 #[.int .i64 n, .int .i64 k] w fun e w' => e = .returned (.bool (decide (fitW n k))) ∧ Below w.heap.size w w' := (impl_fitsIntoE n k w hk hn).mono (fun _ _ h => ⟨h.1, h.2 ▸ Below.refl _ _⟩)
theorem impl_WidthForE (n : Int) (w : World) (hn : I64 n) : Calls Tryz.prog 284 #[.int .i64 n] w fun e w' => e = .returned (.int .i64 (widthD n)) ∧ w' = w := by
  have HN := Lib.hid hn
  clear hn
  by_cases h0 : n < 0
  · have HD := Lib.hid (show widthD n = 0 from if_pos h0)
    rw [HD.out]
    go_enter Tryz.func284, Tryz.ntmps284
    go_wp2
    go_ret
    exact ⟨rfl, rfl⟩
  · go_enter Tryz.func284, Tryz.ntmps284
    go_wp2_with fail
    go_loopw [3] (fun v wr => ∃ k : Int, v = .int .i64 k ∧ (k = 1 ∨ k = 2 ∨ k = 4 ∨ k = 8) ∧ Hid (k ≤ widthD n) ∧ wr = w) (fun v _ => 8 - (intOf v).toNat)
    case atStart => exact ⟨1, rfl, by omega, Lib.hid (by have := widthD_in n (by omega); omega), rfl⟩
    case round =>
      obtain ⟨k, rfl, hk, HK, rfl⟩ := hrel
      have HI := Lib.hid (widthD_in n (by omega))
      have HF := Lib.hid (widthD_fit n k (by omega) hk)
      by_cases hf : fitW n k
      · have hd : decide (fitW n k) = true := decide_eq_true hf
        have HE : Hid (widthD n = k) := Lib.hid (by have := HF.out.1 hf; have := HK.out; omega)
        go_wp2_with fail
        refine (impl_fitsIntoE n k _ hk HN.out).mono ?_
        rintro e w2 ⟨rfl, rfl⟩
        rw [hd]
        clear hd
        go_wp2_with fail
        go_ret
        exact ⟨ret_i HE.out.symm, rfl⟩
      · have hd : decide (fitW n k) = false := decide_eq_false hf
        have hk2 : k = 1 ∨ k = 2 ∨ k = 4 := by rcases hk with h | h | h | h; (· omega); (· omega); (· omega); exact absurd (HF.out.2 (by have := HI.out; omega)) hf
        have HE : Hid (2 * k ≤ widthD n) := Lib.hid (by have h1 : ¬ widthD n ≤ k := fun h => hf (HF.out.2 h); have := HI.out; omega)
        go_wp2_with fail
        refine (impl_fitsIntoE n k _ hk HN.out).mono ?_
        rintro e w2 ⟨rfl, rfl⟩
        rw [hd]
        clear hd hf
        obtain rfl | rfl | rfl := hk2
        all_goals
          go_wp2_with fail
          go_roundw
          case rel => exact ⟨_, rfl, by omega, Lib.hid (by have := HE.out; omega), by first | rfl | trivial⟩
          case measure => simp [intOf]
theorem impl_WidthFor (n : Int) (w : World) (hn : I64 n) : Calls Tryz.prog 284 #[.int .i64 n] w fun e w' => e = .returned (.int .i64 (widthD n)) ∧ Below w.heap.size w w' := (impl_WidthForE n w hn).mono (fun _ _ h => ⟨h.1, h.2 ▸ Below.refl _ _⟩)
end Go.Proofs.YtfbodhfdomdkpaaGreatDoor
namespace Go.Proofs.YtfbodhfdomdkpaaGreatDoor
open Go.ChangeShapes Go.WideShapes Go.ChangeAt Go.RowKit Go.Joins
set_option linter.unusedVariables false
set_option maxRecDepth 100000
/-! ### What the drawn laws call besides -/
set_option maxHeartbeats 1000000 in
theorem laws_sameVal : ∀ t u : T, ∀ (a a' : Option Addr) (cap cap' B : Nat) (w : World), R w B a cap t.l → R w B a' cap' u.l → B ≤ w.heap.size →
    Calls Tryz.prog 38 #[.agg (cV t a cap), .agg (cV u a' cap')] w fun e w' => e = .returned (.bool (sameT t u)) ∧ Below w.heap.size w w' := by
  intro t
  induction t using T.ind with
  | h k n x s l ih =>
    intro u a a' cap cap' B w hr hr' hB
    have IH := Lib.hid ih; clear ih
    obtain ⟨k', n', x', s', l'⟩ := u
    simp only [cV, T.k, T.n, T.x, T.s, T.l] at hr hr' ⊢
    obtain ⟨hl1, hl2⟩ := hr.len
    obtain ⟨hm1, hm2⟩ := hr'.len
    have HR := Lib.hid hr; clear hr
    have HR' := Lib.hid hr'; clear hr'
    have H3 := Lib.hid (below2 w (.cells #[Value.int IntKind.i64 k, Value.int IntKind.i64 n, Value.int IntKind.i64 x, Value.string s, Value.slice a l.length cap] 36) (.cells #[Value.int IntKind.i64 k', Value.int IntKind.i64 n', Value.int IntKind.i64 x', Value.string s', Value.slice a' l'.length cap'] 36))
    by_cases hk : k = k'
    case neg =>
      have h1 : (k == k') = false := by simp [hk]
      have h2 : (k != k') = true := by simp [hk]
      have HE := Lib.hid (show sameT (T.mk k n x s l) (T.mk k' n' x' s' l') = false from sameT_false (fun e => hk (by injection e)))
      clear hk
      go_enter Tryz.func38, Tryz.ntmps38
      go_wp2_with fail
      go_ret
      exact ⟨ret_b HE.out.symm, H3.out⟩
    subst hk
    by_cases hk : n = n'
    case neg =>
      have h1 : (n == n') = false := by simp [hk]
      have h2 : (n != n') = true := by simp [hk]
      have HE := Lib.hid (show sameT (T.mk k n x s l) (T.mk k n' x' s' l') = false from sameT_false (fun e => hk (by injection e)))
      clear hk
      go_enter Tryz.func38, Tryz.ntmps38
      go_wp2_with fail
      go_ret
      exact ⟨ret_b HE.out.symm, H3.out⟩
    subst hk
    by_cases hk : x = x'
    case neg =>
      have h1 : (x == x') = false := by simp [hk]
      have h2 : (x != x') = true := by simp [hk]
      have HE := Lib.hid (show sameT (T.mk k n x s l) (T.mk k n x' s' l') = false from sameT_false (fun e => hk (by injection e)))
      clear hk
      go_enter Tryz.func38, Tryz.ntmps38
      go_wp2_with fail
      go_ret
      exact ⟨ret_b HE.out.symm, H3.out⟩
    subst hk
    by_cases hk : s = s'
    case neg =>
      have h1 := bytes_ne hk
      have h2 : (s.toList != s'.toList) = true := by simp [bne, h1]
      have HE := Lib.hid (show sameT (T.mk k n x s l) (T.mk k n x s' l') = false from sameT_false (fun e => hk (by injection e)))
      clear hk
      go_enter Tryz.func38, Tryz.ntmps38
      go_wp2_with fail
      go_ret
      exact ⟨ret_b HE.out.symm, H3.out⟩
    subst hk
    by_cases hk : l.length = l'.length
    case neg =>
      have h1 : ((l.length : Int) == l'.length) = false := by rw [beq_eq_false_iff_ne]; omega
      have h2 : ((l.length : Int) != l'.length) = true := by simp [bne, h1]
      have HE := Lib.hid (show sameT (T.mk k n x s l) (T.mk k n x s l') = false from sameT_false (fun e => hk (by injection e with _ _ _ _ e5; rw [e5])))
      clear hk
      go_enter Tryz.func38, Tryz.ntmps38
      go_wp2_with fail
      go_ret
      exact ⟨ret_b HE.out.symm, H3.out⟩
    have h1 : ((l.length : Int) == l'.length) = true := by simp [hk]
    have h2 : ((l.length : Int) != l'.length) = false := by simp [hk]
    have HL := Lib.hid hk; clear hk
    have q1 : Is ((w.alloc (.cells #[Value.int IntKind.i64 k, Value.int IntKind.i64 n, Value.int IntKind.i64 x, Value.string s, Value.slice a l.length cap] 36)).alloc (.cells #[Value.int IntKind.i64 k, Value.int IntKind.i64 n, Value.int IntKind.i64 x, Value.string s, Value.slice a' l'.length cap'] 36)) w.heap.size 36 _ := (Is.new _ _ _).alloc _
    have q2 := Is.new2 w (.cells #[Value.int IntKind.i64 k, Value.int IntKind.i64 n, Value.int IntKind.i64 x, Value.string s, Value.slice a l.length cap] 36) #[Value.int IntKind.i64 k, Value.int IntKind.i64 n, Value.int IntKind.i64 x, Value.string s, Value.slice a' l'.length cap'] 36
    have hs : w.heap.size + 2 ≤ ((w.alloc (.cells #[Value.int IntKind.i64 k, Value.int IntKind.i64 n, Value.int IntKind.i64 x, Value.string s, Value.slice a l.length cap] 36)).alloc (.cells #[Value.int IntKind.i64 k, Value.int IntKind.i64 n, Value.int IntKind.i64 x, Value.string s, Value.slice a' l'.length cap'] 36)).heap.size := by simp
    go_enter Tryz.func38, Tryz.ntmps38
    go_wp2_with fail
    generalize hW : (w.alloc (.cells #[Value.int IntKind.i64 k, Value.int IntKind.i64 n, Value.int IntKind.i64 x, Value.string s, Value.slice a l.length cap] 36)).alloc (.cells #[Value.int IntKind.i64 k, Value.int IntKind.i64 n, Value.int IntKind.i64 x, Value.string s, Value.slice a' l'.length cap'] 36) = W0 at q1 q2 H3 hs ⊢
    clear hW
    go_loopw [5] (fun i wr => ∃ (j : Nat), j ≤ l.length ∧ i = .int .i64 j ∧ Hid (l.take j = l'.take j) ∧ Below W0.heap.size W0 wr) (fun i _ => l.length - (intOf i).toNat)
    case atStart => exact ⟨0, Nat.zero_le _, rfl, rfl, Below.refl _ _⟩
    case round =>
      obtain ⟨j, hj, rfl, HP, hb⟩ := hrel
      have hbs := hb.size
      obtain ⟨c0, c1, c2, c3, c4⟩ := (q1.below hb (by omega)).cells5
      obtain ⟨e0, e1, e2, e3, e4⟩ := (q2.below hb (by omega)).cells5
      by_cases hlt : j < l.length
      · have hlt' : j < l'.length := by have := HL.out; omega
        have hR := (HR.out.below H3.out hB).below hb (by omega)
        have hR' := (HR'.out.below H3.out hB).below hb (by omega)
        obtain ⟨b, o, a2, cap2, rfl, hbl, d0, d1, d2, d3, d4, hwf, hq⟩ := hR.get j hlt
        obtain ⟨b', o', a3, cap3, rfl, hbl', d0', d1', d2', d3', d4', hwf', hq'⟩ := hR'.get j hlt'
        have l1 : b < wr.heap.size := by omega
        have l2 : b' < wr.heap.size := by omega
        have l3 : w.heap.size < wr.heap.size := by omega
        have l4 : w.heap.size + 1 < wr.heap.size := by omega
        clear hR hR' hwf hwf'
        go_wp2_with fail
        go_region_held3 (fun w' => (∀ b o, b < wr.heap.size → w'.cell? ⟨b, o, none⟩ = wr.cell? ⟨b, o, none⟩) ∧ Below (wr.heap.size) wr w') (first | exact ⟨fun _ _ _ => rfl, (Below.refl _ _).drew⟩ | exact keep_step (by assumption) (Below.drew (Below.refl _ _)) (Nat.le_refl _) | exact keep_step (by assumption) (by assumption) (by first | omega | (simp only [World.size_drew]; omega) | (simp only [size_alloc]; omega) | (simp only [World.size_drew, size_alloc]; omega) | (have := (‹(_ ∧ Below (wr.heap.size) wr _)›).2.size; first | omega | (simp only [World.size_drew]; omega) | (simp only [size_alloc]; omega) | (simp only [World.size_drew, size_alloc]; omega) | (simp only [World.size_drew] at this; omega) | (simp only [size_alloc] at this; omega) | (simp only [World.size_drew, size_alloc] at this; omega))) | exact keep_step (by assumption) (below1 _ _) (by first | omega | (simp only [World.size_drew]; omega) | (simp only [size_alloc]; omega) | (simp only [World.size_drew, size_alloc]; omega) | (have := (‹(_ ∧ Below (wr.heap.size) wr _)›).2.size; first | omega | (simp only [World.size_drew]; omega) | (simp only [size_alloc]; omega) | (simp only [World.size_drew, size_alloc]; omega) | (simp only [World.size_drew] at this; omega) | (simp only [size_alloc] at this; omega) | (simp only [World.size_drew, size_alloc] at this; omega)))) (first | (go_at_call 38; refine (IH.out l[j] (List.getElem_mem hlt) l'[j] _ _ _ _ B _ ?_ ?_ (by have := (‹_ ∧ Below (wr.heap.size) wr _›).2.size; omega)).mono ?_; (exact hq.below (‹_ ∧ Below (wr.heap.size) wr _›).2 (by omega)); (exact hq'.below (‹_ ∧ Below (wr.heap.size) wr _›).2 (by omega)); rintro e w2 ⟨rfl, hb2⟩))
        have K := Lib.hid (hb.trans ((‹_ ∧ Below (wr.heap.size) wr _›).2.mono hbs))
        clear hb2
        by_cases he : l[j] = l'[j]
        · have HE := Lib.hid (show l.take (j + 1) = l'.take (j + 1) from by rw [take_snoc l j hlt, take_snoc l' j hlt', HP.out, he])
          have hd := sameT_true he
          clear he
          rw [hd]
          go_wp2_with fail
          go_roundw
          case rel => exact ⟨j + 1, by omega, by go_num, HE.out, K.out⟩
          case measure => simp [intOf]; omega
        · have HE := Lib.hid (show sameT (T.mk k n x s l) (T.mk k n x s l') = false from sameT_false (fun e => he (by injection e with _ _ _ _ e5; subst e5; rfl)))
          have hd := sameT_false he
          clear he
          rw [hd]
          go_wp2_with fail
          go_ret
          exact ⟨ret_b HE.out.symm, H3.out.trans (K.out.mono (by omega))⟩
      · have HJ := Lib.hid (show sameT (T.mk k n x s l) (T.mk k n x s l') = true from sameT_true (by have := HP.out; have h2 := HL.out; rw [List.take_of_length_le (by omega), List.take_of_length_le (by omega)] at this; rw [this]))
        go_wp2_with fail
        go_ret
        exact ⟨ret_b HJ.out.symm, H3.out.trans (hb.mono (by omega))⟩
theorem laws_big (a : Option Addr) (cap : Nat) (l : List Int) (w : World) : Calls Tryz.prog 8 #[.slice a l.length cap] w fun e w' => e = .returned (.bool (decide (1048576 < l.length))) ∧ w' = w := by
  by_cases h : 1048576 < l.length
  · have hz : (1048576 : Int) < (l.length : Int) := by omega
    go_enter Tryz.func8, Tryz.ntmps8
    go_wp2_with fail
    go_ret
    exact ⟨by simp [h], rfl⟩
  · have hz : ¬ (1048576 : Int) < (l.length : Int) := by omega
    go_enter Tryz.func8, Tryz.ntmps8
    go_wp2_with fail
    go_ret
    exact ⟨by simp [h], rfl⟩
end Go.Proofs.YtfbodhfdomdkpaaGreatDoor
