/- Contracts and lemmas for the proofs of this seat: ValF2. No condition beyond those stated. -/
import Derived.Test.YtfbgmhjjdgglnaaDoorRows
import Derived.WalkKit
import Derived.ProofKit
import Derived.OpenShut
import Derived.Handy
import Derived.Lib.Hide
import Derived.Lib.SmallJoins
import Derived.Laws.BytesArg
import Derived.Lib.ItoaNum
import Derived.Lib.ItoaLen
import Derived.Lib.AppendIntMem
import Derived.Lib.ValidLaws
import Derived.Lib.ValidAsc
import Derived.Test.YtfbgmhjjdgglnaaDoorBase
import Derived.Test.YtfbgmhjjdgglnaaDoorGen
import Derived.Test.YtfbgmhjjdgglnaaDoorKit
import Derived.Test.YtfbgmhjjdgglnaaDoorShelf
import Derived.Test.YtfbgmhjjdgglnaaDoorNum
import Derived.Test.YtfbgmhjjdgglnaaDoorTextF
import Derived.Test.YtfbgmhjjdgglnaaDoorValF
namespace Go.Proofs.YtfbgmhjjdgglnaaDoor
open Go.ChangeShapes Go.WideShapes Go.ChangeAt Go.RowKit Go.Joins
set_option linter.unusedVariables false
set_option maxRecDepth 100000
theorem dec_head (u : Nat) : ∃ d r, d < 10 ∧ Lib.decDigits u = UInt8.ofNat (48 + d) :: r := by
  induction u using Nat.strongRecOn with
  | ind u ih =>
    by_cases h : u < 10
    · exact ⟨u, [], h, Lib.decDigits_one h⟩
    · obtain ⟨d, r, hd, he⟩ := ih (u / 10) (by omega)
      rw [Lib.decDigits, dif_neg h, he]
      exact ⟨d, _, hd, rfl⟩
theorem dec_noneg (u : Nat) : Lib.hasPrefix (Lib.decDigits u) [45] = false := by
  obtain ⟨d, r, hd, he⟩ := dec_head u
  rw [he]
  have : (45 == UInt8.ofNat (48 + d)) = false := by
    obtain rfl | rfl | rfl | rfl | rfl | rfl | rfl | rfl | rfl | rfl : d = 0 ∨ d = 1 ∨ d = 2 ∨ d = 3 ∨ d = 4 ∨ d = 5 ∨ d = 6 ∨ d = 7 ∨ d = 8 ∨ d = 9 := by omega
    all_goals rfl
  show ((45 == UInt8.ofNat (48 + d)) && _) = false
  rw [this]; rfl
theorem digits_trim (n : Int) : (Lib.trimPrefix (numT n).data.toList (⟨#[45]⟩ : ByteArray).data.toList).length = digN n := by
  unfold numT Lib.trimPrefix Lib.itoa digN
  by_cases h : n < 0
  · rw [if_pos h]
    simp [Lib.hasPrefix, Lib.decDigits_length]
  · rw [if_neg h]
    have e : n.natAbs = n.toNat := by omega
    rw [e]
    have hd : Lib.hasPrefix (⟨(Lib.decDigits n.toNat).toArray⟩ : ByteArray).data.toList (⟨#[45]⟩ : ByteArray).data.toList = false := dec_noneg _
    rw [hd]
    simp [Lib.decDigits_length]
theorem impl_Digits (n : Int) (w : World) (hn : I64 n) (htab : Lib.TabIs Tryd.prog w "internal/strconv.uint64pow10" .u64 Lib.pow10Tab) :
    Calls Tryd.prog 125 #[.int .i64 n] w fun e w' => e = .returned (.int .i64 (digN n)) ∧ Below w.heap.size w w' := by
  have HD := Lib.hid (digits_trim n)
  have HN := Lib.hid (digN_le n hn)
  go_enter Tryd.func125, Tryd.ntmps125
  go_wp2_with fail
  refine (impl_NumText n _ hn htab).mono ?_
  rintro e w2 ⟨rfl, hb2⟩
  go_wp2_with fail
  refine (Tryd.strings_TrimPrefix _ _ _).mono ?_
  rintro e w3 ⟨rfl, rfl⟩
  have hz : (⟨(Lib.trimPrefix (numT n).data.toList (⟨#[45]⟩ : ByteArray).data.toList).toArray⟩ : ByteArray).size = digN n := by
    rw [← HD.out]; simp [ByteArray.size]
  generalize (⟨(Lib.trimPrefix (numT n).data.toList (⟨#[45]⟩ : ByteArray).data.toList).toArray⟩ : ByteArray) = q at *
  have hN := HN.out
  go_wp2_with fail
  go_ret
  exact ⟨by rw [← hz]; rfl, hb2⟩
def decOk (n x : Int) : Prop := (x = 0 ∧ -1000000000000000 ≤ n ∧ n ≤ 1000000000000000) ∨ (x ≠ 0 ∧ (-16 ≤ x ∧ x ≤ -1) ∧ digN n ≤ 17 ∧ n.tmod 10 ≠ 0)
instance (n x : Int) : Decidable (decOk n x) := by unfold decOk; exact inferInstance
def fltOk (m e : Int) : Prop := (m = 0 ∧ e = 0) ∨ (m ≠ 0 ∧ (-65535 ≤ m ∧ m ≤ 65535) ∧ m.tmod 2 ≠ 0 ∧ -16 ≤ e ∧ (e ≤ 30 ∨ (e ≤ 46 ∧ -65535 ≤ m * 2 ^ (e - 30).toNat ∧ m * 2 ^ (e - 30).toNat ≤ 65535)))
instance (m e : Int) : Decidable (fltOk m e) := by unfold fltOk; exact inferInstance
theorem fltOk_big {m e : Int} (k : Nat) (he : e = 30 + k) (hk : 1 ≤ k ∧ k ≤ 16) (h0 : m ≠ 0) (h1 : -65535 ≤ m ∧ m ≤ 65535) (h2 : m.tmod 2 ≠ 0) : decide (fltOk m e) = decide (-65535 ≤ m * 2 ^ k ∧ m * 2 ^ k ≤ 65535) := by
  have e1 : (e - 30).toNat = k := by omega
  apply decide_eq_decide.2
  unfold fltOk
  rw [e1]
  constructor
  · rintro (h | ⟨_, _, _, _, h | h⟩)
    · exact absurd h.1 h0
    · omega
    · exact h.2
  · intro h
    exact Or.inr ⟨h0, h1, h2, by omega, Or.inr ⟨by omega, h⟩⟩
abbrev cF (m e : Int) : Array Value := #[Value.int IntKind.i64 m, Value.int IntKind.i64 e]
set_option maxHeartbeats 2000000 in
theorem impl_DecOk (n x : Int) (w : World) (hn : I64 n) (hx : I64 x) (htab : Lib.TabBelow Tryd.prog w.heap.size w "internal/strconv.uint64pow10" .u64 Lib.pow10Tab) :
    Calls Tryd.prog 118 #[.agg (cF n x)] w fun e w' => e = .returned (.bool (decide (decOk n x))) ∧ Below w.heap.size w w' := by
  have HT := Lib.hid htab; clear htab
  have HN := Lib.hid hn
  obtain ⟨hn0, hn1⟩ := hn
  obtain ⟨hx0, hx1⟩ := hx
  have hl : w.heap.size < (w.alloc (.cells (cF n x) 69)).heap.size := by simp
  have H0 := Lib.hid (below1 w (.cells (cF n x) 69))
  have q0 := Is.new w (cF n x) 69
  by_cases h0 : x = 0
  · subst h0
    have HD := Lib.hid (show decide (decOk n 0) = decide (-1000000000000000 ≤ n ∧ n ≤ 1000000000000000) from decide_eq_decide.2 (by unfold decOk; simp))
    obtain ⟨bb, hbb⟩ : ∃ bb, decide (-1000000000000000 ≤ n ∧ n ≤ 1000000000000000) = bb := ⟨_, rfl⟩
    rw [hbb] at HD
    have HBB := Lib.hid hbb; clear hbb
    go_enter Tryd.func118, Tryd.ntmps118
    go_wp2_with (go_at_call 56; refine (impl_within _ _ _ _).mono ?_; rintro e v ⟨rfl, hb⟩; rw [HBB.out])
    go_ret
    exact ⟨by rw [HD.out]; rfl, below_step H0.out hb (by simp)⟩
  by_cases h1 : -16 ≤ x ∧ x ≤ -1
  · have D1 := Lib.hid (show decide ((-16 : Int) ≤ x ∧ x ≤ -1) = true from decide_eq_true h1)
    have hdl := digN_le n ⟨hn0, hn1⟩
    by_cases h2 : digN n ≤ 17
    · by_cases h3 : n.tmod 10 = 0
      · have HD := Lib.hid (show decide (decOk n x) = false from decide_eq_false (by unfold decOk; rintro (h | h); exact h0 h.1; exact h.2.2.2 h3))
        go_enter Tryd.func118, Tryd.ntmps118
        go_wp2_with (first | (go_at_call 56; refine (impl_within _ _ _ _).mono ?_; rintro e w2 ⟨rfl, hb⟩; rw [D1.out]; have HB2 := Lib.hid (below_step H0.out hb (by simp)); have q2 := q0.below hb hl; obtain ⟨r0, r1⟩ := q2.cells2; have hl2 : w.heap.size < w2.heap.size := Nat.lt_of_lt_of_le hl hb.size; have H2 := Lib.hid hb; clear hb) | (go_at_call 125; refine (impl_Digits n _ HN.out (HT.out _ HB2.out)).mono ?_; rintro e w3 ⟨rfl, hb⟩; have HB3 := Lib.hid (below_step HB2.out hb HB2.out.size); have q3 := q2.below hb hl2; obtain ⟨s0, s1⟩ := q3.cells2; have hl3 : w.heap.size < w3.heap.size := Nat.lt_of_lt_of_le hl2 hb.size; clear hb))
        go_ret
        exact ⟨by rw [HD.out]; rfl, HB3.out⟩
      · have HD := Lib.hid (show decide (decOk n x) = true from decide_eq_true (Or.inr ⟨h0, h1, h2, h3⟩))
        go_enter Tryd.func118, Tryd.ntmps118
        go_wp2_with (first | (go_at_call 56; refine (impl_within _ _ _ _).mono ?_; rintro e w2 ⟨rfl, hb⟩; rw [D1.out]; have HB2 := Lib.hid (below_step H0.out hb (by simp)); have q2 := q0.below hb hl; obtain ⟨r0, r1⟩ := q2.cells2; have hl2 : w.heap.size < w2.heap.size := Nat.lt_of_lt_of_le hl hb.size; clear hb) | (go_at_call 125; refine (impl_Digits n _ HN.out (HT.out _ HB2.out)).mono ?_; rintro e w3 ⟨rfl, hb⟩; have HB3 := Lib.hid (below_step HB2.out hb HB2.out.size); have q3 := q2.below hb hl2; obtain ⟨s0, s1⟩ := q3.cells2; have hl3 : w.heap.size < w3.heap.size := Nat.lt_of_lt_of_le hl2 hb.size; clear hb))
        go_ret
        exact ⟨ret_b (by rw [HD.out]; simp [h3]), HB3.out⟩
    · have HD := Lib.hid (show decide (decOk n x) = false from decide_eq_false (by unfold decOk; rintro (h | h); exact h0 h.1; exact h2 h.2.2.1))
      go_enter Tryd.func118, Tryd.ntmps118
      go_wp2_with (first | (go_at_call 56; refine (impl_within _ _ _ _).mono ?_; rintro e w2 ⟨rfl, hb⟩; rw [D1.out]; have HB2 := Lib.hid (below_step H0.out hb (by simp)); have q2 := q0.below hb hl; obtain ⟨r0, r1⟩ := q2.cells2; have hl2 : w.heap.size < w2.heap.size := Nat.lt_of_lt_of_le hl hb.size; clear hb) | (go_at_call 125; refine (impl_Digits n _ HN.out (HT.out _ HB2.out)).mono ?_; rintro e w3 ⟨rfl, hb⟩; have HB3 := Lib.hid (below_step HB2.out hb HB2.out.size); have q3 := q2.below hb hl2; obtain ⟨s0, s1⟩ := q3.cells2; have hl3 : w.heap.size < w3.heap.size := Nat.lt_of_lt_of_le hl2 hb.size; clear hb))
      go_ret
      exact ⟨by rw [HD.out]; rfl, HB3.out⟩
  · have D1 := Lib.hid (show decide ((-16 : Int) ≤ x ∧ x ≤ -1) = false from decide_eq_false h1)
    have HD := Lib.hid (show decide (decOk n x) = false from decide_eq_false (by unfold decOk; rintro (h | h); exact h0 h.1; exact h1 h.2.1))
    go_enter Tryd.func118, Tryd.ntmps118
    go_wp2_with (go_at_call 56; refine (impl_within _ _ _ _).mono ?_; rintro e w2 ⟨rfl, hb⟩; rw [D1.out])
    go_ret
    exact ⟨by rw [HD.out]; rfl, below_step H0.out hb (by simp)⟩
set_option maxHeartbeats 2000000 in
theorem spec_DecOk (n x : Int) (w : World) (hn : I64 n) (hx : I64 x) :
    Calls Tryd.prog 80 #[.agg (cF n x)] w fun e w' => e = .returned (.bool (decide (decOk n x))) ∧ Below w.heap.size w w' := by
  have HN := Lib.hid hn
  obtain ⟨hn0, hn1⟩ := hn
  obtain ⟨hx0, hx1⟩ := hx
  have hl : w.heap.size < (w.alloc (.cells (cF n x) 69)).heap.size := by simp
  have H0 := Lib.hid (below1 w (.cells (cF n x) 69))
  have q0 := Is.new w (cF n x) 69
  by_cases h0 : x = 0
  · subst h0
    have HD := Lib.hid (show decide (decOk n 0) = decide (-1000000000000000 ≤ n ∧ n ≤ 1000000000000000) from decide_eq_decide.2 (by unfold decOk; simp))
    obtain ⟨bb, hbb⟩ : ∃ bb, decide (-1000000000000000 ≤ n ∧ n ≤ 1000000000000000) = bb := ⟨_, rfl⟩
    rw [hbb] at HD
    have D1 := Lib.hid hbb; clear hbb
    go_enter Tryd.func80, Tryd.ntmps80
    go_wp2_with (first | (go_at_call 67; refine (spec_l1In _ _ _ _).mono ?_; rintro e w2 ⟨rfl, hb⟩; rw [D1.out]; have HB2 := Lib.hid (below_step H0.out hb (by simp)); have q2 := q0.below hb hl; obtain ⟨r0, r1⟩ := q2.cells2; have hl2 : w.heap.size < w2.heap.size := Nat.lt_of_lt_of_le hl hb.size; clear hb) | (go_at_call 113; refine (spec_Digits n _ HN.out).mono ?_; rintro e w3 ⟨rfl, hb⟩; have HB3 := Lib.hid (below_step HB2.out hb HB2.out.size); have q3 := q2.below hb hl2; obtain ⟨s0, s1⟩ := q3.cells2; have hl3 : w.heap.size < w3.heap.size := Nat.lt_of_lt_of_le hl2 hb.size; clear hb))
    go_ret
    exact ⟨ret_b (by rw [HD.out]), HB2.out⟩
  by_cases h1 : -16 ≤ x ∧ x ≤ -1
  · have D1 := Lib.hid (show decide ((-16 : Int) ≤ x ∧ x ≤ -1) = true from decide_eq_true h1)
    have hdl := digN_le n ⟨hn0, hn1⟩
    by_cases h3 : n.tmod 10 = 0
    · have HD := Lib.hid (show decide (decOk n x) = false from decide_eq_false (by unfold decOk; rintro (h | h); exact h0 h.1; exact h.2.2.2 h3))
      go_enter Tryd.func80, Tryd.ntmps80
      go_wp2_with (first | (go_at_call 67; refine (spec_l1In _ _ _ _).mono ?_; rintro e w2 ⟨rfl, hb⟩; rw [D1.out]; have HB2 := Lib.hid (below_step H0.out hb (by simp)); have q2 := q0.below hb hl; obtain ⟨r0, r1⟩ := q2.cells2; have hl2 : w.heap.size < w2.heap.size := Nat.lt_of_lt_of_le hl hb.size; clear hb) | (go_at_call 113; refine (spec_Digits n _ HN.out).mono ?_; rintro e w3 ⟨rfl, hb⟩; have HB3 := Lib.hid (below_step HB2.out hb HB2.out.size); have q3 := q2.below hb hl2; obtain ⟨s0, s1⟩ := q3.cells2; have hl3 : w.heap.size < w3.heap.size := Nat.lt_of_lt_of_le hl2 hb.size; clear hb))
      go_ret
      exact ⟨ret_b (by rw [HD.out]), HB2.out⟩
    · by_cases h2 : digN n ≤ 17
      · have HD := Lib.hid (show decide (decOk n x) = true from decide_eq_true (Or.inr ⟨h0, h1, h2, h3⟩))
        go_enter Tryd.func80, Tryd.ntmps80
        go_wp2_with (first | (go_at_call 67; refine (spec_l1In _ _ _ _).mono ?_; rintro e w2 ⟨rfl, hb⟩; rw [D1.out]; have HB2 := Lib.hid (below_step H0.out hb (by simp)); have q2 := q0.below hb hl; obtain ⟨r0, r1⟩ := q2.cells2; have hl2 : w.heap.size < w2.heap.size := Nat.lt_of_lt_of_le hl hb.size; clear hb) | (go_at_call 113; refine (spec_Digits n _ HN.out).mono ?_; rintro e w3 ⟨rfl, hb⟩; have HB3 := Lib.hid (below_step HB2.out hb HB2.out.size); have q3 := q2.below hb hl2; obtain ⟨s0, s1⟩ := q3.cells2; have hl3 : w.heap.size < w3.heap.size := Nat.lt_of_lt_of_le hl2 hb.size; clear hb))
        go_ret
        exact ⟨ret_b (by rw [HD.out]; first | rfl | simp; omega), HB3.out⟩
      · have HD := Lib.hid (show decide (decOk n x) = false from decide_eq_false (by unfold decOk; rintro (h | h); exact h0 h.1; exact h2 h.2.2.1))
        go_enter Tryd.func80, Tryd.ntmps80
        go_wp2_with (first | (go_at_call 67; refine (spec_l1In _ _ _ _).mono ?_; rintro e w2 ⟨rfl, hb⟩; rw [D1.out]; have HB2 := Lib.hid (below_step H0.out hb (by simp)); have q2 := q0.below hb hl; obtain ⟨r0, r1⟩ := q2.cells2; have hl2 : w.heap.size < w2.heap.size := Nat.lt_of_lt_of_le hl hb.size; clear hb) | (go_at_call 113; refine (spec_Digits n _ HN.out).mono ?_; rintro e w3 ⟨rfl, hb⟩; have HB3 := Lib.hid (below_step HB2.out hb HB2.out.size); have q3 := q2.below hb hl2; obtain ⟨s0, s1⟩ := q3.cells2; have hl3 : w.heap.size < w3.heap.size := Nat.lt_of_lt_of_le hl2 hb.size; clear hb))
        go_ret
        exact ⟨ret_b (by rw [HD.out]; first | rfl | simp; omega), HB3.out⟩
  · have D1 := Lib.hid (show decide ((-16 : Int) ≤ x ∧ x ≤ -1) = false from decide_eq_false h1)
    have HD := Lib.hid (show decide (decOk n x) = false from decide_eq_false (by unfold decOk; rintro (h | h); exact h0 h.1; exact h1 h.2.1))
    go_enter Tryd.func80, Tryd.ntmps80
    go_wp2_with (first | (go_at_call 67; refine (spec_l1In _ _ _ _).mono ?_; rintro e w2 ⟨rfl, hb⟩; rw [D1.out]; have HB2 := Lib.hid (below_step H0.out hb (by simp)); have q2 := q0.below hb hl; obtain ⟨r0, r1⟩ := q2.cells2; have hl2 : w.heap.size < w2.heap.size := Nat.lt_of_lt_of_le hl hb.size; clear hb) | (go_at_call 113; refine (spec_Digits n _ HN.out).mono ?_; rintro e w3 ⟨rfl, hb⟩; have HB3 := Lib.hid (below_step HB2.out hb HB2.out.size); have q3 := q2.below hb hl2; obtain ⟨s0, s1⟩ := q3.cells2; have hl3 : w.heap.size < w3.heap.size := Nat.lt_of_lt_of_le hl2 hb.size; clear hb))
    go_ret
    exact ⟨ret_b (by rw [HD.out]), HB2.out⟩
end Go.Proofs.YtfbgmhjjdgglnaaDoor
