/- Texts of this proof, merged: Rune, Rune2, ValF2, ValF3. No condition beyond what each theorem states. -/
import Derived.Test.YtggdenkmohnijaaGreatDoorZH4
import Derived.Lib.ConvBytes
import Derived.Shelf.Unicode.ValidAny
set_option linter.unusedSimpArgs false
set_option linter.unnecessarySimpa false
namespace Go.Proofs.YtggdenkmohnijaaGreatDoor
open Go.ChangeShapes Go.WideShapes Go.ChangeAt Go.RowKit Go.Joins
set_option linter.unusedVariables false
set_option maxRecDepth 100000
def runeOk (n : Int) : Prop := (0 ≤ n ∧ n ≤ 1114111) ∧ ¬ (55296 ≤ n ∧ n ≤ 57343)
instance (n : Int) : Decidable (runeOk n) := by unfold runeOk; exact inferInstance
def wideN (n : Int) : Nat := if ¬ runeOk n then 0 else if n < 128 then 1 else if n < 2048 then 2 else if n < 65536 then 3 else 4
theorem spec_RuneOk (n : Int) (w : World) : Calls Tryz.prog 248 #[.int .i64 n] w fun e w' => e = .returned (.bool (decide (runeOk n))) ∧ Below w.heap.size w w' := by
 by_cases h1 : 0 ≤ n ∧ n ≤ 1114111
 ·by_cases h2 : 55296 ≤ n ∧ n ≤ 57343
  ·have HD := Lib.hid (show decide (runeOk n) = false from decide_eq_false (fun h => h.2 h2))
   have HA := Lib.hid (show decide (0 ≤ n ∧ n ≤ 1114111) = true from decide_eq_true h1)
   have HB := Lib.hid (show decide (55296 ≤ n ∧ n ≤ 57343) = true from decide_eq_true h2)
   rw [HD.out]
   have hacc := Below.refl w.heap.size w
   go_enter Tryz.func248, Tryz.ntmps248
   go_wp2_with (go_at_call 74; refine (spec_l1In _ _ _ _).mono ?_; rintro e v ⟨rfl, hb⟩; replace hacc := below_step hacc hb hacc.size; first | rw [HA.out] | rw [HB.out])
   go_ret
   exact ⟨rfl, hacc⟩
  ·have HD := Lib.hid (show decide (runeOk n) = true from decide_eq_true ⟨h1, h2⟩)
   have HA := Lib.hid (show decide (0 ≤ n ∧ n ≤ 1114111) = true from decide_eq_true h1)
   have HB := Lib.hid (show decide (55296 ≤ n ∧ n ≤ 57343) = false from decide_eq_false h2)
   rw [HD.out]
   have hacc := Below.refl w.heap.size w
   go_enter Tryz.func248, Tryz.ntmps248
   go_wp2_with (go_at_call 74; refine (spec_l1In _ _ _ _).mono ?_; rintro e v ⟨rfl, hb⟩; replace hacc := below_step hacc hb hacc.size; first | rw [HA.out] | rw [HB.out])
   go_ret
   exact ⟨rfl, hacc⟩
 ·have HD := Lib.hid (show decide (runeOk n) = false from decide_eq_false (fun h => h1 h.1))
  have HA := Lib.hid (show decide (0 ≤ n ∧ n ≤ 1114111) = false from decide_eq_false h1)
  rw [HD.out]
  have hacc := Below.refl w.heap.size w
  go_enter Tryz.func248, Tryz.ntmps248
  go_wp2_with (go_at_call 74; refine (spec_l1In _ _ _ _).mono ?_; rintro e v ⟨rfl, hb⟩; replace hacc := below_step hacc hb hacc.size; first | rw [HA.out])
  go_ret
  exact ⟨rfl, hacc⟩
theorem spec_WideOf (n : Int) (w : World) : Calls Tryz.prog 229 #[.int .i64 n] w fun e w' => e = .returned (.int .i64 (wideN n)) ∧ Below w.heap.size w w' := by
 by_cases h0 : runeOk n
 ·have HD := Lib.hid (show decide (runeOk n) = true from decide_eq_true h0)
  have hr := h0.1
  by_cases h1 : n < 128
  ·have HE := Lib.hid (show wideN n = 1 from by unfold wideN; rw [if_neg (by simp [h0]), if_pos h1])
   rw [HE.out]; clear h0
   go_enter Tryz.func229, Tryz.ntmps229
   go_wp2_with (go_at_call 248; refine (spec_RuneOk _ _).mono ?_; rintro e v ⟨rfl, hb⟩; rw [HD.out])
   go_ret
   exact ⟨rfl, by go_grown⟩
  by_cases h2 : n < 2048
  ·have HE := Lib.hid (show wideN n = 2 from by unfold wideN; rw [if_neg (by simp [h0]), if_neg h1, if_pos h2])
   rw [HE.out]; clear h0
   go_enter Tryz.func229, Tryz.ntmps229
   go_wp2_with (go_at_call 248; refine (spec_RuneOk _ _).mono ?_; rintro e v ⟨rfl, hb⟩; rw [HD.out])
   go_ret
   exact ⟨rfl, by go_grown⟩
  by_cases h3 : n < 65536
  ·have HE := Lib.hid (show wideN n = 3 from by unfold wideN; rw [if_neg (by simp [h0]), if_neg h1, if_neg h2, if_pos h3])
   rw [HE.out]; clear h0
   go_enter Tryz.func229, Tryz.ntmps229
   go_wp2_with (go_at_call 248; refine (spec_RuneOk _ _).mono ?_; rintro e v ⟨rfl, hb⟩; rw [HD.out])
   go_ret
   exact ⟨rfl, by go_grown⟩
  ·have HE := Lib.hid (show wideN n = 4 from by unfold wideN; rw [if_neg (by simp [h0]), if_neg h1, if_neg h2, if_neg h3])
   rw [HE.out]; clear h0
   go_enter Tryz.func229, Tryz.ntmps229
   go_wp2_with (go_at_call 248; refine (spec_RuneOk _ _).mono ?_; rintro e v ⟨rfl, hb⟩; rw [HD.out])
   go_ret
   exact ⟨rfl, by go_grown⟩
 ·have HD := Lib.hid (show decide (runeOk n) = false from decide_eq_false h0)
  have HE := Lib.hid (show wideN n = 0 from by unfold wideN; rw [if_pos h0])
  rw [HE.out]; clear h0
  go_enter Tryz.func229, Tryz.ntmps229
  go_wp2_with (go_at_call 248; refine (spec_RuneOk _ _).mono ?_; rintro e v ⟨rfl, hb⟩; rw [HD.out])
  go_ret
  exact ⟨rfl, by go_grown⟩
def UtfBelow (B : Nat) (w : World) : Prop := ∀ w', Below B w w' → Lib.Utf8Tabs (Tryz.laysValid_ren.g 3) (Tryz.laysValid_ren.g 4) w'
theorem UtfBelow.step {B : Nat} {w w' : World} (h : UtfBelow B w) (hb : Below B w w') : UtfBelow B w' := fun v hv => h v (hb.trans hv)
theorem impl_TextOk (s : ByteArray) (w : World) (hs : s.size ≤ 4611686018427387903) (hT : Lib.Utf8Tabs (Tryz.laysValid_ren.g 3) (Tryz.laysValid_ren.g 4) w) :
  Calls Tryz.prog 143 #[.string s] w fun e w' => e = .returned (.bool (Lib.validD s.data.toList)) ∧ Below w.heap.size w w' := by
 have cV : Calls Tryz.prog 212 #[.string s] w _ := Any.utf8_ValidString Tryz.laysValid s w (by omega) hT
 generalize Lib.validD s.data.toList = V at cV ⊢
 go_enter Tryz.func143, Tryz.ntmps143
 go_wp2_with (go_at_call 212; refine cV.mono ?_; rintro e w' ⟨rfl, hb⟩)
 go_ret
 exact ⟨rfl, hb⟩
theorem dec_head (u : Nat) : ∃ d r, d < 10 ∧ Lib.decDigits u = UInt8.ofNat (48 + d) :: r := by
 induction u using Nat.strongRecOn with
 | ind u ih =>
  by_cases h : u < 10
  ·exact ⟨u, [], h, Lib.decDigits_one h⟩
  ·obtain ⟨d, r, hd, he⟩ := ih (u / 10) (by omega)
   rw [Lib.decDigits, dif_neg h, he]
   exact ⟨d, _, hd, rfl⟩
theorem dec_noneg (u : Nat) : Lib.hasPrefix (Lib.decDigits u) [45] = false := by
 obtain ⟨d, r, hd, he⟩ := dec_head u
 rw [he]
 have : (45 == UInt8.ofNat (48 + d)) = false := by
  obtain rfl | rfl | rfl | rfl | rfl | rfl | rfl | rfl | rfl | rfl : d = 0 ∨ d = 1 ∨ d = 2 ∨ d = 3 ∨ d = 4 ∨ d = 5 ∨ d = 6 ∨ d = 7 ∨ d = 8 ∨ d = 9 := by omega
  all_goals rfl
 show ((45 == UInt8.ofNat (48 + d)) && _) = false
 rw [this]; rfl
theorem digits_trim (n : Int) : (Lib.trimPrefix (numT n).data.toList (⟨#[45]⟩ : ByteArray).data.toList).length = digN n := by
 unfold numT Lib.trimPrefix Lib.itoa digN
 by_cases h : n < 0
 ·rw [if_pos h]
  simp [Lib.hasPrefix, Lib.decDigits_length]
 ·rw [if_neg h]
  have e : n.natAbs = n.toNat := by omega
  rw [e]
  have hd : Lib.hasPrefix (⟨(Lib.decDigits n.toNat).toArray⟩ : ByteArray).data.toList (⟨#[45]⟩ : ByteArray).data.toList = false := dec_noneg _
  rw [hd]
  simp [Lib.decDigits_length]
theorem impl_Digits (n : Int) (w : World) (hn : I64 n) (htab : Lib.TabIs Tryz.prog w "internal/strconv.uint64pow10" .u64 Lib.pow10Tab) :
  Calls Tryz.prog 213 #[.int .i64 n] w fun e w' => e = .returned (.int .i64 (digN n)) ∧ Below w.heap.size w w' := by
 have HD := Lib.hid (digits_trim n)
 have HN := Lib.hid (digN_le n hn)
 go_enter Tryz.func213, Tryz.ntmps213
 go_wp2_with fail
 refine (impl_NumText n _ hn htab).mono ?_
 rintro e w2 ⟨rfl, hb2⟩
 go_wp2_with fail
 refine (Tryz.strings_TrimPrefix _ _ _).mono ?_
 rintro e w3 ⟨rfl, rfl⟩
 have hz : (⟨(Lib.trimPrefix (numT n).data.toList (⟨#[45]⟩ : ByteArray).data.toList).toArray⟩ : ByteArray).size = digN n := by
  rw [← HD.out]; simp [ByteArray.size]
 generalize (⟨(Lib.trimPrefix (numT n).data.toList (⟨#[45]⟩ : ByteArray).data.toList).toArray⟩ : ByteArray) = q at *
 have hN := HN.out
 go_wp2_with fail
 go_ret
 exact ⟨by rw [← hz]; rfl, hb2⟩
def decOk (n x : Int) : Prop := (x = 0 ∧ -1000000000000000 ≤ n ∧ n ≤ 1000000000000000) ∨ (x ≠ 0 ∧ (-16 ≤ x ∧ x ≤ -1) ∧ digN n ≤ 17 ∧ n.tmod 10 ≠ 0)
instance (n x : Int) : Decidable (decOk n x) := by unfold decOk; exact inferInstance
def fltOk (m e : Int) : Prop := (m = 0 ∧ e = 0) ∨ (m ≠ 0 ∧ (-65535 ≤ m ∧ m ≤ 65535) ∧ m.tmod 2 ≠ 0 ∧ -16 ≤ e ∧ (e ≤ 30 ∨ (e ≤ 46 ∧ -65535 ≤ m * 2 ^ (e - 30).toNat ∧ m * 2 ^ (e - 30).toNat ≤ 65535)))
instance (m e : Int) : Decidable (fltOk m e) := by unfold fltOk; exact inferInstance
theorem fltOk_big {m e : Int} (k : Nat) (he : e = 30 + k) (hk : 1 ≤ k ∧ k ≤ 16) (h0 : m ≠ 0) (h1 : -65535 ≤ m ∧ m ≤ 65535) (h2 : m.tmod 2 ≠ 0) : decide (fltOk m e) = decide (-65535 ≤ m * 2 ^ k ∧ m * 2 ^ k ≤ 65535) := by
 have e1 : (e - 30).toNat = k := by omega
 apply decide_eq_decide.2
 unfold fltOk
 rw [e1]
 constructor
 ·rintro (h | ⟨_, _, _, _, h | h⟩)
  ·exact absurd h.1 h0
  ·omega
  ·exact h.2
 ·intro h
  exact Or.inr ⟨h0, h1, h2, by omega, Or.inr ⟨by omega, h⟩⟩
abbrev cF (m e : Int) : Array Value := #[Value.int IntKind.i64 m, Value.int IntKind.i64 e]
set_option maxHeartbeats 2000000 in
theorem impl_DecOk (n x : Int) (w : World) (hn : I64 n) (hx : I64 x) (htab : Lib.TabBelow Tryz.prog w.heap.size w "internal/strconv.uint64pow10" .u64 Lib.pow10Tab) :
  Calls Tryz.prog 145 #[.agg (cF n x)] w fun e w' => e = .returned (.bool (decide (decOk n x))) ∧ Below w.heap.size w w' := by
 have HT := Lib.hid htab; clear htab
 have HN := Lib.hid hn
 obtain ⟨hn0, hn1⟩ := hn
 obtain ⟨hx0, hx1⟩ := hx
 have hl : w.heap.size < (w.alloc (.cells (cF n x) 100)).heap.size := by simp
 have H0 := Lib.hid (below1 w (.cells (cF n x) 100))
 have q0 := Is.new w (cF n x) 100
 by_cases h0 : x = 0
 ·subst h0
  have HD := Lib.hid (show decide (decOk n 0) = decide (-1000000000000000 ≤ n ∧ n ≤ 1000000000000000) from decide_eq_decide.2 (by unfold decOk; simp))
  obtain ⟨bb, hbb⟩ : ∃ bb, decide (-1000000000000000 ≤ n ∧ n ≤ 1000000000000000) = bb := ⟨_, rfl⟩
  rw [hbb] at HD
  have HBB := Lib.hid hbb; clear hbb
  go_enter Tryz.func145, Tryz.ntmps145
  go_wp2_with (go_at_call 125; refine (impl_within _ _ _ _).mono ?_; rintro e v ⟨rfl, hb⟩; rw [HBB.out])
  go_ret
  exact ⟨by rw [HD.out]; rfl, below_step H0.out hb (by simp)⟩
 by_cases h1 : -16 ≤ x ∧ x ≤ -1
 ·have D1 := Lib.hid (show decide ((-16 : Int) ≤ x ∧ x ≤ -1) = true from decide_eq_true h1)
  have hdl := digN_le n ⟨hn0, hn1⟩
  by_cases h2 : digN n ≤ 17
  ·by_cases h3 : n.tmod 10 = 0
   ·have HD := Lib.hid (show decide (decOk n x) = false from decide_eq_false (by unfold decOk; rintro (h | h); exact h0 h.1; exact h.2.2.2 h3))
    go_enter Tryz.func145, Tryz.ntmps145
    go_wp2_with (first | (go_at_call 125; refine (impl_within _ _ _ _).mono ?_; rintro e w2 ⟨rfl, hb⟩; rw [D1.out]; have HB2 := Lib.hid (below_step H0.out hb (by simp)); have q2 := q0.below hb hl; obtain ⟨r0, r1⟩ := q2.cells2; have hl2 : w.heap.size < w2.heap.size := Nat.lt_of_lt_of_le hl hb.size; have H2 := Lib.hid hb; clear hb) | (go_at_call 213; refine (impl_Digits n _ HN.out (HT.out _ HB2.out)).mono ?_; rintro e w3 ⟨rfl, hb⟩; have HB3 := Lib.hid (below_step HB2.out hb HB2.out.size); have q3 := q2.below hb hl2; obtain ⟨s0, s1⟩ := q3.cells2; have hl3 : w.heap.size < w3.heap.size := Nat.lt_of_lt_of_le hl2 hb.size; clear hb))
    go_ret
    exact ⟨by rw [HD.out]; rfl, HB3.out⟩
   ·have HD := Lib.hid (show decide (decOk n x) = true from decide_eq_true (Or.inr ⟨h0, h1, h2, h3⟩))
    go_enter Tryz.func145, Tryz.ntmps145
    go_wp2_with (first | (go_at_call 125; refine (impl_within _ _ _ _).mono ?_; rintro e w2 ⟨rfl, hb⟩; rw [D1.out]; have HB2 := Lib.hid (below_step H0.out hb (by simp)); have q2 := q0.below hb hl; obtain ⟨r0, r1⟩ := q2.cells2; have hl2 : w.heap.size < w2.heap.size := Nat.lt_of_lt_of_le hl hb.size; clear hb) | (go_at_call 213; refine (impl_Digits n _ HN.out (HT.out _ HB2.out)).mono ?_; rintro e w3 ⟨rfl, hb⟩; have HB3 := Lib.hid (below_step HB2.out hb HB2.out.size); have q3 := q2.below hb hl2; obtain ⟨s0, s1⟩ := q3.cells2; have hl3 : w.heap.size < w3.heap.size := Nat.lt_of_lt_of_le hl2 hb.size; clear hb))
    go_ret
    exact ⟨ret_b (by rw [HD.out]; simp [h3]), HB3.out⟩
  ·have HD := Lib.hid (show decide (decOk n x) = false from decide_eq_false (by unfold decOk; rintro (h | h); exact h0 h.1; exact h2 h.2.2.1))
   go_enter Tryz.func145, Tryz.ntmps145
   go_wp2_with (first | (go_at_call 125; refine (impl_within _ _ _ _).mono ?_; rintro e w2 ⟨rfl, hb⟩; rw [D1.out]; have HB2 := Lib.hid (below_step H0.out hb (by simp)); have q2 := q0.below hb hl; obtain ⟨r0, r1⟩ := q2.cells2; have hl2 : w.heap.size < w2.heap.size := Nat.lt_of_lt_of_le hl hb.size; clear hb) | (go_at_call 213; refine (impl_Digits n _ HN.out (HT.out _ HB2.out)).mono ?_; rintro e w3 ⟨rfl, hb⟩; have HB3 := Lib.hid (below_step HB2.out hb HB2.out.size); have q3 := q2.below hb hl2; obtain ⟨s0, s1⟩ := q3.cells2; have hl3 : w.heap.size < w3.heap.size := Nat.lt_of_lt_of_le hl2 hb.size; clear hb))
   go_ret
   exact ⟨by rw [HD.out]; rfl, HB3.out⟩
 ·have D1 := Lib.hid (show decide ((-16 : Int) ≤ x ∧ x ≤ -1) = false from decide_eq_false h1)
  have HD := Lib.hid (show decide (decOk n x) = false from decide_eq_false (by unfold decOk; rintro (h | h); exact h0 h.1; exact h1 h.2.1))
  go_enter Tryz.func145, Tryz.ntmps145
  go_wp2_with (go_at_call 125; refine (impl_within _ _ _ _).mono ?_; rintro e w2 ⟨rfl, hb⟩; rw [D1.out])
  go_ret
  exact ⟨by rw [HD.out]; rfl, below_step H0.out hb (by simp)⟩
set_option maxHeartbeats 2000000 in
theorem spec_DecOk (n x : Int) (w : World) (hn : I64 n) (hx : I64 x) :
  Calls Tryz.prog 123 #[.agg (cF n x)] w fun e w' => e = .returned (.bool (decide (decOk n x))) ∧ Below w.heap.size w w' := by
 have HN := Lib.hid hn
 obtain ⟨hn0, hn1⟩ := hn
 obtain ⟨hx0, hx1⟩ := hx
 have hl : w.heap.size < (w.alloc (.cells (cF n x) 100)).heap.size := by simp
 have H0 := Lib.hid (below1 w (.cells (cF n x) 100))
 have q0 := Is.new w (cF n x) 100
 by_cases h0 : x = 0
 ·subst h0
  have HD := Lib.hid (show decide (decOk n 0) = decide (-1000000000000000 ≤ n ∧ n ≤ 1000000000000000) from decide_eq_decide.2 (by unfold decOk; simp))
  obtain ⟨bb, hbb⟩ : ∃ bb, decide (-1000000000000000 ≤ n ∧ n ≤ 1000000000000000) = bb := ⟨_, rfl⟩
  rw [hbb] at HD
  have D1 := Lib.hid hbb; clear hbb
  go_enter Tryz.func123, Tryz.ntmps123
  go_wp2_with (first | (go_at_call 74; refine (spec_l1In _ _ _ _).mono ?_; rintro e w2 ⟨rfl, hb⟩; rw [D1.out]; have HB2 := Lib.hid (below_step H0.out hb (by simp)); have q2 := q0.below hb hl; obtain ⟨r0, r1⟩ := q2.cells2; have hl2 : w.heap.size < w2.heap.size := Nat.lt_of_lt_of_le hl hb.size; clear hb) | (go_at_call 188; refine (spec_Digits n _ HN.out).mono ?_; rintro e w3 ⟨rfl, hb⟩; have HB3 := Lib.hid (below_step HB2.out hb HB2.out.size); have q3 := q2.below hb hl2; obtain ⟨s0, s1⟩ := q3.cells2; have hl3 : w.heap.size < w3.heap.size := Nat.lt_of_lt_of_le hl2 hb.size; clear hb))
  go_ret
  exact ⟨ret_b (by rw [HD.out]), HB2.out⟩
 by_cases h1 : -16 ≤ x ∧ x ≤ -1
 ·have D1 := Lib.hid (show decide ((-16 : Int) ≤ x ∧ x ≤ -1) = true from decide_eq_true h1)
  have hdl := digN_le n ⟨hn0, hn1⟩
  by_cases h3 : n.tmod 10 = 0
  ·have HD := Lib.hid (show decide (decOk n x) = false from decide_eq_false (by unfold decOk; rintro (h | h); exact h0 h.1; exact h.2.2.2 h3))
   go_enter Tryz.func123, Tryz.ntmps123
   go_wp2_with (first | (go_at_call 74; refine (spec_l1In _ _ _ _).mono ?_; rintro e w2 ⟨rfl, hb⟩; rw [D1.out]; have HB2 := Lib.hid (below_step H0.out hb (by simp)); have q2 := q0.below hb hl; obtain ⟨r0, r1⟩ := q2.cells2; have hl2 : w.heap.size < w2.heap.size := Nat.lt_of_lt_of_le hl hb.size; clear hb) | (go_at_call 188; refine (spec_Digits n _ HN.out).mono ?_; rintro e w3 ⟨rfl, hb⟩; have HB3 := Lib.hid (below_step HB2.out hb HB2.out.size); have q3 := q2.below hb hl2; obtain ⟨s0, s1⟩ := q3.cells2; have hl3 : w.heap.size < w3.heap.size := Nat.lt_of_lt_of_le hl2 hb.size; clear hb))
   go_ret
   exact ⟨ret_b (by rw [HD.out]), HB2.out⟩
  ·by_cases h2 : digN n ≤ 17
   ·have HD := Lib.hid (show decide (decOk n x) = true from decide_eq_true (Or.inr ⟨h0, h1, h2, h3⟩))
    go_enter Tryz.func123, Tryz.ntmps123
    go_wp2_with (first | (go_at_call 74; refine (spec_l1In _ _ _ _).mono ?_; rintro e w2 ⟨rfl, hb⟩; rw [D1.out]; have HB2 := Lib.hid (below_step H0.out hb (by simp)); have q2 := q0.below hb hl; obtain ⟨r0, r1⟩ := q2.cells2; have hl2 : w.heap.size < w2.heap.size := Nat.lt_of_lt_of_le hl hb.size; clear hb) | (go_at_call 188; refine (spec_Digits n _ HN.out).mono ?_; rintro e w3 ⟨rfl, hb⟩; have HB3 := Lib.hid (below_step HB2.out hb HB2.out.size); have q3 := q2.below hb hl2; obtain ⟨s0, s1⟩ := q3.cells2; have hl3 : w.heap.size < w3.heap.size := Nat.lt_of_lt_of_le hl2 hb.size; clear hb))
    go_ret
    exact ⟨ret_b (by rw [HD.out]; first | rfl | simp; omega), HB3.out⟩
   ·have HD := Lib.hid (show decide (decOk n x) = false from decide_eq_false (by unfold decOk; rintro (h | h); exact h0 h.1; exact h2 h.2.2.1))
    go_enter Tryz.func123, Tryz.ntmps123
    go_wp2_with (first | (go_at_call 74; refine (spec_l1In _ _ _ _).mono ?_; rintro e w2 ⟨rfl, hb⟩; rw [D1.out]; have HB2 := Lib.hid (below_step H0.out hb (by simp)); have q2 := q0.below hb hl; obtain ⟨r0, r1⟩ := q2.cells2; have hl2 : w.heap.size < w2.heap.size := Nat.lt_of_lt_of_le hl hb.size; clear hb) | (go_at_call 188; refine (spec_Digits n _ HN.out).mono ?_; rintro e w3 ⟨rfl, hb⟩; have HB3 := Lib.hid (below_step HB2.out hb HB2.out.size); have q3 := q2.below hb hl2; obtain ⟨s0, s1⟩ := q3.cells2; have hl3 : w.heap.size < w3.heap.size := Nat.lt_of_lt_of_le hl2 hb.size; clear hb))
    go_ret
    exact ⟨ret_b (by rw [HD.out]; first | rfl | simp; omega), HB3.out⟩
 ·have D1 := Lib.hid (show decide ((-16 : Int) ≤ x ∧ x ≤ -1) = false from decide_eq_false h1)
  have HD := Lib.hid (show decide (decOk n x) = false from decide_eq_false (by unfold decOk; rintro (h | h); exact h0 h.1; exact h1 h.2.1))
  go_enter Tryz.func123, Tryz.ntmps123
  go_wp2_with (first | (go_at_call 74; refine (spec_l1In _ _ _ _).mono ?_; rintro e w2 ⟨rfl, hb⟩; rw [D1.out]; have HB2 := Lib.hid (below_step H0.out hb (by simp)); have q2 := q0.below hb hl; obtain ⟨r0, r1⟩ := q2.cells2; have hl2 : w.heap.size < w2.heap.size := Nat.lt_of_lt_of_le hl hb.size; clear hb) | (go_at_call 188; refine (spec_Digits n _ HN.out).mono ?_; rintro e w3 ⟨rfl, hb⟩; have HB3 := Lib.hid (below_step HB2.out hb HB2.out.size); have q3 := q2.below hb hl2; obtain ⟨s0, s1⟩ := q3.cells2; have hl3 : w.heap.size < w3.heap.size := Nat.lt_of_lt_of_le hl2 hb.size; clear hb))
  go_ret
  exact ⟨ret_b (by rw [HD.out]), HB2.out⟩
set_option maxHeartbeats 2000000 in
theorem impl_FltOk (m x : Int) (w : World) (hm : I64 m) (hx : I64 x) :
  Calls Tryz.prog 144 #[.agg (cF m x)] w fun e w' => e = .returned (.bool (decide (fltOk m x))) ∧ Below w.heap.size w w' := by
 obtain ⟨hm0, hm1⟩ := hm
 obtain ⟨hx0, hx1⟩ := hx
 have hl : w.heap.size < (w.alloc (.cells (cF m x) 61)).heap.size := by simp
 have H0 := Lib.hid (below1 w (.cells (cF m x) 61))
 have q0 := Is.new w (cF m x) 61
 by_cases h0 : m = 0
 ·subst h0
  by_cases h1 : x = 0
  ·subst h1
   have HD := Lib.hid (show decide (fltOk 0 0) = true from decide_eq_true (Or.inl ⟨rfl, rfl⟩))
   go_enter Tryz.func144, Tryz.ntmps144
   go_wp2_with fail
   go_ret
   exact ⟨ret_b (by rw [HD.out]), H0.out⟩
  ·have HD := Lib.hid (show decide (fltOk 0 x) = false from decide_eq_false (by rintro (h | h); exact h1 h.2; exact h.1 rfl))
   go_enter Tryz.func144, Tryz.ntmps144
   go_wp2_with fail
   go_ret
   exact ⟨ret_b (by rw [HD.out]; simp [h1]), H0.out⟩
 by_cases h1 : m.tmod 2 = 0
 ·have HD := Lib.hid (show decide (fltOk m x) = false from decide_eq_false (by rintro (h | h); exact h0 h.1; exact h.2.2.1 h1))
  go_enter Tryz.func144, Tryz.ntmps144
  go_wp2_with fail
  go_ret
  exact ⟨ret_b (by rw [HD.out]), H0.out⟩
 by_cases h2 : -65535 ≤ m ∧ m ≤ 65535
 ·have D2 := Lib.hid (show decide ((-65535 : Int) ≤ m ∧ m ≤ 65535) = true from decide_eq_true h2)
  by_cases h3 : x < -16
  ·have HD := Lib.hid (show decide (fltOk m x) = false from decide_eq_false (by rintro (h | h); exact h0 h.1; have := h.2.2.2.1; omega))
   go_enter Tryz.func144, Tryz.ntmps144
   go_wp2_with (go_at_call 125; refine (impl_within _ _ _ _).mono ?_; rintro e w2 ⟨rfl, hb⟩; rw [D2.out]; have HB2 := Lib.hid (below_step H0.out hb (by simp)); have q2 := q0.below hb hl; obtain ⟨r0, r1⟩ := q2.cells2; have hl2 : w.heap.size < w2.heap.size := Nat.lt_of_lt_of_le hl hb.size; clear hb)
   go_ret
   exact ⟨ret_b (by rw [HD.out]), HB2.out⟩
  have h3' : -16 ≤ x := by omega
  have h3d : decide (x < -16) = false := decide_eq_false h3
  by_cases h4 : x ≤ 30
  ·have HD := Lib.hid (show decide (fltOk m x) = true from decide_eq_true (Or.inr ⟨h0, h2, h1, by omega, Or.inl h4⟩))
   go_enter Tryz.func144, Tryz.ntmps144
   go_wp2_with (go_at_call 125; refine (impl_within _ _ _ _).mono ?_; rintro e w2 ⟨rfl, hb⟩; rw [D2.out]; have HB2 := Lib.hid (below_step H0.out hb (by simp)); have q2 := q0.below hb hl; obtain ⟨r0, r1⟩ := q2.cells2; have hl2 : w.heap.size < w2.heap.size := Nat.lt_of_lt_of_le hl hb.size; clear hb)
   go_ret
   exact ⟨ret_b (by rw [HD.out]), HB2.out⟩
  by_cases h5 : x ≤ 46
  ·obtain ⟨bb, hbb⟩ : ∃ bb, decide (-65535 ≤ m * 2 ^ (x - 30).toNat ∧ m * 2 ^ (x - 30).toNat ≤ 65535) = bb := ⟨_, rfl⟩
   have HD := Lib.hid ((fltOk_big (m := m) (e := x) (x - 30).toNat (by omega) (by omega) h0 h2 h1).trans hbb)
   obtain rfl | rfl | rfl | rfl | rfl | rfl | rfl | rfl | rfl | rfl | rfl | rfl | rfl | rfl | rfl | rfl : x = 31 ∨ x = 32 ∨ x = 33 ∨ x = 34 ∨ x = 35 ∨ x = 36 ∨ x = 37 ∨ x = 38 ∨ x = 39 ∨ x = 40 ∨ x = 41 ∨ x = 42 ∨ x = 43 ∨ x = 44 ∨ x = 45 ∨ x = 46 := by omega
   all_goals
    simp only [Int.reduceSub, Int.reduceToNat, Int.reducePow] at hbb
    have HBB := Lib.hid hbb; clear hbb
    go_enter Tryz.func144, Tryz.ntmps144
    go_wp2_with (go_at_call 125; refine (impl_within _ _ _ _).mono ?_; rintro e w2 ⟨rfl, hb⟩; first | (rw [D2.out]; have HB2 := Lib.hid (below_step H0.out hb (by simp)); have q2 := q0.below hb hl; obtain ⟨r0, r1⟩ := q2.cells2; have hl2 : w.heap.size < w2.heap.size := Nat.lt_of_lt_of_le hl hb.size; clear hb) | (rw [HBB.out]; have HB3 := Lib.hid (below_step HB2.out hb HB2.out.size)))
    go_ret
    exact ⟨ret_b (by rw [HD.out]), HB3.out⟩
  ·have HD := Lib.hid (show decide (fltOk m x) = false from decide_eq_false (by rintro (h | h); exact h0 h.1; have := h.2.2.2.2; omega))
   go_enter Tryz.func144, Tryz.ntmps144
   go_wp2_with (go_at_call 125; refine (impl_within _ _ _ _).mono ?_; rintro e w2 ⟨rfl, hb⟩; rw [D2.out]; have HB2 := Lib.hid (below_step H0.out hb (by simp)); have q2 := q0.below hb hl; obtain ⟨r0, r1⟩ := q2.cells2; have hl2 : w.heap.size < w2.heap.size := Nat.lt_of_lt_of_le hl hb.size; clear hb)
   go_ret
   exact ⟨ret_b (by rw [HD.out]), HB2.out⟩
 ·have D2 := Lib.hid (show decide ((-65535 : Int) ≤ m ∧ m ≤ 65535) = false from decide_eq_false h2)
  have HD := Lib.hid (show decide (fltOk m x) = false from decide_eq_false (by rintro (h | h); exact h0 h.1; exact h2 h.2.1))
  go_enter Tryz.func144, Tryz.ntmps144
  go_wp2_with (go_at_call 125; refine (impl_within _ _ _ _).mono ?_; rintro e w2 ⟨rfl, hb⟩; rw [D2.out]; have HB2 := Lib.hid (below_step H0.out hb (by simp)); clear hb)
  go_ret
  exact ⟨ret_b (by rw [HD.out]), HB2.out⟩
set_option maxHeartbeats 2000000 in
theorem spec_FltOk (m x : Int) (w : World) (hm : I64 m) (hx : I64 x) :
  Calls Tryz.prog 122 #[.agg (cF m x)] w fun e w' => e = .returned (.bool (decide (fltOk m x))) ∧ Below w.heap.size w w' := by
 obtain ⟨hm0, hm1⟩ := hm
 obtain ⟨hx0, hx1⟩ := hx
 have hl : w.heap.size < (w.alloc (.cells (cF m x) 61)).heap.size := by simp
 have H0 := Lib.hid (below1 w (.cells (cF m x) 61))
 have q0 := Is.new w (cF m x) 61
 by_cases h0 : m = 0
 ·subst h0
  by_cases h1 : x = 0
  ·subst h1
   have HD := Lib.hid (show decide (fltOk 0 0) = true from decide_eq_true (Or.inl ⟨rfl, rfl⟩))
   go_enter Tryz.func122, Tryz.ntmps122
   go_wp2_with fail
   go_ret
   exact ⟨ret_b (by rw [HD.out]), H0.out⟩
  ·have HD := Lib.hid (show decide (fltOk 0 x) = false from decide_eq_false (by rintro (h | h); exact h1 h.2; exact h.1 rfl))
   go_enter Tryz.func122, Tryz.ntmps122
   go_wp2_with fail
   go_ret
   exact ⟨ret_b (by rw [HD.out]; simp [h1]), H0.out⟩
 by_cases h2 : -65535 ≤ m ∧ m ≤ 65535
 ·have D2 := Lib.hid (show decide ((-65535 : Int) ≤ m ∧ m ≤ 65535) = true from decide_eq_true h2)
  by_cases h1 : m.tmod 2 = 0
  ·have HD := Lib.hid (show decide (fltOk m x) = false from decide_eq_false (by rintro (h | h); exact h0 h.1; exact h.2.2.1 h1))
   go_enter Tryz.func122, Tryz.ntmps122
   go_wp2_with (go_at_call 74; refine (spec_l1In _ _ _ _).mono ?_; rintro e w2 ⟨rfl, hb⟩; first | (rw [D2.out]; have HB2 := Lib.hid (below_step H0.out hb (by simp)); have q2 := q0.below hb hl; obtain ⟨r0, r1⟩ := q2.cells2; have hl2 : w.heap.size < w2.heap.size := Nat.lt_of_lt_of_le hl hb.size; clear hb) | (rw [D3.out]; have HB3 := Lib.hid (below_step HB2.out hb HB2.out.size); have q3 := q2.below hb hl2; obtain ⟨s0, s1⟩ := q3.cells2; have hl3 : w.heap.size < w2.heap.size := Nat.lt_of_lt_of_le hl2 hb.size; clear hb) | (rw [HBB.out]; have HB4 := Lib.hid (below_step HB3.out hb HB3.out.size)))
   go_ret
   exact ⟨ret_b (by rw [HD.out]), HB2.out⟩
  by_cases h3 : -16 ≤ x ∧ x ≤ 45
  ·have D3 := Lib.hid (show decide ((-16 : Int) ≤ x ∧ x ≤ 45) = true from decide_eq_true h3)
   by_cases h4 : x ≤ 30
   ·have HD := Lib.hid (show decide (fltOk m x) = true from decide_eq_true (Or.inr ⟨h0, h2, h1, by omega, Or.inl h4⟩))
    go_enter Tryz.func122, Tryz.ntmps122
    go_wp2_with (go_at_call 74; refine (spec_l1In _ _ _ _).mono ?_; rintro e w2 ⟨rfl, hb⟩; first | (rw [D2.out]; have HB2 := Lib.hid (below_step H0.out hb (by simp)); have q2 := q0.below hb hl; obtain ⟨r0, r1⟩ := q2.cells2; have hl2 : w.heap.size < w2.heap.size := Nat.lt_of_lt_of_le hl hb.size; clear hb) | (rw [D3.out]; have HB3 := Lib.hid (below_step HB2.out hb HB2.out.size); have q3 := q2.below hb hl2; obtain ⟨s0, s1⟩ := q3.cells2; have hl3 : w.heap.size < w2.heap.size := Nat.lt_of_lt_of_le hl2 hb.size; clear hb) | (rw [HBB.out]; have HB4 := Lib.hid (below_step HB3.out hb HB3.out.size)))
    go_ret
    exact ⟨ret_b (by rw [HD.out]), HB3.out⟩
   ·obtain ⟨bb, hbb⟩ : ∃ bb, decide (-65535 ≤ m * 2 ^ (x - 30).toNat ∧ m * 2 ^ (x - 30).toNat ≤ 65535) = bb := ⟨_, rfl⟩
    have HD := Lib.hid ((fltOk_big (m := m) (e := x) (x - 30).toNat (by omega) (by omega) h0 h2 h1).trans hbb)
    obtain rfl | rfl | rfl | rfl | rfl | rfl | rfl | rfl | rfl | rfl | rfl | rfl | rfl | rfl | rfl : x = 31 ∨ x = 32 ∨ x = 33 ∨ x = 34 ∨ x = 35 ∨ x = 36 ∨ x = 37 ∨ x = 38 ∨ x = 39 ∨ x = 40 ∨ x = 41 ∨ x = 42 ∨ x = 43 ∨ x = 44 ∨ x = 45 := by omega
    all_goals
     simp only [Int.reduceSub, Int.reduceToNat, Int.reducePow] at hbb
     have HBB := Lib.hid hbb; clear hbb
     go_enter Tryz.func122, Tryz.ntmps122
     go_wp2_with (go_at_call 74; refine (spec_l1In _ _ _ _).mono ?_; rintro e w2 ⟨rfl, hb⟩; first | (rw [D2.out]; have HB2 := Lib.hid (below_step H0.out hb (by simp)); have q2 := q0.below hb hl; obtain ⟨r0, r1⟩ := q2.cells2; have hl2 : w.heap.size < w2.heap.size := Nat.lt_of_lt_of_le hl hb.size; clear hb) | (rw [D3.out]; have HB3 := Lib.hid (below_step HB2.out hb HB2.out.size); have q3 := q2.below hb hl2; obtain ⟨s0, s1⟩ := q3.cells2; have hl3 : w.heap.size < w2.heap.size := Nat.lt_of_lt_of_le hl2 hb.size; clear hb) | (rw [HBB.out]; have HB4 := Lib.hid (below_step HB3.out hb HB3.out.size)))
     go_ret
     exact ⟨ret_b (by rw [HD.out]), HB4.out⟩
  ·have D3 := Lib.hid (show decide ((-16 : Int) ≤ x ∧ x ≤ 45) = false from decide_eq_false h3)
   have HD := Lib.hid (show decide (fltOk m x) = false from decide_eq_false (by
    rintro (h | h); exact h0 h.1
    have e46 := h.2.2.2.2
    by_cases h46 : x = 46
    ·subst h46
     rcases e46 with h | h
     ·omega
     ·simp only [Int.reduceSub, Int.reduceToNat, Int.reducePow] at h; omega
    ·omega))
   go_enter Tryz.func122, Tryz.ntmps122
   go_wp2_with (go_at_call 74; refine (spec_l1In _ _ _ _).mono ?_; rintro e w2 ⟨rfl, hb⟩; first | (rw [D2.out]; have HB2 := Lib.hid (below_step H0.out hb (by simp)); have q2 := q0.below hb hl; obtain ⟨r0, r1⟩ := q2.cells2; have hl2 : w.heap.size < w2.heap.size := Nat.lt_of_lt_of_le hl hb.size; clear hb) | (rw [D3.out]; have HB3 := Lib.hid (below_step HB2.out hb HB2.out.size); have q3 := q2.below hb hl2; obtain ⟨s0, s1⟩ := q3.cells2; have hl3 : w.heap.size < w2.heap.size := Nat.lt_of_lt_of_le hl2 hb.size; clear hb) | (rw [HBB.out]; have HB4 := Lib.hid (below_step HB3.out hb HB3.out.size)))
   go_ret
   exact ⟨ret_b (by rw [HD.out]), HB3.out⟩
 ·have D2 := Lib.hid (show decide ((-65535 : Int) ≤ m ∧ m ≤ 65535) = false from decide_eq_false h2)
  have HD := Lib.hid (show decide (fltOk m x) = false from decide_eq_false (by rintro (h | h); exact h0 h.1; exact h2 h.2.1))
  go_enter Tryz.func122, Tryz.ntmps122
  go_wp2_with (go_at_call 74; refine (spec_l1In _ _ _ _).mono ?_; rintro e w2 ⟨rfl, hb⟩; first | (rw [D2.out]; have HB2 := Lib.hid (below_step H0.out hb (by simp)); have q2 := q0.below hb hl; obtain ⟨r0, r1⟩ := q2.cells2; have hl2 : w.heap.size < w2.heap.size := Nat.lt_of_lt_of_le hl hb.size; clear hb) | (rw [D3.out]; have HB3 := Lib.hid (below_step HB2.out hb HB2.out.size); have q3 := q2.below hb hl2; obtain ⟨s0, s1⟩ := q3.cells2; have hl3 : w.heap.size < w2.heap.size := Nat.lt_of_lt_of_le hl2 hb.size; clear hb) | (rw [HBB.out]; have HB4 := Lib.hid (below_step HB3.out hb HB3.out.size)))
  go_ret
  exact ⟨ret_b (by rw [HD.out]), HB2.out⟩
end Go.Proofs.YtggdenkmohnijaaGreatDoor
