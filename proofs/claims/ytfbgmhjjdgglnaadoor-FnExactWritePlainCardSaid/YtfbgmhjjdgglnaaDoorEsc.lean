/- Contracts and lemmas for the proofs of this seat: Esc. No condition beyond those stated. -/
import Derived.Test.YtfbgmhjjdgglnaaDoorRows
import Derived.WalkKit
import Derived.ProofKit
import Derived.OpenShut
import Derived.Handy
import Derived.Lib.Hide
import Derived.Lib.SmallJoins
import Derived.Laws.BytesArg
import Derived.Deep.RegionHeld3
import Derived.Deep.QuietTactic
import Derived.BigQuiet
import Derived.Lib.ValidAsc
import Derived.Test.YtfbgmhjjdgglnaaDoorBase
import Derived.Test.YtfbgmhjjdgglnaaDoorGen
import Derived.Test.YtfbgmhjjdgglnaaDoorKit
import Derived.Test.YtfbgmhjjdgglnaaDoorMark
import Derived.Test.YtfbgmhjjdgglnaaDoorApp
import Derived.Test.YtfbgmhjjdgglnaaDoorMarkV
import Derived.Test.YtfbgmhjjdgglnaaDoorLawVal
import Derived.Test.YtfbgmhjjdgglnaaDoorCopy
import Derived.Test.YtfbgmhjjdgglnaaDoorPathAt
import Derived.Test.YtfbgmhjjdgglnaaDoorPathAt2
import Derived.Test.YtfbgmhjjdgglnaaDoorSame2
import Derived.Test.YtfbgmhjjdgglnaaDoorOnce
import Derived.Test.YtfbgmhjjdgglnaaDoorNamesT
import Derived.Test.YtfbgmhjjdgglnaaDoorShelf
import Derived.Test.YtfbgmhjjdgglnaaDoorTextF
import Derived.Test.YtfbgmhjjdgglnaaDoorValF
import Derived.Test.YtfbgmhjjdgglnaaDoorRune
import Derived.Test.YtfbgmhjjdgglnaaDoorHexT
import Derived.Test.YtfbgmhjjdgglnaaDoorPutR
namespace Go.Proofs.YtfbgmhjjdgglnaaDoor
open Go.ChangeShapes Go.WideShapes Go.ChangeAt Go.RowKit Go.Joins
set_option linter.unusedVariables false
set_option maxRecDepth 100000
/-- A character as it stands in quotes. -/
def escT (n : Int) : ByteArray :=
  if ¬ runeOk n then ⟨#[]⟩ else if n = 34 then ⟨#[92, 34]⟩ else if n = 92 then ⟨#[92, 92]⟩ else if n = 8 then ⟨#[92, 98]⟩ else if n = 9 then ⟨#[92, 116]⟩ else if n = 10 then ⟨#[92, 110]⟩ else if n = 12 then ⟨#[92, 102]⟩ else if n = 13 then ⟨#[92, 114]⟩ else if n < 32 then ⟨#[92, 117, 48, 48]⟩ ++ hexT (Utf8.encode n) else Utf8.encode n
theorem escT_no (n : Int) (h : ¬ runeOk n) : escT n = ⟨#[]⟩ := if_pos h
theorem escT_34 : escT 34 = ⟨#[92, 34]⟩ := rfl
theorem escT_92 : escT 92 = ⟨#[92, 92]⟩ := rfl
theorem escT_8 : escT 8 = ⟨#[92, 98]⟩ := rfl
theorem escT_9 : escT 9 = ⟨#[92, 116]⟩ := rfl
theorem escT_10 : escT 10 = ⟨#[92, 110]⟩ := rfl
theorem escT_12 : escT 12 = ⟨#[92, 102]⟩ := rfl
theorem escT_13 : escT 13 = ⟨#[92, 114]⟩ := rfl
theorem escT_low (n : Int) (h : runeOk n) (hn : n ≠ 34 ∧ n ≠ 92 ∧ n ≠ 8 ∧ n ≠ 9 ∧ n ≠ 10 ∧ n ≠ 12 ∧ n ≠ 13) (h2 : n < 32) : escT n = ⟨#[92, 117, 48, 48]⟩ ++ hexT (Utf8.encode n) := by
  unfold escT; rw [if_neg (by simp [h]), if_neg hn.1, if_neg hn.2.1, if_neg hn.2.2.1, if_neg hn.2.2.2.1, if_neg hn.2.2.2.2.1, if_neg hn.2.2.2.2.2.1, if_neg hn.2.2.2.2.2.2, if_pos h2]
theorem escT_high (n : Int) (h : runeOk n) (hn : n ≠ 34 ∧ n ≠ 92 ∧ n ≠ 8 ∧ n ≠ 9 ∧ n ≠ 10 ∧ n ≠ 12 ∧ n ≠ 13) (h2 : ¬ n < 32) : escT n = Utf8.encode n := by
  unfold escT; rw [if_neg (by simp [h]), if_neg hn.1, if_neg hn.2.1, if_neg hn.2.2.1, if_neg hn.2.2.2.1, if_neg hn.2.2.2.2.1, if_neg hn.2.2.2.2.2.1, if_neg hn.2.2.2.2.2.2, if_neg h2]
theorem enc_low (n : Int) (h0 : 0 ≤ n) (h : n < 128) : strOfNums [n] = Utf8.encode n := by
  have := encN_str n ⟨⟨h0, by omega⟩, by omega⟩
  unfold encN at this; rw [if_pos h] at this; exact this
theorem enc_size (n : Int) : (Utf8.encode n).size ≤ 4 := by
  unfold Utf8.encode; simp only []; repeat' split
  all_goals first | decide | (simp [ByteArray.size])
theorem hexT_size (s : ByteArray) : (hexT s).size = 2 * s.size := by
  unfold hexT; rw [strOfNums_size, hexL_len, ← Lib.size_eq]
theorem esc_index : ∀ k : Fin 32, Lib.indexByte [8, 9, 10, 12, 13] (k.val.toUInt8) = if k.val = 8 then 0 else if k.val = 9 then 1 else if k.val = 10 then 2 else if k.val = 12 then 3 else if k.val = 13 then 4 else -1 := by decide
theorem runeOk_low (n : Int) (h0 : 0 ≤ n) (h : n < 128) : runeOk n := ⟨⟨h0, by omega⟩, by omega⟩
theorem impl_RuneOk (n : Int) (w : World) : Calls Tryd.prog 150 #[.int .i64 n] w fun e w' => e = .returned (.bool (decide (runeOk n))) ∧ Below w.heap.size w w' := by
  have hacc := Below.refl w.heap.size w
  by_cases h1 : 0 ≤ n ∧ n ≤ 1114111
  · have HA := Lib.hid (show decide (0 ≤ n ∧ n ≤ 1114111) = true from decide_eq_true h1)
    by_cases h2 : 55296 ≤ n ∧ n ≤ 57343
    · have HD := Lib.hid (show decide (runeOk n) = false from decide_eq_false (fun h => h.2 h2))
      have HB := Lib.hid (show decide (55296 ≤ n ∧ n ≤ 57343) = true from decide_eq_true h2)
      rw [HD.out]
      go_enter Tryd.func150, Tryd.ntmps150
      go_wp2_with (go_at_call 56; refine (impl_within _ _ _ _).mono ?_; rintro e v ⟨rfl, hb⟩; replace hacc := below_step hacc hb hacc.size; first | rw [HA.out] | rw [HB.out])
      go_ret
      exact ⟨rfl, hacc⟩
    · have HD := Lib.hid (show decide (runeOk n) = true from decide_eq_true ⟨h1, h2⟩)
      have HB := Lib.hid (show decide (55296 ≤ n ∧ n ≤ 57343) = false from decide_eq_false h2)
      rw [HD.out]
      go_enter Tryd.func150, Tryd.ntmps150
      go_wp2_with (go_at_call 56; refine (impl_within _ _ _ _).mono ?_; rintro e v ⟨rfl, hb⟩; replace hacc := below_step hacc hb hacc.size; first | rw [HA.out] | rw [HB.out])
      go_ret
      exact ⟨rfl, hacc⟩
  · have HD := Lib.hid (show decide (runeOk n) = false from decide_eq_false (fun h => h1 h.1))
    have HA := Lib.hid (show decide (0 ≤ n ∧ n ≤ 1114111) = false from decide_eq_false h1)
    rw [HD.out]
    go_enter Tryd.func150, Tryd.ntmps150
    go_wp2_with (go_at_call 56; refine (impl_within _ _ _ _).mono ?_; rintro e v ⟨rfl, hb⟩; replace hacc := below_step hacc hb hacc.size; first | rw [HA.out])
    go_ret
    exact ⟨rfl, hacc⟩
set_option maxHeartbeats 4000000 in
theorem spec_EscapeOf (n : Int) (w : World) (hi : I64 n) : Calls Tryd.prog 127 #[.int .i64 n] w fun e w' => e = .returned (.string (escT n)) ∧ Below w.heap.size w w' := by
  obtain ⟨hi0, hi1⟩ := hi
  by_cases hr : runeOk n
  · have HR := Lib.hid (show decide (runeOk n) = true from decide_eq_true hr)
    obtain ⟨hr0, hr1⟩ := hr.1
    by_cases hsp : n = 34 ∨ n = 92 ∨ n = 8 ∨ n = 9 ∨ n = 10 ∨ n = 12 ∨ n = 13
    · obtain rfl | rfl | rfl | rfl | rfl | rfl | rfl := hsp
      all_goals
        go_enter Tryd.func127, Tryd.ntmps127
        go_wp2_with (go_at_call 140; refine (spec_RuneOk _ _).mono ?_; rintro e w2 ⟨rfl, hb2⟩; rw [HR.out])
        go_ret
        exact ⟨rfl, hb2⟩
    · have hn : n ≠ 34 ∧ n ≠ 92 ∧ n ≠ 8 ∧ n ≠ 9 ∧ n ≠ 10 ∧ n ≠ 12 ∧ n ≠ 13 := by omega
      by_cases h32 : n < 32
      · have HE := Lib.hid (escT_low n hr hn h32)
        have HL := Lib.hid (enc_low n hr0 (by omega))
        have hz := hexT_size (Utf8.encode n)
        have hz2 := enc_size n
        have hz3 : (⟨#[92, 117, 48, 48]⟩ : ByteArray).size = 4 := rfl
        clear hr hsp
        go_enter Tryd.func127, Tryd.ntmps127
        go_wp2_with fail
        refine (spec_RuneOk _ _).mono ?_
        rintro e w2 ⟨rfl, hb2⟩
        rw [HR.out]
        have hcv := run_convert_bytes_arg (P := Tryd.prog) (w2.alloc (.cells #[.int .u8 n] 5)) 82 5 Tryd.underlying82 Tryd.underlying5 w2.heap.size 0 1 1 [n] rfl (by intro i hi; (obtain rfl : i = 0 := (by omega)); exact (Is.new w2 _ _).cell 0 rfl) 9 Tryd.underlying9
        rw [HL.out] at hcv
        have HB3 := Lib.hid (hb2.trans ((below1 w2 (.cells #[.int .u8 n] 5)).mono hb2.size))
        clear hb2
        go_wp2_with fail
        refine (spec_HexText _ _ (by omega)).mono ?_
        rintro e w3 ⟨rfl, hb3⟩
        go_wp2_with fail
        go_ret
        exact ⟨ret_s HE.out.symm, HB3.out.trans (hb3.mono HB3.out.size)⟩
      · have HE := Lib.hid (escT_high n hr hn h32)
        have HRO := Lib.hid hr
        clear hr hsp
        go_enter Tryd.func127, Tryd.ntmps127
        go_wp2_with fail
        refine (spec_RuneOk _ _).mono ?_
        rintro e w2 ⟨rfl, hb2⟩
        rw [HR.out]
        have hc0 := (Is.new w2 #[.int .i64 n] 3).cell 0 rfl
        have HB3 := Lib.hid (hb2.trans ((below1 w2 (.cells #[.int .i64 n] 3)).mono hb2.size))
        have HC := Lib.hid hc0
        clear hb2 hc0
        go_wp2_with fail
        refine (spec_FromRune n w2.heap.size 1 _ HRO.out (by omega) (by omega) (by simp) HC.out).mono ?_
        rintro e w3 ⟨rfl, hb3⟩
        go_wp2_with fail
        go_ret
        exact ⟨ret_s HE.out.symm, HB3.out.trans (hb3.mono HB3.out.size)⟩
  · have HR := Lib.hid (show decide (runeOk n) = false from decide_eq_false hr)
    have HE := Lib.hid (escT_no n hr)
    clear hr
    go_enter Tryd.func127, Tryd.ntmps127
    go_wp2_with (go_at_call 140; refine (spec_RuneOk _ _).mono ?_; rintro e w2 ⟨rfl, hb2⟩; rw [HR.out])
    go_ret
    exact ⟨ret_s HE.out.symm, hb2⟩
set_option maxHeartbeats 8000000 in
theorem impl_EscapeOf (n : Int) (w : World) (hi : I64 n) : Calls Tryd.prog 143 #[.int .i64 n] w fun e w' => e = .returned (.string (escT n)) ∧ Below w.heap.size w w' := by
  obtain ⟨hi0, hi1⟩ := hi
  by_cases hr : runeOk n
  · have HR := Lib.hid (show decide (runeOk n) = true from decide_eq_true hr)
    obtain ⟨hr0, hr1⟩ := hr.1
    by_cases hq : n = 34 ∨ n = 92
    · obtain rfl | rfl := hq
      all_goals
        go_enter Tryd.func143, Tryd.ntmps143
        go_wp2_with (go_at_call 150; refine (impl_RuneOk _ _).mono ?_; rintro e w2 ⟨rfl, hb2⟩; rw [HR.out])
        go_ret
        exact ⟨rfl, hb2⟩
    by_cases h32 : n < 32
    · have HI0 := esc_index ⟨n.toNat, by omega⟩
      simp only at HI0
      by_cases hsp : n = 8 ∨ n = 9 ∨ n = 10 ∨ n = 12 ∨ n = 13
      · obtain rfl | rfl | rfl | rfl | rfl := hsp
        · have HI := Lib.hid (show Lib.indexByte (⟨#[8, 9, 10, 12, 13]⟩ : ByteArray).data.toList ((8 : Int).toNat.toUInt8) = 0 from by rfl)
          clear HI0
          go_enter Tryd.func143, Tryd.ntmps143
          go_wp2_with (first | (go_at_call 150; refine (impl_RuneOk _ _).mono ?_; rintro e w2 ⟨rfl, hb2⟩; rw [HR.out]) | (go_at_call 151; refine (Tryd.strings_IndexByte _ _ _).mono ?_; rintro e w4 ⟨rfl, rfl⟩; rw [HI.out]))
          go_ret
          exact ⟨rfl, hb2⟩
        · have HI := Lib.hid (show Lib.indexByte (⟨#[8, 9, 10, 12, 13]⟩ : ByteArray).data.toList ((9 : Int).toNat.toUInt8) = 1 from by rfl)
          clear HI0
          go_enter Tryd.func143, Tryd.ntmps143
          go_wp2_with (first | (go_at_call 150; refine (impl_RuneOk _ _).mono ?_; rintro e w2 ⟨rfl, hb2⟩; rw [HR.out]) | (go_at_call 151; refine (Tryd.strings_IndexByte _ _ _).mono ?_; rintro e w4 ⟨rfl, rfl⟩; rw [HI.out]))
          go_ret
          exact ⟨rfl, hb2⟩
        · have HI := Lib.hid (show Lib.indexByte (⟨#[8, 9, 10, 12, 13]⟩ : ByteArray).data.toList ((10 : Int).toNat.toUInt8) = 2 from by rfl)
          clear HI0
          go_enter Tryd.func143, Tryd.ntmps143
          go_wp2_with (first | (go_at_call 150; refine (impl_RuneOk _ _).mono ?_; rintro e w2 ⟨rfl, hb2⟩; rw [HR.out]) | (go_at_call 151; refine (Tryd.strings_IndexByte _ _ _).mono ?_; rintro e w4 ⟨rfl, rfl⟩; rw [HI.out]))
          go_ret
          exact ⟨rfl, hb2⟩
        · have HI := Lib.hid (show Lib.indexByte (⟨#[8, 9, 10, 12, 13]⟩ : ByteArray).data.toList ((12 : Int).toNat.toUInt8) = 3 from by rfl)
          clear HI0
          go_enter Tryd.func143, Tryd.ntmps143
          go_wp2_with (first | (go_at_call 150; refine (impl_RuneOk _ _).mono ?_; rintro e w2 ⟨rfl, hb2⟩; rw [HR.out]) | (go_at_call 151; refine (Tryd.strings_IndexByte _ _ _).mono ?_; rintro e w4 ⟨rfl, rfl⟩; rw [HI.out]))
          go_ret
          exact ⟨rfl, hb2⟩
        · have HI := Lib.hid (show Lib.indexByte (⟨#[8, 9, 10, 12, 13]⟩ : ByteArray).data.toList ((13 : Int).toNat.toUInt8) = 4 from by rfl)
          clear HI0
          go_enter Tryd.func143, Tryd.ntmps143
          go_wp2_with (first | (go_at_call 150; refine (impl_RuneOk _ _).mono ?_; rintro e w2 ⟨rfl, hb2⟩; rw [HR.out]) | (go_at_call 151; refine (Tryd.strings_IndexByte _ _ _).mono ?_; rintro e w4 ⟨rfl, rfl⟩; rw [HI.out]))
          go_ret
          exact ⟨rfl, hb2⟩
      · have hn : n ≠ 34 ∧ n ≠ 92 ∧ n ≠ 8 ∧ n ≠ 9 ∧ n ≠ 10 ∧ n ≠ 12 ∧ n ≠ 13 := by omega
        have HE := Lib.hid (escT_low n hr hn h32)
        have HI := Lib.hid (show Lib.indexByte (⟨#[8, 9, 10, 12, 13]⟩ : ByteArray).data.toList (n.toNat.toUInt8) = -1 from by
          refine HI0.trans ?_
          rw [if_neg (by omega), if_neg (by omega), if_neg (by omega), if_neg (by omega), if_neg (by omega)])
        have hz := hexT_size (Utf8.encode n)
        have hz2 := enc_size n
        have hz3 : (⟨#[92, 117, 48, 48]⟩ : ByteArray).size = 4 := rfl
        have e34 : (n == 34) = false := beq_eq_false_iff_ne.2 hn.1
        have e92 : (n == 92) = false := beq_eq_false_iff_ne.2 hn.2.1
        clear hr hsp HI0 hq
        go_enter Tryd.func143, Tryd.ntmps143
        go_wp2_with (first | (go_at_call 150; refine (impl_RuneOk _ _).mono ?_; rintro e w2 ⟨rfl, hb2⟩; rw [HR.out]) | (go_at_call 151; refine (Tryd.strings_IndexByte _ _ _).mono ?_; rintro e w4 ⟨rfl, rfl⟩; rw [HI.out]))
        refine (impl_HexText _ _ (by omega)).mono ?_
        rintro e w3 ⟨rfl, hb3⟩
        go_wp2_with fail
        go_ret
        exact ⟨ret_s HE.out.symm, hb2.trans (hb3.mono hb2.size)⟩
    · have hn : n ≠ 34 ∧ n ≠ 92 ∧ n ≠ 8 ∧ n ≠ 9 ∧ n ≠ 10 ∧ n ≠ 12 ∧ n ≠ 13 := by omega
      have HE := Lib.hid (escT_high n hr hn h32)
      have e34 : (n == 34) = false := beq_eq_false_iff_ne.2 hn.1
      have e92 : (n == 92) = false := beq_eq_false_iff_ne.2 hn.2.1
      clear hr hq
      go_enter Tryd.func143, Tryd.ntmps143
      go_wp2_with (go_at_call 150; refine (impl_RuneOk _ _).mono ?_; rintro e w2 ⟨rfl, hb2⟩; rw [HR.out])
      go_ret
      exact ⟨ret_s HE.out.symm, hb2⟩
  · have HR := Lib.hid (show decide (runeOk n) = false from decide_eq_false hr)
    have HE := Lib.hid (escT_no n hr)
    clear hr
    go_enter Tryd.func143, Tryd.ntmps143
    go_wp2_with (go_at_call 150; refine (impl_RuneOk _ _).mono ?_; rintro e w2 ⟨rfl, hb2⟩; rw [HR.out])
    go_ret
    exact ⟨ret_s HE.out.symm, hb2⟩
end Go.Proofs.YtfbgmhjjdgglnaaDoor
