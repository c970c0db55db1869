/- Texts of this proof, merged: Big1, Big2, Big3, Big4, DecF, DecF2. No condition beyond what each theorem states. -/
import Derived.Test.YtohfljaaaojjmaaGreatDoorRows
import Derived.WalkKit
import Derived.ProofKit
import Derived.OpenShut
import Derived.Handy
import Derived.Lib.Hide
import Derived.Lib.SmallJoins
import Derived.Deep.RegionHeld3
import Derived.Deep.QuietTactic
import Derived.BigQuiet
import Derived.Test.YtohfljaaaojjmaaGreatDoorZK1
import Derived.Test.YtohfljaaaojjmaaGreatDoorZK2
import Derived.Test.YtohfljaaaojjmaaGreatDoorZK5
import Derived.Test.YtohfljaaaojjmaaGreatDoorZK6
import Derived.Test.YtohfljaaaojjmaaGreatDoorZK3
import Derived.Test.YtohfljaaaojjmaaGreatDoorZK4
import Derived.Laws.Bits64
import Derived.Laws.Bits64b
import Derived.Deep.CutBlock
import Derived.Deep.DeepCutAuto
import Derived.Laws.BytesArg
import Derived.Lib.ItoaNum
import Derived.Lib.ItoaLen
import Derived.Lib.AppendIntMem
import Derived.Test.YtohfljaaaojjmaaGreatDoorShelf
set_option linter.unusedSimpArgs false
set_option linter.unnecessarySimpa false
namespace Go.Proofs.YtohfljaaaojjmaaGreatDoor
open Go.ChangeShapes Go.WideShapes Go.ChangeAt Go.RowKit Go.Joins
set_option linter.unusedVariables false
set_option maxRecDepth 100000
theorem spec_l1InE (n lo hi : Int) (w : World) : Calls Tryz.prog 59 #[.int .i64 n, .int .i64 lo, .int .i64 hi] w fun e w' => e = .returned (.bool (decide (lo ≤ n ∧ n ≤ hi))) ∧ w' = w := by
  by_cases h1 : lo ≤ n
  · by_cases h2 : n ≤ hi
    · have hd : decide (lo ≤ n ∧ n ≤ hi) = true := decide_eq_true ⟨h1, h2⟩
      rw [hd]; clear hd
      go_enter Tryz.func59, Tryz.ntmps59
      go_wp2
      go_ret
      exact ⟨rfl, rfl⟩
    · have hd : decide (lo ≤ n ∧ n ≤ hi) = false := decide_eq_false (fun h => h2 h.2)
      rw [hd]; clear hd
      go_enter Tryz.func59, Tryz.ntmps59
      go_wp2
      go_ret
      exact ⟨rfl, rfl⟩
  · have hd : decide (lo ≤ n ∧ n ≤ hi) = false := decide_eq_false (fun h => h1 h.1)
    rw [hd]; clear hd
    go_enter Tryz.func59, Tryz.ntmps59
    go_wp2
    go_ret
    exact ⟨rfl, rfl⟩
theorem impl_withinE (n lo hi : Int) (w : World) : Calls Tryz.prog 104 #[.int .i64 n, .int .i64 lo, .int .i64 hi] w fun e w' => e = .returned (.bool (decide (lo ≤ n ∧ n ≤ hi))) ∧ w' = w := by
  by_cases h1 : lo ≤ n
  · by_cases h2 : n ≤ hi
    · have hd : decide (lo ≤ n ∧ n ≤ hi) = true := decide_eq_true ⟨h1, h2⟩
      rw [hd]; clear hd
      go_enter Tryz.func104, Tryz.ntmps104
      go_wp2
      go_ret
      exact ⟨rfl, rfl⟩
    · have hd : decide (lo ≤ n ∧ n ≤ hi) = false := decide_eq_false (fun h => h2 h.2)
      rw [hd]; clear hd
      go_enter Tryz.func104, Tryz.ntmps104
      go_wp2
      go_ret
      exact ⟨rfl, rfl⟩
  · have hd : decide (lo ≤ n ∧ n ≤ hi) = false := decide_eq_false (fun h => h1 h.1)
    rw [hd]; clear hd
    go_enter Tryz.func104, Tryz.ntmps104
    go_wp2
    go_ret
    exact ⟨rfl, rfl⟩
def okW (w : Int) : Bool := w == 1 || w == 2 || w == 4 || w == 8
theorem okW_iff (w : Int) : okW w = true ↔ (w = 1 ∨ w = 2 ∨ w = 4 ∨ w = 8) := by unfold okW; simp [or_assoc]
theorem spec_l3WidthE (n : Int) (w : World) : Calls Tryz.prog 161 #[.int .i64 n] w fun e w' => e = .returned (.bool (okW n)) ∧ w' = w := by
  go_enter Tryz.func161, Tryz.ntmps161
  go_wp2
  all_goals
    go_ret
    exact ⟨ret_b (by first | rfl | (simp [okW]; done) | (simp [okW]; omega)), rfl⟩
theorem spec_l3Width (n : Int) (w : World) : Calls Tryz.prog 161 #[.int .i64 n] w fun e w' => e = .returned (.bool (okW n)) ∧ Below w.heap.size w w' := (spec_l3WidthE n w).mono (fun _ _ h => ⟨h.1, h.2 ▸ Below.refl _ _⟩)
theorem impl_isWidthE (n : Int) (w : World) : Calls Tryz.prog 191 #[.int .i64 n] w fun e w' => e = .returned (.bool (okW n)) ∧ w' = w := by
  go_enter Tryz.func191, Tryz.ntmps191
  go_wp2
  all_goals
    go_ret
    exact ⟨ret_b (by first | rfl | (simp [okW]; done) | (simp [okW]; omega)), rfl⟩
theorem impl_isWidth (n : Int) (w : World) : Calls Tryz.prog 191 #[.int .i64 n] w fun e w' => e = .returned (.bool (okW n)) ∧ Below w.heap.size w w' := (impl_isWidthE n w).mono (fun _ _ h => ⟨h.1, h.2 ▸ Below.refl _ _⟩)
theorem spec_WidthForE (n : Int) (w : World) : Calls Tryz.prog 112 #[.int .i64 n] w fun e w' => e = .returned (.int .i64 (widthD n)) ∧ w' = w := by
  have HD := Lib.hid (show widthD n = if n < 0 then 0 else if n < 256 then 1 else if n < 65536 then 2 else if n < 4294967296 then 4 else 8 from rfl)
  by_cases h1 : n < 0
  · go_enter Tryz.func112, Tryz.ntmps112
    go_wp2
    go_ret
    exact ⟨ret_i (by rw [HD.out, if_pos (by omega)]), rfl⟩
  by_cases h2 : n < 256
  · go_enter Tryz.func112, Tryz.ntmps112
    go_wp2
    go_ret
    exact ⟨ret_i (by rw [HD.out, if_neg (by omega), if_pos (by omega)]), rfl⟩
  by_cases h3 : n < 65536
  · go_enter Tryz.func112, Tryz.ntmps112
    go_wp2
    go_ret
    exact ⟨ret_i (by rw [HD.out, if_neg (by omega), if_neg (by omega), if_pos (by omega)]), rfl⟩
  by_cases h4 : n < 4294967296
  · go_enter Tryz.func112, Tryz.ntmps112
    go_wp2
    go_ret
    exact ⟨ret_i (by rw [HD.out, if_neg (by omega), if_neg (by omega), if_neg (by omega), if_pos (by omega)]), rfl⟩
  go_enter Tryz.func112, Tryz.ntmps112
  go_wp2
  go_ret
  exact ⟨ret_i (by rw [HD.out, if_neg (by omega), if_neg (by omega), if_neg (by omega), if_neg (by omega)]), rfl⟩
theorem impl_fitsIntoE (n k : Int) (w : World) (hk : k = 1 ∨ k = 2 ∨ k = 4 ∨ k = 8) (hn : I64 n) : Calls Tryz.prog 192 #[.int .i64 n, .int .i64 k] w fun e w' => e = .returned (.bool (decide (fitW n k))) ∧ w' = w := by
  obtain ⟨hn0, hn1⟩ := hn
  by_cases h0 : n < 0
  · have hd : decide (fitW n k) = false := decide_eq_false (by unfold fitW; omega)
    rw [hd]; clear hd
    go_enter Tryz.func192, Tryz.ntmps192
    go_wp2
    go_ret
    exact ⟨rfl, rfl⟩
  obtain rfl | rfl | rfl | rfl := hk
  · have hd : (n / 256 == 0) = decide (fitW n 1) := by rw [Bool.eq_iff_iff]; simp only [beq_iff_eq, decide_eq_true_iff]; unfold fitW; omega
    rw [← hd]; clear hd
    go_enter Tryz.func192, Tryz.ntmps192
    go_wp2
    go_ret
    exact ⟨rfl, rfl⟩
  · have hd : (n / 65536 == 0) = decide (fitW n 2) := by rw [Bool.eq_iff_iff]; simp only [beq_iff_eq, decide_eq_true_iff]; unfold fitW; omega
    rw [← hd]; clear hd
    go_enter Tryz.func192, Tryz.ntmps192
    go_wp2
    go_ret
    exact ⟨rfl, rfl⟩
  · have hd : (n / 4294967296 == 0) = decide (fitW n 4) := by rw [Bool.eq_iff_iff]; simp only [beq_iff_eq, decide_eq_true_iff]; unfold fitW; omega
    rw [← hd]; clear hd
    go_enter Tryz.func192, Tryz.ntmps192
    go_wp2
    go_ret
    exact ⟨rfl, rfl⟩
  · have hd : decide (fitW n 8) = true := decide_eq_true (by unfold fitW; omega)
    rw [hd]; clear hd
    go_enter Tryz.func192, Tryz.ntmps192
    go_wp2
    go_ret
    exact ⟨rfl, rfl⟩
theorem impl_fitsInto (n k : Int) (w : World) (hk : k = 1 ∨ k = 2 ∨ k = 4 ∨ k = 8) (hn : I64 n) : Calls Tryz.prog 192 #[.int .i64 n, .int .i64 k] w fun e w' => e = .returned (.bool (decide (fitW n k))) ∧ Below w.heap.size w w' := (impl_fitsIntoE n k w hk hn).mono (fun _ _ h => ⟨h.1, h.2 ▸ Below.refl _ _⟩)
theorem impl_WidthForE (n : Int) (w : World) (hn : I64 n) : Calls Tryz.prog 190 #[.int .i64 n] w fun e w' => e = .returned (.int .i64 (widthD n)) ∧ w' = w := by
  have HN := Lib.hid hn
  clear hn
  by_cases h0 : n < 0
  · have HD := Lib.hid (show widthD n = 0 from if_pos h0)
    rw [HD.out]
    go_enter Tryz.func190, Tryz.ntmps190
    go_wp2
    go_ret
    exact ⟨rfl, rfl⟩
  · go_enter Tryz.func190, Tryz.ntmps190
    go_wp2_with fail
    go_loopw [3] (fun v wr => ∃ k : Int, v = .int .i64 k ∧ (k = 1 ∨ k = 2 ∨ k = 4 ∨ k = 8) ∧ Hid (k ≤ widthD n) ∧ wr = w) (fun v _ => 8 - (intOf v).toNat)
    case atStart => exact ⟨1, rfl, by omega, Lib.hid (by have := widthD_in n (by omega); omega), rfl⟩
    case round =>
      obtain ⟨k, rfl, hk, HK, rfl⟩ := hrel
      have HI := Lib.hid (widthD_in n (by omega))
      have HF := Lib.hid (widthD_fit n k (by omega) hk)
      by_cases hf : fitW n k
      · have hd : decide (fitW n k) = true := decide_eq_true hf
        have HE : Hid (widthD n = k) := Lib.hid (by have := HF.out.1 hf; have := HK.out; omega)
        go_wp2_with fail
        refine (impl_fitsIntoE n k _ hk HN.out).mono ?_
        rintro e w2 ⟨rfl, rfl⟩
        rw [hd]
        clear hd
        go_wp2_with fail
        go_ret
        exact ⟨ret_i HE.out.symm, rfl⟩
      · have hd : decide (fitW n k) = false := decide_eq_false hf
        have hk2 : k = 1 ∨ k = 2 ∨ k = 4 := by rcases hk with h | h | h | h; (· omega); (· omega); (· omega); exact absurd (HF.out.2 (by have := HI.out; omega)) hf
        have HE : Hid (2 * k ≤ widthD n) := Lib.hid (by have h1 : ¬ widthD n ≤ k := fun h => hf (HF.out.2 h); have := HI.out; omega)
        go_wp2_with fail
        refine (impl_fitsIntoE n k _ hk HN.out).mono ?_
        rintro e w2 ⟨rfl, rfl⟩
        rw [hd]
        clear hd hf
        obtain rfl | rfl | rfl := hk2
        all_goals
          go_wp2_with fail
          go_roundw
          case rel => exact ⟨_, rfl, by omega, Lib.hid (by have := HE.out; omega), by first | rfl | trivial⟩
          case measure => simp [intOf]
end Go.Proofs.YtohfljaaaojjmaaGreatDoor
namespace Go.Proofs.YtohfljaaaojjmaaGreatDoor
open Go.ChangeShapes Go.WideShapes Go.ChangeAt Go.RowKit Go.Joins
set_option linter.unusedVariables false
set_option maxRecDepth 100000
theorem and255 (x : Int) (h0 : 0 ≤ x) (h1 : x ≤ 9223372036854775807) : bits .and .i64 x 255 = x % 256 := by
  obtain ⟨u, rfl⟩ := Int.eq_ofNat_of_zero_le h0
  have h2 : (BitVec.ofInt 64 (u : Int)).toNat = u := by
    rw [BitVec.ofInt_natCast, BitVec.toNat_ofNat]; exact Nat.mod_eq_of_lt (by omega)
  show IntKind.i64.wrap ((BitVec.ofInt 64 (u : Int) &&& BitVec.ofInt 64 255).toNat : Int) = _
  rw [BitVec.toNat_and, h2, show (BitVec.ofInt 64 255).toNat = 255 from by decide, Nat.and_two_pow_sub_one_eq_mod u 8, Go.IntWalk.i64_left]
  rw [Go.IntWalk.wrap64_in _ ⟨by omega, by omega⟩]
  omega
theorem u8_mod (x : Int) : IntKind.u8.wrap (x % 256) = x % 256 := by
  rw [IntKind.wrap_u8]; omega
theorem fitW_w {n k : Int} (h : fitW n k) : k = 1 ∨ k = 2 ∨ k = 4 ∨ k = 8 := by obtain ⟨_, h⟩ := h; omega
/-- A copy of bytes, by append to an empty row. -/
theorem copyB (w : World) (b : List Int) (a : Option Addr) (cap B : Nat) (hr : Rd EByte 1 w B a cap b) (hB : B ≤ w.heap.size) (hz : b.length ≤ 1099511627776) :
    ∃ a' cap' w', (Builtin.append_ #[22, 22] 22 #[.slice (some ⟨w.heap.size, 0, none⟩) 0 0, .slice a b.length cap]).run Tryz.prog (w.alloc (.cells #[] 5)) = .ok (.slice a' b.length cap') w' ∧
      AppL EByte 1 5 w' w.heap.size a' cap' b [] ∧ Below w.heap.size w w' := by
  obtain ⟨a', cap', w', hrun, happ, hbel, _, _, _⟩ := run_appL (P := Tryz.prog) (w.alloc (.cells #[] 5)) EByte.elem 22 22 (.int .u8 0) 1 Tryz.underlying22 info_Byte2 rfl w.heap.size (some ⟨w.heap.size, 0, none⟩) 0 [] [] (AppL.empty w w.heap.size (Nat.le_refl _)) (by simp) (by simp) a cap b [] ((hr.below EByte.loc (below1 w _) hB).srcs EByte.flat) (by simp) (by simp [maxLen]; omega) (by simp; omega)
  exact ⟨a', cap', w', hrun, happ, (below1 w _).trans hbel⟩
set_option maxHeartbeats 8000000 in
theorem spec_PutBig (b : List Int) (n k : Int) (a : Option Addr) (cap B : Nat) (w : World) (hr : Rd EByte 1 w B a cap b) (hf : fitW n k) (hn : n ≤ 9223372036854775807) (hz : b.length ≤ 1099511627776) (hB : B ≤ w.heap.size) :
    Calls Tryz.prog 111 #[.slice a b.length cap, .int .i64 n, .int .i64 k] w fun e w' => ∃ a' cap', e = .returned (.slice a' (b ++ bigL n k.toNat).length cap') ∧ AppL EByte 1 5 w' w.heap.size a' cap' (b ++ bigL n k.toNat) [] ∧ Below w.heap.size w w' := by
  obtain ⟨a1, c1, w1, hrun, happ, hb1⟩ := copyB w b a cap B hr hB hz
  obtain ⟨hl1, hl2⟩ := hr.len
  have HA1 := Lib.hid happ
  have HB1 := Lib.hid hb1
  have hk := fitW_w hf
  obtain ⟨hn0, hfk⟩ := hf
  have hs1 := hb1.size
  have hkb : okW k = true := (okW_iff k).2 hk
  have hkl : k.toNat ≤ 8 := by omega
  clear happ hb1 hr
  go_enter Tryz.func111, Tryz.ntmps111
  go_upto_region 2 with (at_builtin; refine Lib.wpList_append_run _ rfl _ _ _ _ rfl _ _ rfl rfl _ _ hrun ?_)
  clear hrun
  go_cut [29] (fun cv wx => cv = .bool false ∧ Hid (Below w1.heap.size w1 wx))
  case first =>
    obtain rfl | rfl | rfl | rfl := hk
    · have hq : n / 256 = 0 := by omega
      go_wp2_with fail
      refine (spec_l3Width 1 _).mono ?_
      rintro e w2 ⟨rfl, hb2⟩
      rw [hkb]
      have K := Lib.hid hb2; clear hb2
      go_wp2_with fail
      go_meet
      case rel => exact ⟨by first | rfl | rw [decide_eq_false (show ¬ n < 0 by omega)], K⟩
    · have hq : n / 65536 = 0 := by omega
      go_wp2_with fail
      refine (spec_l3Width 2 _).mono ?_
      rintro e w2 ⟨rfl, hb2⟩
      rw [hkb]
      have K := Lib.hid hb2; clear hb2
      go_wp2_with fail
      go_meet
      case rel => exact ⟨by first | rfl | rw [decide_eq_false (show ¬ n < 0 by omega)], K⟩
    · have hq : n / 4294967296 = 0 := by omega
      go_wp2_with fail
      refine (spec_l3Width 4 _).mono ?_
      rintro e w2 ⟨rfl, hb2⟩
      rw [hkb]
      have K := Lib.hid hb2; clear hb2
      go_wp2_with fail
      go_meet
      case rel => exact ⟨by first | rfl | rw [decide_eq_false (show ¬ n < 0 by omega)], K⟩
    · go_wp2_with fail
      refine (spec_l3Width 8 _).mono ?_
      rintro e w2 ⟨rfl, hb2⟩
      rw [hkb]
      have K := Lib.hid hb2; clear hb2
      go_wp2_with fail
      go_meet
      case rel => exact ⟨by first | rfl | rw [decide_eq_false (show ¬ n < 0 by omega)], K⟩
  case rest =>
    obtain ⟨rfl, HX⟩ := hcut
    rename World => wx
    have hk1 : -9223372036854775808 ≤ k - 1 ∧ k - 1 ≤ 9223372036854775807 := by omega
    have e1 : (k - 1 : Int) = ((k.toNat : Nat) : Int) - 1 := by omega
    have HE1 := Lib.hid e1
    clear e1 hfk
    go_upto_region 5 with (fail)
    have HX1 := Lib.hid (HA1.out.agree EByte.elem (fun f hf => HX.out.block f hf) hs1)
    have HX2 := Lib.hid (HB1.out.trans (HX.out.mono hs1))
    have hkz : k.toNat ≤ 8 := hkl
    go_loopw [7, 8] (fun q iv wr => ∃ (m : Nat) (out : List Int) (ar : Option Addr) (cr : Nat), m ≤ 8 ∧ iv = .int .i64 ((m : Int) - 1) ∧ q = .slice ar out.length cr ∧ Hid (AppL EByte 1 5 wr w.heap.size ar cr out []) ∧ Hid (out ++ bigL n m = b ++ bigL n k.toNat) ∧ Hid (Below w.heap.size w wr)) (fun _ iv _ => (intOf iv + 1).toNat)
    case atStart => exact ⟨k.toNat, b, a1, c1, hkl, by rw [← HE1.out], rfl, HX1, Lib.hid rfl, HX2⟩
    case round =>
      clear HX1 HX2 HA1 HB1 HX
      obtain ⟨m, out, ar, cr, hm, rfl, rfl, HA, HO, HB⟩ := hrel
      have hbs := HB.out.size
      have hol : out.length ≤ 1099511627784 := by
        have h1 := congrArg List.length HO.out
        rw [List.length_append, List.length_append, bigL_len, bigL_len] at h1; omega
      cases m with
      | zero =>
        have HE : Hid (out = b ++ bigL n k.toNat) := Lib.hid (by have := HO.out; rw [bigL, List.append_nil] at this; exact this)
        have h0 : ((0 : Nat) : Int) - 1 = -1 := rfl
        rw [h0]
        go_wp2_with fail
        go_ret
        exact ⟨ar, cr, by rw [← HE.out]; rfl, by rw [← HE.out]; exact HA.out, HB.out⟩
      | succ m =>
        have HO2 : Hid ((out ++ [n / 256 ^ m % 256]) ++ bigL n m = b ++ bigL n k.toNat) := Lib.hid (by have := HO.out; rw [bigL] at this; rw [List.append_assoc]; exact this)
        have h0 : ((m + 1 : Nat) : Int) - 1 = (m : Int) := by omega
        rw [h0]
        have hU : U8 (n / 256 ^ m % 256) := by unfold U8; omega
        have HN := Lib.hid (HA.out.agree EByte.elem (fun f hf => (below1 wr (.cells #[Value.int IntKind.u8 (n / 256 ^ m % 256)] 5)).block f hf) hbs)
        have hmm : m = 0 ∨ m = 1 ∨ m = 2 ∨ m = 3 ∨ m = 4 ∨ m = 5 ∨ m = 6 ∨ m = 7 := by omega
        clear HO
        obtain rfl | rfl | rfl | rfl | rfl | rfl | rfl | rfl := hmm
        · have ev : n / 256 ^ 0 % 256 = n % 256 := by rw [Int.pow_zero, Int.ediv_one]
          have hand := and255 n (by omega) (by omega)
          have hu8 := u8_mod n
          rw [ev] at HO2 hU HN
          clear ev
          go_wp2_with (at_builtin; refine wpList_appL EByte.elem rfl _ _ 22 rfl (.int .u8 0) 1 Tryz.underlying22 info_Byte2 rfl w.heap.size ar cr out [] rfl HN.out (by simp; omega) wr.heap.size 0 1 1 [n % 256] [] rfl rfl ⟨[], [], rfl, ⟨rfl, (Is.new wr #[.int .u8 (n % 256)] 5).cell 0 rfl, hU⟩, rfl⟩ (by simp) (by omega) (by unfold maxLen; omega) (by omega) ?_; intro ar2 cr2 w3 happ3 hb3)
          exact ⟨⟨0, out ++ [n % 256], ar2, cr2, by omega, by first | rfl | go_num, by rw [List.length_append]; rfl, Lib.hid happ3, HO2, Lib.hid ((HB.out.trans ((below1 wr _).mono hbs)).trans hb3)⟩, by simp [intOf]⟩
        · have ev : n / 256 ^ 1 % 256 = n / 256 % 256 := by rw [show (256 : Int) ^ 1 = 256 from by decide]
          have hand := and255 (n / 256) (by omega) (by omega)
          have hu8 := u8_mod (n / 256)
          rw [ev] at HO2 hU HN
          clear ev
          go_wp2_with (at_builtin; refine wpList_appL EByte.elem rfl _ _ 22 rfl (.int .u8 0) 1 Tryz.underlying22 info_Byte2 rfl w.heap.size ar cr out [] rfl HN.out (by simp; omega) wr.heap.size 0 1 1 [n / 256 % 256] [] rfl rfl ⟨[], [], rfl, ⟨rfl, (Is.new wr #[.int .u8 (n / 256 % 256)] 5).cell 0 rfl, hU⟩, rfl⟩ (by simp) (by omega) (by unfold maxLen; omega) (by omega) ?_; intro ar2 cr2 w3 happ3 hb3)
          exact ⟨⟨1, out ++ [n / 256 % 256], ar2, cr2, by omega, by first | rfl | go_num, by rw [List.length_append]; rfl, Lib.hid happ3, HO2, Lib.hid ((HB.out.trans ((below1 wr _).mono hbs)).trans hb3)⟩, by simp [intOf]⟩
        · have ev : n / 256 ^ 2 % 256 = n / 65536 % 256 := by rw [show (256 : Int) ^ 2 = 65536 from by decide]
          have hand := and255 (n / 65536) (by omega) (by omega)
          have hu8 := u8_mod (n / 65536)
          rw [ev] at HO2 hU HN
          clear ev
          go_wp2_with (at_builtin; refine wpList_appL EByte.elem rfl _ _ 22 rfl (.int .u8 0) 1 Tryz.underlying22 info_Byte2 rfl w.heap.size ar cr out [] rfl HN.out (by simp; omega) wr.heap.size 0 1 1 [n / 65536 % 256] [] rfl rfl ⟨[], [], rfl, ⟨rfl, (Is.new wr #[.int .u8 (n / 65536 % 256)] 5).cell 0 rfl, hU⟩, rfl⟩ (by simp) (by omega) (by unfold maxLen; omega) (by omega) ?_; intro ar2 cr2 w3 happ3 hb3)
          exact ⟨⟨2, out ++ [n / 65536 % 256], ar2, cr2, by omega, by first | rfl | go_num, by rw [List.length_append]; rfl, Lib.hid happ3, HO2, Lib.hid ((HB.out.trans ((below1 wr _).mono hbs)).trans hb3)⟩, by simp [intOf]⟩
        · have ev : n / 256 ^ 3 % 256 = n / 16777216 % 256 := by rw [show (256 : Int) ^ 3 = 16777216 from by decide]
          have hand := and255 (n / 16777216) (by omega) (by omega)
          have hu8 := u8_mod (n / 16777216)
          rw [ev] at HO2 hU HN
          clear ev
          go_wp2_with (at_builtin; refine wpList_appL EByte.elem rfl _ _ 22 rfl (.int .u8 0) 1 Tryz.underlying22 info_Byte2 rfl w.heap.size ar cr out [] rfl HN.out (by simp; omega) wr.heap.size 0 1 1 [n / 16777216 % 256] [] rfl rfl ⟨[], [], rfl, ⟨rfl, (Is.new wr #[.int .u8 (n / 16777216 % 256)] 5).cell 0 rfl, hU⟩, rfl⟩ (by simp) (by omega) (by unfold maxLen; omega) (by omega) ?_; intro ar2 cr2 w3 happ3 hb3)
          exact ⟨⟨3, out ++ [n / 16777216 % 256], ar2, cr2, by omega, by first | rfl | go_num, by rw [List.length_append]; rfl, Lib.hid happ3, HO2, Lib.hid ((HB.out.trans ((below1 wr _).mono hbs)).trans hb3)⟩, by simp [intOf]⟩
        · have ev : n / 256 ^ 4 % 256 = n / 4294967296 % 256 := by rw [show (256 : Int) ^ 4 = 4294967296 from by decide]
          have hand := and255 (n / 4294967296) (by omega) (by omega)
          have hu8 := u8_mod (n / 4294967296)
          rw [ev] at HO2 hU HN
          clear ev
          go_wp2_with (at_builtin; refine wpList_appL EByte.elem rfl _ _ 22 rfl (.int .u8 0) 1 Tryz.underlying22 info_Byte2 rfl w.heap.size ar cr out [] rfl HN.out (by simp; omega) wr.heap.size 0 1 1 [n / 4294967296 % 256] [] rfl rfl ⟨[], [], rfl, ⟨rfl, (Is.new wr #[.int .u8 (n / 4294967296 % 256)] 5).cell 0 rfl, hU⟩, rfl⟩ (by simp) (by omega) (by unfold maxLen; omega) (by omega) ?_; intro ar2 cr2 w3 happ3 hb3)
          exact ⟨⟨4, out ++ [n / 4294967296 % 256], ar2, cr2, by omega, by first | rfl | go_num, by rw [List.length_append]; rfl, Lib.hid happ3, HO2, Lib.hid ((HB.out.trans ((below1 wr _).mono hbs)).trans hb3)⟩, by simp [intOf]⟩
        · have ev : n / 256 ^ 5 % 256 = n / 1099511627776 % 256 := by rw [show (256 : Int) ^ 5 = 1099511627776 from by decide]
          have hand := and255 (n / 1099511627776) (by omega) (by omega)
          have hu8 := u8_mod (n / 1099511627776)
          rw [ev] at HO2 hU HN
          clear ev
          go_wp2_with (at_builtin; refine wpList_appL EByte.elem rfl _ _ 22 rfl (.int .u8 0) 1 Tryz.underlying22 info_Byte2 rfl w.heap.size ar cr out [] rfl HN.out (by simp; omega) wr.heap.size 0 1 1 [n / 1099511627776 % 256] [] rfl rfl ⟨[], [], rfl, ⟨rfl, (Is.new wr #[.int .u8 (n / 1099511627776 % 256)] 5).cell 0 rfl, hU⟩, rfl⟩ (by simp) (by omega) (by unfold maxLen; omega) (by omega) ?_; intro ar2 cr2 w3 happ3 hb3)
          exact ⟨⟨5, out ++ [n / 1099511627776 % 256], ar2, cr2, by omega, by first | rfl | go_num, by rw [List.length_append]; rfl, Lib.hid happ3, HO2, Lib.hid ((HB.out.trans ((below1 wr _).mono hbs)).trans hb3)⟩, by simp [intOf]⟩
        · have ev : n / 256 ^ 6 % 256 = n / 281474976710656 % 256 := by rw [show (256 : Int) ^ 6 = 281474976710656 from by decide]
          have hand := and255 (n / 281474976710656) (by omega) (by omega)
          have hu8 := u8_mod (n / 281474976710656)
          rw [ev] at HO2 hU HN
          clear ev
          go_wp2_with (at_builtin; refine wpList_appL EByte.elem rfl _ _ 22 rfl (.int .u8 0) 1 Tryz.underlying22 info_Byte2 rfl w.heap.size ar cr out [] rfl HN.out (by simp; omega) wr.heap.size 0 1 1 [n / 281474976710656 % 256] [] rfl rfl ⟨[], [], rfl, ⟨rfl, (Is.new wr #[.int .u8 (n / 281474976710656 % 256)] 5).cell 0 rfl, hU⟩, rfl⟩ (by simp) (by omega) (by unfold maxLen; omega) (by omega) ?_; intro ar2 cr2 w3 happ3 hb3)
          exact ⟨⟨6, out ++ [n / 281474976710656 % 256], ar2, cr2, by omega, by first | rfl | go_num, by rw [List.length_append]; rfl, Lib.hid happ3, HO2, Lib.hid ((HB.out.trans ((below1 wr _).mono hbs)).trans hb3)⟩, by simp [intOf]⟩
        · have ev : n / 256 ^ 7 % 256 = n / 72057594037927936 % 256 := by rw [show (256 : Int) ^ 7 = 72057594037927936 from by decide]
          have hand := and255 (n / 72057594037927936) (by omega) (by omega)
          have hu8 := u8_mod (n / 72057594037927936)
          rw [ev] at HO2 hU HN
          clear ev
          go_wp2_with (at_builtin; refine wpList_appL EByte.elem rfl _ _ 22 rfl (.int .u8 0) 1 Tryz.underlying22 info_Byte2 rfl w.heap.size ar cr out [] rfl HN.out (by simp; omega) wr.heap.size 0 1 1 [n / 72057594037927936 % 256] [] rfl rfl ⟨[], [], rfl, ⟨rfl, (Is.new wr #[.int .u8 (n / 72057594037927936 % 256)] 5).cell 0 rfl, hU⟩, rfl⟩ (by simp) (by omega) (by unfold maxLen; omega) (by omega) ?_; intro ar2 cr2 w3 happ3 hb3)
          exact ⟨⟨7, out ++ [n / 72057594037927936 % 256], ar2, cr2, by omega, by first | rfl | go_num, by rw [List.length_append]; rfl, Lib.hid happ3, HO2, Lib.hid ((HB.out.trans ((below1 wr _).mono hbs)).trans hb3)⟩, by simp [intOf]⟩
set_option maxHeartbeats 8000000 in
theorem impl_PutBig (b : List Int) (n k : Int) (a : Option Addr) (cap B : Nat) (w : World) (hr : Rd EByte 1 w B a cap b) (hf : fitW n k) (hn : n ≤ 9223372036854775807) (hz : b.length ≤ 1099511627776) (hB : B ≤ w.heap.size) :
    Calls Tryz.prog 170 #[.slice a b.length cap, .int .i64 n, .int .i64 k] w fun e w' => ∃ a' cap', e = .returned (.slice a' (b ++ bigL n k.toNat).length cap') ∧ AppL EByte 1 5 w' w.heap.size a' cap' (b ++ bigL n k.toNat) [] ∧ Below w.heap.size w w' := by
  obtain ⟨a1, c1, w1, hrun, happ, hb1⟩ := copyB w b a cap B hr hB hz
  obtain ⟨hl1, hl2⟩ := hr.len
  have HA1 := Lib.hid happ
  have HB1 := Lib.hid hb1
  have hk := fitW_w hf
  have hfd : decide (fitW n k) = true := decide_eq_true hf
  obtain ⟨hn0, hfk⟩ := hf
  have hs1 := hb1.size
  have hkb : okW k = true := (okW_iff k).2 hk
  have hkl : k.toNat ≤ 8 := by omega
  clear happ hb1 hr
  go_enter Tryz.func170, Tryz.ntmps170
  go_upto_region 2 with (at_builtin; refine Lib.wpList_append_run _ rfl _ _ _ _ rfl _ _ rfl rfl _ _ hrun ?_)
  clear hrun
  go_cut [20] (fun cv wx => cv = .bool false ∧ Hid (Below w1.heap.size w1 wx))
  case first =>
    go_wp2_with fail
    refine (impl_isWidth k _).mono ?_
    rintro e w2 ⟨rfl, hb2⟩
    rw [hkb]
    have K := Lib.hid hb2
    have ks := hb2.size
    clear hb2
    go_wp2_with fail
    refine (impl_fitsInto n k _ hk ⟨by omega, hn⟩).mono ?_
    rintro e w3 ⟨rfl, hb3⟩
    rw [hfd]
    have K2 := Lib.hid (K.out.trans (hb3.mono ks)); clear hb3
    go_wp2_with fail
    go_meet
    case rel => exact ⟨rfl, K2⟩
  case rest =>
    obtain ⟨rfl, HX⟩ := hcut
    rename World => wx
    have hk1 : -9223372036854775808 ≤ k - 1 ∧ k - 1 ≤ 9223372036854775807 := by omega
    have e1 : (k - 1 : Int) = ((k.toNat : Nat) : Int) - 1 := by omega
    have HE1 := Lib.hid e1
    clear e1 hfk
    go_upto_region 5 with (fail)
    have HX1 := Lib.hid (HA1.out.agree EByte.elem (fun f hf => HX.out.block f hf) hs1)
    have HX2 := Lib.hid (HB1.out.trans (HX.out.mono hs1))
    have hkz : k.toNat ≤ 8 := hkl
    go_loopw [7, 8] (fun q iv wr => ∃ (m : Nat) (out : List Int) (ar : Option Addr) (cr : Nat), m ≤ 8 ∧ iv = .int .i64 ((m : Int) - 1) ∧ q = .slice ar out.length cr ∧ Hid (AppL EByte 1 5 wr w.heap.size ar cr out []) ∧ Hid (out ++ bigL n m = b ++ bigL n k.toNat) ∧ Hid (Below w.heap.size w wr)) (fun _ iv _ => (intOf iv + 1).toNat)
    case atStart => exact ⟨k.toNat, b, a1, c1, hkl, by rw [← HE1.out], rfl, HX1, Lib.hid rfl, HX2⟩
    case round =>
      clear HX1 HX2 HA1 HB1 HX
      obtain ⟨m, out, ar, cr, hm, rfl, rfl, HA, HO, HB⟩ := hrel
      have hbs := HB.out.size
      have hol : out.length ≤ 1099511627784 := by
        have h1 := congrArg List.length HO.out
        rw [List.length_append, List.length_append, bigL_len, bigL_len] at h1; omega
      cases m with
      | zero =>
        have HE : Hid (out = b ++ bigL n k.toNat) := Lib.hid (by have := HO.out; rw [bigL, List.append_nil] at this; exact this)
        have h0 : ((0 : Nat) : Int) - 1 = -1 := rfl
        rw [h0]
        go_wp2_with fail
        go_ret
        exact ⟨ar, cr, by rw [← HE.out]; rfl, by rw [← HE.out]; exact HA.out, HB.out⟩
      | succ m =>
        have HO2 : Hid ((out ++ [n / 256 ^ m % 256]) ++ bigL n m = b ++ bigL n k.toNat) := Lib.hid (by have := HO.out; rw [bigL] at this; rw [List.append_assoc]; exact this)
        have h0 : ((m + 1 : Nat) : Int) - 1 = (m : Int) := by omega
        rw [h0]
        have hU : U8 (n / 256 ^ m % 256) := by unfold U8; omega
        have HN := Lib.hid (HA.out.agree EByte.elem (fun f hf => (below1 wr (.cells #[Value.int IntKind.u8 (n / 256 ^ m % 256)] 5)).block f hf) hbs)
        have hmm : m = 0 ∨ m = 1 ∨ m = 2 ∨ m = 3 ∨ m = 4 ∨ m = 5 ∨ m = 6 ∨ m = 7 := by omega
        clear HO
        obtain rfl | rfl | rfl | rfl | rfl | rfl | rfl | rfl := hmm
        · have ev : n / 256 ^ 0 % 256 = n % 256 := by rw [Int.pow_zero, Int.ediv_one]
          have hu8 : IntKind.u8.wrap n = n % 256 := IntKind.wrap_u8 _
          rw [ev] at HO2 hU HN
          clear ev
          go_wp2_with (at_builtin; refine wpList_appL EByte.elem rfl _ _ 22 rfl (.int .u8 0) 1 Tryz.underlying22 info_Byte2 rfl w.heap.size ar cr out [] rfl HN.out (by simp; omega) wr.heap.size 0 1 1 [n % 256] [] rfl rfl ⟨[], [], rfl, ⟨rfl, (Is.new wr #[.int .u8 (n % 256)] 5).cell 0 rfl, hU⟩, rfl⟩ (by simp) (by omega) (by unfold maxLen; omega) (by omega) ?_; intro ar2 cr2 w3 happ3 hb3)
          exact ⟨⟨0, out ++ [n % 256], ar2, cr2, by omega, by first | rfl | go_num, by rw [List.length_append]; rfl, Lib.hid happ3, HO2, Lib.hid ((HB.out.trans ((below1 wr _).mono hbs)).trans hb3)⟩, by simp [intOf]⟩
        · have ev : n / 256 ^ 1 % 256 = n / 256 % 256 := by rw [show (256 : Int) ^ 1 = 256 from by decide]
          have hu8 : IntKind.u8.wrap (n / 256) = n / 256 % 256 := IntKind.wrap_u8 _
          rw [ev] at HO2 hU HN
          clear ev
          go_wp2_with (at_builtin; refine wpList_appL EByte.elem rfl _ _ 22 rfl (.int .u8 0) 1 Tryz.underlying22 info_Byte2 rfl w.heap.size ar cr out [] rfl HN.out (by simp; omega) wr.heap.size 0 1 1 [n / 256 % 256] [] rfl rfl ⟨[], [], rfl, ⟨rfl, (Is.new wr #[.int .u8 (n / 256 % 256)] 5).cell 0 rfl, hU⟩, rfl⟩ (by simp) (by omega) (by unfold maxLen; omega) (by omega) ?_; intro ar2 cr2 w3 happ3 hb3)
          exact ⟨⟨1, out ++ [n / 256 % 256], ar2, cr2, by omega, by first | rfl | go_num, by rw [List.length_append]; rfl, Lib.hid happ3, HO2, Lib.hid ((HB.out.trans ((below1 wr _).mono hbs)).trans hb3)⟩, by simp [intOf]⟩
        · have ev : n / 256 ^ 2 % 256 = n / 65536 % 256 := by rw [show (256 : Int) ^ 2 = 65536 from by decide]
          have hu8 : IntKind.u8.wrap (n / 65536) = n / 65536 % 256 := IntKind.wrap_u8 _
          rw [ev] at HO2 hU HN
          clear ev
          go_wp2_with (at_builtin; refine wpList_appL EByte.elem rfl _ _ 22 rfl (.int .u8 0) 1 Tryz.underlying22 info_Byte2 rfl w.heap.size ar cr out [] rfl HN.out (by simp; omega) wr.heap.size 0 1 1 [n / 65536 % 256] [] rfl rfl ⟨[], [], rfl, ⟨rfl, (Is.new wr #[.int .u8 (n / 65536 % 256)] 5).cell 0 rfl, hU⟩, rfl⟩ (by simp) (by omega) (by unfold maxLen; omega) (by omega) ?_; intro ar2 cr2 w3 happ3 hb3)
          exact ⟨⟨2, out ++ [n / 65536 % 256], ar2, cr2, by omega, by first | rfl | go_num, by rw [List.length_append]; rfl, Lib.hid happ3, HO2, Lib.hid ((HB.out.trans ((below1 wr _).mono hbs)).trans hb3)⟩, by simp [intOf]⟩
        · have ev : n / 256 ^ 3 % 256 = n / 16777216 % 256 := by rw [show (256 : Int) ^ 3 = 16777216 from by decide]
          have hu8 : IntKind.u8.wrap (n / 16777216) = n / 16777216 % 256 := IntKind.wrap_u8 _
          rw [ev] at HO2 hU HN
          clear ev
          go_wp2_with (at_builtin; refine wpList_appL EByte.elem rfl _ _ 22 rfl (.int .u8 0) 1 Tryz.underlying22 info_Byte2 rfl w.heap.size ar cr out [] rfl HN.out (by simp; omega) wr.heap.size 0 1 1 [n / 16777216 % 256] [] rfl rfl ⟨[], [], rfl, ⟨rfl, (Is.new wr #[.int .u8 (n / 16777216 % 256)] 5).cell 0 rfl, hU⟩, rfl⟩ (by simp) (by omega) (by unfold maxLen; omega) (by omega) ?_; intro ar2 cr2 w3 happ3 hb3)
          exact ⟨⟨3, out ++ [n / 16777216 % 256], ar2, cr2, by omega, by first | rfl | go_num, by rw [List.length_append]; rfl, Lib.hid happ3, HO2, Lib.hid ((HB.out.trans ((below1 wr _).mono hbs)).trans hb3)⟩, by simp [intOf]⟩
        · have ev : n / 256 ^ 4 % 256 = n / 4294967296 % 256 := by rw [show (256 : Int) ^ 4 = 4294967296 from by decide]
          have hu8 : IntKind.u8.wrap (n / 4294967296) = n / 4294967296 % 256 := IntKind.wrap_u8 _
          rw [ev] at HO2 hU HN
          clear ev
          go_wp2_with (at_builtin; refine wpList_appL EByte.elem rfl _ _ 22 rfl (.int .u8 0) 1 Tryz.underlying22 info_Byte2 rfl w.heap.size ar cr out [] rfl HN.out (by simp; omega) wr.heap.size 0 1 1 [n / 4294967296 % 256] [] rfl rfl ⟨[], [], rfl, ⟨rfl, (Is.new wr #[.int .u8 (n / 4294967296 % 256)] 5).cell 0 rfl, hU⟩, rfl⟩ (by simp) (by omega) (by unfold maxLen; omega) (by omega) ?_; intro ar2 cr2 w3 happ3 hb3)
          exact ⟨⟨4, out ++ [n / 4294967296 % 256], ar2, cr2, by omega, by first | rfl | go_num, by rw [List.length_append]; rfl, Lib.hid happ3, HO2, Lib.hid ((HB.out.trans ((below1 wr _).mono hbs)).trans hb3)⟩, by simp [intOf]⟩
        · have ev : n / 256 ^ 5 % 256 = n / 1099511627776 % 256 := by rw [show (256 : Int) ^ 5 = 1099511627776 from by decide]
          have hu8 : IntKind.u8.wrap (n / 1099511627776) = n / 1099511627776 % 256 := IntKind.wrap_u8 _
          rw [ev] at HO2 hU HN
          clear ev
          go_wp2_with (at_builtin; refine wpList_appL EByte.elem rfl _ _ 22 rfl (.int .u8 0) 1 Tryz.underlying22 info_Byte2 rfl w.heap.size ar cr out [] rfl HN.out (by simp; omega) wr.heap.size 0 1 1 [n / 1099511627776 % 256] [] rfl rfl ⟨[], [], rfl, ⟨rfl, (Is.new wr #[.int .u8 (n / 1099511627776 % 256)] 5).cell 0 rfl, hU⟩, rfl⟩ (by simp) (by omega) (by unfold maxLen; omega) (by omega) ?_; intro ar2 cr2 w3 happ3 hb3)
          exact ⟨⟨5, out ++ [n / 1099511627776 % 256], ar2, cr2, by omega, by first | rfl | go_num, by rw [List.length_append]; rfl, Lib.hid happ3, HO2, Lib.hid ((HB.out.trans ((below1 wr _).mono hbs)).trans hb3)⟩, by simp [intOf]⟩
        · have ev : n / 256 ^ 6 % 256 = n / 281474976710656 % 256 := by rw [show (256 : Int) ^ 6 = 281474976710656 from by decide]
          have hu8 : IntKind.u8.wrap (n / 281474976710656) = n / 281474976710656 % 256 := IntKind.wrap_u8 _
          rw [ev] at HO2 hU HN
          clear ev
          go_wp2_with (at_builtin; refine wpList_appL EByte.elem rfl _ _ 22 rfl (.int .u8 0) 1 Tryz.underlying22 info_Byte2 rfl w.heap.size ar cr out [] rfl HN.out (by simp; omega) wr.heap.size 0 1 1 [n / 281474976710656 % 256] [] rfl rfl ⟨[], [], rfl, ⟨rfl, (Is.new wr #[.int .u8 (n / 281474976710656 % 256)] 5).cell 0 rfl, hU⟩, rfl⟩ (by simp) (by omega) (by unfold maxLen; omega) (by omega) ?_; intro ar2 cr2 w3 happ3 hb3)
          exact ⟨⟨6, out ++ [n / 281474976710656 % 256], ar2, cr2, by omega, by first | rfl | go_num, by rw [List.length_append]; rfl, Lib.hid happ3, HO2, Lib.hid ((HB.out.trans ((below1 wr _).mono hbs)).trans hb3)⟩, by simp [intOf]⟩
        · have ev : n / 256 ^ 7 % 256 = n / 72057594037927936 % 256 := by rw [show (256 : Int) ^ 7 = 72057594037927936 from by decide]
          have hu8 : IntKind.u8.wrap (n / 72057594037927936) = n / 72057594037927936 % 256 := IntKind.wrap_u8 _
          rw [ev] at HO2 hU HN
          clear ev
          go_wp2_with (at_builtin; refine wpList_appL EByte.elem rfl _ _ 22 rfl (.int .u8 0) 1 Tryz.underlying22 info_Byte2 rfl w.heap.size ar cr out [] rfl HN.out (by simp; omega) wr.heap.size 0 1 1 [n / 72057594037927936 % 256] [] rfl rfl ⟨[], [], rfl, ⟨rfl, (Is.new wr #[.int .u8 (n / 72057594037927936 % 256)] 5).cell 0 rfl, hU⟩, rfl⟩ (by simp) (by omega) (by unfold maxLen; omega) (by omega) ?_; intro ar2 cr2 w3 happ3 hb3)
          exact ⟨⟨7, out ++ [n / 72057594037927936 % 256], ar2, cr2, by omega, by first | rfl | go_num, by rw [List.length_append]; rfl, Lib.hid happ3, HO2, Lib.hid ((HB.out.trans ((below1 wr _).mono hbs)).trans hb3)⟩, by simp [intOf]⟩
end Go.Proofs.YtohfljaaaojjmaaGreatDoor
namespace Go.Proofs.YtohfljaaaojjmaaGreatDoor
open Go.ChangeShapes Go.WideShapes Go.ChangeAt Go.RowKit Go.Joins
set_option linter.unusedVariables false
set_option maxRecDepth 100000
end Go.Proofs.YtohfljaaaojjmaaGreatDoor
namespace Go.Proofs.YtohfljaaaojjmaaGreatDoor
open Go.ChangeShapes Go.WideShapes Go.ChangeAt Go.RowKit Go.Joins
set_option linter.unusedVariables false
set_option maxRecDepth 100000
theorem Below.ofBox {w w' : World} {o : Obj} (h : Below (w.alloc o).heap.size (w.alloc o) w') : Below w.heap.size w w' := (below1 w o).trans (h.mono (by simp))
theorem fltBits_pos {m e : Int} (h : fltOk m e) (hm : ¬ m < 0) : fltBitsD m e = 65536 * (e + 16) + m := by
  unfold fltBitsD; rw [if_pos h, if_neg hm]; omega
theorem fltBits_neg {m e : Int} (h : fltOk m e) (hm : m < 0) : fltBitsD m e = 16777216 + 65536 * (e + 16) - m := by
  unfold fltBitsD; rw [if_pos h, if_pos hm]; omega
theorem fltOk_in {m e : Int} (h : fltOk m e) : -65535 ≤ m ∧ m ≤ 65535 ∧ -16 ≤ e ∧ e ≤ 46 := by
  rcases h with ⟨rfl, rfl⟩ | ⟨h1, h2, h3, h4, h5⟩
  · omega
  · omega
set_option maxHeartbeats 2000000 in
theorem spec_FltBits (m e : Int) (w : World) (hm : I64 m) (he : I64 e) : Calls Tryz.prog 71 #[.agg (cF m e)] w fun ee w' => ee = .returned (.int .i64 (fltBitsD m e)) ∧ Below w.heap.size w w' := by
  have q0 := Is.new w (cF m e) 61
  obtain ⟨c0, c1⟩ := q0.cells2
  have lg : w.heap.size < (w.alloc (.cells (cF m e) 61)).heap.size := by simp
  obtain ⟨bb, hbb⟩ : ∃ b, decide (fltOk m e) = b := ⟨_, rfl⟩
  have HBB := Lib.hid hbb; clear hbb
  go_enter Tryz.func71, Tryz.ntmps71
  go_wp2_with fail
  refine (spec_FltOk m e _ hm he).mono ?_
  rintro ee w2 ⟨rfl, hb2⟩
  rw [HBB.out]
  have HB2 := Lib.hid (Below.ofBox hb2)
  have p2 := q0.below hb2 lg
  obtain ⟨d0, d1⟩ := p2.cells2
  have lg2 : w.heap.size < w2.heap.size := p2.lt
  clear c0 c1 lg q0 p2 hb2
  cases bb with
  | false =>
    have HE := Lib.hid (show fltBitsD m e = -1 from if_neg (of_decide_eq_false HBB.out))
    go_wp2_with fail
    go_ret
    exact ⟨ret_i HE.out.symm, HB2.out⟩
  | true =>
    have hok := of_decide_eq_true HBB.out
    obtain ⟨i1, i2, i3, i4⟩ := fltOk_in hok
    by_cases hm0 : m < 0
    · have HE := Lib.hid (fltBits_neg hok hm0)
      have e1 : e - -16 = e + 16 := by omega
      clear hok hm he
      go_wp2_with fail
      go_ret
      exact ⟨ret_i (by rw [HE.out]; try omega), HB2.out⟩
    · have HE := Lib.hid (fltBits_pos hok hm0)
      clear hok hm he
      go_wp2_with fail
      go_ret
      exact ⟨ret_i (by rw [HE.out]; try omega), HB2.out⟩
set_option maxHeartbeats 2000000 in
theorem impl_FltBits (m e : Int) (w : World) (hm : I64 m) (he : I64 e) : Calls Tryz.prog 110 #[.agg (cF m e)] w fun ee w' => ee = .returned (.int .i64 (fltBitsD m e)) ∧ Below w.heap.size w w' := by
  have q0 := Is.new w (cF m e) 61
  obtain ⟨c0, c1⟩ := q0.cells2
  have lg : w.heap.size < (w.alloc (.cells (cF m e) 61)).heap.size := by simp
  obtain ⟨bb, hbb⟩ : ∃ b, decide (fltOk m e) = b := ⟨_, rfl⟩
  have HBB := Lib.hid hbb; clear hbb
  go_enter Tryz.func110, Tryz.ntmps110
  go_wp2_with fail
  refine (impl_FltOk m e _ hm he).mono ?_
  rintro ee w2 ⟨rfl, hb2⟩
  rw [HBB.out]
  have HB2 := Lib.hid (Below.ofBox hb2)
  have p2 := q0.below hb2 lg
  obtain ⟨d0, d1⟩ := p2.cells2
  have lg2 : w.heap.size < w2.heap.size := p2.lt
  clear c0 c1 lg q0 p2 hb2
  cases bb with
  | false =>
    have HE := Lib.hid (show fltBitsD m e = -1 from if_neg (of_decide_eq_false HBB.out))
    go_wp2_with fail
    go_ret
    exact ⟨ret_i HE.out.symm, HB2.out⟩
  | true =>
    have hok := of_decide_eq_true HBB.out
    obtain ⟨i1, i2, i3, i4⟩ := fltOk_in hok
    by_cases hm0 : m < 0
    · have HE := Lib.hid (fltBits_neg hok hm0)
      have hmx : max m (-m) = -m := by omega
      clear hok hm he
      go_wp2_with fail
      go_ret
      exact ⟨ret_i (by rw [HE.out]; try omega), HB2.out⟩
    · have HE := Lib.hid (fltBits_pos hok hm0)
      have hmx : max m (-m) = m := by omega
      clear hok hm he
      go_wp2_with fail
      go_ret
      exact ⟨ret_i (by rw [HE.out]; try omega), HB2.out⟩
theorem AppL.less {α : Type} {E : World → Nat → Nat → α → List Nat → Prop} {n : Nat} {e : TypeId} {w : World} {rlo rlo' cap : Nat} {a : Option Addr} {l : List α} (h : AppL E n e w rlo a cap l []) (hl : rlo' ≤ rlo) : AppL E n e w rlo' a cap l [] := by
  rcases h with h | ⟨g, cur, h0, h1, h2, h3, h4, h5, h6, _⟩
  · exact Or.inl h
  · exact Or.inr ⟨g, cur, h0, Nat.le_trans hl h1, h2, h3, h4, h5, h6, by simp⟩
theorem ret_sl {a : Option Addr} {c x y : Nat} (h : x = y) : Ending.returned (.slice a x c) = .returned (.slice a y c) := by rw [h]
theorem spec_PutBigL (len : Nat) (b : List Int) (n k : Int) (a : Option Addr) (cap B : Nat) (w : World) (hl : len = b.length) (hr : Rd EByte 1 w B a cap b) (hf : fitW n k) (hn : n ≤ 9223372036854775807) (hz : b.length ≤ 1099511627776) (hB : B ≤ w.heap.size) :
    Calls Tryz.prog 111 #[.slice a len cap, .int .i64 n, .int .i64 k] w fun e w' => ∃ a' cap', e = .returned (.slice a' (b ++ bigL n k.toNat).length cap') ∧ AppL EByte 1 5 w' w.heap.size a' cap' (b ++ bigL n k.toNat) [] ∧ Below w.heap.size w w' := by
  subst hl; exact spec_PutBig b n k a cap B w hr hf hn hz hB
end Go.Proofs.YtohfljaaaojjmaaGreatDoor
namespace Go.Proofs.YtohfljaaaojjmaaGreatDoor
open Go.ChangeShapes Go.WideShapes Go.ChangeAt Go.RowKit Go.Joins
set_option linter.unusedVariables false
set_option maxRecDepth 100000
theorem pow_mono {b j k : Nat} (hb : 1 ≤ b) (h : j ≤ k) : b ^ j ≤ b ^ k := Nat.pow_le_pow_right hb h
theorem pow_step {b j k : Nat} (hb : 1 ≤ b) (h : j < k) (hk : b ^ k ≤ 9223372036854775807) : (b ^ j : Nat) * b ≤ 9223372036854775807 := by
  rw [← Nat.pow_succ]; exact Nat.le_trans (pow_mono hb h) hk
theorem spec_Pow (b k : Nat) (w : World) (hb : b = 2 ∨ b = 5 ∨ b = 10) (hk2 : k ≤ 17) :
    Calls Tryz.prog 201 #[.int .i64 b, .int .i64 k] w fun e w' => e = .returned (.int .i64 (b ^ k : Nat)) ∧ Below w.heap.size w w' := by
  have hb1 : 1 ≤ b := by omega
  have hk : b ^ k ≤ 9223372036854775807 := by
    have h1 : b ^ k ≤ 10 ^ k := Nat.pow_le_pow_left (by omega) k
    have h2 : 10 ^ k ≤ 10 ^ 17 := Nat.pow_le_pow_right (by omega) hk2
    have h3 : (10 : Nat) ^ 17 = 100000000000000000 := by decide
    omega
  have HD := Lib.hid (show decide ((0 : Int) ≤ (k : Int) ∧ (k : Int) ≤ 17) = true from decide_eq_true ⟨by omega, by omega⟩)
  have HKK := Lib.hid hk; clear hk
  obtain ⟨P, hP⟩ : ∃ P, b ^ k = P := ⟨_, rfl⟩
  have HPP := Lib.hid hP; rw [hP]; clear hP
  obtain rfl | rfl | rfl := hb
  all_goals
    go_enter Tryz.func201, Tryz.ntmps201
    go_wp2_with (go_at_call 59; refine (spec_l1In _ _ _ _).mono ?_; rintro e w2 ⟨rfl, hb2⟩; rw [HD.out]; have HB2 := Lib.hid hb2)
    go_loopw [5, 6] (fun o i wr => ∃ (j p : Nat), j ≤ k ∧ i = .int .i64 j ∧ o = .int .i64 p ∧ Hid (p = _ ^ j) ∧ Below w.heap.size w wr) (fun _ i _ => k - (intOf i).toNat)
    case atStart => exact ⟨0, 1, Nat.zero_le _, rfl, rfl, by show _ = _; exact (Nat.pow_zero _).symm, HB2.out⟩
    case round =>
      obtain ⟨j, p, hj, rfl, rfl, HP, hb'⟩ := hrel
      by_cases hlt : j < k
      · have h1 := pow_step hb1 hlt HKK.out
        rw [← HP.out] at h1
        have HQ := Lib.hid (show p * _ = _ ^ (j + 1) from by rw [Nat.pow_succ, ← HP.out])
        go_wp2_with fail
        go_roundw
        case rel => exact ⟨j + 1, _, by omega, by go_num, by go_num, HQ.out, hb'⟩
        case measure => simp [intOf]; omega
      · have HE := Lib.hid (show p = P from by rw [HP.out, ← HPP.out, show j = k from by omega])
        go_wp2_with fail
        go_ret
        exact ⟨by rw [← HE.out]; rfl, hb'⟩
theorem spec_Pow5 (k : Nat) (kk : Int) (w : World) (h : kk = k) (hk2 : k ≤ 16) :
    Calls Tryz.prog 201 #[.int .i64 5, .int .i64 kk] w fun e w' => e = .returned (.int .i64 (5 ^ k : Nat)) ∧ Below w.heap.size w w' := by
  subst h; exact spec_Pow 5 k w (by omega) (by omega)
end Go.Proofs.YtohfljaaaojjmaaGreatDoor
namespace Go.Proofs.YtohfljaaaojjmaaGreatDoor
open Go.ChangeShapes Go.WideShapes Go.ChangeAt Go.RowKit Go.Joins
set_option linter.unusedVariables false
set_option maxRecDepth 100000
/-- The number and the power of ten that stay when zeros at the end are taken off, while the power is below 0. -/
def stripD : Nat → Int → Int × Nat
  | 0, n => (n, 0)
  | m + 1, n => if n.tmod 10 = 0 then stripD m (n.tdiv 10) else (n, m + 1)
theorem stripD_zero (n : Int) : stripD 0 n = (n, 0) := rfl
theorem stripD_no (m : Nat) (n : Int) (h : n.tmod 10 ≠ 0) : stripD m n = (n, m) := by
  cases m with
  | zero => rfl
  | succ m => rw [stripD, if_neg h]
theorem stripD_yes (m : Nat) (n : Int) (hm : 0 < m) (h : n.tmod 10 = 0) : stripD m n = stripD (m - 1) (n.tdiv 10) := by
  cases m with
  | zero => omega
  | succ m => rw [stripD, if_pos h]; rfl
theorem stripD_le (m : Nat) : ∀ n : Int, (stripD m n).2 ≤ m := by
  induction m with
  | zero => intro n; simp [stripD]
  | succ m ih =>
    intro n
    rw [stripD]
    split
    · have := ih (n.tdiv 10); omega
    · simp
/-- The decimal number of n and 10 to the -m. -/
def decNewD (n : Int) (m : Nat) : (Int × Int) × Bool :=
  if 17 < digN n then ((0, 0), false)
  else if n = 0 then ((0, 0), true)
  else if decOk (stripD m n).1 (-((stripD m n).2 : Int)) then (((stripD m n).1, -((stripD m n).2 : Int)), true) else ((0, 0), false)
theorem Is.cells2b {w : World} {g : Nat} {e : TypeId} {v0 v1 : Value} (h : Is w g e #[v0, v1]) : w.cell? ⟨g, 0, none⟩ = some v0 ∧ w.cell? ⟨g, 1, none⟩ = some v1 := ⟨h.cell 0 rfl, h.cell 1 rfl⟩
set_option maxHeartbeats 4000000 in
theorem spec_DecNew (n : Int) (m : Nat) (w : World) (hn : I64 n) (hm : m ≤ 40) :
    Calls Tryz.prog 200 #[.int .i64 n, .int .i64 (-(m : Int))] w fun e w' => e = .returned (.tuple #[.agg (cF (decNewD n m).1.1 (decNewD n m).1.2), .bool (decNewD n m).2]) ∧ Below w.heap.size w w' := by
  have HN := Lib.hid hn
  obtain ⟨hn0, hn1⟩ := hn
  have hdl := digN_le n ⟨hn0, hn1⟩
  have q0 := Is.new w (cF 0 0) 90
  have D40 := Lib.hid (show decide ((-40 : Int) ≤ (-(m : Int)) ∧ (-(m : Int)) ≤ 40) = true from decide_eq_true ⟨by omega, by omega⟩)
  have lg : w.heap.size < (w.alloc (.cells (cF 0 0) 90)).heap.size := by simp
  by_cases h17 : 17 < digN n
  · have HD := Lib.hid (show decNewD n m = ((0, 0), false) from if_pos h17)
    go_enter Tryz.func200, Tryz.ntmps200
    go_wp2_with (go_at_call 164; refine (spec_Digits _ _ HN.out).mono ?_; rintro e w2 ⟨rfl, hb⟩; have p2 := q0.below hb lg; obtain ⟨z0, z1⟩ := p2.cells2b; have ff := fun i => p2.frozen i; have hl2 : w.heap.size < w2.heap.size := Nat.lt_of_lt_of_le lg hb.size; have HB2 := Lib.hid (below_step (below1 w _) hb (by simp)))
    obtain ⟨e0, e1⟩ := ((p2.set 0 (.int .i64 (0))).set 1 (.int .i64 (0))).cells2b
    refine bodyPost_ret (v := .tuple #[.agg #[.int .i64 (0), .int .i64 (0)], .bool false]) (by simp [results, Tryz.results200, go_sem, e0, e1]) rfl ⟨by rw [HD.out], HB2.out.trans ((below2s _ _ _ _).mono (Nat.le_refl _))⟩
  by_cases h0 : n = 0
  · have HD := Lib.hid (show decNewD n m = ((0, 0), true) from (if_neg h17).trans (if_pos h0))
    subst h0
    go_enter Tryz.func200, Tryz.ntmps200
    go_wp2_with (first | (go_at_call 164; refine (spec_Digits _ _ HN.out).mono ?_; rintro e w2 ⟨rfl, hb⟩; have p2 := q0.below hb lg; have hl2 : w.heap.size < w2.heap.size := Nat.lt_of_lt_of_le lg hb.size; have HB2 := Lib.hid (below_step (below1 w _) hb (by simp)); clear hb) | (go_at_call 59; refine (spec_l1In _ _ _ _).mono ?_; rintro e w3 ⟨rfl, hb⟩; rw [D40.out]; have p3 := p2.below hb hl2; obtain ⟨z0, z1⟩ := p3.cells2b; have ff := fun i => p3.frozen i; have hl3 : w.heap.size < w3.heap.size := Nat.lt_of_lt_of_le hl2 hb.size; have HB3 := Lib.hid (HB2.out.trans (hb.mono HB2.out.size)); clear hb))
    obtain ⟨e0, e1⟩ := ((p3.set 0 (.int .i64 (0))).set 1 (.int .i64 (0))).cells2b
    refine bodyPost_ret (v := .tuple #[.agg #[.int .i64 (0), .int .i64 (0)], .bool true]) (by simp [results, Tryz.results200, go_sem, e0, e1]) rfl ⟨by rw [HD.out], HB3.out.trans ((below2s _ _ _ _).mono (Nat.le_refl _))⟩
  have HX := Lib.hid (show decNewD n m = if decOk (stripD m n).1 (-((stripD m n).2 : Int)) then (((stripD m n).1, -((stripD m n).2 : Int)), true) else ((0, 0), false) from (if_neg h17).trans (if_neg h0))
  have h0' : (n == 0) = false := by simpa using h0
  go_enter Tryz.func200, Tryz.ntmps200
  go_wp2_with (first | (go_at_call 164; refine (spec_Digits _ _ HN.out).mono ?_; rintro e w2 ⟨rfl, hb⟩; have p2 := q0.below hb lg; have hl2 : w.heap.size < w2.heap.size := Nat.lt_of_lt_of_le lg hb.size; have HB2 := Lib.hid (below_step (below1 w _) hb (by simp)); clear hb) | (go_at_call 59; refine (spec_l1In _ _ _ _).mono ?_; rintro e w3 ⟨rfl, hb⟩; rw [D40.out]; have p3 := p2.below hb hl2; have hl3 : w.heap.size < w3.heap.size := Nat.lt_of_lt_of_le hl2 hb.size; have HB3 := Lib.hid (HB2.out.trans (hb.mono HB2.out.size)); clear hb))
  go_loopw [0, 1] (fun nv xv wr => ∃ (n2 : Int) (m2 : Nat), nv = .int .i64 n2 ∧ xv = .int .i64 (-(m2 : Int)) ∧ -9223372036854775808 ≤ n2 ∧ n2 ≤ 9223372036854775807 ∧ m2 ≤ 40 ∧ Hid (stripD m n = stripD m2 n2) ∧ Below w3.heap.size w3 wr) (fun _ xv _ => (-(intOf xv)).toNat)
  case atStart => exact ⟨n, m, rfl, rfl, hn0, hn1, hm, rfl, Below.refl _ _⟩
  case round =>
    obtain ⟨n2, m2, rfl, rfl, hn2a, hn2b, hm2, HS, hb⟩ := hrel
    have hbs := hb.size
    by_cases hgo : n2.tmod 10 = 0 ∧ 0 < m2
    · obtain ⟨hg1, hg2⟩ := hgo
      have HE := Lib.hid (show stripD m n = stripD (m2 - 1) (n2.tdiv 10) from HS.out.trans (stripD_yes m2 n2 hg2 hg1))
      have ht := tdiv_abs n2
      have hg1' : (n2.tmod 10 == 0) = true := by simp [hg1]
      have hxl : -(m2 : Int) < 0 := by omega
      go_wp2_with fail
      go_roundw
      case rel => exact ⟨n2.tdiv 10, m2 - 1, by first | rfl | go_num, by go_num, by omega, by omega, by omega, HE.out, hb⟩
      case measure => simp only [intOf]; first | omega | (simp; omega)
    · have HE := Lib.hid (show stripD m n = (n2, m2) from HS.out.trans (by
        by_cases hz : m2 = 0
        · rw [hz, stripD_zero]
        · exact stripD_no _ _ (fun h => hgo ⟨h, by omega⟩)))
      have hmm : ¬ (-(m2 : Int) > 0) := by omega
      have HXX := Lib.hid (show decNewD n m = if decOk n2 (-(m2 : Int)) then ((n2, -(m2 : Int)), true) else ((0, 0), false) from by rw [HX.out, HE.out])
      have p4 := p3.below hb hl3
      have HB4 := Lib.hid (HB3.out.trans (hb.mono HB3.out.size))
      have hl4 : w.heap.size < wr.heap.size := by omega
      rename World => w4
      have hstop : ((n2.tmod 10 == 0) = false ∧ -(m2 : Int) < 0) ∨ ((n2.tmod 10 == 0) = false ∧ ¬ (-(m2 : Int) < 0)) ∨ ((n2.tmod 10 == 0) = true ∧ ¬ (-(m2 : Int) < 0)) := by
        by_cases hz : n2.tmod 10 = 0
        · right; right; exact ⟨by simp [hz], fun h => hgo ⟨hz, by omega⟩⟩
        · by_cases hy : -(m2 : Int) < 0
          · left; exact ⟨by simp [hz], hy⟩
          · right; left; exact ⟨by simp [hz], hy⟩
      clear HX HE HS hgo
      rcases hstop with ⟨hst, hst2⟩ | ⟨hst, hst2⟩ | ⟨hst, hst2⟩
      all_goals
        go_wp2_with fail
        go_loopw [0, 1] (fun nv xv wr => nv = .int .i64 n2 ∧ xv = .int .i64 (-(m2 : Int)) ∧ Below w4.heap.size w4 wr) (fun _ _ _ => 0)
        case atStart => exact ⟨rfl, rfl, Below.refl _ _⟩
        case round =>
          obtain ⟨rfl, rfl, hb5⟩ := hrel
          have hbs5 := hb5.size
          have p5 := p4.below hb5 hl4
          have HB5 := Lib.hid (HB4.out.trans (hb5.mono HB4.out.size))
          have hl5 : w.heap.size < wr.heap.size := by omega
          go_wp2_with fail
          have q6 := Is.new wr (cF n2 (-(m2 : Int))) 90
          have p6 := p5.alloc (.cells (cF n2 (-(m2 : Int))) 90)
          refine (spec_DecOk n2 (-(m2 : Int)) _ ⟨hn2a, hn2b⟩ ⟨by omega, by omega⟩).mono ?_
          rintro e w6 ⟨rfl, hb6⟩
          have q7 := q6.below hb6 (by simp)
          have p7 := p6.below hb6 (by simp; omega)
          obtain ⟨z0, z1⟩ := p7.cells2b
          have ff := fun i => p7.frozen i
          obtain ⟨y0, y1⟩ := q7.cells2b
          have HB6 := Lib.hid (HB5.out.trans ((below_step (below1 wr _) hb6 (by simp)).mono (by omega)))
          have hl6 : w.heap.size < w6.heap.size := by have := hb6.size; simp at this; omega
          have hl7 : wr.heap.size < w6.heap.size := by have := hb6.size; simp at this; omega
          clear hb6
          by_cases hdo : decOk n2 (-(m2 : Int))
          · have HD := Lib.hid (HXX.out.trans (if_pos hdo))
            rw [decide_eq_true hdo]
            clear hdo
            go_wp2_with fail
            obtain ⟨e0, e1⟩ := ((p7.set 0 (.int .i64 (n2))).set 1 (.int .i64 (-(m2 : Int)))).cells2b
            refine bodyPost_ret (v := .tuple #[.agg #[.int .i64 (n2), .int .i64 (-(m2 : Int))], .bool true]) (by simp [results, Tryz.results200, go_sem, e0, e1]) rfl ⟨by rw [HD.out], HB6.out.trans ((below2s _ _ _ _).mono (Nat.le_refl _))⟩
          · have HD := Lib.hid (HXX.out.trans (if_neg hdo))
            rw [decide_eq_false hdo]
            clear hdo
            go_wp2_with fail
            obtain ⟨e0, e1⟩ := ((p7.set 0 (.int .i64 (0))).set 1 (.int .i64 (0))).cells2b
            refine bodyPost_ret (v := .tuple #[.agg #[.int .i64 (0), .int .i64 (0)], .bool false]) (by simp [results, Tryz.results200, go_sem, e0, e1]) rfl ⟨by rw [HD.out], HB6.out.trans ((below2s _ _ _ _).mono (Nat.le_refl _))⟩
theorem spec_DecNewA (n : Int) (m : Nat) (a b : Int) (w : World) (ha : a = n) (hb : b = -(m : Int)) (hn : I64 n) (hm : m ≤ 40) :
    Calls Tryz.prog 200 #[.int .i64 a, .int .i64 b] w fun e w' => e = .returned (.tuple #[.agg (cF (decNewD n m).1.1 (decNewD n m).1.2), .bool (decNewD n m).2]) ∧ Below w.heap.size w w' := by
  rw [ha, hb]; exact spec_DecNew n m w hn hm
end Go.Proofs.YtohfljaaaojjmaaGreatDoor
