/- Texts of this proof, merged: Big1, Big2, Big3, AppX, Big4. No condition beyond what each theorem states. -/
import Derived.Test.YtpifadjlbjifhaaGreatDoorRows
import Derived.WalkKit
import Derived.ProofKit
import Derived.OpenShut
import Derived.Handy
import Derived.Lib.Hide
import Derived.Lib.SmallJoins
import Derived.Deep.RegionHeld3
import Derived.Deep.QuietTactic
import Derived.BigQuiet
import Derived.Test.YtpifadjlbjifhaaGreatDoorZF1
import Derived.Test.YtpifadjlbjifhaaGreatDoorZF2
import Derived.Test.YtpifadjlbjifhaaGreatDoorZF3
import Derived.Test.YtpifadjlbjifhaaGreatDoorZF4
import Derived.Test.YtpifadjlbjifhaaGreatDoorZF17
import Derived.Test.YtpifadjlbjifhaaGreatDoorZF13
import Derived.Test.YtpifadjlbjifhaaGreatDoorZF5
import Derived.Laws.Bits64
import Derived.Laws.Bits64b
import Derived.Deep.CutBlock
import Derived.Deep.DeepCutAuto
import Derived.Deep.AppendLies
set_option linter.unusedSimpArgs false
set_option linter.unnecessarySimpa false
namespace Go.Proofs.YtpifadjlbjifhaaGreatDoor
open Go.ChangeShapes Go.WideShapes Go.ChangeAt Go.RowKit Go.Joins
set_option linter.unusedVariables false
set_option maxRecDepth 100000
theorem spec_l1InE (n lo hi : Int) (w : World) : Calls Tryz.prog 71 #[.int .i64 n, .int .i64 lo, .int .i64 hi] w fun e w' => e = .returned (.bool (decide (lo ≤ n ∧ n ≤ hi))) ∧ w' = w := by
  by_cases h1 : lo ≤ n
  · by_cases h2 : n ≤ hi
    · have hd : decide (lo ≤ n ∧ n ≤ hi) = true := decide_eq_true ⟨h1, h2⟩
      rw [hd]; clear hd
      go_enter Tryz.func71, Tryz.ntmps71
      go_wp2
      go_ret
      exact ⟨rfl, rfl⟩
    · have hd : decide (lo ≤ n ∧ n ≤ hi) = false := decide_eq_false (fun h => h2 h.2)
      rw [hd]; clear hd
      go_enter Tryz.func71, Tryz.ntmps71
      go_wp2
      go_ret
      exact ⟨rfl, rfl⟩
  · have hd : decide (lo ≤ n ∧ n ≤ hi) = false := decide_eq_false (fun h => h1 h.1)
    rw [hd]; clear hd
    go_enter Tryz.func71, Tryz.ntmps71
    go_wp2
    go_ret
    exact ⟨rfl, rfl⟩
theorem impl_withinE (n lo hi : Int) (w : World) : Calls Tryz.prog 77 #[.int .i64 n, .int .i64 lo, .int .i64 hi] w fun e w' => e = .returned (.bool (decide (lo ≤ n ∧ n ≤ hi))) ∧ w' = w := by
  by_cases h1 : lo ≤ n
  · by_cases h2 : n ≤ hi
    · have hd : decide (lo ≤ n ∧ n ≤ hi) = true := decide_eq_true ⟨h1, h2⟩
      rw [hd]; clear hd
      go_enter Tryz.func77, Tryz.ntmps77
      go_wp2
      go_ret
      exact ⟨rfl, rfl⟩
    · have hd : decide (lo ≤ n ∧ n ≤ hi) = false := decide_eq_false (fun h => h2 h.2)
      rw [hd]; clear hd
      go_enter Tryz.func77, Tryz.ntmps77
      go_wp2
      go_ret
      exact ⟨rfl, rfl⟩
  · have hd : decide (lo ≤ n ∧ n ≤ hi) = false := decide_eq_false (fun h => h1 h.1)
    rw [hd]; clear hd
    go_enter Tryz.func77, Tryz.ntmps77
    go_wp2
    go_ret
    exact ⟨rfl, rfl⟩
def okW (w : Int) : Bool := w == 1 || w == 2 || w == 4 || w == 8
theorem okW_iff (w : Int) : okW w = true ↔ (w = 1 ∨ w = 2 ∨ w = 4 ∨ w = 8) := by unfold okW; simp [or_assoc]
theorem impl_isWidthE (n : Int) (w : World) : Calls Tryz.prog 215 #[.int .i64 n] w fun e w' => e = .returned (.bool (okW n)) ∧ w' = w := by
  go_enter Tryz.func215, Tryz.ntmps215
  go_wp2
  all_goals
    go_ret
    exact ⟨ret_b (by first | rfl | (simp [okW]; done) | (simp [okW]; omega)), rfl⟩
theorem impl_isWidth (n : Int) (w : World) : Calls Tryz.prog 215 #[.int .i64 n] w fun e w' => e = .returned (.bool (okW n)) ∧ Below w.heap.size w w' := (impl_isWidthE n w).mono (fun _ _ h => ⟨h.1, h.2 ▸ Below.refl _ _⟩)
theorem impl_fitsIntoE (n k : Int) (w : World) (hk : k = 1 ∨ k = 2 ∨ k = 4 ∨ k = 8) (hn : I64 n) : Calls Tryz.prog 216 #[.int .i64 n, .int .i64 k] w fun e w' => e = .returned (.bool (decide (fitW n k))) ∧ w' = w := by
  obtain ⟨hn0, hn1⟩ := hn
  by_cases h0 : n < 0
  · have hd : decide (fitW n k) = false := decide_eq_false (by unfold fitW; omega)
    rw [hd]; clear hd
    go_enter Tryz.func216, Tryz.ntmps216
    go_wp2
    go_ret
    exact ⟨rfl, rfl⟩
  obtain rfl | rfl | rfl | rfl := hk
  · have hd : (n / 256 == 0) = decide (fitW n 1) := by rw [Bool.eq_iff_iff]; simp only [beq_iff_eq, decide_eq_true_iff]; unfold fitW; omega
    rw [← hd]; clear hd
    go_enter Tryz.func216, Tryz.ntmps216
    go_wp2
    go_ret
    exact ⟨rfl, rfl⟩
  · have hd : (n / 65536 == 0) = decide (fitW n 2) := by rw [Bool.eq_iff_iff]; simp only [beq_iff_eq, decide_eq_true_iff]; unfold fitW; omega
    rw [← hd]; clear hd
    go_enter Tryz.func216, Tryz.ntmps216
    go_wp2
    go_ret
    exact ⟨rfl, rfl⟩
  · have hd : (n / 4294967296 == 0) = decide (fitW n 4) := by rw [Bool.eq_iff_iff]; simp only [beq_iff_eq, decide_eq_true_iff]; unfold fitW; omega
    rw [← hd]; clear hd
    go_enter Tryz.func216, Tryz.ntmps216
    go_wp2
    go_ret
    exact ⟨rfl, rfl⟩
  · have hd : decide (fitW n 8) = true := decide_eq_true (by unfold fitW; omega)
    rw [hd]; clear hd
    go_enter Tryz.func216, Tryz.ntmps216
    go_wp2
    go_ret
    exact ⟨rfl, rfl⟩
theorem impl_fitsInto (n k : Int) (w : World) (hk : k = 1 ∨ k = 2 ∨ k = 4 ∨ k = 8) (hn : I64 n) : Calls Tryz.prog 216 #[.int .i64 n, .int .i64 k] w fun e w' => e = .returned (.bool (decide (fitW n k))) ∧ Below w.heap.size w w' := (impl_fitsIntoE n k w hk hn).mono (fun _ _ h => ⟨h.1, h.2 ▸ Below.refl _ _⟩)
theorem impl_WidthForE (n : Int) (w : World) (hn : I64 n) : Calls Tryz.prog 214 #[.int .i64 n] w fun e w' => e = .returned (.int .i64 (widthD n)) ∧ w' = w := by
  have HN := Lib.hid hn
  clear hn
  by_cases h0 : n < 0
  · have HD := Lib.hid (show widthD n = 0 from if_pos h0)
    rw [HD.out]
    go_enter Tryz.func214, Tryz.ntmps214
    go_wp2
    go_ret
    exact ⟨rfl, rfl⟩
  · go_enter Tryz.func214, Tryz.ntmps214
    go_wp2_with fail
    go_loopw [3] (fun v wr => ∃ k : Int, v = .int .i64 k ∧ (k = 1 ∨ k = 2 ∨ k = 4 ∨ k = 8) ∧ Hid (k ≤ widthD n) ∧ wr = w) (fun v _ => 8 - (intOf v).toNat)
    case atStart => exact ⟨1, rfl, by omega, Lib.hid (by have := widthD_in n (by omega); omega), rfl⟩
    case round =>
      obtain ⟨k, rfl, hk, HK, rfl⟩ := hrel
      have HI := Lib.hid (widthD_in n (by omega))
      have HF := Lib.hid (widthD_fit n k (by omega) hk)
      by_cases hf : fitW n k
      · have hd : decide (fitW n k) = true := decide_eq_true hf
        have HE : Hid (widthD n = k) := Lib.hid (by have := HF.out.1 hf; have := HK.out; omega)
        go_wp2_with fail
        refine (impl_fitsIntoE n k _ hk HN.out).mono ?_
        rintro e w2 ⟨rfl, rfl⟩
        rw [hd]
        clear hd
        go_wp2_with fail
        go_ret
        exact ⟨ret_i HE.out.symm, rfl⟩
      · have hd : decide (fitW n k) = false := decide_eq_false hf
        have hk2 : k = 1 ∨ k = 2 ∨ k = 4 := by rcases hk with h | h | h | h; (· omega); (· omega); (· omega); exact absurd (HF.out.2 (by have := HI.out; omega)) hf
        have HE : Hid (2 * k ≤ widthD n) := Lib.hid (by have h1 : ¬ widthD n ≤ k := fun h => hf (HF.out.2 h); have := HI.out; omega)
        go_wp2_with fail
        refine (impl_fitsIntoE n k _ hk HN.out).mono ?_
        rintro e w2 ⟨rfl, rfl⟩
        rw [hd]
        clear hd hf
        obtain rfl | rfl | rfl := hk2
        all_goals
          go_wp2_with fail
          go_roundw
          case rel => exact ⟨_, rfl, by omega, Lib.hid (by have := HE.out; omega), by first | rfl | trivial⟩
          case measure => simp [intOf]
theorem impl_WidthFor (n : Int) (w : World) (hn : I64 n) : Calls Tryz.prog 214 #[.int .i64 n] w fun e w' => e = .returned (.int .i64 (widthD n)) ∧ Below w.heap.size w w' := (impl_WidthForE n w hn).mono (fun _ _ h => ⟨h.1, h.2 ▸ Below.refl _ _⟩)
end Go.Proofs.YtpifadjlbjifhaaGreatDoor
namespace Go.Proofs.YtpifadjlbjifhaaGreatDoor
open Go.ChangeShapes Go.WideShapes Go.ChangeAt Go.RowKit Go.Joins
set_option linter.unusedVariables false
set_option maxRecDepth 100000
theorem and255 (x : Int) (h0 : 0 ≤ x) (h1 : x ≤ 9223372036854775807) : bits .and .i64 x 255 = x % 256 := by
  obtain ⟨u, rfl⟩ := Int.eq_ofNat_of_zero_le h0
  have h2 : (BitVec.ofInt 64 (u : Int)).toNat = u := by
    rw [BitVec.ofInt_natCast, BitVec.toNat_ofNat]; exact Nat.mod_eq_of_lt (by omega)
  show IntKind.i64.wrap ((BitVec.ofInt 64 (u : Int) &&& BitVec.ofInt 64 255).toNat : Int) = _
  rw [BitVec.toNat_and, h2, show (BitVec.ofInt 64 255).toNat = 255 from by decide, Nat.and_two_pow_sub_one_eq_mod u 8, Go.IntWalk.i64_left]
  rw [Go.IntWalk.wrap64_in _ ⟨by omega, by omega⟩]
  omega
theorem u8_mod (x : Int) : IntKind.u8.wrap (x % 256) = x % 256 := by
  rw [IntKind.wrap_u8]; omega
theorem fitW_w {n k : Int} (h : fitW n k) : k = 1 ∨ k = 2 ∨ k = 4 ∨ k = 8 := by obtain ⟨_, h⟩ := h; omega
/-- A copy of bytes, by append to an empty row. -/
theorem copyB (w : World) (b : List Int) (a : Option Addr) (cap B : Nat) (hr : Rd EByte 1 w B a cap b) (hB : B ≤ w.heap.size) (hz : b.length ≤ 1099511627776) :
    ∃ a' cap' w', (Builtin.append_ #[22, 22] 22 #[.slice (some ⟨w.heap.size, 0, none⟩) 0 0, .slice a b.length cap]).run Tryz.prog (w.alloc (.cells #[] 5)) = .ok (.slice a' b.length cap') w' ∧
      AppL EByte 1 5 w' w.heap.size a' cap' b [] ∧ Below w.heap.size w w' := by
  obtain ⟨a', cap', w', hrun, happ, hbel, _, _, _⟩ := run_appL (P := Tryz.prog) (w.alloc (.cells #[] 5)) EByte.elem 22 22 (.int .u8 0) 1 Tryz.underlying22 info_Byte2 rfl w.heap.size (some ⟨w.heap.size, 0, none⟩) 0 [] [] (AppL.empty w w.heap.size (Nat.le_refl _)) (by simp) (by simp) a cap b [] ((hr.below EByte.loc (below1 w _) hB).srcs EByte.flat) (by simp) (by simp [maxLen]; omega) (by simp; omega)
  exact ⟨a', cap', w', hrun, happ, (below1 w _).trans hbel⟩
set_option maxHeartbeats 8000000 in
theorem impl_PutBig (b : List Int) (n k : Int) (a : Option Addr) (cap B : Nat) (w : World) (hr : Rd EByte 1 w B a cap b) (hf : fitW n k) (hn : n ≤ 9223372036854775807) (hz : b.length ≤ 1099511627776) (hB : B ≤ w.heap.size) :
    Calls Tryz.prog 218 #[.slice a b.length cap, .int .i64 n, .int .i64 k] w fun e w' => ∃ a' cap', e = .returned (.slice a' (b ++ bigL n k.toNat).length cap') ∧ AppL EByte 1 5 w' w.heap.size a' cap' (b ++ bigL n k.toNat) [] ∧ Below w.heap.size w w' := by
  obtain ⟨a1, c1, w1, hrun, happ, hb1⟩ := copyB w b a cap B hr hB hz
  obtain ⟨hl1, hl2⟩ := hr.len
  have HA1 := Lib.hid happ
  have HB1 := Lib.hid hb1
  have hk := fitW_w hf
  have hfd : decide (fitW n k) = true := decide_eq_true hf
  obtain ⟨hn0, hfk⟩ := hf
  have hs1 := hb1.size
  have hkb : okW k = true := (okW_iff k).2 hk
  have hkl : k.toNat ≤ 8 := by omega
  clear happ hb1 hr
  go_enter Tryz.func218, Tryz.ntmps218
  go_upto_region 2 with (at_builtin; refine Lib.wpList_append_run _ rfl _ _ _ _ rfl _ _ rfl rfl _ _ hrun ?_)
  clear hrun
  go_cut [20] (fun cv wx => cv = .bool false ∧ Hid (Below w1.heap.size w1 wx))
  case first =>
    go_wp2_with fail
    refine (impl_isWidth k _).mono ?_
    rintro e w2 ⟨rfl, hb2⟩
    rw [hkb]
    have K := Lib.hid hb2
    have ks := hb2.size
    clear hb2
    go_wp2_with fail
    refine (impl_fitsInto n k _ hk ⟨by omega, hn⟩).mono ?_
    rintro e w3 ⟨rfl, hb3⟩
    rw [hfd]
    have K2 := Lib.hid (K.out.trans (hb3.mono ks)); clear hb3
    go_wp2_with fail
    go_meet
    case rel => exact ⟨rfl, K2⟩
  case rest =>
    obtain ⟨rfl, HX⟩ := hcut
    rename World => wx
    have hk1 : -9223372036854775808 ≤ k - 1 ∧ k - 1 ≤ 9223372036854775807 := by omega
    have e1 : (k - 1 : Int) = ((k.toNat : Nat) : Int) - 1 := by omega
    have HE1 := Lib.hid e1
    clear e1 hfk
    go_upto_region 5 with (fail)
    have HX1 := Lib.hid (HA1.out.agree EByte.elem (fun f hf => HX.out.block f hf) hs1)
    have HX2 := Lib.hid (HB1.out.trans (HX.out.mono hs1))
    have hkz : k.toNat ≤ 8 := hkl
    go_loopw [7, 8] (fun q iv wr => ∃ (m : Nat) (out : List Int) (ar : Option Addr) (cr : Nat), m ≤ 8 ∧ iv = .int .i64 ((m : Int) - 1) ∧ q = .slice ar out.length cr ∧ Hid (AppL EByte 1 5 wr w.heap.size ar cr out []) ∧ Hid (out ++ bigL n m = b ++ bigL n k.toNat) ∧ Hid (Below w.heap.size w wr)) (fun _ iv _ => (intOf iv + 1).toNat)
    case atStart => exact ⟨k.toNat, b, a1, c1, hkl, by rw [← HE1.out], rfl, HX1, Lib.hid rfl, HX2⟩
    case round =>
      clear HX1 HX2 HA1 HB1 HX
      obtain ⟨m, out, ar, cr, hm, rfl, rfl, HA, HO, HB⟩ := hrel
      have hbs := HB.out.size
      have hol : out.length ≤ 1099511627784 := by
        have h1 := congrArg List.length HO.out
        rw [List.length_append, List.length_append, bigL_len, bigL_len] at h1; omega
      cases m with
      | zero =>
        have HE : Hid (out = b ++ bigL n k.toNat) := Lib.hid (by have := HO.out; rw [bigL, List.append_nil] at this; exact this)
        have h0 : ((0 : Nat) : Int) - 1 = -1 := rfl
        rw [h0]
        go_wp2_with fail
        go_ret
        exact ⟨ar, cr, by rw [← HE.out]; rfl, by rw [← HE.out]; exact HA.out, HB.out⟩
      | succ m =>
        have HO2 : Hid ((out ++ [n / 256 ^ m % 256]) ++ bigL n m = b ++ bigL n k.toNat) := Lib.hid (by have := HO.out; rw [bigL] at this; rw [List.append_assoc]; exact this)
        have h0 : ((m + 1 : Nat) : Int) - 1 = (m : Int) := by omega
        rw [h0]
        have hU : U8 (n / 256 ^ m % 256) := by unfold U8; omega
        have HN := Lib.hid (HA.out.agree EByte.elem (fun f hf => (below1 wr (.cells #[Value.int IntKind.u8 (n / 256 ^ m % 256)] 5)).block f hf) hbs)
        have hmm : m = 0 ∨ m = 1 ∨ m = 2 ∨ m = 3 ∨ m = 4 ∨ m = 5 ∨ m = 6 ∨ m = 7 := by omega
        clear HO
        obtain rfl | rfl | rfl | rfl | rfl | rfl | rfl | rfl := hmm
        · have ev : n / 256 ^ 0 % 256 = n % 256 := by rw [Int.pow_zero, Int.ediv_one]
          have hu8 : IntKind.u8.wrap n = n % 256 := IntKind.wrap_u8 _
          rw [ev] at HO2 hU HN
          clear ev
          go_wp2_with (at_builtin; refine wpList_appL EByte.elem rfl _ _ 22 rfl (.int .u8 0) 1 Tryz.underlying22 info_Byte2 rfl w.heap.size ar cr out [] rfl HN.out (by simp; omega) wr.heap.size 0 1 1 [n % 256] [] rfl rfl ⟨[], [], rfl, ⟨rfl, (Is.new wr #[.int .u8 (n % 256)] 5).cell 0 rfl, hU⟩, rfl⟩ (by simp) (by omega) (by unfold maxLen; omega) (by omega) ?_; intro ar2 cr2 w3 happ3 hb3)
          exact ⟨⟨0, out ++ [n % 256], ar2, cr2, by omega, by first | rfl | go_num, by rw [List.length_append]; rfl, Lib.hid happ3, HO2, Lib.hid ((HB.out.trans ((below1 wr _).mono hbs)).trans hb3)⟩, by simp [intOf]⟩
        · have ev : n / 256 ^ 1 % 256 = n / 256 % 256 := by rw [show (256 : Int) ^ 1 = 256 from by decide]
          have hu8 : IntKind.u8.wrap (n / 256) = n / 256 % 256 := IntKind.wrap_u8 _
          rw [ev] at HO2 hU HN
          clear ev
          go_wp2_with (at_builtin; refine wpList_appL EByte.elem rfl _ _ 22 rfl (.int .u8 0) 1 Tryz.underlying22 info_Byte2 rfl w.heap.size ar cr out [] rfl HN.out (by simp; omega) wr.heap.size 0 1 1 [n / 256 % 256] [] rfl rfl ⟨[], [], rfl, ⟨rfl, (Is.new wr #[.int .u8 (n / 256 % 256)] 5).cell 0 rfl, hU⟩, rfl⟩ (by simp) (by omega) (by unfold maxLen; omega) (by omega) ?_; intro ar2 cr2 w3 happ3 hb3)
          exact ⟨⟨1, out ++ [n / 256 % 256], ar2, cr2, by omega, by first | rfl | go_num, by rw [List.length_append]; rfl, Lib.hid happ3, HO2, Lib.hid ((HB.out.trans ((below1 wr _).mono hbs)).trans hb3)⟩, by simp [intOf]⟩
        · have ev : n / 256 ^ 2 % 256 = n / 65536 % 256 := by rw [show (256 : Int) ^ 2 = 65536 from by decide]
          have hu8 : IntKind.u8.wrap (n / 65536) = n / 65536 % 256 := IntKind.wrap_u8 _
          rw [ev] at HO2 hU HN
          clear ev
          go_wp2_with (at_builtin; refine wpList_appL EByte.elem rfl _ _ 22 rfl (.int .u8 0) 1 Tryz.underlying22 info_Byte2 rfl w.heap.size ar cr out [] rfl HN.out (by simp; omega) wr.heap.size 0 1 1 [n / 65536 % 256] [] rfl rfl ⟨[], [], rfl, ⟨rfl, (Is.new wr #[.int .u8 (n / 65536 % 256)] 5).cell 0 rfl, hU⟩, rfl⟩ (by simp) (by omega) (by unfold maxLen; omega) (by omega) ?_; intro ar2 cr2 w3 happ3 hb3)
          exact ⟨⟨2, out ++ [n / 65536 % 256], ar2, cr2, by omega, by first | rfl | go_num, by rw [List.length_append]; rfl, Lib.hid happ3, HO2, Lib.hid ((HB.out.trans ((below1 wr _).mono hbs)).trans hb3)⟩, by simp [intOf]⟩
        · have ev : n / 256 ^ 3 % 256 = n / 16777216 % 256 := by rw [show (256 : Int) ^ 3 = 16777216 from by decide]
          have hu8 : IntKind.u8.wrap (n / 16777216) = n / 16777216 % 256 := IntKind.wrap_u8 _
          rw [ev] at HO2 hU HN
          clear ev
          go_wp2_with (at_builtin; refine wpList_appL EByte.elem rfl _ _ 22 rfl (.int .u8 0) 1 Tryz.underlying22 info_Byte2 rfl w.heap.size ar cr out [] rfl HN.out (by simp; omega) wr.heap.size 0 1 1 [n / 16777216 % 256] [] rfl rfl ⟨[], [], rfl, ⟨rfl, (Is.new wr #[.int .u8 (n / 16777216 % 256)] 5).cell 0 rfl, hU⟩, rfl⟩ (by simp) (by omega) (by unfold maxLen; omega) (by omega) ?_; intro ar2 cr2 w3 happ3 hb3)
          exact ⟨⟨3, out ++ [n / 16777216 % 256], ar2, cr2, by omega, by first | rfl | go_num, by rw [List.length_append]; rfl, Lib.hid happ3, HO2, Lib.hid ((HB.out.trans ((below1 wr _).mono hbs)).trans hb3)⟩, by simp [intOf]⟩
        · have ev : n / 256 ^ 4 % 256 = n / 4294967296 % 256 := by rw [show (256 : Int) ^ 4 = 4294967296 from by decide]
          have hu8 : IntKind.u8.wrap (n / 4294967296) = n / 4294967296 % 256 := IntKind.wrap_u8 _
          rw [ev] at HO2 hU HN
          clear ev
          go_wp2_with (at_builtin; refine wpList_appL EByte.elem rfl _ _ 22 rfl (.int .u8 0) 1 Tryz.underlying22 info_Byte2 rfl w.heap.size ar cr out [] rfl HN.out (by simp; omega) wr.heap.size 0 1 1 [n / 4294967296 % 256] [] rfl rfl ⟨[], [], rfl, ⟨rfl, (Is.new wr #[.int .u8 (n / 4294967296 % 256)] 5).cell 0 rfl, hU⟩, rfl⟩ (by simp) (by omega) (by unfold maxLen; omega) (by omega) ?_; intro ar2 cr2 w3 happ3 hb3)
          exact ⟨⟨4, out ++ [n / 4294967296 % 256], ar2, cr2, by omega, by first | rfl | go_num, by rw [List.length_append]; rfl, Lib.hid happ3, HO2, Lib.hid ((HB.out.trans ((below1 wr _).mono hbs)).trans hb3)⟩, by simp [intOf]⟩
        · have ev : n / 256 ^ 5 % 256 = n / 1099511627776 % 256 := by rw [show (256 : Int) ^ 5 = 1099511627776 from by decide]
          have hu8 : IntKind.u8.wrap (n / 1099511627776) = n / 1099511627776 % 256 := IntKind.wrap_u8 _
          rw [ev] at HO2 hU HN
          clear ev
          go_wp2_with (at_builtin; refine wpList_appL EByte.elem rfl _ _ 22 rfl (.int .u8 0) 1 Tryz.underlying22 info_Byte2 rfl w.heap.size ar cr out [] rfl HN.out (by simp; omega) wr.heap.size 0 1 1 [n / 1099511627776 % 256] [] rfl rfl ⟨[], [], rfl, ⟨rfl, (Is.new wr #[.int .u8 (n / 1099511627776 % 256)] 5).cell 0 rfl, hU⟩, rfl⟩ (by simp) (by omega) (by unfold maxLen; omega) (by omega) ?_; intro ar2 cr2 w3 happ3 hb3)
          exact ⟨⟨5, out ++ [n / 1099511627776 % 256], ar2, cr2, by omega, by first | rfl | go_num, by rw [List.length_append]; rfl, Lib.hid happ3, HO2, Lib.hid ((HB.out.trans ((below1 wr _).mono hbs)).trans hb3)⟩, by simp [intOf]⟩
        · have ev : n / 256 ^ 6 % 256 = n / 281474976710656 % 256 := by rw [show (256 : Int) ^ 6 = 281474976710656 from by decide]
          have hu8 : IntKind.u8.wrap (n / 281474976710656) = n / 281474976710656 % 256 := IntKind.wrap_u8 _
          rw [ev] at HO2 hU HN
          clear ev
          go_wp2_with (at_builtin; refine wpList_appL EByte.elem rfl _ _ 22 rfl (.int .u8 0) 1 Tryz.underlying22 info_Byte2 rfl w.heap.size ar cr out [] rfl HN.out (by simp; omega) wr.heap.size 0 1 1 [n / 281474976710656 % 256] [] rfl rfl ⟨[], [], rfl, ⟨rfl, (Is.new wr #[.int .u8 (n / 281474976710656 % 256)] 5).cell 0 rfl, hU⟩, rfl⟩ (by simp) (by omega) (by unfold maxLen; omega) (by omega) ?_; intro ar2 cr2 w3 happ3 hb3)
          exact ⟨⟨6, out ++ [n / 281474976710656 % 256], ar2, cr2, by omega, by first | rfl | go_num, by rw [List.length_append]; rfl, Lib.hid happ3, HO2, Lib.hid ((HB.out.trans ((below1 wr _).mono hbs)).trans hb3)⟩, by simp [intOf]⟩
        · have ev : n / 256 ^ 7 % 256 = n / 72057594037927936 % 256 := by rw [show (256 : Int) ^ 7 = 72057594037927936 from by decide]
          have hu8 : IntKind.u8.wrap (n / 72057594037927936) = n / 72057594037927936 % 256 := IntKind.wrap_u8 _
          rw [ev] at HO2 hU HN
          clear ev
          go_wp2_with (at_builtin; refine wpList_appL EByte.elem rfl _ _ 22 rfl (.int .u8 0) 1 Tryz.underlying22 info_Byte2 rfl w.heap.size ar cr out [] rfl HN.out (by simp; omega) wr.heap.size 0 1 1 [n / 72057594037927936 % 256] [] rfl rfl ⟨[], [], rfl, ⟨rfl, (Is.new wr #[.int .u8 (n / 72057594037927936 % 256)] 5).cell 0 rfl, hU⟩, rfl⟩ (by simp) (by omega) (by unfold maxLen; omega) (by omega) ?_; intro ar2 cr2 w3 happ3 hb3)
          exact ⟨⟨7, out ++ [n / 72057594037927936 % 256], ar2, cr2, by omega, by first | rfl | go_num, by rw [List.length_append]; rfl, Lib.hid happ3, HO2, Lib.hid ((HB.out.trans ((below1 wr _).mono hbs)).trans hb3)⟩, by simp [intOf]⟩
end Go.Proofs.YtpifadjlbjifhaaGreatDoor
namespace Go.Proofs.YtpifadjlbjifhaaGreatDoor
open Go.ChangeShapes Go.WideShapes Go.ChangeAt Go.RowKit Go.Joins
set_option linter.unusedVariables false
set_option maxRecDepth 100000
abbrev cH (m n k : Int) : Array Value := #[Value.int IntKind.i64 m, Value.int IntKind.i64 n, Value.int IntKind.i64 k]
set_option maxHeartbeats 4000000 in
theorem impl_HeadOk (m n k : Int) (w : World) (hn64 : I64 n) : Calls Tryz.prog 207 #[.agg (cH m n k)] w fun e w' => e = .returned (.bool (decide (headOk m n k))) ∧ Below w.heap.size w w' := by
  have HN := Lib.hid hn64
  have q0 := Is.new w (cH m n k) 193
  obtain ⟨c0, c1, c2⟩ := q0.cells3
  have lg : w.heap.size < (w.alloc (.cells (cH m n k) 193)).heap.size := by simp
  by_cases hm : 0 ≤ m ∧ m ≤ 7
  case neg =>
    have HD := Lib.hid (show decide (headOk m n k) = false from decide_eq_false (fun h => hm h.1))
    have DM := Lib.hid (show decide (0 ≤ m ∧ m ≤ 7) = false from decide_eq_false hm)
    clear hm hn64
    rw [HD.out]
    go_enter Tryz.func207, Tryz.ntmps207
    go_wp2_with (go_at_call 77; refine (impl_withinE _ _ _ _).mono ?_; rintro ee w2 ⟨rfl, rfl⟩; rw [DM.out])
    go_ret
    exact ⟨rfl, by go_grown⟩
  have DM := Lib.hid (show decide (0 ≤ m ∧ m ≤ 7) = true from decide_eq_true hm)
  by_cases hw : k = 0
  · subst hw
    have HD := Lib.hid (show decide (headOk m n 0) = decide (0 ≤ n ∧ n ≤ 23) from decide_eq_decide.2 (by unfold headOk; omega))
    clear hm hn64
    rw [HD.out]
    go_enter Tryz.func207, Tryz.ntmps207
    go_wp2_with (go_at_call 77; refine (impl_withinE _ _ _ _).mono ?_; rintro ee w2 ⟨rfl, rfl⟩; first | rw [DM.out] | skip)
    go_ret
    exact ⟨ret_b (by rw [Bool.decide_and]), by go_grown⟩
  by_cases hw2 : k = -1
  · subst hw2
    have HD := Lib.hid (show decide (headOk m n (-1)) = (n == 0 && decide (2 ≤ m) && m != 6) from by rw [Bool.eq_iff_iff]; simp only [decide_eq_true_iff, Bool.and_eq_true, beq_iff_eq, bne_iff_ne]; unfold headOk; omega)
    clear hm hn64
    rw [HD.out]
    go_enter Tryz.func207, Tryz.ntmps207
    go_wp2_with (go_at_call 77; refine (impl_withinE _ _ _ _).mono ?_; rintro ee w2 ⟨rfl, rfl⟩; first | rw [DM.out] | skip)
    all_goals
      go_ret
      exact ⟨ret_b (by first | rfl | (simp [*]; done) | (subst_vars; simp; done) | (subst_vars; simp; omega)), by go_grown⟩
  by_cases hw3 : k = 1 ∨ k = 2 ∨ k = 4 ∨ k = 8
  · have hkb := Lib.hid ((okW_iff k).2 hw3)
    by_cases hn : 0 ≤ n ∧ n ≤ 1000000000000000
    · have DN := Lib.hid (show decide (0 ≤ n ∧ n ≤ 1000000000000000) = true from decide_eq_true hn)
      have HD := Lib.hid (show decide (headOk m n k) = decide (fitW n k) from decide_eq_decide.2 ⟨fun h => (widthD_fit n k hn.1 hw3).2 (by unfold headOk at h; omega), fun h => by have h2 := (widthD_fit n k hn.1 hw3).1 h; unfold headOk; omega⟩)
      have HW := Lib.hid hw3
      clear hm hn64 hn hw3
      rw [HD.out]
      go_enter Tryz.func207, Tryz.ntmps207
      go_wp2_with (first | (go_at_call 77; refine (impl_withinE _ _ _ _).mono ?_; rintro ee w2 ⟨rfl, rfl⟩; first | rw [DM.out] | rw [DN.out]) | (go_at_call 215; refine (impl_isWidthE _ _).mono ?_; rintro ee w2 ⟨rfl, rfl⟩; rw [hkb.out]) | (go_at_call 216; refine (impl_fitsIntoE _ _ _ HW.out HN.out).mono ?_; rintro ee w2 ⟨rfl, rfl⟩))
      go_ret
      exact ⟨rfl, by go_grown⟩
    · have DN := Lib.hid (show decide (0 ≤ n ∧ n ≤ 1000000000000000) = false from decide_eq_false hn)
      have HD := Lib.hid (show decide (headOk m n k) = false from decide_eq_false (fun h => hn h.2.1))
      clear hm hn64 hn hw3
      rw [HD.out]
      go_enter Tryz.func207, Tryz.ntmps207
      go_wp2_with (first | (go_at_call 77; refine (impl_withinE _ _ _ _).mono ?_; rintro ee w2 ⟨rfl, rfl⟩; first | rw [DM.out] | rw [DN.out]) | (go_at_call 215; refine (impl_isWidthE _ _).mono ?_; rintro ee w2 ⟨rfl, rfl⟩; rw [hkb.out]))
      go_ret
      exact ⟨rfl, by go_grown⟩
  · have HD := Lib.hid (show decide (headOk m n k) = false from decide_eq_false (by unfold headOk; omega))
    have hkb : Hid (okW k = false) := Lib.hid (by cases h : okW k with | false => rfl | true => exact absurd ((okW_iff k).1 h) hw3)
    clear hm hn64 hw3
    rw [HD.out]
    go_enter Tryz.func207, Tryz.ntmps207
    go_wp2_with (first | (go_at_call 77; refine (impl_withinE _ _ _ _).mono ?_; rintro ee w2 ⟨rfl, rfl⟩; rw [DM.out]) | (go_at_call 215; refine (impl_isWidthE _ _).mono ?_; rintro ee w2 ⟨rfl, rfl⟩; rw [hkb.out]))
    go_ret
    exact ⟨rfl, by go_grown⟩
theorem impl_info (m n k : Int) (w : World) : Calls Tryz.prog 217 #[.agg (cH m n k)] w fun e w' => e = .returned (.int .i64 (infoD n k)) ∧ Below w.heap.size w w' := by
  have q0 := Is.new w (cH m n k) 193
  obtain ⟨c0, c1, c2⟩ := q0.cells3
  have lg : w.heap.size < (w.alloc (.cells (cH m n k) 193)).heap.size := by simp
  have HD := Lib.hid (show infoD n k = if k = 0 then n else if k = 1 then 24 else if k = 2 then 25 else if k = 4 then 26 else if k = 8 then 27 else 31 from rfl)
  by_cases h0 : k = 0
  · subst h0
    go_enter Tryz.func217, Tryz.ntmps217
    go_wp2
    go_ret
    exact ⟨rfl, by go_grown⟩
  by_cases h1 : k = 1
  · subst h1
    go_enter Tryz.func217, Tryz.ntmps217
    go_wp2
    go_ret
    exact ⟨rfl, by go_grown⟩
  by_cases h2 : k = 2
  · subst h2
    go_enter Tryz.func217, Tryz.ntmps217
    go_wp2
    go_ret
    exact ⟨rfl, by go_grown⟩
  by_cases h3 : k = 4
  · subst h3
    go_enter Tryz.func217, Tryz.ntmps217
    go_wp2
    go_ret
    exact ⟨rfl, by go_grown⟩
  by_cases h4 : k = 8
  · subst h4
    go_enter Tryz.func217, Tryz.ntmps217
    go_wp2
    go_ret
    exact ⟨rfl, by go_grown⟩
  go_enter Tryz.func217, Tryz.ntmps217
  go_wp2
  go_ret
  exact ⟨ret_i (by rw [HD.out, if_neg h0, if_neg h1, if_neg h2, if_neg h3, if_neg h4]), by go_grown⟩
theorem headFor_neg (m n k : Int) (hk : (if ¬ (0 ≤ n ∧ n ≤ 23) then widthD n else 0) = k) : headForD m n = if headOk m n k then (m, n, k) else (0, 0, 0) := by
  unfold headForD
  by_cases h : n < 0
  · rw [if_neg (by unfold headOk; omega), if_neg (by unfold headOk; omega)]
  · have : (if 23 < n then widthD n else 0) = k := by
      rw [← hk]
      by_cases h2 : 23 < n
      · rw [if_pos h2, if_pos (by omega)]
      · rw [if_neg h2, if_neg (by omega)]
    rw [this]
set_option maxHeartbeats 4000000 in
theorem impl_HeadFor (m n : Int) (w : World) (hn : I64 n) : Calls Tryz.prog 206 #[.int .i64 m, .int .i64 n] w fun e w' => e = .returned (.agg (cH (headForD m n).1 (headForD m n).2.1 (headForD m n).2.2)) ∧ Below w.heap.size w w' := by
  obtain ⟨k, hk⟩ : ∃ k, (if ¬ (0 ≤ n ∧ n ≤ 23) then widthD n else 0) = k := ⟨_, rfl⟩
  obtain ⟨bb, hbb⟩ : ∃ b, decide (headOk m n k) = b := ⟨_, rfl⟩
  have HD := Lib.hid (show headForD m n = if bb = true then (m, n, k) else (0, 0, 0) from by rw [headFor_neg m n k hk, ← hbb]; simp only [decide_eq_true_eq])
  have HBB := Lib.hid hbb
  have HN := Lib.hid hn
  clear hbb hn
  go_enter Tryz.func206, Tryz.ntmps206
  go_upto_if 11 with (go_at_call 77; refine (impl_withinE _ _ _ _).mono ?_; rintro ee w2 ⟨rfl, rfl⟩)
  generalize hW : (w.alloc (Obj.cells (cH 0 0 0) 193)).alloc (Obj.cells (cH m n 0) 193) = W0
  have q1 : Is W0 w.heap.size 193 (cH 0 0 0) := by subst hW; exact (Is.new _ _ _).alloc _
  have q2 : Is W0 (w.heap.size + 1) 193 (cH m n 0) := by subst hW; exact Is.new2 _ _ _ _
  have H0 := Lib.hid (show Below w.heap.size w W0 from by subst hW; exact below2 _ _ _)
  have hs0 : W0.heap.size = w.heap.size + 2 := by subst hW; simp
  clear hW
  go_cut [] (fun wx => Hid (Is wx w.heap.size 193 (cH 0 0 0)) ∧ Hid (Is wx (w.heap.size + 1) 193 (cH m n k)) ∧ Hid (Below w.heap.size w wx))
  case first =>
    by_cases h23 : ¬ (0 ≤ n ∧ n ≤ 23)
    · have HK := Lib.hid (show widthD n = k from by rw [← hk, if_pos h23])
      obtain ⟨c0, c1, c2⟩ := q2.cells3
      have ff := fun i => q2.frozen i
      have Q1 := Lib.hid q1; have Q2 := Lib.hid q2
      have hl1 : w.heap.size + 1 < W0.heap.size := by omega
      clear q1 q2 hk
      rcases (show n < 0 ∨ (0 ≤ n ∧ 23 < n) by omega) with hh | ⟨hh, hh2⟩
      all_goals
        clear h23
        first | simp only [show decide (0 ≤ n) = false from decide_eq_false (by omega), Bool.not_false, Bool.true_or] | simp only [show decide (0 ≤ n) = true from decide_eq_true (by omega), show decide (n ≤ 23) = false from decide_eq_false (by omega), Bool.not_true, Bool.not_false, Bool.false_or]
        go_wp2_with (go_at_call 214; refine (impl_WidthForE n _ HN.out).mono ?_; rintro ee w2 ⟨rfl, rfl⟩; rw [HK.out])
        go_meet
        case rel => exact ⟨Lib.hid (Q1.out.miss _ 2 (by omega) _), Lib.hid (Q2.out.set 2 (.int .i64 k)), Lib.hid (H0.out.trans ((below1s _ _ 2 _).mono (by omega)))⟩
    · simp only [show decide (0 ≤ n) = true from decide_eq_true (by omega), show decide (n ≤ 23) = true from decide_eq_true (by omega), Bool.not_true, Bool.false_or]
      have HK := Lib.hid (show 0 = k from by rw [← hk, if_neg h23])
      have Q1 := Lib.hid q1; have Q2 := Lib.hid q2
      clear q1 q2 hk
      go_wp2_with fail
      go_meet
      case rel => exact ⟨Q1, Lib.hid (by rw [← HK.out]; exact Q2.out), H0⟩
  case rest =>
    clear q1 q2 H0 hs0
    obtain ⟨Q1, Q2, H1⟩ := hcut
    rename World => wx
    have hl1 := Q2.out.lt
    obtain ⟨c0, c1, c2⟩ := Q2.out.cells3
    go_wp2_with fail
    refine (impl_HeadOk m n k wx HN.out).mono ?_
    rintro ee w2 ⟨rfl, hb2⟩
    rw [HBB.out]
    have r1 := Q1.out.below hb2 (by omega)
    have r2 := Q2.out.below hb2 (by omega)
    have hs2 := hb2.size
    have H2 := Lib.hid (H1.out.trans (hb2.mono (by have := H1.out.size; omega)))
    obtain ⟨d0, d1, d2⟩ := r1.cells3
    obtain ⟨f0, f1, f2⟩ := r2.cells3
    have ff := fun i => r1.frozen i
    have hl2 : w.heap.size < w2.heap.size := by omega
    have hl3 : w.heap.size + 1 < w2.heap.size := by omega
    clear c0 c1 c2 hb2
    have R1 := Lib.hid r1
    clear r1 r2
    cases bb with
    | false =>
      have HD2 := Lib.hid (show headForD m n = (0, 0, 0) from HD.out)
      go_wp2_with fail
      obtain ⟨e0, e1, e2⟩ := (((R1.out.set 0 (.int .i64 0)).set 1 (.int .i64 0)).set 2 (.int .i64 0)).cells3
      refine bodyPost_ret (v := .agg #[.int .i64 0, .int .i64 0, .int .i64 0]) (by simp [results, Tryz.results206, go_sem, e0, e1, e2]) rfl ⟨by rw [HD2.out], H2.out.trans (below3s _ _ _ _ _)⟩
    | true =>
      have HD2 := Lib.hid (show headForD m n = (m, n, k) from HD.out)
      go_wp2_with fail
      obtain ⟨e0, e1, e2⟩ := (((R1.out.set 0 (.int .i64 m)).set 1 (.int .i64 n)).set 2 (.int .i64 k)).cells3
      refine bodyPost_ret (v := .agg #[.int .i64 m, .int .i64 n, .int .i64 k]) (by simp [results, Tryz.results206, go_sem, e0, e1, e2]) rfl ⟨by rw [HD2.out], H2.out.trans (below3s _ _ _ _ _)⟩
end Go.Proofs.YtpifadjlbjifhaaGreatDoor
namespace Go.Proofs.YtpifadjlbjifhaaGreatDoor
open Go.ChangeShapes Go.WideShapes Go.ChangeAt Go.RowKit Go.Joins
set_option linter.unusedVariables false
set_option maxRecDepth 100000
section
variable {α : Type} {E : World → Nat → Nat → α → List Nat → Prop} {n : Nat} {e : TypeId}
/-- Append; and where the row lies behind it, and that every other block stands. -/
theorem wpList_appX {P : Program} {w : World} (hE : Elem E n) {ops : Array Oper} {rest : List Oper} {o : Oper} {act : Act} {Q : Exit → Act → World → Prop} (hgd : o.guard = none) (s x : Operand) (t : TypeId)
    (ho : o.op = .call { callee := .builtin .append, args := #[s, x], argTypes := #[t, t] }) (z : Value) (bytes : Nat) (ht : P.underlying t = some (.slice e)) (hinfo : (P.info? e).map (fun i => (i.zero, i.size, i.bytes)) = some (some z, n, bytes)) (hzs : z.cells.size = n)
    (rlo : Nat) (a : Option Addr) (cap : Nat) (l : List α) (F : List Nat) (hs : act.eval s = .slice a l.length cap) (happ : AppL E n e w rlo a cap l F) (hlo : rlo ≤ w.heap.size)
    (b off m c : Nat) (ys : List α) (G : List Nat) (hx : act.eval x = .slice (some ⟨b, off, none⟩) m c) (hm : ys.length = m) (hys : Row E n w b off ys G) (hG : ∀ f ∈ G, f < rlo)
    (hpos : 0 < m) (h63 : l.length + m ≤ maxLen) (hbytes : (l.length + m) * bytes ≤ 140737488355328)
    (h : ∀ a' cap' w', AppL E n e w' rlo a' cap' (l ++ ys) (F ++ G) → Below rlo w w' → (∀ f, f < w.heap.size → (∀ k, (Value.slice a l.length cap).ownBlock = some k → f ≠ k) → w'.heap[f]? = w.heap[f]?) → (∀ k, (Value.slice a' (l ++ ys).length cap').ownBlock = some k → (Value.slice a l.length cap).ownBlock = some k ∨ k = w.heap.size) → w.heap.size ≤ w'.heap.size → wpList P ops Q rest (act.put o.dst (.slice a' (l ++ ys).length cap')) w') : wpList P ops Q (o :: rest) act w := by
  obtain ⟨i, hi', hz0, hz1, hz2⟩ := info_parts hinfo
  obtain ⟨xs, q1, q2, q3⟩ := happ.owns
  subst hm
  obtain ⟨news, n1, n2, n3⟩ := cells_list (hys.cel hE ys)
  refine wpList_append_lies w hgd s x t ho rlo e i z n bytes ht hi' hz0 hz1 hz2 hzs hE.pos (.slice a l.length cap) l.length xs hs q1 ⟨b, off, none⟩ ys.length c news hx n1 (fun j u hj => ?_) n3 hpos h63 hbytes hlo w.heap.size rfl (fun g' cap' w' hown hgr hat hlt => ?_)
  · have hj2 : j < ys.length * n := by
      rcases Nat.lt_or_ge j (ys.length * n) with h | h
      · exact h
      · rw [List.getElem?_eq_none (by omega)] at hj; cases hj
    rw [← hj, ← n2 j hj2, Addr.add_lit]
  · obtain ⟨r1, r2⟩ := AppL.grown hE happ hys hG hlo n1 n2 q3 q2 hown hgr
    have := h _ _ w' r1 r2 (fun f hf hne => hgr.block f hf (fun e => hne f e.symm rfl)) (fun k hk => by
      have hk' : k = g' := by
        simp only [Value.ownBlock] at hk
        first | exact (Option.some.inj hk).symm | (split at hk <;> simp_all)
      subst hk'; exact hat) hgr.size
    rwa [List.length_append] at this
end
end Go.Proofs.YtpifadjlbjifhaaGreatDoor
namespace Go.Proofs.YtpifadjlbjifhaaGreatDoor
open Go.ChangeShapes Go.WideShapes Go.ChangeAt Go.RowKit Go.Joins
set_option linter.unusedVariables false
set_option maxRecDepth 100000
theorem Below.ofBox {w w' : World} {o : Obj} (h : Below (w.alloc o).heap.size (w.alloc o) w') : Below w.heap.size w w' := (below1 w o).trans (h.mono (by simp))
theorem fltBits_pos {m e : Int} (h : fltOk m e) (hm : ¬ m < 0) : fltBitsD m e = 65536 * (e + 16) + m := by
  unfold fltBitsD; rw [if_pos h, if_neg hm]; omega
theorem fltBits_neg {m e : Int} (h : fltOk m e) (hm : m < 0) : fltBitsD m e = 16777216 + 65536 * (e + 16) - m := by
  unfold fltBitsD; rw [if_pos h, if_pos hm]; omega
theorem fltOk_in {m e : Int} (h : fltOk m e) : -65535 ≤ m ∧ m ≤ 65535 ∧ -16 ≤ e ∧ e ≤ 46 := by
  rcases h with ⟨rfl, rfl⟩ | ⟨h1, h2, h3, h4, h5⟩
  · omega
  · omega
set_option maxHeartbeats 2000000 in
theorem impl_FltBits (m e : Int) (w : World) (hm : I64 m) (he : I64 e) : Calls Tryz.prog 174 #[.agg (cF m e)] w fun ee w' => ee = .returned (.int .i64 (fltBitsD m e)) ∧ Below w.heap.size w w' := by
  have q0 := Is.new w (cF m e) 95
  obtain ⟨c0, c1⟩ := q0.cells2
  have lg : w.heap.size < (w.alloc (.cells (cF m e) 95)).heap.size := by simp
  obtain ⟨bb, hbb⟩ : ∃ b, decide (fltOk m e) = b := ⟨_, rfl⟩
  have HBB := Lib.hid hbb; clear hbb
  go_enter Tryz.func174, Tryz.ntmps174
  go_wp2_with fail
  refine (impl_FltOk m e _ hm he).mono ?_
  rintro ee w2 ⟨rfl, hb2⟩
  rw [HBB.out]
  have HB2 := Lib.hid (Below.ofBox hb2)
  have p2 := q0.below hb2 lg
  obtain ⟨d0, d1⟩ := p2.cells2
  have lg2 : w.heap.size < w2.heap.size := p2.lt
  clear c0 c1 lg q0 p2 hb2
  cases bb with
  | false =>
    have HE := Lib.hid (show fltBitsD m e = -1 from if_neg (of_decide_eq_false HBB.out))
    go_wp2_with fail
    go_ret
    exact ⟨ret_i HE.out.symm, HB2.out⟩
  | true =>
    have hok := of_decide_eq_true HBB.out
    obtain ⟨i1, i2, i3, i4⟩ := fltOk_in hok
    by_cases hm0 : m < 0
    · have HE := Lib.hid (fltBits_neg hok hm0)
      have hmx : max m (-m) = -m := by omega
      clear hok hm he
      go_wp2_with fail
      go_ret
      exact ⟨ret_i (by rw [HE.out]; try omega), HB2.out⟩
    · have HE := Lib.hid (fltBits_pos hok hm0)
      have hmx : max m (-m) = m := by omega
      clear hok hm he
      go_wp2_with fail
      go_ret
      exact ⟨ret_i (by rw [HE.out]; try omega), HB2.out⟩
theorem AppL.less {α : Type} {E : World → Nat → Nat → α → List Nat → Prop} {n : Nat} {e : TypeId} {w : World} {rlo rlo' cap : Nat} {a : Option Addr} {l : List α} (h : AppL E n e w rlo a cap l []) (hl : rlo' ≤ rlo) : AppL E n e w rlo' a cap l [] := by
  rcases h with h | ⟨g, cur, h0, h1, h2, h3, h4, h5, h6, _⟩
  · exact Or.inl h
  · exact Or.inr ⟨g, cur, h0, Nat.le_trans hl h1, h2, h3, h4, h5, h6, by simp⟩
theorem ret_sl {a : Option Addr} {c x y : Nat} (h : x = y) : Ending.returned (.slice a x c) = .returned (.slice a y c) := by rw [h]
end Go.Proofs.YtpifadjlbjifhaaGreatDoor
