/- Texts of this proof, merged: Div2, Near1, Near3. No condition beyond what each theorem states. -/
import Derived.Test.YtpifadjlbjifhaaGreatDoorRows
import Derived.WalkKit
import Derived.ProofKit
import Derived.OpenShut
import Derived.Handy
import Derived.Lib.Hide
import Derived.Lib.SmallJoins
import Derived.Deep.RegionHeld3
import Derived.Deep.QuietTactic
import Derived.BigQuiet
import Derived.Laws.Bits64b
import Derived.Laws.BitsLemmas
import Derived.Lib.Mul64
import Derived.Lib.ItoaNum
import Derived.Deep.CutBlock
import Derived.Deep.DeepCutAuto
import Derived.Test.YtpifadjlbjifhaaGreatDoorZF1
import Derived.Test.YtpifadjlbjifhaaGreatDoorShelf
import Derived.Test.YtpifadjlbjifhaaGreatDoorZF9
set_option linter.unusedSimpArgs false
set_option linter.unnecessarySimpa false
namespace Go.Proofs.YtpifadjlbjifhaaGreatDoor
open Go.ChangeShapes Go.WideShapes Go.ChangeAt Go.RowKit Go.Joins
set_option linter.unusedVariables false
set_option maxRecDepth 100000
theorem lead_zeros (y : Nat) (h0 : y ≠ 0) (h : y < 18446744073709551616) : ∃ s : Nat, 64 - (Lib.bitLen y : Int) = s ∧ s ≤ 63 ∧ 9223372036854775808 ≤ y * 2 ^ s ∧ y * 2 ^ s < 18446744073709551616 := by
  obtain ⟨h1, h2, h3⟩ := Lib.bitLenAux_bounds 64 y (by simpa using h) h0
  have h4 := Lib.bitLen_le y 64 (Nat.le_refl _) (by simpa using h)
  unfold Lib.bitLen at *
  generalize Lib.bitLenAux 64 y = L at *
  obtain ⟨s, hs⟩ : ∃ s : Nat, L + s = 64 := ⟨64 - L, by omega⟩
  refine ⟨s, by omega, by omega, ?_, ?_⟩
  · have : 2 ^ (L - 1) * 2 ^ s ≤ y * 2 ^ s := Nat.mul_le_mul_right _ h2
    rw [← Nat.pow_add, show L - 1 + s = 63 from by omega] at this
    simpa using this
  · have : y * 2 ^ s < 2 ^ L * 2 ^ s := Nat.mul_lt_mul_of_pos_right h3 (Nat.two_pow_pos _)
    rw [← Nat.pow_add, hs] at this
    simpa using this
set_option maxHeartbeats 4000000 in
set_option maxRecDepth 100000 in
theorem bits_Div64 (hi lo y : Nat) (hy : y < 18446744073709551616) (hlo : lo < 18446744073709551616) (hh : hi < y) (w : World) :
    Calls Tryz.prog 185 #[.int .u64 hi, .int .u64 lo, .int .u64 y] w fun e w' => e = .returned (.tuple #[.int .u64 (((hi * 18446744073709551616 + lo) / y : Nat) : Int), .int .u64 (((hi * 18446744073709551616 + lo) % y : Nat) : Int)]) ∧ Below w.heap.size w w' := by
  by_cases h0 : hi = 0
  · subst h0
    have hy0 : y ≠ 0 := by omega
    obtain ⟨q, hq⟩ : ∃ q : Nat, q = lo / y := ⟨_, rfl⟩
    obtain ⟨r, hr⟩ : ∃ r : Nat, r = lo % y := ⟨_, rfl⟩
    have hq2 : q ≤ lo := by rw [hq]; exact Nat.div_le_self _ _
    have e1 : IntKind.u64.wrap ((lo : Int) / (y : Int)) = (q : Int) := by rw [show (lo : Int) / (y : Int) = (q : Int) from by rw [hq, Int.natCast_ediv]]; exact Mul64.wrapN q (by omega)
    have e2 : (lo : Int) % (y : Int) = (r : Int) := by rw [hr, Int.natCast_emod]
    have HQ := Lib.hid hq
    have HR := Lib.hid hr
    clear hq hr
    go_enter Tryz.func185, Tryz.ntmps185
    go_wp2_with fail
    go_quiet (fail)
    go_wp2_with fail
    refine bodyPost_ret (v := .tuple #[.int .u64 (q : Int), .int .u64 (r : Int)]) (by simp [results, Tryz.results185, go_sem, e1, e2]) rfl ⟨by rw [HQ.out, HR.out, Nat.zero_mul, Nat.zero_add], below_drewN _ _ _⟩
  · obtain ⟨s, hs, hs63, hY0, hY1⟩ := lead_zeros y (by omega) hy
    obtain ⟨Y, hYd⟩ : ∃ Y : Nat, Y = y * 2 ^ s := ⟨_, rfl⟩
    rw [← hYd] at hY0 hY1
    have eY := w_mulpow y s Y hYd hY1
    obtain ⟨y1, hy1⟩ : ∃ y1 : Nat, y1 = Y / 4294967296 := ⟨_, rfl⟩
    obtain ⟨y0, hy0⟩ : ∃ y0 : Nat, y0 = Y % 4294967296 := ⟨_, rfl⟩
    have eY1 : (Y : Int) / 4294967296 = (y1 : Int) := by rw [hy1]; exact Mul64.divN Y
    have eY0 : bits .and .u64 (Y : Int) 4294967295 = (y0 : Int) := by rw [hy0]; exact Mul64.maskN Y hY1
    obtain ⟨A, hA⟩ : ∃ A : Nat, A = hi * 2 ^ s := ⟨_, rfl⟩
    have hAY : A + 2 ^ s ≤ Y := by
      rw [hA, hYd, ← Nat.succ_mul]; exact Nat.mul_le_mul_right _ hh
    have eA := w_mulpow hi s A hA (by have := Nat.two_pow_pos s; omega)
    obtain ⟨C, hC⟩ : ∃ C : Nat, C = lo / 2 ^ (64 - s) := ⟨_, rfl⟩
    have eC : (lo : Int) / 2 ^ (64 - s) = (C : Int) := by rw [hC]; exact d_pow lo (64 - s)
    have hC1 : C < 2 ^ s := by
      rw [hC]; apply Nat.div_lt_of_lt_mul
      rw [← Nat.pow_add, Nat.sub_add_cancel (by omega)]; exact hlo
    obtain ⟨U, hU⟩ : ∃ U : Nat, U = A + C := ⟨_, rfl⟩
    have eU : bits .or .u64 (A : Int) (C : Int) = (U : Int) := by
      rw [hU, hA]; exact or_low hi C s (by rw [← hA]; have := Nat.two_pow_pos s; omega) hC1 hs63
    have hUY : U < Y := by omega
    obtain ⟨L, hL⟩ : ∃ L : Nat, L = lo * 2 ^ s % 18446744073709551616 := ⟨_, rfl⟩
    have eL : IntKind.u64.wrap ((lo : Int) * 2 ^ s) = (L : Int) := by rw [hL]; exact w_mulpow2 lo s
    have hL1 : L < 18446744073709551616 := by omega
    obtain ⟨u1, hu1⟩ : ∃ u1 : Nat, u1 = L / 4294967296 := ⟨_, rfl⟩
    obtain ⟨u0, hu0⟩ : ∃ u0 : Nat, u0 = L % 4294967296 := ⟨_, rfl⟩
    have eL1 : (L : Int) / 4294967296 = (u1 : Int) := by rw [hu1]; exact Mul64.divN L
    have eL0 : bits .and .u64 (L : Int) 4294967295 = (u0 : Int) := by rw [hu0]; exact Mul64.maskN L hL1
    have HZ := Lib.hid (show (hi * 18446744073709551616 + lo) * 2 ^ s = (U * 4294967296 + u1) * 4294967296 + u0 from by
      rw [split_shift hi lo s (by omega), ← hA, ← hC, ← hL]; omega)
    have HYd := Lib.hid hYd
    have HYY := Lib.hid (show Y = y1 * 4294967296 + y0 from by omega)
    have b1 : 2147483648 ≤ y1 := by omega
    have b2 : y1 < 4294967296 := by omega
    have b3 : y0 < 4294967296 := by omega
    have b4 : u1 < 4294967296 := by omega
    have b5 : u0 < 4294967296 := by omega
    have b6 : U < y1 * 4294967296 + y0 := by omega
    obtain ⟨q, hq⟩ : ∃ q : Nat, q = U / y1 := ⟨_, rfl⟩
    obtain ⟨P, hP⟩ : ∃ P : Nat, P = q * y1 := ⟨_, rfl⟩
    have hPU : P ≤ U := by rw [hP, hq]; exact Nat.div_mul_le_self U y1
    obtain ⟨r, hr⟩ : ∃ r : Nat, r = U - P := ⟨_, rfl⟩
    have hrb : r < y1 := by
      have h1 := Nat.mod_add_div U y1
      have h2 := Nat.mod_lt U (show 0 < y1 by omega)
      rw [Nat.mul_comm, ← hq, ← hP] at h1
      omega
    have hqb : q ≤ 4294967297 := by rw [hq]; exact knuth_top 4294967296 y1 y0 U b3 b6 (by omega) (by omega)
    have eQ : IntKind.u64.wrap ((U : Int) / (y1 : Int)) = (q : Int) := by
      rw [show (U : Int) / (y1 : Int) = (q : Int) from by rw [hq, Int.natCast_ediv]]; exact Mul64.wrapN q (by omega)
    have eP : IntKind.u64.wrap ((q : Int) * (y1 : Int)) = (P : Int) := by
      rw [Mul64.mulN, ← hP]; exact Mul64.wrapN P (by omega)
    have eR : IntKind.u64.wrap ((U : Int) - (P : Int)) = (r : Int) := by
      rw [show (U : Int) - (P : Int) = (r : Int) from by omega]; exact Mul64.wrapN r (by omega)
    have HQ0 := Lib.hid (show (U * 4294967296 + u1) / Y ≤ q from by
      rw [HYY.out, hq]; exact knuth_start 4294967296 y1 y0 U u1 b4 (by omega))
    have HR0 := Lib.hid (show q * y1 + r = U from by omega)
    clear hy1 hy0 hA hC hU hL hu1 hu0 hq hP hr hPU hYd hAY hC1
    go_enter Tryz.func185, Tryz.ntmps185
    go_wp2_with fail
    refine (Tryz.bits_LeadingZeros64 (y : Int) w (by omega) (by omega)).mono ?_
    rintro e w2 ⟨rfl, hw⟩
    rw [hw, Int.toNat_natCast, hs]
    clear hw hs
    obtain ⟨Q1, hQ1⟩ : ∃ Q1 : Nat, Q1 = (U * 4294967296 + u1) / Y := ⟨_, rfl⟩
    have HQ1 := Lib.hid hQ1; clear hQ1
    go_upto_block 0 with (fail)
    clear eY eY1 eY0 eA eC eU eL eL1 eL0 eQ eP eR
    go_cut [15, 16] from 67 to 85 (fun qv _ wx => qv = .int .u64 (Q1 : Int) ∧ wx = w)
    case first =>
      go_wp2_with fail
      go_loopw [15, 16] (fun qv rv wr => ∃ q r : Nat, qv = .int .u64 q ∧ rv = .int .u64 r ∧ Hid (q * y1 + r = U) ∧ Hid ((U * 4294967296 + u1) / Y ≤ q) ∧ r < 4294967296 ∧ q ≤ 4294967297 ∧ wr = w) (fun qv _ _ => (intOf qv).toNat)
      case atStart => exact ⟨q, r, rfl, rfl, HR0.out, HQ0.out, by omega, by omega, rfl⟩
      case round =>
        obtain ⟨q, r, rfl, rfl, HR, HQ, hr, hqb, rfl⟩ := hrel
        by_cases hqc : 4294967296 ≤ q
        · have hqi : (4294967296 : Int) ≤ (q : Int) := by omega
          have hdn := knuth_down 4294967296 y1 y0 U u1 q r (by omega) b3 b4 HR.out b6 (by rw [← HYY.out]; exact HQ.out) (Or.inl hqc) (by omega)
          obtain ⟨hdn, hq0⟩ := hdn
          rw [← HYY.out] at hdn
          obtain ⟨q2, hq2⟩ : ∃ q2 : Nat, q = q2 + 1 := ⟨q - 1, by omega⟩
          obtain ⟨r2, hr2⟩ : ∃ r2 : Nat, r2 = r + y1 := ⟨_, rfl⟩
          have e1 : IntKind.u64.wrap ((q : Int) - 1) = (q2 : Int) := by rw [show (q : Int) - 1 = (q2 : Int) from by omega]; exact Mul64.wrapN q2 (by omega)
          have e2 : IntKind.u64.wrap ((r : Int) + (y1 : Int)) = (r2 : Int) := by rw [show (r : Int) + (y1 : Int) = (r2 : Int) from by omega]; exact Mul64.wrapN r2 (by omega)
          have HQ2 := Lib.hid (show (U * 4294967296 + u1) / Y ≤ q2 from by rw [show q - 1 = q2 from by omega] at hdn; exact hdn)
          have HR2 := Lib.hid (show q2 * y1 + r2 = U from by have := HR.out; rw [hq2, Nat.add_mul, Nat.one_mul] at this; omega)
          have hqq : q2 < q := by omega
          have hrr : r2 < 8589934592 := by omega
          clear hdn hq2 hr2
          by_cases hbr : 4294967296 ≤ r2
          · have HF := Lib.hid (show q2 = Q1 from by rw [HQ1.out, HYY.out]; exact (knuth_break 4294967296 y1 y0 U u1 q2 r2 (by omega) b3 b4 HR2.out (by rw [← HYY.out]; exact HQ2.out) (by omega) hbr (by omega)).symm)
            have hbi : (4294967296 : Int) ≤ (r2 : Int) := by omega
            go_wp2_with fail
            go_meet
            case rel => exact ⟨by rw [HF.out], rfl⟩
          · have hbi : ¬ (4294967296 : Int) ≤ (r2 : Int) := by omega
            go_wp2_with fail
            go_roundw
            case rel => exact ⟨q2, r2, rfl, rfl, HR2.out, HQ2.out, by omega, by omega, by first | rfl | trivial⟩
            case measure => simp [intOf]; omega
        · have hqi : ¬ (4294967296 : Int) ≤ (q : Int) := by omega
          obtain ⟨m, hm⟩ : ∃ m : Nat, m = q * y0 := ⟨_, rfl⟩
          have hmb : m < 18446744073709551616 := by rw [hm]; have := Lib.half_mul_le (a := q) (b := y0) (by omega) (by omega); omega
          obtain ⟨t, ht⟩ : ∃ t : Nat, t = 4294967296 * r := ⟨_, rfl⟩
          obtain ⟨t2, ht2⟩ : ∃ t2 : Nat, t2 = t + u1 := ⟨_, rfl⟩
          have e3 : IntKind.u64.wrap ((q : Int) * (y0 : Int)) = (m : Int) := by rw [Mul64.mulN, ← hm]; exact Mul64.wrapN m hmb
          have e4 : IntKind.u64.wrap (4294967296 * (r : Int)) = (t : Int) := by rw [show 4294967296 * (r : Int) = (t : Int) from by omega]; exact Mul64.wrapN t (by omega)
          have e5 : IntKind.u64.wrap ((t : Int) + (u1 : Int)) = (t2 : Int) := by rw [show (t : Int) + (u1 : Int) = (t2 : Int) from by omega]; exact Mul64.wrapN t2 (by omega)
          have HT := Lib.hid (show t2 = 4294967296 * r + u1 from by omega)
          have HM := Lib.hid hm
          clear hm ht ht2 hmb
          by_cases hmt : t2 < m
          · skip
            have hdn := knuth_down 4294967296 y1 y0 U u1 q r (by omega) b3 b4 HR.out b6 (by rw [← HYY.out]; exact HQ.out) (Or.inr (by rw [← HT.out, ← HM.out]; exact hmt)) (by omega)
            obtain ⟨hdn, hq0⟩ := hdn
            rw [← HYY.out] at hdn
            obtain ⟨q2, hq2⟩ : ∃ q2 : Nat, q = q2 + 1 := ⟨q - 1, by omega⟩
            obtain ⟨r2, hr2⟩ : ∃ r2 : Nat, r2 = r + y1 := ⟨_, rfl⟩
            have e1 : IntKind.u64.wrap ((q : Int) - 1) = (q2 : Int) := by rw [show (q : Int) - 1 = (q2 : Int) from by omega]; exact Mul64.wrapN q2 (by omega)
            have e2 : IntKind.u64.wrap ((r : Int) + (y1 : Int)) = (r2 : Int) := by rw [show (r : Int) + (y1 : Int) = (r2 : Int) from by omega]; exact Mul64.wrapN r2 (by omega)
            have HQ2 := Lib.hid (show (U * 4294967296 + u1) / Y ≤ q2 from by rw [show q - 1 = q2 from by omega] at hdn; exact hdn)
            have HR2 := Lib.hid (show q2 * y1 + r2 = U from by have := HR.out; rw [hq2, Nat.add_mul, Nat.one_mul] at this; omega)
            have hqq : q2 < q := by omega
            have hrr : r2 < 8589934592 := by omega
            clear hdn hq2 hr2
            by_cases hbr : 4294967296 ≤ r2
            · have HF := Lib.hid (show q2 = Q1 from by rw [HQ1.out, HYY.out]; exact (knuth_break 4294967296 y1 y0 U u1 q2 r2 (by omega) b3 b4 HR2.out (by rw [← HYY.out]; exact HQ2.out) (by omega) hbr (by omega)).symm)
              have hbi : (4294967296 : Int) ≤ (r2 : Int) := by omega
              go_wp2_with fail
              go_meet
              case rel => exact ⟨by rw [HF.out], rfl⟩
            · have hbi : ¬ (4294967296 : Int) ≤ (r2 : Int) := by omega
              go_wp2_with fail
              go_roundw
              case rel => exact ⟨q2, r2, rfl, rfl, HR2.out, HQ2.out, by omega, by omega, by first | rfl | trivial⟩
              case measure => simp [intOf]; omega
          · have HF := Lib.hid (show q = Q1 from by rw [HQ1.out, HYY.out]; exact (knuth 4294967296 y1 y0 U u1 q r (by omega) b3 b4 HR.out (by rw [← HYY.out]; exact HQ.out) (by omega) (by rw [← HT.out, ← HM.out]; omega) (by omega)).symm)
            go_wp2_with fail
            go_meet
            case rel => exact ⟨by rw [HF.out], rfl⟩
    case rest =>
      obtain ⟨rfl, rfl⟩ := hcut
      rename World => w
      have hYp : 0 < Y := by omega
      have hZ1 : Q1 * Y + (U * 4294967296 + u1) % Y = U * 4294967296 + u1 := by rw [HQ1.out, Nat.mul_comm]; exact Nat.div_add_mod _ _
      obtain ⟨R1, hR1⟩ : ∃ R1 : Nat, R1 = (U * 4294967296 + u1) % Y := ⟨_, rfl⟩
      have hR1Y : R1 < Y := by rw [hR1]; exact Nat.mod_lt _ hYp
      rw [← hR1] at hZ1
      have HR1 := Lib.hid hR1; clear hR1
      obtain ⟨X, hX⟩ : ∃ X : Nat, X = U * 4294967296 := ⟨_, rfl⟩
      obtain ⟨Z, hZ⟩ : ∃ Z : Nat, Z = Q1 * Y := ⟨_, rfl⟩
      rw [← hX, ← hZ] at hZ1
      obtain ⟨W1, hW1⟩ : ∃ W1 : Nat, W1 = X % 18446744073709551616 := ⟨_, rfl⟩
      obtain ⟨W2, hW2⟩ : ∃ W2 : Nat, W2 = (W1 + u1) % 18446744073709551616 := ⟨_, rfl⟩
      obtain ⟨W3, hW3⟩ : ∃ W3 : Nat, W3 = Z % 18446744073709551616 := ⟨_, rfl⟩
      have e6 : IntKind.u64.wrap ((U : Int) * 4294967296) = (W1 : Int) := by rw [show (U : Int) * 4294967296 = (X : Int) from by omega, hW1]; exact Mul64.wrapM X
      have e7 : IntKind.u64.wrap ((W1 : Int) + (u1 : Int)) = (W2 : Int) := by rw [Mul64.addN, hW2]; exact Mul64.wrapM _
      have e8 : IntKind.u64.wrap ((Q1 : Int) * (Y : Int)) = (W3 : Int) := by rw [Mul64.mulN, ← hZ, hW3]; exact Mul64.wrapM Z
      have e9 : IntKind.u64.wrap ((W2 : Int) - (W3 : Int)) = (R1 : Int) := by rw [IntKind.wrap_u64]; omega
      have hQ1b : Q1 < 4294967296 := by
        rw [HQ1.out]; apply Nat.div_lt_of_lt_mul
        have : (U + 1) * 4294967296 ≤ Y * 4294967296 := Nat.mul_le_mul_right _ hUY
        omega
      clear hW1 hW2 hW3 hZ1 hX hZ
      have HR1Y := Lib.hid hR1Y
      have b7 : R1 < y1 * 4294967296 + y0 := by rw [← HYY.out]; exact hR1Y
      obtain ⟨q, hq⟩ : ∃ q : Nat, q = R1 / y1 := ⟨_, rfl⟩
      obtain ⟨P, hP⟩ : ∃ P : Nat, P = q * y1 := ⟨_, rfl⟩
      have hPU : P ≤ R1 := by rw [hP, hq]; exact Nat.div_mul_le_self R1 y1
      obtain ⟨r, hr⟩ : ∃ r : Nat, r = R1 - P := ⟨_, rfl⟩
      have hrb : r < y1 := by
        have h1 := Nat.mod_add_div R1 y1
        have h2 := Nat.mod_lt R1 (show 0 < y1 by omega)
        rw [Nat.mul_comm, ← hq, ← hP] at h1
        omega
      have hqb : q ≤ 4294967297 := by rw [hq]; exact knuth_top 4294967296 y1 y0 R1 b3 b7 (by omega) (by omega)
      have eQ : IntKind.u64.wrap ((R1 : Int) / (y1 : Int)) = (q : Int) := by
        rw [show (R1 : Int) / (y1 : Int) = (q : Int) from by rw [hq, Int.natCast_ediv]]; exact Mul64.wrapN q (by omega)
      have eP : IntKind.u64.wrap ((q : Int) * (y1 : Int)) = (P : Int) := by
        rw [Mul64.mulN, ← hP]; exact Mul64.wrapN P (by omega)
      have eR : IntKind.u64.wrap ((R1 : Int) - (P : Int)) = (r : Int) := by
        rw [show (R1 : Int) - (P : Int) = (r : Int) from by omega]; exact Mul64.wrapN r (by omega)
      have HQ0 := Lib.hid (show (R1 * 4294967296 + u0) / Y ≤ q from by
        rw [HYY.out, hq]; exact knuth_start 4294967296 y1 y0 R1 u0 b5 (by omega))
      have HR0 := Lib.hid (show q * y1 + r = R1 from by omega)
      clear hq hP hr hPU
      obtain ⟨Q0, hQ0⟩ : ∃ Q0 : Nat, Q0 = (R1 * 4294967296 + u0) / Y := ⟨_, rfl⟩
      have HQ9 := Lib.hid hQ0; clear hQ0
      go_upto_block 2 with (fail)
      clear e6 e7 e8 e9 eQ eP eR
      go_cut [18, 16] from 102 to 120 (fun qv _ wx => qv = .int .u64 (Q0 : Int) ∧ wx = w)
      case first =>
        go_wp2_with fail
        go_loopw [18, 16] (fun qv rv wr => ∃ q r : Nat, qv = .int .u64 q ∧ rv = .int .u64 r ∧ Hid (q * y1 + r = R1) ∧ Hid ((R1 * 4294967296 + u0) / Y ≤ q) ∧ r < 4294967296 ∧ q ≤ 4294967297 ∧ wr = w) (fun qv _ _ => (intOf qv).toNat)
        case atStart => exact ⟨q, r, rfl, rfl, HR0.out, HQ0.out, by omega, by omega, rfl⟩
        case round =>
          obtain ⟨q, r, rfl, rfl, HR, HQ, hr, hqb, rfl⟩ := hrel
          by_cases hqc : 4294967296 ≤ q
          · have hqi : (4294967296 : Int) ≤ (q : Int) := by omega
            have hdn := knuth_down 4294967296 y1 y0 R1 u0 q r (by omega) b3 b5 HR.out b7 (by rw [← HYY.out]; exact HQ.out) (Or.inl hqc) (by omega)
            obtain ⟨hdn, hq0⟩ := hdn
            rw [← HYY.out] at hdn
            obtain ⟨q2, hq2⟩ : ∃ q2 : Nat, q = q2 + 1 := ⟨q - 1, by omega⟩
            obtain ⟨r2, hr2⟩ : ∃ r2 : Nat, r2 = r + y1 := ⟨_, rfl⟩
            have e1 : IntKind.u64.wrap ((q : Int) - 1) = (q2 : Int) := by rw [show (q : Int) - 1 = (q2 : Int) from by omega]; exact Mul64.wrapN q2 (by omega)
            have e2 : IntKind.u64.wrap ((r : Int) + (y1 : Int)) = (r2 : Int) := by rw [show (r : Int) + (y1 : Int) = (r2 : Int) from by omega]; exact Mul64.wrapN r2 (by omega)
            have HQ2 := Lib.hid (show (R1 * 4294967296 + u0) / Y ≤ q2 from by rw [show q - 1 = q2 from by omega] at hdn; exact hdn)
            have HR2 := Lib.hid (show q2 * y1 + r2 = R1 from by have := HR.out; rw [hq2, Nat.add_mul, Nat.one_mul] at this; omega)
            have hqq : q2 < q := by omega
            have hrr : r2 < 8589934592 := by omega
            clear hdn hq2 hr2
            by_cases hbr : 4294967296 ≤ r2
            · have HF := Lib.hid (show q2 = Q0 from by rw [HQ9.out, HYY.out]; exact (knuth_break 4294967296 y1 y0 R1 u0 q2 r2 (by omega) b3 b5 HR2.out (by rw [← HYY.out]; exact HQ2.out) (by omega) hbr (by omega)).symm)
              have hbi : (4294967296 : Int) ≤ (r2 : Int) := by omega
              go_wp2_with fail
              go_meet
              case rel => exact ⟨by rw [HF.out], rfl⟩
            · have hbi : ¬ (4294967296 : Int) ≤ (r2 : Int) := by omega
              go_wp2_with fail
              go_roundw
              case rel => exact ⟨q2, r2, rfl, rfl, HR2.out, HQ2.out, by omega, by omega, by first | rfl | trivial⟩
              case measure => simp [intOf]; omega
          · have hqi : ¬ (4294967296 : Int) ≤ (q : Int) := by omega
            obtain ⟨m, hm⟩ : ∃ m : Nat, m = q * y0 := ⟨_, rfl⟩
            have hmb : m < 18446744073709551616 := by rw [hm]; have := Lib.half_mul_le (a := q) (b := y0) (by omega) (by omega); omega
            obtain ⟨t, ht⟩ : ∃ t : Nat, t = 4294967296 * r := ⟨_, rfl⟩
            obtain ⟨t2, ht2⟩ : ∃ t2 : Nat, t2 = t + u0 := ⟨_, rfl⟩
            have e3 : IntKind.u64.wrap ((q : Int) * (y0 : Int)) = (m : Int) := by rw [Mul64.mulN, ← hm]; exact Mul64.wrapN m hmb
            have e4 : IntKind.u64.wrap (4294967296 * (r : Int)) = (t : Int) := by rw [show 4294967296 * (r : Int) = (t : Int) from by omega]; exact Mul64.wrapN t (by omega)
            have e5 : IntKind.u64.wrap ((t : Int) + (u0 : Int)) = (t2 : Int) := by rw [show (t : Int) + (u0 : Int) = (t2 : Int) from by omega]; exact Mul64.wrapN t2 (by omega)
            have HT := Lib.hid (show t2 = 4294967296 * r + u0 from by omega)
            have HM := Lib.hid hm
            clear hm ht ht2 hmb
            by_cases hmt : t2 < m
            · skip
              have hdn := knuth_down 4294967296 y1 y0 R1 u0 q r (by omega) b3 b5 HR.out b7 (by rw [← HYY.out]; exact HQ.out) (Or.inr (by rw [← HT.out, ← HM.out]; exact hmt)) (by omega)
              obtain ⟨hdn, hq0⟩ := hdn
              rw [← HYY.out] at hdn
              obtain ⟨q2, hq2⟩ : ∃ q2 : Nat, q = q2 + 1 := ⟨q - 1, by omega⟩
              obtain ⟨r2, hr2⟩ : ∃ r2 : Nat, r2 = r + y1 := ⟨_, rfl⟩
              have e1 : IntKind.u64.wrap ((q : Int) - 1) = (q2 : Int) := by rw [show (q : Int) - 1 = (q2 : Int) from by omega]; exact Mul64.wrapN q2 (by omega)
              have e2 : IntKind.u64.wrap ((r : Int) + (y1 : Int)) = (r2 : Int) := by rw [show (r : Int) + (y1 : Int) = (r2 : Int) from by omega]; exact Mul64.wrapN r2 (by omega)
              have HQ2 := Lib.hid (show (R1 * 4294967296 + u0) / Y ≤ q2 from by rw [show q - 1 = q2 from by omega] at hdn; exact hdn)
              have HR2 := Lib.hid (show q2 * y1 + r2 = R1 from by have := HR.out; rw [hq2, Nat.add_mul, Nat.one_mul] at this; omega)
              have hqq : q2 < q := by omega
              have hrr : r2 < 8589934592 := by omega
              clear hdn hq2 hr2
              by_cases hbr : 4294967296 ≤ r2
              · have HF := Lib.hid (show q2 = Q0 from by rw [HQ9.out, HYY.out]; exact (knuth_break 4294967296 y1 y0 R1 u0 q2 r2 (by omega) b3 b5 HR2.out (by rw [← HYY.out]; exact HQ2.out) (by omega) hbr (by omega)).symm)
                have hbi : (4294967296 : Int) ≤ (r2 : Int) := by omega
                go_wp2_with fail
                go_meet
                case rel => exact ⟨by rw [HF.out], rfl⟩
              · have hbi : ¬ (4294967296 : Int) ≤ (r2 : Int) := by omega
                go_wp2_with fail
                go_roundw
                case rel => exact ⟨q2, r2, rfl, rfl, HR2.out, HQ2.out, by omega, by omega, by first | rfl | trivial⟩
                case measure => simp [intOf]; omega
            · have HF := Lib.hid (show q = Q0 from by rw [HQ9.out, HYY.out]; exact (knuth 4294967296 y1 y0 R1 u0 q r (by omega) b3 b5 HR.out (by rw [← HYY.out]; exact HQ.out) (by omega) (by rw [← HT.out, ← HM.out]; omega) (by omega)).symm)
              go_wp2_with fail
              go_meet
              case rel => exact ⟨by rw [HF.out], rfl⟩
      case rest =>
        obtain ⟨rfl, rfl⟩ := hcut
        rename World => w
        have hYp : 0 < Y := by omega
        have hZ1 : Q0 * Y + (R1 * 4294967296 + u0) % Y = R1 * 4294967296 + u0 := by rw [HQ9.out, Nat.mul_comm]; exact Nat.div_add_mod _ _
        obtain ⟨R0, hR0⟩ : ∃ R0 : Nat, R0 = (R1 * 4294967296 + u0) % Y := ⟨_, rfl⟩
        have hR0Y : R0 < Y := by rw [hR0]; exact Nat.mod_lt _ hYp
        rw [← hR0] at hZ1
        obtain ⟨X, hX⟩ : ∃ X : Nat, X = R1 * 4294967296 := ⟨_, rfl⟩
        obtain ⟨Z, hZ⟩ : ∃ Z : Nat, Z = Q0 * Y := ⟨_, rfl⟩
        rw [← hX, ← hZ] at hZ1
        obtain ⟨W1, hW1⟩ : ∃ W1 : Nat, W1 = X % 18446744073709551616 := ⟨_, rfl⟩
        obtain ⟨W2, hW2⟩ : ∃ W2 : Nat, W2 = (W1 + u0) % 18446744073709551616 := ⟨_, rfl⟩
        obtain ⟨W3, hW3⟩ : ∃ W3 : Nat, W3 = Z % 18446744073709551616 := ⟨_, rfl⟩
        have e6 : IntKind.u64.wrap ((R1 : Int) * 4294967296) = (W1 : Int) := by rw [show (R1 : Int) * 4294967296 = (X : Int) from by omega, hW1]; exact Mul64.wrapM X
        have e7 : IntKind.u64.wrap ((W1 : Int) + (u0 : Int)) = (W2 : Int) := by rw [Mul64.addN, hW2]; exact Mul64.wrapM _
        have e8 : IntKind.u64.wrap ((Q0 : Int) * (Y : Int)) = (W3 : Int) := by rw [Mul64.mulN, ← hZ, hW3]; exact Mul64.wrapM Z
        have e9 : IntKind.u64.wrap ((W2 : Int) - (W3 : Int)) = (R0 : Int) := by rw [IntKind.wrap_u64]; omega
        have hQ0b : Q0 < 4294967296 := by
          rw [HQ9.out]; apply Nat.div_lt_of_lt_mul
          have : (R1 + 1) * 4294967296 ≤ Y * 4294967296 := Nat.mul_le_mul_right _ HR1Y.out
          omega
        obtain ⟨T1, hT1⟩ : ∃ T1 : Nat, T1 = Q1 * 4294967296 := ⟨_, rfl⟩
        obtain ⟨T2, hT2⟩ : ∃ T2 : Nat, T2 = T1 + Q0 := ⟨_, rfl⟩
        have e10 : IntKind.u64.wrap ((Q1 : Int) * 4294967296) = (T1 : Int) := by rw [show (Q1 : Int) * 4294967296 = (T1 : Int) from by omega]; exact Mul64.wrapN T1 (by omega)
        have e11 : IntKind.u64.wrap ((T1 : Int) + (Q0 : Int)) = (T2 : Int) := by rw [Mul64.addN, ← hT2]; exact Mul64.wrapN T2 (by omega)
        obtain ⟨E, hE⟩ : ∃ E : Nat, E = R0 / 2 ^ s := ⟨_, rfl⟩
        have e12 : (R0 : Int) / 2 ^ s = (E : Int) := by rw [hE]; exact d_pow R0 s
        have hboth := knuth_both 4294967296 Y U u1 u0 (by omega) hYp hUY b5
        rw [← HR1.out, ← HQ1.out, ← HQ9.out, ← hR0, ← HZ.out, HYd.out] at hboth
        have h2s := Nat.two_pow_pos s
        rw [Nat.mul_div_mul_right _ _ h2s, Nat.mul_mod_mul_right] at hboth
        have HRES := Lib.hid (show (hi * 18446744073709551616 + lo) / y = T2 ∧ (hi * 18446744073709551616 + lo) % y = E from ⟨by rw [hboth.1]; omega, by rw [hE, ← hboth.2, Nat.mul_div_cancel _ h2s]⟩)
        clear hW1 hW2 hW3 hZ1 hX hZ hboth hT1 hT2 hE hR0 h2s
        go_wp2_with fail
        refine bodyPost_ret (v := .tuple #[.int .u64 (T2 : Int), .int .u64 (E : Int)]) (by simp [results, Tryz.results185, go_sem]) rfl ⟨by rw [HRES.out.1, HRES.out.2], Below.refl _ _⟩
end Go.Proofs.YtpifadjlbjifhaaGreatDoor
namespace Go.Proofs.YtpifadjlbjifhaaGreatDoor
open Go.ChangeShapes Go.WideShapes Go.ChangeAt Go.RowKit Go.Joins
set_option linter.unusedVariables false
set_option maxRecDepth 100000
def cmpH (r d : Nat) : Int := if d < 2 * r then 1 else if 2 * r = d then 0 else -1
def shD (n k d : Nat) : Nat × Int := if d ≤ n * 2 ^ k / 18446744073709551616 then (9223372036854775808, 0) else (n * 2 ^ k / d, cmpH (n * 2 ^ k % d) d)
set_option maxHeartbeats 4000000 in
set_option maxRecDepth 100000 in
theorem impl_shifted (n k d : Nat) (w : World) (hn : n < 18446744073709551616) (hk : k ≤ 16) (hd0 : 0 < d) (hd : d < 18446744073709551616) :
    Calls Tryz.prog 159 #[.int .u64 n, .int .u64 k, .int .u64 d] w fun e w' => e = .returned (.tuple #[.int .u64 ((shD n k d).1 : Int), .int .i64 (shD n k d).2]) ∧ Below w.heap.size w w' := by
  obtain ⟨K, hK⟩ : ∃ K : Nat, K = 2 ^ k := ⟨_, rfl⟩
  have hKb : K ≤ 65536 := by
    have h1 : 2 ^ k ≤ 2 ^ 16 := Nat.pow_le_pow_right (by omega) hk
    have h2 : (2 : Nat) ^ 16 = 65536 := by decide
    omega
  have eK : IntKind.u64.wrap ((2 : Int) ^ k) = (K : Int) := by
    rw [show (2 : Int) ^ k = (K : Int) from by rw [hK, Int.natCast_pow]; rfl]; exact Mul64.wrapN K (by omega)
  obtain ⟨Z, hZ⟩ : ∃ Z : Nat, Z = n * K := ⟨_, rfl⟩
  obtain ⟨H, hH⟩ : ∃ H : Nat, H = Z / 18446744073709551616 := ⟨_, rfl⟩
  obtain ⟨L, hL⟩ : ∃ L : Nat, L = Z % 18446744073709551616 := ⟨_, rfl⟩
  have hHL := Lib.hid (show H * 18446744073709551616 + L = Z from by omega)
  have hL2 : L < 18446744073709551616 := by omega
  have hZb : Z ≤ 18446744073709551616 * 65536 := by rw [hZ]; exact Nat.mul_le_mul (by omega) hKb
  have hHb : H ≤ 65536 := by omega
  have HSH := Lib.hid (show shD n k d = if d ≤ H then (9223372036854775808, 0) else (Z / d, cmpH (Z % d) d) from by unfold shD; rw [← hK, ← hZ, ← hH])
  have HM := Lib.hid (And.intro hZ (And.intro hH hL))
  have hmin : min k 64 = k := by omega
  clear hK hH hL hZb hZ
  by_cases hdH : d ≤ H
  · have HR := Lib.hid (HSH.out.trans (if_pos hdH))
    have hi : (d : Int) ≤ (H : Int) := by omega
    go_enter Tryz.func159, Tryz.ntmps159
    go_wp2_with fail
    refine (Tryz.bits_Mul64 n K hn (by omega) w).mono ?_
    rintro e w2 ⟨rfl, hw⟩
    rw [← HM.out.1, ← HM.out.2.1, ← HM.out.2.2, hw]; clear hw
    go_wp2_with fail
    refine bodyPost_ret (v := .tuple #[.int .u64 9223372036854775808, .int .i64 0]) (by simp [results, Tryz.results159, go_sem]) rfl ⟨by rw [HR.out]; rfl, Below.refl _ _⟩
  · have HR := Lib.hid (HSH.out.trans (if_neg hdH))
    have hi : ¬ (d : Int) ≤ (H : Int) := by omega
    obtain ⟨q, hq⟩ : ∃ q : Nat, q = Z / d := ⟨_, rfl⟩
    obtain ⟨r, hr⟩ : ∃ r : Nat, r = Z % d := ⟨_, rfl⟩
    have hrd : r < d := by rw [hr]; exact Nat.mod_lt _ hd0
    have HQ := Lib.hid (And.intro hq hr); clear hq hr
    obtain ⟨t, ht⟩ : ∃ t : Nat, t = d - r := ⟨_, rfl⟩
    have et : IntKind.u64.wrap ((d : Int) - (r : Int)) = (t : Int) := by rw [show (d : Int) - (r : Int) = (t : Int) from by omega]; exact Mul64.wrapN t (by omega)
    go_enter Tryz.func159, Tryz.ntmps159
    go_wp2_with fail
    refine (Tryz.bits_Mul64 n K hn (by omega) w).mono ?_
    rintro e w2 ⟨rfl, hw⟩
    rw [← HM.out.1, ← HM.out.2.1, ← HM.out.2.2, hw]; clear hw
    go_wp2_with fail
    refine (bits_Div64 H L d hd hL2 (by omega) w).mono ?_
    rintro e w3 ⟨rfl, hb⟩
    rw [hHL.out, ← HQ.out.1, ← HQ.out.2]
    have HB := Lib.hid hb; clear hb
    rcases Nat.lt_trichotomy t r with h | h | h
    · have HC := Lib.hid (show cmpH r d = 1 from if_pos (by omega))
      have h1 : (t : Int) < (r : Int) := by omega
      clear ht
      go_wp2_with fail
      refine bodyPost_ret (v := .tuple #[.int .u64 (q : Int), .int .i64 1]) (by simp [results, Tryz.results159, go_sem]) rfl ⟨by rw [HR.out, ← HQ.out.1, ← HQ.out.2, HC.out], HB.out⟩
    · have HC := Lib.hid (show cmpH r d = 0 from by unfold cmpH; rw [if_neg (by omega), if_pos (by omega)])
      clear ht
      subst h
      go_wp2_with fail
      refine bodyPost_ret (v := .tuple #[.int .u64 (q : Int), .int .i64 0]) (by simp [results, Tryz.results159, go_sem]) rfl ⟨by rw [HR.out, ← HQ.out.1, ← HQ.out.2, HC.out], HB.out⟩
    · have HC := Lib.hid (show cmpH r d = -1 from by unfold cmpH; rw [if_neg (by omega), if_neg (by omega)])
      have h1 : ¬ t < r := by omega
      have h2 : ¬ r = t := by omega
      clear ht
      go_wp2_with fail
      refine bodyPost_ret (v := .tuple #[.int .u64 (q : Int), .int .i64 (-1)]) (by simp [results, Tryz.results159, go_sem]) rfl ⟨by rw [HR.out, ← HQ.out.1, ← HQ.out.2, HC.out], HB.out⟩
end Go.Proofs.YtpifadjlbjifhaaGreatDoor
namespace Go.Proofs.YtpifadjlbjifhaaGreatDoor
open Go.ChangeShapes Go.WideShapes Go.ChangeAt Go.RowKit Go.Joins
set_option linter.unusedVariables false
set_option maxRecDepth 100000
theorem dbl (n p i : Nat) (hp : 0 < p) : (p ≤ 2 * (n * 2 ^ i % p) → n * 2 ^ (i + 1) / p = 2 * (n * 2 ^ i / p) + 1 ∧ n * 2 ^ (i + 1) % p = 2 * (n * 2 ^ i % p) - p) ∧ (2 * (n * 2 ^ i % p) < p → n * 2 ^ (i + 1) / p = 2 * (n * 2 ^ i / p) ∧ n * 2 ^ (i + 1) % p = 2 * (n * 2 ^ i % p)) := by
  have h1 := Nat.mod_add_div (n * 2 ^ i) p
  have h2 := Nat.mod_lt (n * 2 ^ i) hp
  have e : n * 2 ^ (i + 1) = 2 * (n * 2 ^ i) := by rw [Nat.pow_succ, ← Nat.mul_assoc]; omega
  rw [e]
  generalize n * 2 ^ i = x at *
  generalize x % p = r at *
  generalize x / p = q at *
  constructor
  · intro h
    refine (Nat.div_mod_unique hp).2 ⟨?_, by omega⟩
    rw [Nat.mul_add, Nat.mul_one, Nat.mul_left_comm]; omega
  · intro h
    refine (Nat.div_mod_unique hp).2 ⟨?_, by omega⟩
    rw [Nat.mul_left_comm]; omega
theorem scaled_le (n p i : Nat) (hp : 0 < p) (hq : n / p ≤ 65535) (hi : i ≤ 17) : n * 2 ^ i / p < 8589934592 := by
  have h1 : n < 65536 * p := by rw [← Nat.div_lt_iff_lt_mul hp]; omega
  have h2 : 2 ^ i ≤ 2 ^ 17 := Nat.pow_le_pow_right (by omega) hi
  have h3 : (2 : Nat) ^ 17 = 131072 := by decide
  rw [Nat.div_lt_iff_lt_mul hp]
  have h4 : n * 2 ^ i ≤ n * 131072 := Nat.mul_le_mul_left _ (by omega)
  omega
set_option maxHeartbeats 4000000 in
set_option maxRecDepth 100000 in
theorem spec_l5Scaled (n p s : Nat) (w : World) (hn : n < 100000000000000000) (hp : 0 < p) (hp2 : p ≤ 10000000000000000) (hq : n / p ≤ 65535) (hs : s ≤ 17) :
    Calls Tryz.prog 163 #[.int .i64 n, .int .i64 p, .int .i64 s] w fun e w' => e = .returned (.tuple #[.int .i64 ((n * 2 ^ s / p : Nat) : Int), .int .i64 (cmpH (n * 2 ^ s % p) p), .bool (decide (0 < n * 2 ^ s % p))]) ∧ Below w.heap.size w w' := by
  obtain ⟨qS, hqS⟩ : ∃ x : Nat, n * 2 ^ s / p = x := ⟨_, rfl⟩
  obtain ⟨rS, hrS⟩ : ∃ x : Nat, n * 2 ^ s % p = x := ⟨_, rfl⟩
  rw [hqS, hrS]
  have HQS := Lib.hid hqS
  have HRS := Lib.hid hrS
  clear hqS hrS
  obtain ⟨q0, hq0⟩ : ∃ q0 : Nat, q0 = n * 2 ^ 0 / p := ⟨_, rfl⟩
  obtain ⟨r0, hr0⟩ : ∃ r0 : Nat, r0 = n * 2 ^ 0 % p := ⟨_, rfl⟩
  have eq0 : (n : Int).tdiv (p : Int) = (q0 : Int) := by rw [hq0, Nat.pow_zero, Nat.mul_one]; rfl
  have er0 : (n : Int).tmod (p : Int) = (r0 : Int) := by rw [hr0, Nat.pow_zero, Nat.mul_one]; rfl
  have hq0b : q0 ≤ 65535 := by rw [hq0, Nat.pow_zero, Nat.mul_one]; exact hq
  have hr0b : r0 < p := by rw [hr0]; exact Nat.mod_lt _ hp
  have HQ0 := Lib.hid hq0
  have HR0 := Lib.hid hr0
  have HQ := Lib.hid hq
  have hpi : ¬ (p : Int) = 0 := by omega
  clear hq0 hr0 hq
  go_enter Tryz.func163, Tryz.ntmps163
  go_wp2_with fail
  go_loopw [9, 10, 11] (fun qv rv iv wr => ∃ (q r i : Nat), qv = .int .i64 q ∧ rv = .int .i64 r ∧ iv = .int .i64 i ∧ i ≤ s ∧ q < 8589934592 ∧ r < p ∧ Hid (q = n * 2 ^ i / p) ∧ Hid (r = n * 2 ^ i % p) ∧ Below w.heap.size w wr) (fun _ _ iv _ => s - (intOf iv).toNat)
  case atStart => exact ⟨q0, r0, 0, rfl, rfl, rfl, by omega, by omega, hr0b, HQ0, HR0, Below.refl _ _⟩
  case round =>
    obtain ⟨q, r, i, rfl, rfl, rfl, hi, hqb, hrp, HQi, HRi, hb⟩ := hrel
    have hdb := dbl n p i hp
    rw [← HQi.out, ← HRi.out] at hdb
    by_cases his : i < s
    · have hi2 : (i : Int) < (s : Int) := by omega
      have hqn := scaled_le n p (i + 1) hp HQ.out (by omega)
      by_cases hc : p ≤ 2 * r
      · obtain ⟨d1, d2⟩ := hdb.1 hc
        have HQ2 := Lib.hid d1.symm
        have HR2 := Lib.hid d2.symm
        rw [d1] at hqn
        have hci : (p : Int) ≤ 2 * (r : Int) := by omega
        clear hdb d1 d2
        go_wp2_with fail
        go_roundw
        case rel => exact ⟨2 * q + 1, 2 * r - p, i + 1, by go_num, by go_num, by go_num, by omega, by omega, by omega, HQ2, HR2, hb⟩
        case measure => simp [intOf]; omega
      · obtain ⟨d1, d2⟩ := hdb.2 (by omega)
        have HQ2 := Lib.hid d1.symm
        have HR2 := Lib.hid d2.symm
        rw [d1] at hqn
        have hci : ¬ (p : Int) ≤ 2 * (r : Int) := by omega
        clear hdb d1 d2
        go_wp2_with fail
        go_roundw
        case rel => exact ⟨2 * q, 2 * r, i + 1, by go_num, by go_num, by go_num, by omega, by omega, by omega, HQ2, HR2, hb⟩
        case measure => simp [intOf]; omega
    · obtain rfl : i = s := by omega
      have HB := Lib.hid hb
      obtain rfl : q = qS := HQi.out.trans HQS.out
      obtain rfl : r = rS := HRi.out.trans HRS.out
      clear hdb hb
      rcases Nat.lt_trichotomy (2 * r) p with h | h | h
      · have HC := Lib.hid (show cmpH r p = -1 from by unfold cmpH; rw [if_neg (by omega), if_neg (by omega)])
        have h1 : 2 * (r : Int) < (p : Int) := by omega
        go_wp2_with fail
        refine bodyPost_ret (v := .tuple #[.int .i64 (q : Int), .int .i64 (-1), .bool (decide (0 < (r : Int)))]) (by simp [results, Tryz.results163, go_sem]) rfl ⟨by rw [HC.out]; simp, HB.out⟩
      · have HC := Lib.hid (show cmpH r p = 0 from by unfold cmpH; rw [if_neg (by omega), if_pos (by omega)])
        have h1 : ¬ 2 * (r : Int) < (p : Int) := by omega
        have h2 : ¬ (p : Int) < 2 * (r : Int) := by omega
        have hr1 : 0 < r := by omega
        go_wp2_with fail
        refine bodyPost_ret (v := .tuple #[.int .i64 (q : Int), .int .i64 0, .bool true]) (by simp [results, Tryz.results163, go_sem]) rfl ⟨by rw [HC.out], HB.out⟩
      · have HC := Lib.hid (show cmpH r p = 1 from if_pos (by omega))
        have h1 : ¬ 2 * (r : Int) < (p : Int) := by omega
        have h2 : (p : Int) < 2 * (r : Int) := by omega
        have hr1 : 0 < r := by omega
        go_wp2_with fail
        refine bodyPost_ret (v := .tuple #[.int .i64 (q : Int), .int .i64 1, .bool true]) (by simp [results, Tryz.results163, go_sem]) rfl ⟨by rw [HC.out], HB.out⟩
end Go.Proofs.YtpifadjlbjifhaaGreatDoor
