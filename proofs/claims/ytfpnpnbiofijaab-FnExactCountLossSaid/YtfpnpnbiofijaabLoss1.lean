/- Contracts and lemmas for the proofs of this seat: Loss1. No condition beyond those stated. -/
import Derived.Test.YtfpnpnbiofijaabRows
import Derived.WalkKit
import Derived.ProofKit
import Derived.OpenShut
import Derived.Handy
import Derived.Lib.Hide
import Derived.Lib.SmallJoins
import Derived.Deep.RegionHeld3
import Derived.Test.YtfpnpnbiofijaabBase
import Derived.Test.YtfpnpnbiofijaabGen
namespace Go.Proofs.Ytfpnpnbiofijaab
open Go.ChangeShapes Go.WideShapes Go.ChangeAt Go.RowKit Go.Joins
set_option linter.unusedVariables false
/-- How many losses are of a kind. -/
def cntLo (l : List Lo) (k : Int) : Nat := (l.filter fun x => x.1 == k).length
theorem cntLo_take_succ (l : List Lo) (k : Int) (j : Nat) (h : j < l.length) : cntLo (l.take (j + 1)) k = cntLo (l.take j) k + if l[j].1 = k then 1 else 0 := by
  unfold cntLo; rw [take_snoc l j h, List.filter_append]
  by_cases hk : l[j].1 = k <;> simp [hk]
theorem cntLo_le (l : List Lo) (k : Int) : cntLo l k ≤ l.length := List.length_filter_le _ _
theorem spec_CountLoss (l : List Lo) (k : Int) (a : Option Addr) (cap : Nat) (B : Nat) (w : World) (hr : Rd ELoss 2 w B a cap l) (hB : B ≤ w.heap.size) :
    Calls Try.prog 21 #[.slice a l.length cap, .int .i64 k] w fun e w' => e = .returned (.int .i64 (cntLo l k)) ∧ Below w.heap.size w w' := by
  obtain ⟨hl1, hl2⟩ := hr.len
  go_enter Try.func21, Try.ntmps21
  go_wp2_with fail
  go_loopw [5, 6] (fun m i wr => ∃ (j : Nat), j ≤ l.length ∧ i = .int .i64 j ∧ m = .int .i64 (cntLo (l.take j) k) ∧ Below w.heap.size w wr) (fun _ i _ => l.length - (intOf i).toNat)
  case atStart => exact ⟨0, Nat.zero_le _, rfl, by simp [cntLo], Below.refl _ _⟩
  case round =>
    obtain ⟨j, hj, rfl, rfl, hb⟩ := hrel
    by_cases hlt : j < l.length
    · obtain ⟨b, o, a2, cap2, rfl, hbl, d0, d1, hi, hq⟩ := (hr.below ELoss.loc hb hB).loss j hlt
      have hcl := cntLo_le (l.take j) k
      have hct : (l.take j).length ≤ j := List.length_take_le _ _
      have HT := Lib.hid (cntLo_take_succ l k j hlt)
      by_cases hk : l[j].1 = k
      · have hk' : (l[j].1 == k) = true := by simpa using hk
        have HK := Lib.hid hk; clear hk
        go_wp2_with fail
        all_goals go_roundw
        case rel => exact ⟨j + 1, by omega, by go_num, by rw [HT.out, if_pos HK.out]; go_num, hb⟩
        case measure => simp [intOf]; omega
      · have hk' : (l[j].1 == k) = false := by simpa using hk
        have HK := Lib.hid hk; clear hk
        go_wp2_with fail
        all_goals go_roundw
        case rel => exact ⟨j + 1, by omega, by go_num, by rw [HT.out, if_neg HK.out]; go_num, hb⟩
        case measure => simp [intOf]; omega
    · have hjj : l.length = j := by omega
      have HJ := Lib.hid hjj; clear hjj
      go_wp2_with fail
      go_ret
      exact ⟨ret_i (by rw [← HJ.out, List.take_length]), hb⟩
theorem impl_CountLoss (l : List Lo) (k : Int) (a : Option Addr) (cap : Nat) (B : Nat) (w : World) (hr : Rd ELoss 2 w B a cap l) (hB : B ≤ w.heap.size) :
    Calls Try.prog 23 #[.slice a l.length cap, .int .i64 k] w fun e w' => e = .returned (.int .i64 (cntLo l k)) ∧ Below w.heap.size w w' := by
  obtain ⟨hl1, hl2⟩ := hr.len
  go_enter Try.func23, Try.ntmps23
  go_wp2_with fail
  go_loopw [5, 10, 7] (fun m i _ wr => ∃ (j : Nat), j ≤ l.length ∧ i = .int .i64 j ∧ m = .int .i64 (cntLo (l.take j) k) ∧ Below w.heap.size w wr) (fun _ i _ _ => l.length - (intOf i).toNat)
  case atStart => exact ⟨0, Nat.zero_le _, rfl, by simp [cntLo], Below.refl _ _⟩
  case round =>
    obtain ⟨j, hj, rfl, rfl, hb⟩ := hrel
    by_cases hlt : j < l.length
    · obtain ⟨b, o, a2, cap2, rfl, hbl, d0, d1, hi, hq⟩ := (hr.below ELoss.loc hb hB).loss j hlt
      have hcl := cntLo_le (l.take j) k
      have hct : (l.take j).length ≤ j := List.length_take_le _ _
      have HT := Lib.hid (cntLo_take_succ l k j hlt)
      by_cases hk : l[j].1 = k
      · have hk' : (l[j].1 == k) = true := by simpa using hk
        have HK := Lib.hid hk; clear hk
        go_wp2_with fail
        all_goals go_roundw
        case rel => exact ⟨j + 1, by omega, by go_num, by rw [HT.out, if_pos HK.out]; go_num, hb.trans ((below1 _ _).mono hb.size)⟩
        case measure => simp [intOf]; omega
      · have hk' : (l[j].1 == k) = false := by simpa using hk
        have HK := Lib.hid hk; clear hk
        go_wp2_with fail
        all_goals go_roundw
        case rel => exact ⟨j + 1, by omega, by go_num, by rw [HT.out, if_neg HK.out]; go_num, hb.trans ((below1 _ _).mono hb.size)⟩
        case measure => simp [intOf]; omega
    · have hjj : l.length = j := by omega
      have HJ := Lib.hid hjj; clear hjj
      go_wp2_with fail
      go_ret
      exact ⟨ret_i (by rw [← HJ.out, List.take_length]), hb⟩
end Go.Proofs.Ytfpnpnbiofijaab
