/- Contracts and lemmas for the proofs of this seat: Path1. No condition beyond those stated. -/
import Derived.Test.YtmajklgjmghjlaaRows
import Derived.WalkKit
import Derived.ProofKit
import Derived.OpenShut
import Derived.Handy
import Derived.Lib.Hide
import Derived.Lib.SmallJoins
import Derived.Deep.RegionHeld3
import Derived.Deep.QuietTactic
import Derived.BigQuiet
import Derived.Test.YtmajklgjmghjlaaBase
import Derived.Test.YtmajklgjmghjlaaGen
namespace Go.Proofs.Ytmajklgjmghjlaa
open Go.ChangeShapes Go.WideShapes Go.ChangeAt Go.RowKit Go.Joins
set_option linter.unusedVariables false
set_option maxRecDepth 100000
def lessP : List St → List St → Bool
  | [], [] => false
  | [], _ :: _ => true
  | _ :: _, [] => false
  | x :: a, y :: b => if x = y then lessP a b else decide (x.1 < y.1) || (decide (x.1 = y.1) && x.2)
theorem lessP_drop (a b : List St) (j : Nat) (ha : j < a.length) (hb : j < b.length) (h : a[j] = b[j]) : lessP (a.drop j) (b.drop j) = lessP (a.drop (j + 1)) (b.drop (j + 1)) := by
  rw [List.drop_eq_getElem_cons ha, List.drop_eq_getElem_cons hb, lessP, if_pos h]
theorem lessP_hit (a b : List St) (j : Nat) (ha : j < a.length) (hb : j < b.length) (h : a[j] ≠ b[j]) : lessP (a.drop j) (b.drop j) = (decide (a[j].1 < b[j].1) || (decide (a[j].1 = b[j].1) && a[j].2)) := by
  rw [List.drop_eq_getElem_cons ha, List.drop_eq_getElem_cons hb, lessP, if_neg h]
theorem lessP_end (a b : List St) (j : Nat) (h : a.length ≤ j ∨ b.length ≤ j) (ha : j ≤ a.length) (hb : j ≤ b.length) : lessP (a.drop j) (b.drop j) = decide (a.length < b.length) := by
  by_cases h1 : j < a.length
  · rw [List.drop_eq_getElem_cons h1, List.drop_of_length_le (by omega : b.length ≤ j), lessP]; simp; omega
  · rw [List.drop_of_length_le (by omega : a.length ≤ j)]
    by_cases h2 : j < b.length
    · rw [List.drop_eq_getElem_cons h2, lessP]; simp; omega
    · rw [List.drop_of_length_le (by omega : b.length ≤ j), lessP]; simp; omega
set_option maxHeartbeats 800000 in
theorem spec_LessPath (p q : List St) (a a' : Option Addr) (cap cap' B : Nat) (w : World) (hr : Rd EStep 2 w B a cap p) (hr' : Rd EStep 2 w B a' cap' q) (hB : B ≤ w.heap.size) :
    Calls Try.prog 23 #[.slice a p.length cap, .slice a' q.length cap'] w fun e w' => e = .returned (.bool (lessP p q)) ∧ Below w.heap.size w w' := by
  obtain ⟨hl1, hl2⟩ := hr.len
  obtain ⟨hm1, hm2⟩ := hr'.len
  go_enter Try.func23, Try.ntmps23
  go_wp2_with fail
  go_loopw [5] (fun i wr => ∃ (j : Nat), j ≤ p.length ∧ j ≤ q.length ∧ i = .int .i64 j ∧ Hid (lessP p q = lessP (p.drop j) (q.drop j)) ∧ Below w.heap.size w wr) (fun i _ => p.length - (intOf i).toNat)
  case atStart => exact ⟨0, Nat.zero_le _, Nat.zero_le _, rfl, rfl, Below.refl _ _⟩
  case round =>
    obtain ⟨j, hj, hj', rfl, HP, hb⟩ := hrel
    by_cases hlt : j < p.length
    · by_cases hlt' : j < q.length
      · obtain ⟨b, o, rfl, hbl, d0, d1, hi⟩ := (hr.below EStep.loc hb hB).step j hlt
        obtain ⟨b', o', rfl, hbl', d0', d1', hi'⟩ := (hr'.below EStep.loc hb hB).step j hlt'
        by_cases he : p[j] = q[j]
        · have HE := Lib.hid (HP.out.trans (lessP_drop p q j hlt hlt' he))
          go_wp2_with fail
          go_quiet (fail)
          go_wp2_with fail
          go_roundw
          case rel => exact ⟨j + 1, by omega, by omega, by go_num, HE.out, hb.trans (below_drewN _ _ _)⟩
          case measure => simp [intOf]; omega
        · have HE := Lib.hid (HP.out.trans (lessP_hit p q j hlt hlt' he))
          generalize p[j] = x at *
          generalize q[j] = y at *
          obtain ⟨x1, x2⟩ := x
          obtain ⟨y1, y2⟩ := y
          simp only at d0 d1 d0' d1'
          by_cases h1 : x1 < y1
          · have hq : (x1 == y1) = false := by rw [beq_eq_false_iff_ne]; omega
            clear he
            go_wp2_with fail
            go_quiet (fail)
            go_wp2_with fail
            go_quiet (fail)
            go_wp2_with fail
            go_ret
            exact ⟨ret_b (by rw [HE.out]; simp; omega), hb.trans ((below_drewN _ _ _).trans (below_drewN _ _ _))⟩
          · by_cases h2 : x1 = y1
            · subst h2
              have hne : x2 ≠ y2 := fun e => he (by rw [e])
              clear he
              cases x2 <;> cases y2
              · exact absurd rfl hne
              · clear hne
                go_wp2_with fail
                go_quiet (fail)
                go_wp2_with fail
                go_quiet (fail)
                go_wp2_with fail
                go_ret
                exact ⟨ret_b (by rw [HE.out]; simp), hb.trans ((below_drewN _ _ _).trans (below_drewN _ _ _))⟩
              · clear hne
                go_wp2_with fail
                go_quiet (fail)
                go_wp2_with fail
                go_quiet (fail)
                go_wp2_with fail
                go_ret
                exact ⟨ret_b (by rw [HE.out]; simp), hb.trans ((below_drewN _ _ _).trans (below_drewN _ _ _))⟩
              · exact absurd rfl hne
            · have hq : (x1 == y1) = false := by rw [beq_eq_false_iff_ne]; exact h2
              have hd : decide (x1 < y1) = false := by simpa using h1
              have H2 := Lib.hid h2
              clear he h2
              go_wp2_with fail
              go_quiet (fail)
              go_wp2_with fail
              go_quiet (fail)
              go_wp2_with fail
              go_ret
              exact ⟨ret_b (by rw [HE.out]; have := H2.out; simp [this]; omega), hb.trans ((below_drewN _ _ _).trans (below_drewN _ _ _))⟩
      · have hlt2 : ¬ ((j : Int) < q.length) := by omega
        have HE := Lib.hid (HP.out.trans (lessP_end p q j (by omega) hj hj'))
        go_wp2_with fail
        go_ret
        exact ⟨ret_b HE.out.symm, hb⟩
    · have HE := Lib.hid (HP.out.trans (lessP_end p q j (by omega) hj hj'))
      go_wp2_with fail
      go_ret
      exact ⟨ret_b HE.out.symm, hb⟩
set_option maxHeartbeats 1600000 in
theorem impl_LessPath (p q : List St) (a a' : Option Addr) (cap cap' B : Nat) (w : World) (hr : Rd EStep 2 w B a cap p) (hr' : Rd EStep 2 w B a' cap' q) (hB : B ≤ w.heap.size) :
    Calls Try.prog 29 #[.slice a p.length cap, .slice a' q.length cap'] w fun e w' => e = .returned (.bool (lessP p q)) ∧ Below w.heap.size w w' := by
  obtain ⟨hl1, hl2⟩ := hr.len
  obtain ⟨hm1, hm2⟩ := hr'.len
  by_cases hpq : p.length ≤ q.length
  all_goals
    go_enter Try.func29, Try.ntmps29
    go_wp2_with fail
    go_loopw [11, 5] (fun i _ wr => ∃ (j : Nat), j ≤ p.length ∧ j ≤ q.length ∧ i = .int .i64 j ∧ Hid (lessP p q = lessP (p.drop j) (q.drop j)) ∧ Below w.heap.size w wr) (fun i _ _ => p.length - (intOf i).toNat)
    case atStart => exact ⟨0, Nat.zero_le _, Nat.zero_le _, rfl, rfl, Below.refl _ _⟩
    case round =>
      obtain ⟨j, hj, hj', rfl, HP, hb⟩ := hrel
      by_cases hlt : j < p.length
      · by_cases hlt' : j < q.length
        · obtain ⟨b, o, rfl, hbl, d0, d1, hi⟩ := (hr.below EStep.loc hb hB).step j hlt
          obtain ⟨b', o', rfl, hbl', d0', d1', hi'⟩ := (hr'.below EStep.loc hb hB).step j hlt'
          by_cases he : p[j] = q[j]
          · have HE := Lib.hid (HP.out.trans (lessP_drop p q j hlt hlt' he))
            go_wp2_with fail
            go_quiet (fail)
            go_wp2_with fail
            go_roundw
            case rel => exact ⟨j + 1, by omega, by omega, by go_num, HE.out, hb.trans (below_drewN _ _ _)⟩
            case measure => simp [intOf]; omega
          · have HE := Lib.hid (HP.out.trans (lessP_hit p q j hlt hlt' he))
            generalize p[j] = x at *
            generalize q[j] = y at *
            obtain ⟨x1, x2⟩ := x
            obtain ⟨y1, y2⟩ := y
            simp only at d0 d1 d0' d1'
            by_cases h1 : x1 < y1
            · have hq : (x1 == y1) = false := by rw [beq_eq_false_iff_ne]; omega
              clear he
              go_wp2_with fail
              go_quiet (fail)
              go_wp2_with fail
              go_quiet (fail)
              go_wp2_with fail
              go_ret
              exact ⟨ret_b (by rw [HE.out]; simp; omega), hb.trans ((below_drewN _ _ _).trans (below_drewN _ _ _))⟩
            · by_cases h2 : x1 = y1
              · subst h2
                have hne : x2 ≠ y2 := fun e => he (by rw [e])
                clear he
                cases x2 <;> cases y2
                · exact absurd rfl hne
                · clear hne
                  go_wp2_with fail
                  go_quiet (fail)
                  go_wp2_with fail
                  go_quiet (fail)
                  go_wp2_with fail
                  go_ret
                  exact ⟨ret_b (by rw [HE.out]; simp), hb.trans ((below_drewN _ _ _).trans (below_drewN _ _ _))⟩
                · clear hne
                  go_wp2_with fail
                  go_quiet (fail)
                  go_wp2_with fail
                  go_quiet (fail)
                  go_wp2_with fail
                  go_ret
                  exact ⟨ret_b (by rw [HE.out]; simp), hb.trans ((below_drewN _ _ _).trans (below_drewN _ _ _))⟩
                · exact absurd rfl hne
              · have hq : (x1 == y1) = false := by rw [beq_eq_false_iff_ne]; exact h2
                have hd : decide (x1 < y1) = false := by simpa using h1
                have H2 := Lib.hid h2
                clear he h2
                go_wp2_with fail
                go_quiet (fail)
                go_wp2_with fail
                go_quiet (fail)
                go_wp2_with fail
                go_ret
                exact ⟨ret_b (by rw [HE.out]; have := H2.out; simp [this]; omega), hb.trans ((below_drewN _ _ _).trans (below_drewN _ _ _))⟩
        · first
          | (exfalso; omega)
          | (have hlt2 : ¬ ((j : Int) < q.length) := by omega
             have HE := Lib.hid (HP.out.trans (lessP_end p q j (by omega) hj hj'))
             go_wp2_with fail
             go_ret
             exact ⟨ret_b HE.out.symm, hb⟩)
      · first
        | (exfalso; omega)
        | (have HE := Lib.hid (HP.out.trans (lessP_end p q j (by omega) hj hj'))
           go_wp2_with fail
           go_ret
           exact ⟨ret_b HE.out.symm, hb⟩)
end Go.Proofs.Ytmajklgjmghjlaa
