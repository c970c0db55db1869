/- Texts of this proof, merged: Loss1, LossOkF, Path1, Path2, Same, AtL. No condition beyond what each theorem states. -/
import Derived.Test.YtfbodhfdomdkpaaGreatDoorRows
import Derived.WalkKit
import Derived.ProofKit
import Derived.OpenShut
import Derived.Handy
import Derived.Lib.Hide
import Derived.Lib.SmallJoins
import Derived.Deep.RegionHeld3
import Derived.Test.YtfbodhfdomdkpaaGreatDoorZG1
import Derived.Deep.AppendLies
import Derived.Deep.QuietTactic
import Derived.BigQuiet
import Derived.Test.YtfbodhfdomdkpaaGreatDoorZG2
import Derived.Test.YtfbodhfdomdkpaaGreatDoorZG3
import Derived.Test.YtfbodhfdomdkpaaGreatDoorZG4
set_option linter.unusedSimpArgs false
set_option linter.unnecessarySimpa false
namespace Go.Proofs.YtfbodhfdomdkpaaGreatDoor
open Go.ChangeShapes Go.WideShapes Go.ChangeAt Go.RowKit Go.Joins
set_option linter.unusedVariables false
set_option maxRecDepth 100000
/-- How many losses are of a kind. -/
def cntLo (l : List Lo) (k : Int) : Nat := (l.filter fun x => x.1 == k).length
theorem cntLo_take_succ (l : List Lo) (k : Int) (j : Nat) (h : j < l.length) : cntLo (l.take (j + 1)) k = cntLo (l.take j) k + if l[j].1 = k then 1 else 0 := by
  unfold cntLo; rw [take_snoc l j h, List.filter_append]
  by_cases hk : l[j].1 = k <;> simp [hk]
theorem cntLo_le (l : List Lo) (k : Int) : cntLo l k ≤ l.length := List.length_filter_le _ _
theorem spec_CountLoss (l : List Lo) (k : Int) (a : Option Addr) (cap : Nat) (B : Nat) (w : World) (hr : Rd ELoss 2 w B a cap l) (hB : B ≤ w.heap.size) :
    Calls Tryz.prog 33 #[.slice a l.length cap, .int .i64 k] w fun e w' => e = .returned (.int .i64 (cntLo l k)) ∧ Below w.heap.size w w' := by
  obtain ⟨hl1, hl2⟩ := hr.len
  go_enter Tryz.func33, Tryz.ntmps33
  go_wp2_with fail
  go_loopw [5, 6] (fun m i wr => ∃ (j : Nat), j ≤ l.length ∧ i = .int .i64 j ∧ m = .int .i64 (cntLo (l.take j) k) ∧ Below w.heap.size w wr) (fun _ i _ => l.length - (intOf i).toNat)
  case atStart => exact ⟨0, Nat.zero_le _, rfl, by simp [cntLo], Below.refl _ _⟩
  case round =>
    obtain ⟨j, hj, rfl, rfl, hb⟩ := hrel
    by_cases hlt : j < l.length
    · obtain ⟨b, o, a2, cap2, rfl, hbl, d0, d1, hi, hq⟩ := (hr.below ELoss.loc hb hB).loss j hlt
      have hcl := cntLo_le (l.take j) k
      have hct : (l.take j).length ≤ j := List.length_take_le _ _
      have HT := Lib.hid (cntLo_take_succ l k j hlt)
      by_cases hk : l[j].1 = k
      · have hk' : (l[j].1 == k) = true := by simpa using hk
        have HK := Lib.hid hk; clear hk
        go_wp2_with fail
        all_goals go_roundw
        case rel => exact ⟨j + 1, by omega, by go_num, by rw [HT.out, if_pos HK.out]; go_num, hb⟩
        case measure => simp [intOf]; omega
      · have hk' : (l[j].1 == k) = false := by simpa using hk
        have HK := Lib.hid hk; clear hk
        go_wp2_with fail
        all_goals go_roundw
        case rel => exact ⟨j + 1, by omega, by go_num, by rw [HT.out, if_neg HK.out]; go_num, hb⟩
        case measure => simp [intOf]; omega
    · have hjj : l.length = j := by omega
      have HJ := Lib.hid hjj; clear hjj
      go_wp2_with fail
      go_ret
      exact ⟨ret_i (by rw [← HJ.out, List.take_length]), hb⟩
theorem impl_CountLoss (l : List Lo) (k : Int) (a : Option Addr) (cap : Nat) (B : Nat) (w : World) (hr : Rd ELoss 2 w B a cap l) (hB : B ≤ w.heap.size) :
    Calls Tryz.prog 32 #[.slice a l.length cap, .int .i64 k] w fun e w' => e = .returned (.int .i64 (cntLo l k)) ∧ Below w.heap.size w w' := by
  obtain ⟨hl1, hl2⟩ := hr.len
  go_enter Tryz.func32, Tryz.ntmps32
  go_wp2_with fail
  go_loopw [5, 10, 7] (fun m i _ wr => ∃ (j : Nat), j ≤ l.length ∧ i = .int .i64 j ∧ m = .int .i64 (cntLo (l.take j) k) ∧ Below w.heap.size w wr) (fun _ i _ _ => l.length - (intOf i).toNat)
  case atStart => exact ⟨0, Nat.zero_le _, rfl, by simp [cntLo], Below.refl _ _⟩
  case round =>
    obtain ⟨j, hj, rfl, rfl, hb⟩ := hrel
    by_cases hlt : j < l.length
    · obtain ⟨b, o, a2, cap2, rfl, hbl, d0, d1, hi, hq⟩ := (hr.below ELoss.loc hb hB).loss j hlt
      have hcl := cntLo_le (l.take j) k
      have hct : (l.take j).length ≤ j := List.length_take_le _ _
      have HT := Lib.hid (cntLo_take_succ l k j hlt)
      by_cases hk : l[j].1 = k
      · have hk' : (l[j].1 == k) = true := by simpa using hk
        have HK := Lib.hid hk; clear hk
        go_wp2_with fail
        all_goals go_roundw
        case rel => exact ⟨j + 1, by omega, by go_num, by rw [HT.out, if_pos HK.out]; go_num, hb.trans ((below1 _ _).mono hb.size)⟩
        case measure => simp [intOf]; omega
      · have hk' : (l[j].1 == k) = false := by simpa using hk
        have HK := Lib.hid hk; clear hk
        go_wp2_with fail
        all_goals go_roundw
        case rel => exact ⟨j + 1, by omega, by go_num, by rw [HT.out, if_neg HK.out]; go_num, hb.trans ((below1 _ _).mono hb.size)⟩
        case measure => simp [intOf]; omega
    · have hjj : l.length = j := by omega
      have HJ := Lib.hid hjj; clear hjj
      go_wp2_with fail
      go_ret
      exact ⟨ret_i (by rw [← HJ.out, List.take_length]), hb⟩
end Go.Proofs.YtfbodhfdomdkpaaGreatDoor
namespace Go.Proofs.YtfbodhfdomdkpaaGreatDoor
open Go.ChangeShapes Go.WideShapes Go.ChangeAt Go.RowKit Go.Joins
set_option linter.unusedVariables false
set_option maxRecDepth 100000
def lossOkB (t : T) (x : Lo) : Bool := (atT t x.2).isSome && (decide (1 ≤ x.1) && decide (x.1 ≤ 9))
theorem lossOkB_def (t : T) (x : Lo) : lossOkB t x = ((atT t x.2).isSome && (decide (1 ≤ x.1) && decide (x.1 ≤ 9))) := rfl
theorem spec_LossOk (t : T) (x : Lo) (a : Option Addr) (cap : Nat) (a' : Option Addr) (cap' B : Nat) (w : World) (hr : R w B a cap t.l) (hr' : Rd EStep 2 w B a' cap' x.2) (hwf : Wf t) (hct : T.count t ≤ 1073741824) (hB : B ≤ w.heap.size) :
    Calls Tryz.prog 24 #[.agg (cV t a cap), .agg (cL x a' cap')] w fun e w' => e = .returned (.bool (lossOkB t x)) ∧ Below w.heap.size w w' := by
  go_enter Tryz.func24, Tryz.ntmps24
  go_wp2_with fail
  generalize hW : (w.alloc (Obj.cells (cV t a cap) 36)).alloc (Obj.cells (cL x a' cap') 29) = W0
  have q2 : Is W0 (w.heap.size + 1) 29 (cL x a' cap') := by subst hW; exact Is.new2 _ _ _ _
  have H0 := Lib.hid (show Below w.heap.size w W0 from by subst hW; exact below2 _ _ _)
  have hs0 : W0.heap.size = w.heap.size + 2 := by subst hW; simp
  clear hW
  refine (spec_AtPath t x.2 a a' cap cap' B W0 (hr.below H0.out hB) (hr'.below EStep.loc H0.out hB) hwf hct (by omega)).mono ?_
  rintro e w2 ⟨u, au, cu, rfl, -, -, hb2⟩
  have hs2 := hb2.size
  obtain ⟨c0, c1⟩ := (q2.below hb2 (by omega)).cells2
  have l2 : w.heap.size + 1 < w2.heap.size := by omega
  have H2 := Lib.hid ((H0.out.trans (hb2.mono (by omega))).trans ((below1 w2 (.cells (cV u au cu) 36)).mono (by omega))); clear hb2
  cases hsome : (atT t x.2).isSome with
  | false =>
    have HS := Lib.hid hsome; clear hsome
    go_wp2
    go_ret
    exact ⟨ret_b (by rw [lossOkB_def, HS.out]; rfl), H2.out⟩
  | true =>
    have HS := Lib.hid hsome; clear hsome
    by_cases h1 : 1 ≤ x.1
    · by_cases h2 : x.1 ≤ 9
      · go_wp2
        go_ret
        exact ⟨ret_b (by rw [lossOkB_def, HS.out]; simp [h1, h2]), H2.out⟩
      · go_wp2
        go_ret
        exact ⟨ret_b (by rw [lossOkB_def, HS.out]; simp [h1]; try omega), H2.out⟩
    · go_wp2
      go_ret
      exact ⟨ret_b (by rw [lossOkB_def, HS.out]; simp; omega), H2.out⟩
theorem impl_LossOk (t : T) (x : Lo) (a : Option Addr) (cap : Nat) (a' : Option Addr) (cap' B : Nat) (w : World) (hr : R w B a cap t.l) (hr' : Rd EStep 2 w B a' cap' x.2) (hwf : Wf t) (hct : T.count t ≤ 1073741824) (hB : B ≤ w.heap.size) :
    Calls Tryz.prog 23 #[.agg (cV t a cap), .agg (cL x a' cap')] w fun e w' => e = .returned (.bool (lossOkB t x)) ∧ Below w.heap.size w w' := by
  go_enter Tryz.func23, Tryz.ntmps23
  go_wp2_with fail
  generalize hW : (w.alloc (Obj.cells (cV t a cap) 36)).alloc (Obj.cells (cL x a' cap') 29) = W0
  have q2 : Is W0 (w.heap.size + 1) 29 (cL x a' cap') := by subst hW; exact Is.new2 _ _ _ _
  have H0 := Lib.hid (show Below w.heap.size w W0 from by subst hW; exact below2 _ _ _)
  have hs0 : W0.heap.size = w.heap.size + 2 := by subst hW; simp
  clear hW
  refine (impl_AtPath t x.2 a a' cap cap' B W0 (hr.below H0.out hB) (hr'.below EStep.loc H0.out hB) hwf hct (by omega)).mono ?_
  rintro e w2 ⟨u, au, cu, rfl, -, -, hb2⟩
  have hs2 := hb2.size
  obtain ⟨c0, c1⟩ := (q2.below hb2 (by omega)).cells2
  have l2 : w.heap.size + 1 < w2.heap.size := by omega
  have H2 := Lib.hid ((H0.out.trans (hb2.mono (by omega))).trans ((below1 w2 (.cells (cV u au cu) 36)).mono (by omega))); clear hb2
  cases hsome : (atT t x.2).isSome with
  | false =>
    have HS := Lib.hid hsome; clear hsome
    go_wp2
    go_ret
    exact ⟨ret_b (by rw [lossOkB_def, HS.out]; rfl), H2.out⟩
  | true =>
    have HS := Lib.hid hsome; clear hsome
    by_cases h1 : 1 ≤ x.1
    · by_cases h2 : x.1 ≤ 9
      · go_wp2
        go_ret
        exact ⟨ret_b (by rw [lossOkB_def, HS.out]; simp [h1, h2]), H2.out⟩
      · go_wp2
        go_ret
        exact ⟨ret_b (by rw [lossOkB_def, HS.out]; simp [h1]; try omega), H2.out⟩
    · go_wp2
      go_ret
      exact ⟨ret_b (by rw [lossOkB_def, HS.out]; simp; omega), H2.out⟩
end Go.Proofs.YtfbodhfdomdkpaaGreatDoor
namespace Go.Proofs.YtfbodhfdomdkpaaGreatDoor
open Go.ChangeShapes Go.WideShapes Go.ChangeAt Go.RowKit Go.Joins
set_option linter.unusedVariables false
set_option maxRecDepth 100000
def lessP : List St → List St → Bool
  | [], [] => false
  | [], _ :: _ => true
  | _ :: _, [] => false
  | x :: a, y :: b => if x = y then lessP a b else decide (x.1 < y.1) || (decide (x.1 = y.1) && x.2)
theorem lessP_drop (a b : List St) (j : Nat) (ha : j < a.length) (hb : j < b.length) (h : a[j] = b[j]) : lessP (a.drop j) (b.drop j) = lessP (a.drop (j + 1)) (b.drop (j + 1)) := by
  rw [List.drop_eq_getElem_cons ha, List.drop_eq_getElem_cons hb, lessP, if_pos h]
theorem lessP_hit (a b : List St) (j : Nat) (ha : j < a.length) (hb : j < b.length) (h : a[j] ≠ b[j]) : lessP (a.drop j) (b.drop j) = (decide (a[j].1 < b[j].1) || (decide (a[j].1 = b[j].1) && a[j].2)) := by
  rw [List.drop_eq_getElem_cons ha, List.drop_eq_getElem_cons hb, lessP, if_neg h]
theorem lessP_end (a b : List St) (j : Nat) (h : a.length ≤ j ∨ b.length ≤ j) (ha : j ≤ a.length) (hb : j ≤ b.length) : lessP (a.drop j) (b.drop j) = decide (a.length < b.length) := by
  by_cases h1 : j < a.length
  · rw [List.drop_eq_getElem_cons h1, List.drop_of_length_le (by omega : b.length ≤ j), lessP]; simp; omega
  · rw [List.drop_of_length_le (by omega : a.length ≤ j)]
    by_cases h2 : j < b.length
    · rw [List.drop_eq_getElem_cons h2, lessP]; simp; omega
    · rw [List.drop_of_length_le (by omega : b.length ≤ j), lessP]; simp; omega
set_option maxHeartbeats 800000 in
theorem spec_LessPath (p q : List St) (a a' : Option Addr) (cap cap' B : Nat) (w : World) (hr : Rd EStep 2 w B a cap p) (hr' : Rd EStep 2 w B a' cap' q) (hB : B ≤ w.heap.size) :
    Calls Tryz.prog 81 #[.slice a p.length cap, .slice a' q.length cap'] w fun e w' => e = .returned (.bool (lessP p q)) ∧ Below w.heap.size w w' := by
  obtain ⟨hl1, hl2⟩ := hr.len
  obtain ⟨hm1, hm2⟩ := hr'.len
  go_enter Tryz.func81, Tryz.ntmps81
  go_wp2_with fail
  go_loopw [5] (fun i wr => ∃ (j : Nat), j ≤ p.length ∧ j ≤ q.length ∧ i = .int .i64 j ∧ Hid (lessP p q = lessP (p.drop j) (q.drop j)) ∧ Below w.heap.size w wr) (fun i _ => p.length - (intOf i).toNat)
  case atStart => exact ⟨0, Nat.zero_le _, Nat.zero_le _, rfl, rfl, Below.refl _ _⟩
  case round =>
    obtain ⟨j, hj, hj', rfl, HP, hb⟩ := hrel
    by_cases hlt : j < p.length
    · by_cases hlt' : j < q.length
      · obtain ⟨b, o, rfl, hbl, d0, d1, hi⟩ := (hr.below EStep.loc hb hB).step j hlt
        obtain ⟨b', o', rfl, hbl', d0', d1', hi'⟩ := (hr'.below EStep.loc hb hB).step j hlt'
        by_cases he : p[j] = q[j]
        · have HE := Lib.hid (HP.out.trans (lessP_drop p q j hlt hlt' he))
          go_wp2_with fail
          go_quiet (fail)
          go_wp2_with fail
          go_roundw
          case rel => exact ⟨j + 1, by omega, by omega, by go_num, HE.out, hb.trans (below_drewN _ _ _)⟩
          case measure => simp [intOf]; omega
        · have HE := Lib.hid (HP.out.trans (lessP_hit p q j hlt hlt' he))
          generalize p[j] = x at *
          generalize q[j] = y at *
          obtain ⟨x1, x2⟩ := x
          obtain ⟨y1, y2⟩ := y
          simp only at d0 d1 d0' d1'
          by_cases h1 : x1 < y1
          · have hq : (x1 == y1) = false := by rw [beq_eq_false_iff_ne]; omega
            clear he
            go_wp2_with fail
            go_quiet (fail)
            go_wp2_with fail
            go_quiet (fail)
            go_wp2_with fail
            go_ret
            exact ⟨ret_b (by rw [HE.out]; simp; omega), hb.trans ((below_drewN _ _ _).trans (below_drewN _ _ _))⟩
          · by_cases h2 : x1 = y1
            · subst h2
              have hne : x2 ≠ y2 := fun e => he (by rw [e])
              clear he
              cases x2 <;> cases y2
              · exact absurd rfl hne
              · clear hne
                go_wp2_with fail
                go_quiet (fail)
                go_wp2_with fail
                go_quiet (fail)
                go_wp2_with fail
                go_ret
                exact ⟨ret_b (by rw [HE.out]; simp), hb.trans ((below_drewN _ _ _).trans (below_drewN _ _ _))⟩
              · clear hne
                go_wp2_with fail
                go_quiet (fail)
                go_wp2_with fail
                go_quiet (fail)
                go_wp2_with fail
                go_ret
                exact ⟨ret_b (by rw [HE.out]; simp), hb.trans ((below_drewN _ _ _).trans (below_drewN _ _ _))⟩
              · exact absurd rfl hne
            · have hq : (x1 == y1) = false := by rw [beq_eq_false_iff_ne]; exact h2
              have hd : decide (x1 < y1) = false := by simpa using h1
              have H2 := Lib.hid h2
              clear he h2
              go_wp2_with fail
              go_quiet (fail)
              go_wp2_with fail
              go_quiet (fail)
              go_wp2_with fail
              go_ret
              exact ⟨ret_b (by rw [HE.out]; have := H2.out; simp [this]; omega), hb.trans ((below_drewN _ _ _).trans (below_drewN _ _ _))⟩
      · have hlt2 : ¬ ((j : Int) < q.length) := by omega
        have HE := Lib.hid (HP.out.trans (lessP_end p q j (by omega) hj hj'))
        go_wp2_with fail
        go_ret
        exact ⟨ret_b HE.out.symm, hb⟩
    · have HE := Lib.hid (HP.out.trans (lessP_end p q j (by omega) hj hj'))
      go_wp2_with fail
      go_ret
      exact ⟨ret_b HE.out.symm, hb⟩
set_option maxHeartbeats 1600000 in
theorem impl_LessPath (p q : List St) (a a' : Option Addr) (cap cap' B : Nat) (w : World) (hr : Rd EStep 2 w B a cap p) (hr' : Rd EStep 2 w B a' cap' q) (hB : B ≤ w.heap.size) :
    Calls Tryz.prog 133 #[.slice a p.length cap, .slice a' q.length cap'] w fun e w' => e = .returned (.bool (lessP p q)) ∧ Below w.heap.size w w' := by
  obtain ⟨hl1, hl2⟩ := hr.len
  obtain ⟨hm1, hm2⟩ := hr'.len
  by_cases hpq : p.length ≤ q.length
  all_goals
    go_enter Tryz.func133, Tryz.ntmps133
    go_wp2_with fail
    go_loopw [11, 5] (fun i _ wr => ∃ (j : Nat), j ≤ p.length ∧ j ≤ q.length ∧ i = .int .i64 j ∧ Hid (lessP p q = lessP (p.drop j) (q.drop j)) ∧ Below w.heap.size w wr) (fun i _ _ => p.length - (intOf i).toNat)
    case atStart => exact ⟨0, Nat.zero_le _, Nat.zero_le _, rfl, rfl, Below.refl _ _⟩
    case round =>
      obtain ⟨j, hj, hj', rfl, HP, hb⟩ := hrel
      by_cases hlt : j < p.length
      · by_cases hlt' : j < q.length
        · obtain ⟨b, o, rfl, hbl, d0, d1, hi⟩ := (hr.below EStep.loc hb hB).step j hlt
          obtain ⟨b', o', rfl, hbl', d0', d1', hi'⟩ := (hr'.below EStep.loc hb hB).step j hlt'
          by_cases he : p[j] = q[j]
          · have HE := Lib.hid (HP.out.trans (lessP_drop p q j hlt hlt' he))
            go_wp2_with fail
            go_quiet (fail)
            go_wp2_with fail
            go_roundw
            case rel => exact ⟨j + 1, by omega, by omega, by go_num, HE.out, hb.trans (below_drewN _ _ _)⟩
            case measure => simp [intOf]; omega
          · have HE := Lib.hid (HP.out.trans (lessP_hit p q j hlt hlt' he))
            generalize p[j] = x at *
            generalize q[j] = y at *
            obtain ⟨x1, x2⟩ := x
            obtain ⟨y1, y2⟩ := y
            simp only at d0 d1 d0' d1'
            by_cases h1 : x1 < y1
            · have hq : (x1 == y1) = false := by rw [beq_eq_false_iff_ne]; omega
              clear he
              go_wp2_with fail
              go_quiet (fail)
              go_wp2_with fail
              go_quiet (fail)
              go_wp2_with fail
              go_ret
              exact ⟨ret_b (by rw [HE.out]; simp; omega), hb.trans ((below_drewN _ _ _).trans (below_drewN _ _ _))⟩
            · by_cases h2 : x1 = y1
              · subst h2
                have hne : x2 ≠ y2 := fun e => he (by rw [e])
                clear he
                cases x2 <;> cases y2
                · exact absurd rfl hne
                · clear hne
                  go_wp2_with fail
                  go_quiet (fail)
                  go_wp2_with fail
                  go_quiet (fail)
                  go_wp2_with fail
                  go_ret
                  exact ⟨ret_b (by rw [HE.out]; simp), hb.trans ((below_drewN _ _ _).trans (below_drewN _ _ _))⟩
                · clear hne
                  go_wp2_with fail
                  go_quiet (fail)
                  go_wp2_with fail
                  go_quiet (fail)
                  go_wp2_with fail
                  go_ret
                  exact ⟨ret_b (by rw [HE.out]; simp), hb.trans ((below_drewN _ _ _).trans (below_drewN _ _ _))⟩
                · exact absurd rfl hne
              · have hq : (x1 == y1) = false := by rw [beq_eq_false_iff_ne]; exact h2
                have hd : decide (x1 < y1) = false := by simpa using h1
                have H2 := Lib.hid h2
                clear he h2
                go_wp2_with fail
                go_quiet (fail)
                go_wp2_with fail
                go_quiet (fail)
                go_wp2_with fail
                go_ret
                exact ⟨ret_b (by rw [HE.out]; have := H2.out; simp [this]; omega), hb.trans ((below_drewN _ _ _).trans (below_drewN _ _ _))⟩
        · first
          | (exfalso; omega)
          | (have hlt2 : ¬ ((j : Int) < q.length) := by omega
             have HE := Lib.hid (HP.out.trans (lessP_end p q j (by omega) hj hj'))
             go_wp2_with fail
             go_ret
             exact ⟨ret_b HE.out.symm, hb⟩)
      · first
        | (exfalso; omega)
        | (have HE := Lib.hid (HP.out.trans (lessP_end p q j (by omega) hj hj'))
           go_wp2_with fail
           go_ret
           exact ⟨ret_b HE.out.symm, hb⟩)
end Go.Proofs.YtfbodhfdomdkpaaGreatDoor
namespace Go.Proofs.YtfbodhfdomdkpaaGreatDoor
open Go.ChangeShapes Go.WideShapes Go.ChangeAt Go.RowKit Go.Joins
set_option linter.unusedVariables false
set_option maxRecDepth 100000
theorem lessP_self : ∀ p : List St, lessP p p = false := by
  intro p
  induction p with
  | nil => rfl
  | cons x r ih => rw [lessP, if_pos rfl]; exact ih
theorem lessP_asymm : ∀ p q : List St, lessP p q = true → lessP q p = false := by
  intro p
  induction p with
  | nil => intro q h; cases q with
    | nil => rfl
    | cons y b => rfl
  | cons x a ih =>
    intro q h
    cases q with
    | nil => simp [lessP] at h
    | cons y b =>
      rw [lessP] at h ⊢
      by_cases e : x = y
      · rw [if_pos e] at h; rw [if_pos e.symm]; exact ih b h
      · rw [if_neg e] at h; rw [if_neg (fun e' => e e'.symm)]
        obtain ⟨x1, x2⟩ := x; obtain ⟨y1, y2⟩ := y
        simp only [Prod.mk.injEq] at e h ⊢
        by_cases e1 : x1 = y1
        · subst e1; cases x2 <;> cases y2 <;> simp_all
        · simp only [e1, decide_false, Bool.false_and, Bool.or_false, decide_eq_true_eq] at h ⊢
          have e2 : ¬ y1 = x1 := fun e' => e1 e'.symm
          simp [e2]; omega
theorem lessP_total : ∀ p q : List St, lessP p q = false → lessP q p = false → p = q := by
  intro p
  induction p with
  | nil => intro q h _; cases q with
    | nil => rfl
    | cons y b => simp [lessP] at h
  | cons x a ih =>
    intro q h h'
    cases q with
    | nil => simp [lessP] at h'
    | cons y b =>
      rw [lessP] at h h'
      by_cases e : x = y
      · rw [if_pos e] at h; rw [if_pos e.symm] at h'; rw [e, ih b h h']
      · exfalso
        rw [if_neg e] at h; rw [if_neg (fun e' => e e'.symm)] at h'
        obtain ⟨x1, x2⟩ := x; obtain ⟨y1, y2⟩ := y
        simp only [Prod.mk.injEq] at e h h'
        by_cases e1 : x1 = y1
        · subst e1; cases x2 <;> cases y2 <;> simp_all
        · have e2 : ¬ y1 = x1 := fun e' => e1 e'.symm
          simp [e1, e2] at h h'; omega
/-- The order of losses, as a number. -/
def cmpI (a b : Int) : Int := if a < b then -1 else if b < a then 1 else 0
def sideI (x y : Bool) : Int := if x then -1 else if y then 1 else 0
def orI (x y : Int) : Int := if x = 0 then y else x
def cmpL (x y : Lo) : Int := orI (sideI (lessP x.2 y.2) (lessP y.2 x.2)) (cmpI x.1 y.1)
def lessL (x y : Lo) : Bool := if x.2 = y.2 then decide (x.1 < y.1) else lessP x.2 y.2
theorem cmpL_less (x y : Lo) : decide (cmpL x y < 0) = lessL x y := by
  unfold cmpL lessL cmpI orI sideI
  by_cases e : x.2 = y.2
  · simp only [e, lessP_self]; by_cases h1 : x.1 < y.1 <;> by_cases h2 : y.1 < x.1 <;> simp [h1, h2]
  · simp only [e, if_false]
    by_cases h : lessP x.2 y.2 = true
    · simp [h]
    · rw [Bool.not_eq_true] at h
      by_cases h' : lessP y.2 x.2 = true
      · simp [h, h']
      · rw [Bool.not_eq_true] at h'
        exact absurd (lessP_total _ _ h h') e
theorem spec_samePath (p q : List St) (a a' : Option Addr) (cap cap' B : Nat) (w : World) (hr : Rd EStep 2 w B a cap p) (hr' : Rd EStep 2 w B a' cap' q) (hB : B ≤ w.heap.size) :
    Calls Tryz.prog 80 #[.slice a p.length cap, .slice a' q.length cap'] w fun e w' => e = .returned (.bool (decide (p = q))) ∧ Below w.heap.size w w' := by
  obtain ⟨hl1, hl2⟩ := hr.len
  obtain ⟨hm1, hm2⟩ := hr'.len
  by_cases hpq : p.length = q.length
  · have hn : ((p.length : Int) == q.length) = true := by simp [hpq]
    have HL := Lib.hid hpq; clear hpq
    go_enter Tryz.func80, Tryz.ntmps80
    go_wp2_with fail
    go_loopw [5] (fun i wr => ∃ (j : Nat), j ≤ p.length ∧ i = .int .i64 j ∧ Hid (p.take j = q.take j) ∧ Below w.heap.size w wr) (fun i _ => p.length - (intOf i).toNat)
    case atStart => exact ⟨0, Nat.zero_le _, rfl, rfl, Below.refl _ _⟩
    case round =>
      obtain ⟨j, hj, rfl, HP, hb⟩ := hrel
      by_cases hlt : j < p.length
      · have hlt' : j < q.length := by have := HL.out; omega
        obtain ⟨b, o, rfl, hbl, d0, d1, hi⟩ := (hr.below EStep.loc hb hB).step j hlt
        obtain ⟨b', o', rfl, hbl', d0', d1', hi'⟩ := (hr'.below EStep.loc hb hB).step j hlt'
        by_cases he : p[j] = q[j]
        · have HE := Lib.hid (show p.take (j + 1) = q.take (j + 1) from by rw [take_snoc p j hlt, take_snoc q j hlt', HP.out, he])
          go_wp2_with fail
          go_quiet (fail)
          go_wp2_with fail
          go_roundw
          case rel => exact ⟨j + 1, by omega, by go_num, HE.out, hb.trans (below_drewN _ _ _)⟩
          case measure => simp [intOf]; omega
        · have HE := Lib.hid (show ¬ p = q from fun e => he (by subst e; rfl))
          generalize p[j] = x at *
          generalize q[j] = y at *
          obtain ⟨x1, x2⟩ := x
          obtain ⟨y1, y2⟩ := y
          simp only at d0 d1 d0' d1'
          by_cases h2 : x1 = y1
          · subst h2
            have hne : x2 ≠ y2 := fun e => he (by rw [e])
            clear he
            cases x2 <;> cases y2
            · exact absurd rfl hne
            · clear hne
              go_wp2_with fail
              go_quiet (fail)
              go_wp2_with fail
              go_ret
              exact ⟨ret_b (by have := HE.out; simp [this]), hb.trans (below_drewN _ _ _)⟩
            · clear hne
              go_wp2_with fail
              go_quiet (fail)
              go_wp2_with fail
              go_ret
              exact ⟨ret_b (by have := HE.out; simp [this]), hb.trans (below_drewN _ _ _)⟩
            · exact absurd rfl hne
          · have hq : (x1 == y1) = false := by rw [beq_eq_false_iff_ne]; exact h2
            clear he h2
            go_wp2_with fail
            go_quiet (fail)
            go_wp2_with fail
            go_ret
            exact ⟨ret_b (by have := HE.out; simp [this]), hb.trans (below_drewN _ _ _)⟩
      · have HJ := Lib.hid (show p = q from by have := HP.out; have h2 := HL.out; rwa [List.take_of_length_le (by omega), List.take_of_length_le (by omega)] at this)
        go_wp2_with fail
        go_ret
        exact ⟨ret_b (by simp [HJ.out]), hb⟩
  · have hn : ((p.length : Int) == q.length) = false := by rw [beq_eq_false_iff_ne]; omega
    have HL := Lib.hid (show ¬ p = q from fun e => hpq (by rw [e])); clear hpq
    go_enter Tryz.func80, Tryz.ntmps80
    go_wp2_with fail
    go_ret
    exact ⟨ret_b (by have := HL.out; simp [this]), Below.refl _ _⟩
theorem cmpOr2 (x y : Int) (w : World) (g : Nat) (e : TypeId) (hg : Is w g e #[.int .i64 x, .int .i64 y]) :
    Calls Tryz.prog 131 #[.slice (some ⟨g, 0, none⟩) 2 2] w fun e w' => e = .returned (.int .i64 (orI x y)) ∧ Below w.heap.size w w' := by
  have hlt := hg.lt
  go_enter Tryz.func131, Tryz.ntmps131
  go_wp2_with fail
  go_loopw [8, 5] (fun i _ wr => (i = .int .i64 0 ∨ i = .int .i64 1 ∧ x = 0 ∨ i = .int .i64 2 ∧ x = 0 ∧ y = 0) ∧ Below w.heap.size w wr) (fun i _ _ => 2 - (intOf i).toNat)
  case atStart => exact ⟨Or.inl rfl, Below.refl _ _⟩
  case round =>
    obtain ⟨hc, hb⟩ := hrel
    obtain ⟨c0, c1⟩ := (hg.below hb hlt).cells2
    rcases hc with rfl | ⟨rfl, rfl⟩ | ⟨rfl, rfl, rfl⟩
    · by_cases h0 : x = 0
      · subst h0
        go_wp2_with fail
        go_roundw
        case rel => exact ⟨Or.inr (Or.inl ⟨by go_num, trivial⟩), hb⟩
        case measure => simp [intOf]
      · have hq : (x == 0) = false := by rw [beq_eq_false_iff_ne]; exact h0
        have H0 := Lib.hid h0; clear h0
        go_wp2_with fail
        go_ret
        exact ⟨ret_i (by have := H0.out; simp [orI, this]), hb⟩
    · by_cases h0 : y = 0
      · subst h0
        go_wp2_with fail
        go_roundw
        case rel => exact ⟨Or.inr (Or.inr ⟨by go_num, trivial, trivial⟩), hb⟩
        case measure => simp [intOf]
      · have hq : (y == 0) = false := by rw [beq_eq_false_iff_ne]; exact h0
        have H0 := Lib.hid h0; clear h0
        go_wp2_with fail
        go_ret
        exact ⟨rfl, hb⟩
    · go_wp2_with fail
      go_ret
      exact ⟨rfl, hb⟩
theorem cmpCompare (x y : Int) (w : World) :
    Calls Tryz.prog 134 #[.int .i64 x, .int .i64 y] w fun e w' => e = .returned (.int .i64 (cmpI x y)) ∧ Below w.heap.size w w' := by
  by_cases h1 : x < y
  · go_enter Tryz.func134, Tryz.ntmps134
    go_wp2
    go_ret
    exact ⟨ret_i (by unfold cmpI; rw [if_pos (by omega)]), by go_grown⟩
  · by_cases h2 : y < x
    · go_enter Tryz.func134, Tryz.ntmps134
      go_wp2
      go_ret
      exact ⟨ret_i (by unfold cmpI; rw [if_neg (by omega), if_pos (by omega)]), by go_grown⟩
    · go_enter Tryz.func134, Tryz.ntmps134
      go_wp2
      go_ret
      exact ⟨ret_i (by unfold cmpI; rw [if_neg (by omega), if_neg (by omega)]), by go_grown⟩
theorem impl_bySide (x y : Bool) (w : World) :
    Calls Tryz.prog 132 #[.bool x, .bool y] w fun e w' => e = .returned (.int .i64 (sideI x y)) ∧ Below w.heap.size w w' := by
  cases x <;> cases y
  all_goals
    go_enter Tryz.func132, Tryz.ntmps132
    go_wp2
    go_ret
    exact ⟨rfl, by go_grown⟩
theorem spec_LessLoss (x y : Lo) (a a' : Option Addr) (cap cap' B : Nat) (w : World) (hr : Rd EStep 2 w B a cap x.2) (hr' : Rd EStep 2 w B a' cap' y.2) (hB : B ≤ w.heap.size) :
    Calls Tryz.prog 21 #[.agg #[.int .i64 x.1, .slice a x.2.length cap], .agg #[.int .i64 y.1, .slice a' y.2.length cap']] w fun e w' => e = .returned (.bool (lessL x y)) ∧ Below w.heap.size w w' := by
  have H3 := Lib.hid (below2 w (.cells #[.int .i64 x.1, .slice a x.2.length cap] 29) (.cells #[.int .i64 y.1, .slice a' y.2.length cap'] 29))
  have q1 : Is ((w.alloc (.cells #[.int .i64 x.1, .slice a x.2.length cap] 29)).alloc (.cells #[.int .i64 y.1, .slice a' y.2.length cap'] 29)) w.heap.size 29 _ := (Is.new _ _ _).alloc _
  have q2 := Is.new2 w (.cells #[.int .i64 x.1, .slice a x.2.length cap] 29) #[.int .i64 y.1, .slice a' y.2.length cap'] 29
  have hs : w.heap.size + 2 ≤ ((w.alloc (.cells #[.int .i64 x.1, .slice a x.2.length cap] 29)).alloc (.cells #[.int .i64 y.1, .slice a' y.2.length cap'] 29)).heap.size := by simp
  go_enter Tryz.func21, Tryz.ntmps21
  go_wp2_with fail
  generalize hW : (w.alloc (.cells #[.int .i64 x.1, .slice a x.2.length cap] 29)).alloc (.cells #[.int .i64 y.1, .slice a' y.2.length cap'] 29) = W0 at q1 q2 H3 hs ⊢
  clear hW
  obtain ⟨c0, c1⟩ := q1.cells2
  obtain ⟨d0, d1⟩ := q2.cells2
  refine (spec_samePath x.2 y.2 a a' cap cap' B W0 (hr.below EStep.loc H3.out hB) (hr'.below EStep.loc H3.out hB) (by omega)).mono ?_
  rintro e w2 ⟨rfl, hb2⟩
  have k2 := Lib.hid (below_step H3.out hb2 (by omega))
  obtain ⟨c0, c1⟩ := (q1.below hb2 (by omega)).cells2
  obtain ⟨d0, d1⟩ := (q2.below hb2 (by omega)).cells2
  have hs2 := hb2.size
  by_cases he : x.2 = y.2
  · have hd : decide (x.2 = y.2) = true := by simp [he]
    have HE := Lib.hid he; clear he hb2
    rw [hd]
    go_wp2_with fail
    go_ret
    exact ⟨ret_b (by unfold lessL; rw [if_pos HE.out]), k2.out⟩
  · have hd : decide (x.2 = y.2) = false := by simp [he]
    have HE := Lib.hid he; clear he hb2
    rw [hd]
    go_wp2_with fail
    refine (spec_LessPath x.2 y.2 a a' cap cap' B w2 (hr.below EStep.loc k2.out hB) (hr'.below EStep.loc k2.out hB) (by omega)).mono ?_
    rintro e w3 ⟨rfl, hb3⟩
    go_wp2_with fail
    go_ret
    exact ⟨ret_b (by unfold lessL; rw [if_neg HE.out]), below_step k2.out hb3 (by omega)⟩
set_option maxHeartbeats 8000000 in
theorem impl_compareLosses (x y : Lo) (a a' : Option Addr) (cap cap' B : Nat) (w : World) (hr : Rd EStep 2 w B a cap x.2) (hr' : Rd EStep 2 w B a' cap' y.2) (hB : B ≤ w.heap.size) :
    Calls Tryz.prog 74 #[.agg #[.int .i64 x.1, .slice a x.2.length cap], .agg #[.int .i64 y.1, .slice a' y.2.length cap']] w fun e w' => e = .returned (.int .i64 (cmpL x y)) ∧ Below w.heap.size w w' := by
  have H3 := Lib.hid (below2 w (.cells #[.int .i64 x.1, .slice a x.2.length cap] 29) (.cells #[.int .i64 y.1, .slice a' y.2.length cap'] 29))
  have q1 : Is ((w.alloc (.cells #[.int .i64 x.1, .slice a x.2.length cap] 29)).alloc (.cells #[.int .i64 y.1, .slice a' y.2.length cap'] 29)) w.heap.size 29 _ := (Is.new _ _ _).alloc _
  have q2 := Is.new2 w (.cells #[.int .i64 x.1, .slice a x.2.length cap] 29) #[.int .i64 y.1, .slice a' y.2.length cap'] 29
  have hs : w.heap.size + 2 ≤ ((w.alloc (.cells #[.int .i64 x.1, .slice a x.2.length cap] 29)).alloc (.cells #[.int .i64 y.1, .slice a' y.2.length cap'] 29)).heap.size := by simp
  go_enter Tryz.func74, Tryz.ntmps74
  go_wp2_with fail
  generalize hW : (w.alloc (.cells #[.int .i64 x.1, .slice a x.2.length cap] 29)).alloc (.cells #[.int .i64 y.1, .slice a' y.2.length cap'] 29) = W0 at q1 q2 H3 hs ⊢
  clear hW
  obtain ⟨c0, c1⟩ := q1.cells2
  obtain ⟨d0, d1⟩ := q2.cells2
  go_region_held3 (fun w' => (∀ b o, b < w.heap.size + 2 → w'.cell? ⟨b, o, none⟩ = W0.cell? ⟨b, o, none⟩) ∧ Below (w.heap.size + 2) W0 w') (first | exact ⟨fun _ _ _ => rfl, (Below.refl _ _).drew⟩ | exact keep_step (by assumption) (Below.drew (Below.refl _ _)) (Nat.le_refl _) | exact keep_step (by assumption) (by assumption) (by first | omega | (simp only [World.size_drew]; omega) | (simp only [size_alloc]; omega) | (simp only [World.size_drew, size_alloc]; omega) | (have := (‹(_ ∧ Below (w.heap.size + 2) W0 _)›).2.size; first | omega | (simp only [World.size_drew]; omega) | (simp only [size_alloc]; omega) | (simp only [World.size_drew, size_alloc]; omega) | (simp only [World.size_drew] at this; omega) | (simp only [size_alloc] at this; omega) | (simp only [World.size_drew, size_alloc] at this; omega))) | exact keep_step (by assumption) (below1 _ _) (by first | omega | (simp only [World.size_drew]; omega) | (simp only [size_alloc]; omega) | (simp only [World.size_drew, size_alloc]; omega) | (have := (‹(_ ∧ Below (w.heap.size + 2) W0 _)›).2.size; first | omega | (simp only [World.size_drew]; omega) | (simp only [size_alloc]; omega) | (simp only [World.size_drew, size_alloc]; omega) | (simp only [World.size_drew] at this; omega) | (simp only [size_alloc] at this; omega) | (simp only [World.size_drew, size_alloc] at this; omega)))) (first
    | (go_at_call 133; refine (impl_LessPath _ _ _ _ _ _ B _ ?_ ?_ (by have := (‹_ ∧ Below (w.heap.size + 2) W0 _›).2.size; omega)).mono ?_; (first | exact hr.below EStep.loc (H3.out.trans ((‹_ ∧ Below (w.heap.size + 2) W0 _›).2.mono (by omega))) hB | exact hr'.below EStep.loc (H3.out.trans ((‹_ ∧ Below (w.heap.size + 2) W0 _›).2.mono (by omega))) hB); (first | exact hr.below EStep.loc (H3.out.trans ((‹_ ∧ Below (w.heap.size + 2) W0 _›).2.mono (by omega))) hB | exact hr'.below EStep.loc (H3.out.trans ((‹_ ∧ Below (w.heap.size + 2) W0 _›).2.mono (by omega))) hB); rintro e v2 ⟨rfl, hb2⟩)
    | (go_at_call 132; refine (impl_bySide _ _ _).mono ?_; rintro e v3 ⟨rfl, hb3⟩)
    | (go_at_call 134; refine (cmpCompare _ _ _).mono ?_; rintro e v3 ⟨rfl, hb3⟩)
    | (go_at_call 131; refine (cmpOr2 _ _ _ _ _ (Is.new _ _ _)).mono ?_; rintro e v4 ⟨rfl, hb4⟩))
  go_wp2_with fail
  go_ret
  exact ⟨rfl, H3.out.trans ((‹_ ∧ Below (w.heap.size + 2) W0 _›).2.mono (by omega))⟩
theorem impl_LessLoss (x y : Lo) (a a' : Option Addr) (cap cap' B : Nat) (w : World) (hr : Rd EStep 2 w B a cap x.2) (hr' : Rd EStep 2 w B a' cap' y.2) (hB : B ≤ w.heap.size) :
    Calls Tryz.prog 20 #[.agg #[.int .i64 x.1, .slice a x.2.length cap], .agg #[.int .i64 y.1, .slice a' y.2.length cap']] w fun e w' => e = .returned (.bool (lessL x y)) ∧ Below w.heap.size w w' := by
  have H3 := Lib.hid (below2 w (.cells #[.int .i64 x.1, .slice a x.2.length cap] 29) (.cells #[.int .i64 y.1, .slice a' y.2.length cap'] 29))
  have q1 : Is ((w.alloc (.cells #[.int .i64 x.1, .slice a x.2.length cap] 29)).alloc (.cells #[.int .i64 y.1, .slice a' y.2.length cap'] 29)) w.heap.size 29 _ := (Is.new _ _ _).alloc _
  have q2 := Is.new2 w (.cells #[.int .i64 x.1, .slice a x.2.length cap] 29) #[.int .i64 y.1, .slice a' y.2.length cap'] 29
  have hs : w.heap.size + 2 ≤ ((w.alloc (.cells #[.int .i64 x.1, .slice a x.2.length cap] 29)).alloc (.cells #[.int .i64 y.1, .slice a' y.2.length cap'] 29)).heap.size := by simp
  go_enter Tryz.func20, Tryz.ntmps20
  go_wp2_with fail
  generalize hW : (w.alloc (.cells #[.int .i64 x.1, .slice a x.2.length cap] 29)).alloc (.cells #[.int .i64 y.1, .slice a' y.2.length cap'] 29) = W0 at q1 q2 H3 hs ⊢
  clear hW
  refine (impl_compareLosses x y a a' cap cap' B W0 (hr.below EStep.loc H3.out hB) (hr'.below EStep.loc H3.out hB) (by omega)).mono ?_
  rintro e w2 ⟨rfl, hb2⟩
  have HC := Lib.hid (cmpL_less x y)
  go_wp2_with fail
  go_ret
  exact ⟨ret_b HC.out, below_step H3.out hb2 (by omega)⟩
end Go.Proofs.YtfbodhfdomdkpaaGreatDoor
namespace Go.Proofs.YtfbodhfdomdkpaaGreatDoor
open Go.ChangeShapes Go.WideShapes Go.ChangeAt Go.RowKit Go.Joins
set_option linter.unusedVariables false
set_option maxRecDepth 100000
theorem slicesEqualStep (p q : List St) (a a' : Option Addr) (cap cap' B : Nat) (w : World) (hr : Rd EStep 2 w B a cap p) (hr' : Rd EStep 2 w B a' cap' q) (hB : B ≤ w.heap.size) :
    Calls Tryz.prog 84 #[.slice a p.length cap, .slice a' q.length cap'] w fun e w' => e = .returned (.bool (decide (p = q))) ∧ Below w.heap.size w w' := by
  obtain ⟨hl1, hl2⟩ := hr.len
  obtain ⟨hm1, hm2⟩ := hr'.len
  by_cases hpq : p.length = q.length
  · have hn : ((p.length : Int) == q.length) = true := by simp [hpq]
    have hn2 : ((p.length : Int) != q.length) = false := by simp [hpq]
    have HL := Lib.hid hpq; clear hpq
    go_enter Tryz.func84, Tryz.ntmps84
    go_wp2_with fail
    go_loopw [13, 5] (fun i _ wr => ∃ (j : Nat), j ≤ p.length ∧ i = .int .i64 j ∧ Hid (p.take j = q.take j) ∧ Below w.heap.size w wr) (fun i _ _ => p.length - (intOf i).toNat)
    case atStart => exact ⟨0, Nat.zero_le _, rfl, rfl, Below.refl _ _⟩
    case round =>
      obtain ⟨j, hj, rfl, HP, hb⟩ := hrel
      by_cases hlt : j < p.length
      · have hlt' : j < q.length := by have := HL.out; omega
        obtain ⟨b, o, rfl, hbl, d0, d1, hi⟩ := (hr.below EStep.loc hb hB).step j hlt
        obtain ⟨b', o', rfl, hbl', d0', d1', hi'⟩ := (hr'.below EStep.loc hb hB).step j hlt'
        by_cases he : p[j] = q[j]
        · have HE := Lib.hid (show p.take (j + 1) = q.take (j + 1) from by rw [take_snoc p j hlt, take_snoc q j hlt', HP.out, he])
          go_wp2_with fail
          go_quiet (fail)
          go_wp2_with fail
          go_roundw
          case rel => exact ⟨j + 1, by omega, by go_num, HE.out, hb.trans (below_drewN _ _ _)⟩
          case measure => simp [intOf]; omega
        · have HE := Lib.hid (show ¬ p = q from fun e => he (by subst e; rfl))
          generalize p[j] = x at *
          generalize q[j] = y at *
          obtain ⟨x1, x2⟩ := x
          obtain ⟨y1, y2⟩ := y
          simp only at d0 d1 d0' d1'
          by_cases h2 : x1 = y1
          · subst h2
            have hne : x2 ≠ y2 := fun e => he (by rw [e])
            clear he
            cases x2 <;> cases y2
            · exact absurd rfl hne
            · clear hne
              go_wp2_with fail
              go_quiet (fail)
              go_wp2_with fail
              go_ret
              exact ⟨ret_b (by have := HE.out; simp [this]), hb.trans (below_drewN _ _ _)⟩
            · clear hne
              go_wp2_with fail
              go_quiet (fail)
              go_wp2_with fail
              go_ret
              exact ⟨ret_b (by have := HE.out; simp [this]), hb.trans (below_drewN _ _ _)⟩
            · exact absurd rfl hne
          · have hq : (x1 == y1) = false := by rw [beq_eq_false_iff_ne]; exact h2
            clear he h2
            go_wp2_with fail
            go_quiet (fail)
            go_wp2_with fail
            go_ret
            exact ⟨ret_b (by have := HE.out; simp [this]), hb.trans (below_drewN _ _ _)⟩
      · have HJ := Lib.hid (show p = q from by have := HP.out; have h2 := HL.out; rwa [List.take_of_length_le (by omega), List.take_of_length_le (by omega)] at this)
        go_wp2_with fail
        go_ret
        exact ⟨ret_b (by simp [HJ.out]), hb⟩
  · have hn : ((p.length : Int) == q.length) = false := by rw [beq_eq_false_iff_ne]; omega
    have HL := Lib.hid (show ¬ p = q from fun e => hpq (by rw [e])); clear hpq
    go_enter Tryz.func84, Tryz.ntmps84
    go_wp2_with fail
    go_ret
    exact ⟨ret_b (by have := HL.out; simp [this]), Below.refl _ _⟩
theorem sameLosses1 (x y : Lo) (a a' : Option Addr) (cap cap' B : Nat) (w : World) (hr : Rd EStep 2 w B a cap x.2) (hr' : Rd EStep 2 w B a' cap' y.2) (hB : B ≤ w.heap.size) :
    Calls Tryz.prog 83 #[.agg #[.int .i64 x.1, .slice a x.2.length cap], .agg #[.int .i64 y.1, .slice a' y.2.length cap']] w fun e w' => e = .returned (.bool (decide (x = y))) ∧ Below w.heap.size w w' := by
  have H3 := Lib.hid (below2 w (.cells (cL x a cap) 29) (.cells (cL y a' cap') 29))
  by_cases he : x.1 = y.1
  · have hq : (x.1 == y.1) = true := by simp [he]
    have HE := Lib.hid he; clear he
    go_enter Tryz.func83, Tryz.ntmps83
    go_wp2_with fail
    refine (slicesEqualStep x.2 y.2 a a' cap cap' B _ (hr.below EStep.loc H3.out hB) (hr'.below EStep.loc H3.out hB) (by simp; omega)).mono ?_
    rintro e w2 ⟨rfl, hb2⟩
    go_wp2_with fail
    go_ret
    exact ⟨ret_b (by rw [decide_eq_decide]; exact ⟨fun h => Prod.ext HE.out h, fun h => by rw [h]⟩), below_step H3.out hb2 (by simp; omega)⟩
  · have hq : (x.1 == y.1) = false := by simp [he]
    have HE := Lib.hid (show ¬ x = y from fun e => he (by rw [e])); clear he
    go_enter Tryz.func83, Tryz.ntmps83
    go_wp2_with fail
    go_ret
    exact ⟨ret_b (by have := HE.out; simp [this]), H3.out⟩
theorem equalFuncLoss (p q : List Lo) (a a' : Option Addr) (cap cap' B : Nat) (w : World) (hr : Rd ELoss 2 w B a cap p) (hr' : Rd ELoss 2 w B a' cap' q) (hB : B ≤ w.heap.size) :
    Calls Tryz.prog 82 #[.slice a p.length cap, .slice a' q.length cap', .func (.func 83) #[] #[]] w fun e w' => e = .returned (.bool (decide (p = q))) ∧ Below w.heap.size w w' := by
  obtain ⟨hl1, hl2⟩ := hr.len
  obtain ⟨hm1, hm2⟩ := hr'.len
  by_cases hpq : p.length = q.length
  · have hn : ((p.length : Int) == q.length) = true := by simp [hpq]
    have hn2 : ((p.length : Int) != q.length) = false := by simp [hpq]
    have HL := Lib.hid hpq; clear hpq
    go_enter Tryz.func82, Tryz.ntmps82
    go_wp2_with fail
    go_loopw [17, 7, 8, 9] (fun i _ _ _ wr => ∃ (j : Nat), j ≤ p.length ∧ i = .int .i64 j ∧ Hid (p.take j = q.take j) ∧ Below w.heap.size w wr) (fun i _ _ _ _ => p.length - (intOf i).toNat)
    case atStart => exact ⟨0, Nat.zero_le _, rfl, rfl, Below.refl _ _⟩
    case round =>
      obtain ⟨j, hj, rfl, HP, hb⟩ := hrel
      by_cases hlt : j < p.length
      · have hlt' : j < q.length := by have := HL.out; omega
        obtain ⟨b, o, a2, cap2, rfl, hbl, d0, d1, hi, hq⟩ := (hr.below ELoss.loc hb hB).loss j hlt
        obtain ⟨b', o', a3, cap3, rfl, hbl', d0', d1', hi', hq'⟩ := (hr'.below ELoss.loc hb hB).loss j hlt'
        have hbs := hb.size
        have l1 : b < wr.heap.size := by omega
        have l2 : b' < wr.heap.size := by omega
        have H3 := Lib.hid (below2 wr (.cells (cL p[j] a2 cap2) 29) (.cells (cL q[j] a3 cap3) 29))
        go_wp2_with fail
        refine (sameLosses1 p[j] q[j] a2 a3 cap2 cap3 B _ (hq.below EStep.loc H3.out (by omega)) (hq'.below EStep.loc H3.out (by omega)) (by simp; omega)).mono ?_
        rintro e w2 ⟨rfl, hb2⟩
        have K := Lib.hid (hb.trans ((below_step H3.out hb2 (by simp; omega)).mono hbs))
        clear hb2
        by_cases he : p[j] = q[j]
        · have HE := Lib.hid (show p.take (j + 1) = q.take (j + 1) from by rw [take_snoc p j hlt, take_snoc q j hlt', HP.out, he])
          have hd : decide (p[j] = q[j]) = true := by simp [he]
          clear he
          rw [hd]
          go_wp2_with fail
          go_roundw
          case rel =>
            exact ⟨j + 1, by omega, by go_num, HE.out, K.out⟩
          case measure => simp [intOf]; omega
        · have HE := Lib.hid (show ¬ p = q from fun e => he (by subst e; rfl))
          have hd : decide (p[j] = q[j]) = false := by simp [he]
          clear he
          rw [hd]
          go_wp2_with fail
          go_ret
          exact ⟨ret_b (by have := HE.out; simp [this]), K.out⟩
      · have HJ := Lib.hid (show p = q from by have := HP.out; have h2 := HL.out; rwa [List.take_of_length_le (by omega), List.take_of_length_le (by omega)] at this)
        go_wp2_with fail
        go_ret
        exact ⟨ret_b (by simp [HJ.out]), hb⟩
  · have hn : ((p.length : Int) == q.length) = false := by rw [beq_eq_false_iff_ne]; omega
    have HL := Lib.hid (show ¬ p = q from fun e => hpq (by rw [e])); clear hpq
    go_enter Tryz.func82, Tryz.ntmps82
    go_wp2_with fail
    go_ret
    exact ⟨ret_b (by have := HL.out; simp [this]), Below.refl _ _⟩
theorem impl_SameLosses (p q : List Lo) (a a' : Option Addr) (cap cap' B : Nat) (w : World) (hr : Rd ELoss 2 w B a cap p) (hr' : Rd ELoss 2 w B a' cap' q) (hB : B ≤ w.heap.size) :
    Calls Tryz.prog 22 #[.slice a p.length cap, .slice a' q.length cap'] w fun e w' => e = .returned (.bool (decide (p = q))) ∧ Below w.heap.size w w' := by
  go_enter Tryz.func22, Tryz.ntmps22
  go_wp2_with fail
  refine (equalFuncLoss p q a a' cap cap' B w hr hr' hB).mono ?_
  rintro e w2 ⟨rfl, hb2⟩
  go_wp2_with fail
  go_ret
  exact ⟨rfl, hb2⟩
end Go.Proofs.YtfbodhfdomdkpaaGreatDoor
namespace Go.Proofs.YtfbodhfdomdkpaaGreatDoor
open Go.ChangeShapes Go.WideShapes Go.ChangeAt Go.RowKit Go.Joins
set_option linter.unusedVariables false
set_option maxRecDepth 100000
def atL (l : List Lo) (p : List St) : List Int := (l.filter (fun x => decide (x.2 = p))).map (·.1)
theorem atL_take_succ (l : List Lo) (p : List St) (j : Nat) (h : j < l.length) : atL (l.take (j + 1)) p = atL (l.take j) p ++ (if l[j].2 = p then [l[j].1] else []) := by
  rw [take_snoc l j h]; unfold atL; rw [List.filter_append, List.map_append]; congr 1
  by_cases e : l[j].2 = p <;> simp [e]
theorem atL_len (l : List Lo) (p : List St) : (atL l p).length ≤ l.length := by unfold atL; rw [List.length_map]; exact List.length_filter_le _ _
theorem atL_take_len (l : List Lo) (p : List St) (j : Nat) : (atL (l.take j) p).length ≤ l.length := Nat.le_trans (atL_len _ _) (by rw [List.length_take]; omega)
theorem info_Int : (Tryz.prog.info? 3).map (fun i => (i.zero, i.size, i.bytes)) = some (some (.int .i64 0), 1, 8) := by kernel_rfl
theorem spec_LossesAt (l : List Lo) (p : List St) (a a' : Option Addr) (cap cap' B : Nat) (w : World) (hr : Rd ELoss 2 w B a cap l) (hr' : Rd EStep 2 w B a' cap' p) (hz : l.length ≤ 1048576) (hB : B ≤ w.heap.size) :
    Calls Tryz.prog 31 #[.slice a l.length cap, .slice a' p.length cap'] w fun e w' => ∃ ar cr, e = .returned (.slice ar (atL l p).length cr) ∧ Ow EInt 1 w' w.heap.size w'.heap.size ar cr (atL l p) ∧ Below w.heap.size w w' := by
  obtain ⟨hl1, hl2⟩ := hr.len
  obtain ⟨hm1, hm2⟩ := hr'.len
  have h0 := App.empty (E := EInt) (n := 1) (e := 3) (nd := True) w w.heap.size (w.heap.size + 1) (Nat.le_refl _) (by omega)
  go_enter Tryz.func31, Tryz.ntmps31
  go_wp2_with fail
  go_loopw [5, 6] (fun s i wr => ∃ (j : Nat) (ar : Option Addr) (cr : Nat), j ≤ l.length ∧ i = .int .i64 j ∧ s = .slice ar (atL (l.take j) p).length cr ∧ App EInt 1 3 True wr w.heap.size wr.heap.size ar cr (atL (l.take j) p) ∧ Below w.heap.size w wr) (fun _ i _ => l.length - (intOf i).toNat)
  case atStart => exact ⟨0, _, _, Nat.zero_le _, rfl, rfl, h0.more (Nat.le_refl _) (by simp), below1 _ _⟩
  case round =>
    obtain ⟨j, ar, cr, hj, rfl, rfl, happ, hb⟩ := hrel
    have hbs := hb.size
    by_cases hlt : j < l.length
    · obtain ⟨b, o, a2, cap2, rfl, hbl, d0, d1, hi, hq⟩ := (hr.below ELoss.loc hb hB).loss j hlt
      have HT := Lib.hid (atL_take_succ l p j hlt)
      have hlen := atL_take_len l p j
      go_wp2_with fail
      refine (spec_samePath l[j].2 p a2 a' cap2 cap' B wr hq (hr'.below EStep.loc hb hB) (by omega)).mono ?_
      rintro e w2 ⟨rfl, hb2⟩
      have hs2 := hb2.size
      have d0' : w2.cell? ⟨b, o + j * 2, none⟩ = some (.int .i64 l[j].1) := (World.cell?_of_block (w := wr) (a := ⟨b, o + j * 2, none⟩) (hb2.block b (by omega))).trans d0
      have HA := Lib.hid ((happ.below EInt.elem hb2 (Nat.le_refl _)).more (Nat.le_refl _) hs2); clear happ
      have HB := Lib.hid (hb.trans (hb2.mono hbs)); clear hb2
      by_cases he : l[j].2 = p
      · have hd : decide (l[j].2 = p) = true := by simp [he]
        have HE := Lib.hid he; clear he
        rw [hd]
        have HN := Lib.hid (HA.out.below EInt.elem (below1 w2 (.cells #[.int .i64 l[j].1] 3)) (Nat.le_refl _))
        have hlb : b < w2.heap.size := by omega
        go_wp2_with (at_builtin; refine wpList_app EInt.elem rfl _ _ 52 rfl (.int .i64 0) 8 Tryz.underlying52 info_Int rfl w.heap.size w2.heap.size ar cr (atL (l.take j) p) rfl HN.out (by simp) (by simp; omega) w2.heap.size 0 1 1 [l[j].1] [] rfl rfl ⟨[], [], rfl, ⟨rfl, (Is.new w2 #[.int .i64 l[j].1] 3).cell 0 rfl, hi⟩, rfl⟩ (by simp) (by simp) (by simp) (by omega) (by unfold maxLen; omega) (by omega) ?_; intro ar2 cr2 w3 happ3 hb3 _)
        go_roundw
        case rel => exact ⟨j + 1, ar2, cr2, by omega, by go_num, by rw [HT.out, if_pos HE.out, List.length_append]; rfl, by rw [HT.out, if_pos HE.out]; exact happ3, (HB.out.trans ((below1 w2 _).mono (by omega))).trans hb3⟩
        case measure => simp [intOf]; omega
      · have hd : decide (l[j].2 = p) = false := by simp [he]
        have HE := Lib.hid he; clear he
        rw [hd]
        go_wp2_with fail
        go_roundw
        case rel => exact ⟨j + 1, ar, cr, by omega, by go_num, by rw [HT.out, if_neg HE.out, List.append_nil], by rw [HT.out, if_neg HE.out, List.append_nil]; exact HA.out, HB.out⟩
        case measure => simp [intOf]; omega
    · have hjj : l.length = j := by omega
      have HJ := Lib.hid (show l.take j = l from by rw [← hjj, List.take_length]); clear hjj
      go_wp2_with fail
      go_ret
      have hh := happ.own
      rw [HJ.out] at hh
      exact ⟨ar, cr, by rw [HJ.out]; rfl, hh, hb⟩
theorem impl_LossesAt (l : List Lo) (p : List St) (a a' : Option Addr) (cap cap' B : Nat) (w : World) (hr : Rd ELoss 2 w B a cap l) (hr' : Rd EStep 2 w B a' cap' p) (hz : l.length ≤ 1048576) (hB : B ≤ w.heap.size) :
    Calls Tryz.prog 30 #[.slice a l.length cap, .slice a' p.length cap'] w fun e w' => ∃ ar cr, e = .returned (.slice ar (atL l p).length cr) ∧ Ow EInt 1 w' w.heap.size w'.heap.size ar cr (atL l p) ∧ Below w.heap.size w w' := by
  obtain ⟨hl1, hl2⟩ := hr.len
  obtain ⟨hm1, hm2⟩ := hr'.len
  have h0 := App.empty (E := EInt) (n := 1) (e := 3) (nd := True) w w.heap.size (w.heap.size + 1) (Nat.le_refl _) (by omega)
  go_enter Tryz.func30, Tryz.ntmps30
  go_wp2_with fail
  go_loopw [5, 11, 7] (fun s i _ wr => ∃ (j : Nat) (ar : Option Addr) (cr : Nat), j ≤ l.length ∧ i = .int .i64 j ∧ s = .slice ar (atL (l.take j) p).length cr ∧ App EInt 1 3 True wr w.heap.size wr.heap.size ar cr (atL (l.take j) p) ∧ Below w.heap.size w wr) (fun _ i _ _ => l.length - (intOf i).toNat)
  case atStart => exact ⟨0, _, _, Nat.zero_le _, rfl, rfl, h0.more (Nat.le_refl _) (by simp), below1 _ _⟩
  case round =>
    obtain ⟨j, ar, cr, hj, rfl, rfl, happ, hb⟩ := hrel
    have hbs := hb.size
    by_cases hlt : j < l.length
    · obtain ⟨b, o, a2, cap2, rfl, hbl, d0, d1, hi, hq⟩ := (hr.below ELoss.loc hb hB).loss j hlt
      have HT := Lib.hid (atL_take_succ l p j hlt)
      have hlen := atL_take_len l p j
      have H1 := Lib.hid (below1 wr (.cells (cL l[j] a2 cap2) 29))
      have hI := Is.new wr (cL l[j] a2 cap2) 29
      go_wp2_with fail
      refine (slicesEqualStep l[j].2 p a2 a' cap2 cap' B _ (hq.below EStep.loc H1.out (by omega)) ((hr'.below EStep.loc hb hB).below EStep.loc H1.out (by omega)) (by simp; omega)).mono ?_
      rintro e w2 ⟨rfl, hb2⟩
      have hs2 := hb2.size
      have hs1 : wr.heap.size < w2.heap.size := by simp at hs2; omega
      obtain ⟨c0, c1⟩ := (hI.below hb2 (by simp)).cells2
      have H2 := Lib.hid (below_step H1.out hb2 (by simp)); clear hb2 hs2
      have HA := Lib.hid ((happ.below EInt.elem H2.out (Nat.le_refl _)).more (Nat.le_refl _) (Nat.le_of_lt hs1)); clear happ
      have HB := Lib.hid (hb.trans (H2.out.mono hbs))
      by_cases he : l[j].2 = p
      · have hd : decide (l[j].2 = p) = true := by simp [he]
        have HE := Lib.hid he; clear he
        rw [hd]
        have HN := Lib.hid (HA.out.below EInt.elem (below1 w2 (.cells #[.int .i64 l[j].1] 3)) (Nat.le_refl _))
        go_wp2_with (at_builtin; refine wpList_app EInt.elem rfl _ _ 52 rfl (.int .i64 0) 8 Tryz.underlying52 info_Int rfl w.heap.size w2.heap.size ar cr (atL (l.take j) p) rfl HN.out (by simp) (by simp; omega) w2.heap.size 0 1 1 [l[j].1] [] rfl rfl ⟨[], [], rfl, ⟨rfl, (Is.new w2 #[.int .i64 l[j].1] 3).cell 0 rfl, hi⟩, rfl⟩ (by simp) (by simp) (by simp) (by omega) (by unfold maxLen; omega) (by omega) ?_; intro ar2 cr2 w3 happ3 hb3 _)
        go_roundw
        case rel => exact ⟨j + 1, ar2, cr2, by omega, by go_num, by rw [HT.out, if_pos HE.out, List.length_append]; rfl, by rw [HT.out, if_pos HE.out]; exact happ3, (HB.out.trans ((below1 w2 _).mono (by omega))).trans hb3⟩
        case measure => simp [intOf]; omega
      · have hd : decide (l[j].2 = p) = false := by simp [he]
        have HE := Lib.hid he; clear he
        rw [hd]
        go_wp2_with fail
        go_roundw
        case rel => exact ⟨j + 1, ar, cr, by omega, by go_num, by rw [HT.out, if_neg HE.out, List.append_nil], by rw [HT.out, if_neg HE.out, List.append_nil]; exact HA.out, HB.out⟩
        case measure => simp [intOf]; omega
    · have hjj : l.length = j := by omega
      have HJ := Lib.hid (show l.take j = l from by rw [← hjj, List.take_length]); clear hjj
      go_wp2_with fail
      go_ret
      have hh := happ.own
      rw [HJ.out] at hh
      exact ⟨ar, cr, by rw [HJ.out]; rfl, hh, hb⟩
end Go.Proofs.YtfbodhfdomdkpaaGreatDoor
