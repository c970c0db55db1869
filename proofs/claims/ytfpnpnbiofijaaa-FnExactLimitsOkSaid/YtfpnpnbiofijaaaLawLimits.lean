/- Contracts and lemmas for the proofs of this seat: LawLimits. No condition beyond those stated. -/
import Derived.Test.YtfpnpnbiofijaaaRows
import Derived.WalkKit
import Derived.ProofKit
import Derived.OpenShut
import Derived.Handy
import Derived.Lib.Hide
import Derived.Lib.SmallJoins
import Derived.Deep.RegionHeld3
import Derived.Test.YtfpnpnbiofijaaaBase
namespace Go.Proofs.Ytfpnpnbiofijaaa
open Go.ChangeShapes Go.WideShapes Go.ChangeAt Go.RowKit Go.Joins
set_option linter.unusedVariables false
theorem toLimits' (a b c : Int) (w : World) :
    Calls Try.prog 16 #[.agg #[.int .i64 a, .int .i64 b, .int .i64 c]] w fun e w' => e = .returned (.agg #[.int .i64 a, .int .i64 b, .int .i64 c]) ∧ Below w.heap.size w w' := by
  go_enter Try.func16, Try.ntmps16
  go_wp2
  go_returns
  exact ⟨rfl, by go_grown⟩
theorem spec_MoreThan (a b c d e f : Int) (w : World) :
    Calls Try.prog 15 #[.agg #[.int .i64 a, .int .i64 b, .int .i64 c], .agg #[.int .i64 d, .int .i64 e, .int .i64 f]] w fun r w' => r = .returned (.bool (decide (d ≤ a ∧ e ≤ b ∧ f ≤ c))) ∧ Below w.heap.size w w' := by
  by_cases h1 : d ≤ a
  all_goals by_cases h2 : e ≤ b
  all_goals by_cases h3 : f ≤ c
  all_goals
    go_enter Try.func15, Try.ntmps15
    go_wp2
    all_goals go_returns
    all_goals exact ⟨by simp [*], by go_grown⟩
theorem impl_MoreThan (a b c d e f : Int) (w : World) :
    Calls Try.prog 17 #[.agg #[.int .i64 a, .int .i64 b, .int .i64 c], .agg #[.int .i64 d, .int .i64 e, .int .i64 f]] w fun r w' => r = .returned (.bool (decide (d ≤ a ∧ e ≤ b ∧ f ≤ c))) ∧ Below w.heap.size w w' := by
  by_cases h1 : d ≤ a
  all_goals by_cases h2 : e ≤ b
  all_goals by_cases h3 : f ≤ c
  all_goals
    go_enter Try.func17, Try.ntmps17
    go_wp2
    all_goals go_returns
    all_goals exact ⟨by simp [*], by go_grown⟩
theorem FnExactMoreThan_walk (a b c d e f : Int) (w : World) (_ : I64 a) (_ : I64 b) (_ : I64 c) (_ : I64 d) (_ : I64 e) (_ : I64 f) :
    Calls Try.prog 6 #[.agg #[.int .i64 a, .int .i64 b, .int .i64 c], .agg #[.int .i64 d, .int .i64 e, .int .i64 f]] w fun e w' => e = .returned (.bool true) ∧ Below w.heap.size w w' := by
  have H3 := Lib.hid (below2 w (.cells (cI3 a b c) 24) (.cells (cI3 d e f) 24))
  have q1 : Is ((w.alloc (.cells (cI3 a b c) 24)).alloc (.cells (cI3 d e f) 24)) w.heap.size 24 (cI3 a b c) := (Is.new _ _ _).alloc _
  have q2 := Is.new2 w (.cells (cI3 a b c) 24) (cI3 d e f) 24
  have hs : w.heap.size + 2 ≤ ((w.alloc (.cells (cI3 a b c) 24)).alloc (.cells (cI3 d e f) 24)).heap.size := by simp
  go_enter Try.func6, Try.ntmps6
  go_wp2_with fail
  generalize hW : (w.alloc (.cells (cI3 a b c) 24)).alloc (.cells (cI3 d e f) 24) = W0 at q1 q2 H3 hs ⊢
  clear hW
  obtain ⟨c0, c1, c2⟩ := q1.cells3
  obtain ⟨l0, l1, l2⟩ := q2.cells3
  go_region_held3 (fun w' => (∀ b o, b < w.heap.size + 2 → w'.cell? ⟨b, o, none⟩ = W0.cell? ⟨b, o, none⟩) ∧ Below (w.heap.size + 2) W0 w') (first | exact ⟨fun _ _ _ => rfl, (Below.refl _ _).drew⟩ | exact keep_step (by assumption) (Below.drew (Below.refl _ _)) (Nat.le_refl _) | exact keep_step (by assumption) (by assumption) (by first | omega | (simp only [World.size_drew]; omega) | (have := (‹(_ ∧ Below (w.heap.size + 2) W0 _)›).2.size; first | omega | (simp only [World.size_drew]; omega) | (simp only [World.size_drew] at this; omega)))) (first | (go_at_call 16; refine (toLimits' _ _ _ _).mono ?_; rintro r w2 ⟨rfl, hb⟩) | (go_at_call 15; refine (spec_MoreThan _ _ _ _ _ _ _).mono ?_; rintro r w2 ⟨rfl, hb⟩))
  go_wp2_with fail
  go_region_held3 (fun w' => (∀ b o, b < w.heap.size + 2 → w'.cell? ⟨b, o, none⟩ = W0.cell? ⟨b, o, none⟩) ∧ Below (w.heap.size + 2) W0 w') (first | exact ⟨fun _ _ _ => rfl, (Below.refl _ _).drew⟩ | exact keep_step (by assumption) (Below.drew (Below.refl _ _)) (Nat.le_refl _) | exact keep_step (by assumption) (by assumption) (by first | omega | (simp only [World.size_drew]; omega) | (have := (‹(_ ∧ Below (w.heap.size + 2) W0 _)›).2.size; first | omega | (simp only [World.size_drew]; omega) | (simp only [World.size_drew] at this; omega)))) (first | (go_at_call 16; refine (toLimits' _ _ _ _).mono ?_; rintro r w2 ⟨rfl, hb⟩) | (go_at_call 17; refine (impl_MoreThan _ _ _ _ _ _ _).mono ?_; rintro r w2 ⟨rfl, hb⟩))
  go_wp2_with fail
  go_ret
  exact ⟨rfl, below_step H3.out (‹_ ∧ Below (w.heap.size + 2) W0 _›).2 (by omega)⟩
def limB (d b c : Int) : Bool := decide (1 ≤ d ∧ d ≤ 20 ∧ 1 ≤ b ∧ b ≤ 4096 ∧ 1 ≤ c ∧ c ≤ 2000)
theorem spec_LimitsOk (d b c : Int) (w : World) :
    Calls Try.prog 18 #[.agg #[.int .i64 d, .int .i64 b, .int .i64 c]] w fun r w' => r = .returned (.bool (limB d b c)) ∧ Below w.heap.size w w' := by
  go_enter Try.func18, Try.ntmps18
  go_wp2
  all_goals go_ret
  all_goals exact ⟨ret_b (by unfold limB; first | (simp; done) | (simp; omega) | (rw [Bool.eq_iff_iff]; simp only [decide_eq_true_eq]; omega)), by go_grown⟩
theorem impl_LimitsOk (d b c : Int) (w : World) :
    Calls Try.prog 19 #[.agg #[.int .i64 d, .int .i64 b, .int .i64 c]] w fun r w' => r = .returned (.bool (limB d b c)) ∧ Below w.heap.size w w' := by
  go_enter Try.func19, Try.ntmps19
  go_wp2
  all_goals go_ret
  all_goals exact ⟨ret_b (by unfold limB; first | (simp; done) | (simp; omega) | (rw [Bool.eq_iff_iff]; simp only [decide_eq_true_eq]; omega)), by go_grown⟩
theorem FnExactLimitsOk_walk (a b c : Int) (w : World) (_ : I64 a) (_ : I64 b) (_ : I64 c) :
    Calls Try.prog 7 #[.agg #[.int .i64 a, .int .i64 b, .int .i64 c]] w fun e w' => e = .returned (.bool true) ∧ Below w.heap.size w w' := by
  have H3 := Lib.hid (below1 w (.cells (cI3 a b c) 24))
  have q1 : Is (w.alloc (.cells (cI3 a b c) 24)) w.heap.size 24 (cI3 a b c) := Is.new _ _ _
  have hs : w.heap.size + 1 ≤ (w.alloc (.cells (cI3 a b c) 24)).heap.size := by simp
  go_enter Try.func7, Try.ntmps7
  go_wp2_with fail
  generalize hW : w.alloc (.cells (cI3 a b c) 24) = W0 at q1 H3 hs ⊢
  clear hW
  obtain ⟨c0, c1, c2⟩ := q1.cells3
  refine (toLimits' _ _ _ _).mono ?_
  rintro r w2 ⟨rfl, hb2⟩
  go_wp2_with fail
  refine (spec_LimitsOk _ _ _ _).mono ?_
  rintro r w3 ⟨rfl, hb3⟩
  have k3 := below_step (below_step (Below.refl _ _) hb2 (Nat.le_refl _)) hb3 hb2.size
  clear hb2 hb3
  have q3 := q1.below k3 (by omega)
  obtain ⟨d0, d1, d2⟩ := q3.cells3
  go_wp2_with fail
  refine (toLimits' _ _ _ _).mono ?_
  rintro r w4 ⟨rfl, hb4⟩
  go_wp2_with fail
  refine (impl_LimitsOk _ _ _ _).mono ?_
  rintro r w5 ⟨rfl, hb5⟩
  have k5 := below_step (below_step k3 hb4 k3.size) hb5 (Nat.le_trans k3.size hb4.size)
  clear hb4 hb5
  go_wp2_with fail
  go_ret
  exact ⟨rfl, below_step H3.out k5 (by omega)⟩
end Go.Proofs.Ytfpnpnbiofijaaa
