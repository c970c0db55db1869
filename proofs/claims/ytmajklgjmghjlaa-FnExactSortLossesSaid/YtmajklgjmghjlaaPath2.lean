/- Contracts and lemmas for the proofs of this seat: Path2. No condition beyond those stated. -/
import Derived.Test.YtmajklgjmghjlaaRows
import Derived.WalkKit
import Derived.ProofKit
import Derived.OpenShut
import Derived.Handy
import Derived.Lib.Hide
import Derived.Lib.SmallJoins
import Derived.Deep.RegionHeld3
import Derived.Deep.QuietTactic
import Derived.BigQuiet
import Derived.Test.YtmajklgjmghjlaaBase
import Derived.Test.YtmajklgjmghjlaaGen
import Derived.Test.YtmajklgjmghjlaaPath1
namespace Go.Proofs.Ytmajklgjmghjlaa
open Go.ChangeShapes Go.WideShapes Go.ChangeAt Go.RowKit Go.Joins
set_option linter.unusedVariables false
set_option maxRecDepth 100000
theorem lessP_self : ∀ p : List St, lessP p p = false := by
  intro p
  induction p with
  | nil => rfl
  | cons x r ih => rw [lessP, if_pos rfl]; exact ih
theorem lessP_asymm : ∀ p q : List St, lessP p q = true → lessP q p = false := by
  intro p
  induction p with
  | nil => intro q h; cases q with
    | nil => rfl
    | cons y b => rfl
  | cons x a ih =>
    intro q h
    cases q with
    | nil => simp [lessP] at h
    | cons y b =>
      rw [lessP] at h ⊢
      by_cases e : x = y
      · rw [if_pos e] at h; rw [if_pos e.symm]; exact ih b h
      · rw [if_neg e] at h; rw [if_neg (fun e' => e e'.symm)]
        obtain ⟨x1, x2⟩ := x; obtain ⟨y1, y2⟩ := y
        simp only [Prod.mk.injEq] at e h ⊢
        by_cases e1 : x1 = y1
        · subst e1; cases x2 <;> cases y2 <;> simp_all
        · simp only [e1, decide_false, Bool.false_and, Bool.or_false, decide_eq_true_eq] at h ⊢
          have e2 : ¬ y1 = x1 := fun e' => e1 e'.symm
          simp [e2]; omega
theorem lessP_total : ∀ p q : List St, lessP p q = false → lessP q p = false → p = q := by
  intro p
  induction p with
  | nil => intro q h _; cases q with
    | nil => rfl
    | cons y b => simp [lessP] at h
  | cons x a ih =>
    intro q h h'
    cases q with
    | nil => simp [lessP] at h'
    | cons y b =>
      rw [lessP] at h h'
      by_cases e : x = y
      · rw [if_pos e] at h; rw [if_pos e.symm] at h'; rw [e, ih b h h']
      · exfalso
        rw [if_neg e] at h; rw [if_neg (fun e' => e e'.symm)] at h'
        obtain ⟨x1, x2⟩ := x; obtain ⟨y1, y2⟩ := y
        simp only [Prod.mk.injEq] at e h h'
        by_cases e1 : x1 = y1
        · subst e1; cases x2 <;> cases y2 <;> simp_all
        · have e2 : ¬ y1 = x1 := fun e' => e1 e'.symm
          simp [e1, e2] at h h'; omega
/-- The order of losses, as a number. -/
def cmpI (a b : Int) : Int := if a < b then -1 else if b < a then 1 else 0
def sideI (x y : Bool) : Int := if x then -1 else if y then 1 else 0
def orI (x y : Int) : Int := if x = 0 then y else x
def cmpL (x y : Lo) : Int := orI (sideI (lessP x.2 y.2) (lessP y.2 x.2)) (cmpI x.1 y.1)
def lessL (x y : Lo) : Bool := if x.2 = y.2 then decide (x.1 < y.1) else lessP x.2 y.2
theorem cmpL_less (x y : Lo) : decide (cmpL x y < 0) = lessL x y := by
  unfold cmpL lessL cmpI orI sideI
  by_cases e : x.2 = y.2
  · simp only [e, lessP_self]; by_cases h1 : x.1 < y.1 <;> by_cases h2 : y.1 < x.1 <;> simp [h1, h2]
  · simp only [e, if_false]
    by_cases h : lessP x.2 y.2 = true
    · simp [h]
    · rw [Bool.not_eq_true] at h
      by_cases h' : lessP y.2 x.2 = true
      · simp [h, h']
      · rw [Bool.not_eq_true] at h'
        exact absurd (lessP_total _ _ h h') e
theorem spec_samePath (p q : List St) (a a' : Option Addr) (cap cap' B : Nat) (w : World) (hr : Rd EStep 2 w B a cap p) (hr' : Rd EStep 2 w B a' cap' q) (hB : B ≤ w.heap.size) :
    Calls Try.prog 22 #[.slice a p.length cap, .slice a' q.length cap'] w fun e w' => e = .returned (.bool (decide (p = q))) ∧ Below w.heap.size w w' := by
  obtain ⟨hl1, hl2⟩ := hr.len
  obtain ⟨hm1, hm2⟩ := hr'.len
  by_cases hpq : p.length = q.length
  · have hn : ((p.length : Int) == q.length) = true := by simp [hpq]
    have HL := Lib.hid hpq; clear hpq
    go_enter Try.func22, Try.ntmps22
    go_wp2_with fail
    go_loopw [5] (fun i wr => ∃ (j : Nat), j ≤ p.length ∧ i = .int .i64 j ∧ Hid (p.take j = q.take j) ∧ Below w.heap.size w wr) (fun i _ => p.length - (intOf i).toNat)
    case atStart => exact ⟨0, Nat.zero_le _, rfl, rfl, Below.refl _ _⟩
    case round =>
      obtain ⟨j, hj, rfl, HP, hb⟩ := hrel
      by_cases hlt : j < p.length
      · have hlt' : j < q.length := by have := HL.out; omega
        obtain ⟨b, o, rfl, hbl, d0, d1, hi⟩ := (hr.below EStep.loc hb hB).step j hlt
        obtain ⟨b', o', rfl, hbl', d0', d1', hi'⟩ := (hr'.below EStep.loc hb hB).step j hlt'
        by_cases he : p[j] = q[j]
        · have HE := Lib.hid (show p.take (j + 1) = q.take (j + 1) from by rw [take_snoc p j hlt, take_snoc q j hlt', HP.out, he])
          go_wp2_with fail
          go_quiet (fail)
          go_wp2_with fail
          go_roundw
          case rel => exact ⟨j + 1, by omega, by go_num, HE.out, hb.trans (below_drewN _ _ _)⟩
          case measure => simp [intOf]; omega
        · have HE := Lib.hid (show ¬ p = q from fun e => he (by subst e; rfl))
          generalize p[j] = x at *
          generalize q[j] = y at *
          obtain ⟨x1, x2⟩ := x
          obtain ⟨y1, y2⟩ := y
          simp only at d0 d1 d0' d1'
          by_cases h2 : x1 = y1
          · subst h2
            have hne : x2 ≠ y2 := fun e => he (by rw [e])
            clear he
            cases x2 <;> cases y2
            · exact absurd rfl hne
            · clear hne
              go_wp2_with fail
              go_quiet (fail)
              go_wp2_with fail
              go_ret
              exact ⟨ret_b (by have := HE.out; simp [this]), hb.trans (below_drewN _ _ _)⟩
            · clear hne
              go_wp2_with fail
              go_quiet (fail)
              go_wp2_with fail
              go_ret
              exact ⟨ret_b (by have := HE.out; simp [this]), hb.trans (below_drewN _ _ _)⟩
            · exact absurd rfl hne
          · have hq : (x1 == y1) = false := by rw [beq_eq_false_iff_ne]; exact h2
            clear he h2
            go_wp2_with fail
            go_quiet (fail)
            go_wp2_with fail
            go_ret
            exact ⟨ret_b (by have := HE.out; simp [this]), hb.trans (below_drewN _ _ _)⟩
      · have HJ := Lib.hid (show p = q from by have := HP.out; have h2 := HL.out; rwa [List.take_of_length_le (by omega), List.take_of_length_le (by omega)] at this)
        go_wp2_with fail
        go_ret
        exact ⟨ret_b (by simp [HJ.out]), hb⟩
  · have hn : ((p.length : Int) == q.length) = false := by rw [beq_eq_false_iff_ne]; omega
    have HL := Lib.hid (show ¬ p = q from fun e => hpq (by rw [e])); clear hpq
    go_enter Try.func22, Try.ntmps22
    go_wp2_with fail
    go_ret
    exact ⟨ret_b (by have := HL.out; simp [this]), Below.refl _ _⟩
theorem cmpOr2 (x y : Int) (w : World) (g : Nat) (e : TypeId) (hg : Is w g e #[.int .i64 x, .int .i64 y]) :
    Calls Try.prog 27 #[.slice (some ⟨g, 0, none⟩) 2 2] w fun e w' => e = .returned (.int .i64 (orI x y)) ∧ Below w.heap.size w w' := by
  have hlt := hg.lt
  go_enter Try.func27, Try.ntmps27
  go_wp2_with fail
  go_loopw [8, 5] (fun i _ wr => (i = .int .i64 0 ∨ i = .int .i64 1 ∧ x = 0 ∨ i = .int .i64 2 ∧ x = 0 ∧ y = 0) ∧ Below w.heap.size w wr) (fun i _ _ => 2 - (intOf i).toNat)
  case atStart => exact ⟨Or.inl rfl, Below.refl _ _⟩
  case round =>
    obtain ⟨hc, hb⟩ := hrel
    obtain ⟨c0, c1⟩ := (hg.below hb hlt).cells2
    rcases hc with rfl | ⟨rfl, rfl⟩ | ⟨rfl, rfl, rfl⟩
    · by_cases h0 : x = 0
      · subst h0
        go_wp2_with fail
        go_roundw
        case rel => exact ⟨Or.inr (Or.inl ⟨by go_num, trivial⟩), hb⟩
        case measure => simp [intOf]
      · have hq : (x == 0) = false := by rw [beq_eq_false_iff_ne]; exact h0
        have H0 := Lib.hid h0; clear h0
        go_wp2_with fail
        go_ret
        exact ⟨ret_i (by have := H0.out; simp [orI, this]), hb⟩
    · by_cases h0 : y = 0
      · subst h0
        go_wp2_with fail
        go_roundw
        case rel => exact ⟨Or.inr (Or.inr ⟨by go_num, trivial, trivial⟩), hb⟩
        case measure => simp [intOf]
      · have hq : (y == 0) = false := by rw [beq_eq_false_iff_ne]; exact h0
        have H0 := Lib.hid h0; clear h0
        go_wp2_with fail
        go_ret
        exact ⟨rfl, hb⟩
    · go_wp2_with fail
      go_ret
      exact ⟨rfl, hb⟩
theorem cmpCompare (x y : Int) (w : World) :
    Calls Try.prog 30 #[.int .i64 x, .int .i64 y] w fun e w' => e = .returned (.int .i64 (cmpI x y)) ∧ Below w.heap.size w w' := by
  by_cases h1 : x < y
  · go_enter Try.func30, Try.ntmps30
    go_wp2
    go_ret
    exact ⟨ret_i (by unfold cmpI; rw [if_pos (by omega)]), by go_grown⟩
  · by_cases h2 : y < x
    · go_enter Try.func30, Try.ntmps30
      go_wp2
      go_ret
      exact ⟨ret_i (by unfold cmpI; rw [if_neg (by omega), if_pos (by omega)]), by go_grown⟩
    · go_enter Try.func30, Try.ntmps30
      go_wp2
      go_ret
      exact ⟨ret_i (by unfold cmpI; rw [if_neg (by omega), if_neg (by omega)]), by go_grown⟩
theorem impl_bySide (x y : Bool) (w : World) :
    Calls Try.prog 28 #[.bool x, .bool y] w fun e w' => e = .returned (.int .i64 (sideI x y)) ∧ Below w.heap.size w w' := by
  cases x <;> cases y
  all_goals
    go_enter Try.func28, Try.ntmps28
    go_wp2
    go_ret
    exact ⟨rfl, by go_grown⟩
theorem spec_LessLoss (x y : Lo) (a a' : Option Addr) (cap cap' B : Nat) (w : World) (hr : Rd EStep 2 w B a cap x.2) (hr' : Rd EStep 2 w B a' cap' y.2) (hB : B ≤ w.heap.size) :
    Calls Try.prog 12 #[.agg #[.int .i64 x.1, .slice a x.2.length cap], .agg #[.int .i64 y.1, .slice a' y.2.length cap']] w fun e w' => e = .returned (.bool (lessL x y)) ∧ Below w.heap.size w w' := by
  have H3 := Lib.hid (below2 w (.cells #[.int .i64 x.1, .slice a x.2.length cap] 37) (.cells #[.int .i64 y.1, .slice a' y.2.length cap'] 37))
  have q1 : Is ((w.alloc (.cells #[.int .i64 x.1, .slice a x.2.length cap] 37)).alloc (.cells #[.int .i64 y.1, .slice a' y.2.length cap'] 37)) w.heap.size 37 _ := (Is.new _ _ _).alloc _
  have q2 := Is.new2 w (.cells #[.int .i64 x.1, .slice a x.2.length cap] 37) #[.int .i64 y.1, .slice a' y.2.length cap'] 37
  have hs : w.heap.size + 2 ≤ ((w.alloc (.cells #[.int .i64 x.1, .slice a x.2.length cap] 37)).alloc (.cells #[.int .i64 y.1, .slice a' y.2.length cap'] 37)).heap.size := by simp
  go_enter Try.func12, Try.ntmps12
  go_wp2_with fail
  generalize hW : (w.alloc (.cells #[.int .i64 x.1, .slice a x.2.length cap] 37)).alloc (.cells #[.int .i64 y.1, .slice a' y.2.length cap'] 37) = W0 at q1 q2 H3 hs ⊢
  clear hW
  obtain ⟨c0, c1⟩ := q1.cells2
  obtain ⟨d0, d1⟩ := q2.cells2
  refine (spec_samePath x.2 y.2 a a' cap cap' B W0 (hr.below EStep.loc H3.out hB) (hr'.below EStep.loc H3.out hB) (by omega)).mono ?_
  rintro e w2 ⟨rfl, hb2⟩
  have k2 := Lib.hid (below_step H3.out hb2 (by omega))
  obtain ⟨c0, c1⟩ := (q1.below hb2 (by omega)).cells2
  obtain ⟨d0, d1⟩ := (q2.below hb2 (by omega)).cells2
  have hs2 := hb2.size
  by_cases he : x.2 = y.2
  · have hd : decide (x.2 = y.2) = true := by simp [he]
    have HE := Lib.hid he; clear he hb2
    rw [hd]
    go_wp2_with fail
    go_ret
    exact ⟨ret_b (by unfold lessL; rw [if_pos HE.out]), k2.out⟩
  · have hd : decide (x.2 = y.2) = false := by simp [he]
    have HE := Lib.hid he; clear he hb2
    rw [hd]
    go_wp2_with fail
    refine (spec_LessPath x.2 y.2 a a' cap cap' B w2 (hr.below EStep.loc k2.out hB) (hr'.below EStep.loc k2.out hB) (by omega)).mono ?_
    rintro e w3 ⟨rfl, hb3⟩
    go_wp2_with fail
    go_ret
    exact ⟨ret_b (by unfold lessL; rw [if_neg HE.out]), below_step k2.out hb3 (by omega)⟩
set_option maxHeartbeats 8000000 in
theorem impl_compareLosses (x y : Lo) (a a' : Option Addr) (cap cap' B : Nat) (w : World) (hr : Rd EStep 2 w B a cap x.2) (hr' : Rd EStep 2 w B a' cap' y.2) (hB : B ≤ w.heap.size) :
    Calls Try.prog 17 #[.agg #[.int .i64 x.1, .slice a x.2.length cap], .agg #[.int .i64 y.1, .slice a' y.2.length cap']] w fun e w' => e = .returned (.int .i64 (cmpL x y)) ∧ Below w.heap.size w w' := by
  have H3 := Lib.hid (below2 w (.cells #[.int .i64 x.1, .slice a x.2.length cap] 37) (.cells #[.int .i64 y.1, .slice a' y.2.length cap'] 37))
  have q1 : Is ((w.alloc (.cells #[.int .i64 x.1, .slice a x.2.length cap] 37)).alloc (.cells #[.int .i64 y.1, .slice a' y.2.length cap'] 37)) w.heap.size 37 _ := (Is.new _ _ _).alloc _
  have q2 := Is.new2 w (.cells #[.int .i64 x.1, .slice a x.2.length cap] 37) #[.int .i64 y.1, .slice a' y.2.length cap'] 37
  have hs : w.heap.size + 2 ≤ ((w.alloc (.cells #[.int .i64 x.1, .slice a x.2.length cap] 37)).alloc (.cells #[.int .i64 y.1, .slice a' y.2.length cap'] 37)).heap.size := by simp
  go_enter Try.func17, Try.ntmps17
  go_wp2_with fail
  generalize hW : (w.alloc (.cells #[.int .i64 x.1, .slice a x.2.length cap] 37)).alloc (.cells #[.int .i64 y.1, .slice a' y.2.length cap'] 37) = W0 at q1 q2 H3 hs ⊢
  clear hW
  obtain ⟨c0, c1⟩ := q1.cells2
  obtain ⟨d0, d1⟩ := q2.cells2
  go_region_held3 (fun w' => (∀ b o, b < w.heap.size + 2 → w'.cell? ⟨b, o, none⟩ = W0.cell? ⟨b, o, none⟩) ∧ Below (w.heap.size + 2) W0 w') (first | exact ⟨fun _ _ _ => rfl, (Below.refl _ _).drew⟩ | exact keep_step (by assumption) (Below.drew (Below.refl _ _)) (Nat.le_refl _) | exact keep_step (by assumption) (by assumption) (by first | omega | (simp only [World.size_drew]; omega) | (simp only [size_alloc]; omega) | (simp only [World.size_drew, size_alloc]; omega) | (have := (‹(_ ∧ Below (w.heap.size + 2) W0 _)›).2.size; first | omega | (simp only [World.size_drew]; omega) | (simp only [size_alloc]; omega) | (simp only [World.size_drew, size_alloc]; omega) | (simp only [World.size_drew] at this; omega) | (simp only [size_alloc] at this; omega) | (simp only [World.size_drew, size_alloc] at this; omega))) | exact keep_step (by assumption) (below1 _ _) (by first | omega | (simp only [World.size_drew]; omega) | (simp only [size_alloc]; omega) | (simp only [World.size_drew, size_alloc]; omega) | (have := (‹(_ ∧ Below (w.heap.size + 2) W0 _)›).2.size; first | omega | (simp only [World.size_drew]; omega) | (simp only [size_alloc]; omega) | (simp only [World.size_drew, size_alloc]; omega) | (simp only [World.size_drew] at this; omega) | (simp only [size_alloc] at this; omega) | (simp only [World.size_drew, size_alloc] at this; omega)))) (first
    | (go_at_call 29; refine (impl_LessPath _ _ _ _ _ _ B _ ?_ ?_ (by have := (‹_ ∧ Below (w.heap.size + 2) W0 _›).2.size; omega)).mono ?_; (first | exact hr.below EStep.loc (H3.out.trans ((‹_ ∧ Below (w.heap.size + 2) W0 _›).2.mono (by omega))) hB | exact hr'.below EStep.loc (H3.out.trans ((‹_ ∧ Below (w.heap.size + 2) W0 _›).2.mono (by omega))) hB); (first | exact hr.below EStep.loc (H3.out.trans ((‹_ ∧ Below (w.heap.size + 2) W0 _›).2.mono (by omega))) hB | exact hr'.below EStep.loc (H3.out.trans ((‹_ ∧ Below (w.heap.size + 2) W0 _›).2.mono (by omega))) hB); rintro e v2 ⟨rfl, hb2⟩)
    | (go_at_call 28; refine (impl_bySide _ _ _).mono ?_; rintro e v3 ⟨rfl, hb3⟩)
    | (go_at_call 30; refine (cmpCompare _ _ _).mono ?_; rintro e v3 ⟨rfl, hb3⟩)
    | (go_at_call 27; refine (cmpOr2 _ _ _ _ _ (Is.new _ _ _)).mono ?_; rintro e v4 ⟨rfl, hb4⟩))
  go_wp2_with fail
  go_ret
  exact ⟨rfl, H3.out.trans ((‹_ ∧ Below (w.heap.size + 2) W0 _›).2.mono (by omega))⟩
end Go.Proofs.Ytmajklgjmghjlaa
