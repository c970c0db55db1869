/- Texts of this proof, merged: LawsF, DrwB, Drw1. No condition beyond what each theorem states. -/
import Derived.Test.YtfbodhfdomdkpaaGreatDoorRows
import Derived.WalkKit
import Derived.ProofKit
import Derived.OpenShut
import Derived.Handy
import Derived.Lib.Hide
import Derived.Lib.SmallJoins
import Derived.Deep.RegionHeld3
import Derived.Deep.QuietTactic
import Derived.BigQuiet
import Derived.Test.YtfbodhfdomdkpaaGreatDoorZG1
import Derived.Test.YtfbodhfdomdkpaaGreatDoorZG2
import Derived.Test.YtfbodhfdomdkpaaGreatDoorZG5
import Derived.Deep.AppendLies
import Derived.Test.YtfbodhfdomdkpaaGreatDoorZG3
import Derived.Test.YtfbodhfdomdkpaaGreatDoorZG4
set_option linter.unusedSimpArgs false
set_option linter.unnecessarySimpa false
namespace Go.Proofs.YtfbodhfdomdkpaaGreatDoor
open Go.ChangeShapes Go.WideShapes Go.ChangeAt Go.RowKit Go.Joins
set_option linter.unusedVariables false
set_option maxRecDepth 100000
/-! ### What the law of losses compares by -/
theorem laws_samePath (p q : List St) (a a' : Option Addr) (cap cap' B : Nat) (w : World) (hr : Rd EStep 2 w B a cap p) (hr' : Rd EStep 2 w B a' cap' q) (hB : B ≤ w.heap.size) :
    Calls Tryz.prog 34 #[.slice a p.length cap, .slice a' q.length cap'] w fun e w' => e = .returned (.bool (decide (p = q))) ∧ Below w.heap.size w w' := by
  obtain ⟨hl1, hl2⟩ := hr.len
  obtain ⟨hm1, hm2⟩ := hr'.len
  by_cases hpq : p.length = q.length
  · have hn : ((p.length : Int) == q.length) = true := by simp [hpq]
    have HL := Lib.hid hpq; clear hpq
    go_enter Tryz.func34, Tryz.ntmps34
    go_wp2_with fail
    go_loopw [5] (fun i wr => ∃ (j : Nat), j ≤ p.length ∧ i = .int .i64 j ∧ Hid (p.take j = q.take j) ∧ Below w.heap.size w wr) (fun i _ => p.length - (intOf i).toNat)
    case atStart => exact ⟨0, Nat.zero_le _, rfl, rfl, Below.refl _ _⟩
    case round =>
      obtain ⟨j, hj, rfl, HP, hb⟩ := hrel
      by_cases hlt : j < p.length
      · have hlt' : j < q.length := by have := HL.out; omega
        obtain ⟨b, o, rfl, hbl, d0, d1, hi⟩ := (hr.below EStep.loc hb hB).step j hlt
        obtain ⟨b', o', rfl, hbl', d0', d1', hi'⟩ := (hr'.below EStep.loc hb hB).step j hlt'
        by_cases he : p[j] = q[j]
        · have HE := Lib.hid (show p.take (j + 1) = q.take (j + 1) from by rw [take_snoc p j hlt, take_snoc q j hlt', HP.out, he])
          go_wp2_with fail
          go_quiet (fail)
          go_wp2_with fail
          go_roundw
          case rel => exact ⟨j + 1, by omega, by go_num, HE.out, hb.trans (below_drewN _ _ _)⟩
          case measure => simp [intOf]; omega
        · have HE := Lib.hid (show ¬ p = q from fun e => he (by subst e; rfl))
          generalize p[j] = x at *
          generalize q[j] = y at *
          obtain ⟨x1, x2⟩ := x
          obtain ⟨y1, y2⟩ := y
          simp only at d0 d1 d0' d1'
          by_cases h2 : x1 = y1
          · subst h2
            have hne : x2 ≠ y2 := fun e => he (by rw [e])
            clear he
            cases x2 <;> cases y2
            · exact absurd rfl hne
            · clear hne
              go_wp2_with fail
              go_quiet (fail)
              go_wp2_with fail
              go_ret
              exact ⟨ret_b (by have := HE.out; simp [this]), hb.trans (below_drewN _ _ _)⟩
            · clear hne
              go_wp2_with fail
              go_quiet (fail)
              go_wp2_with fail
              go_ret
              exact ⟨ret_b (by have := HE.out; simp [this]), hb.trans (below_drewN _ _ _)⟩
            · exact absurd rfl hne
          · have hq : (x1 == y1) = false := by rw [beq_eq_false_iff_ne]; exact h2
            clear he h2
            go_wp2_with fail
            go_quiet (fail)
            go_wp2_with fail
            go_ret
            exact ⟨ret_b (by have := HE.out; simp [this]), hb.trans (below_drewN _ _ _)⟩
      · have HJ := Lib.hid (show p = q from by have := HP.out; have h2 := HL.out; rwa [List.take_of_length_le (by omega), List.take_of_length_le (by omega)] at this)
        go_wp2_with fail
        go_ret
        exact ⟨ret_b (by simp [HJ.out]), hb⟩
  · have hn : ((p.length : Int) == q.length) = false := by rw [beq_eq_false_iff_ne]; omega
    have HL := Lib.hid (show ¬ p = q from fun e => hpq (by rw [e])); clear hpq
    go_enter Tryz.func34, Tryz.ntmps34
    go_wp2_with fail
    go_ret
    exact ⟨ret_b (by have := HL.out; simp [this]), Below.refl _ _⟩
theorem laws_sameLosses (p q : List Lo) (a a' : Option Addr) (cap cap' B : Nat) (w : World) (hr : Rd ELoss 2 w B a cap p) (hr' : Rd ELoss 2 w B a' cap' q) (hB : B ≤ w.heap.size) :
    Calls Tryz.prog 18 #[.slice a p.length cap, .slice a' q.length cap'] w fun e w' => e = .returned (.bool (decide (p = q))) ∧ Below w.heap.size w w' := by
  obtain ⟨hl1, hl2⟩ := hr.len
  obtain ⟨hm1, hm2⟩ := hr'.len
  by_cases hpq : p.length = q.length
  · have hn : ((p.length : Int) == q.length) = true := by simp [hpq]
    have hn2 : ((p.length : Int) != q.length) = false := by simp [hpq]
    have HL := Lib.hid hpq; clear hpq
    go_enter Tryz.func18, Tryz.ntmps18
    go_wp2_with fail
    go_loopw [5] (fun i wr => ∃ (j : Nat), j ≤ p.length ∧ i = .int .i64 j ∧ Hid (p.take j = q.take j) ∧ Below w.heap.size w wr) (fun i _ => p.length - (intOf i).toNat)
    case atStart => exact ⟨0, Nat.zero_le _, rfl, rfl, Below.refl _ _⟩
    case round =>
      obtain ⟨j, hj, rfl, HP, hb⟩ := hrel
      by_cases hlt : j < p.length
      · have hlt' : j < q.length := by have := HL.out; omega
        obtain ⟨b, o, a2, cap2, rfl, hbl, d0, d1, hi, hq⟩ := (hr.below ELoss.loc hb hB).loss j hlt
        obtain ⟨b', o', a3, cap3, rfl, hbl', d0', d1', hi', hq'⟩ := (hr'.below ELoss.loc hb hB).loss j hlt'
        have hbs := hb.size
        have l1 : b < wr.heap.size := by omega
        have l2 : b' < wr.heap.size := by omega
        by_cases hk : p[j].1 = q[j].1
        · have hkb : (p[j].1 == q[j].1) = true := by simp [hk]
          have hkn : (p[j].1 != q[j].1) = false := by simp [hk]
          have HK := Lib.hid hk; clear hk
          go_wp2_with fail
          refine wp_region_held_drew (S := fun w' => (∀ b o, b < wr.heap.size → w'.cell? ⟨b, o, none⟩ = wr.cell? ⟨b, o, none⟩) ∧ Below (wr.heap.size) wr w') (by kernel_rfl) (by first | exact ⟨fun _ _ _ => rfl, (Below.refl _ _).drew⟩ | exact keep_step (by assumption) (Below.drew (Below.refl _ _)) (Nat.le_refl _) | exact keep_step (by assumption) (by assumption) (by first | omega | ((try simp only [World.size_drew, size_alloc]); omega) | (have := (‹(_ ∧ Below (wr.heap.size) wr _)›).2.size; (try simp only [World.size_drew, size_alloc] at this ⊢); omega))) (fun hHeld => ?_)
          refine wpAnyH_take (i := 0) (oi := ⟨some 17, _, _, _, _, _⟩) (v := ?_) rfl (by kernel_rfl) (by kernel_rfl) (by kernel_rfl) (fun _ _ _ h => h) (Or.inl ⟨by rfl, ?_⟩) (by assumption) ?_
          rotate_left 1
          · (intro w hSw; (try dsimp only at hSw); go_simp; (try simp only [hkn]); try (with_reducible rfl))
          try simp only [Act.put, List.setIfInBounds_toArray, List.set_cons_zero, List.set_cons_succ]
          refine wpAnyH_take (i := 1) (oi := ⟨some 18, _, _, _, _, _⟩) (v := ?_) rfl (by kernel_rfl) (by kernel_rfl) (by kernel_rfl) (fun _ _ _ h => h) (Or.inl ⟨by rfl, ?_⟩) (by assumption) ?_
          rotate_left 1
          · (intro w hSw; (try dsimp only at hSw); go_simp; (try simp only [hkn]); try (with_reducible rfl))
          try simp only [Act.put, List.setIfInBounds_toArray, List.set_cons_zero, List.set_cons_succ]
          refine wpAnyH_take (i := 2) (oi := ⟨some 19, _, _, _, _, _⟩) (v := ?_) rfl (by kernel_rfl) (by kernel_rfl) (by kernel_rfl) (fun _ _ _ h => h) (Or.inl ⟨by rfl, ?_⟩) (by assumption) ?_
          rotate_left 1
          · (intro w hSw; (try dsimp only at hSw); go_simp; (try simp only [hkn]); try (with_reducible rfl))
          try simp only [Act.put, List.setIfInBounds_toArray, List.set_cons_zero, List.set_cons_succ]
          refine wpAnyH_take (i := 3) (oi := ⟨some 20, _, _, _, _, _⟩) (v := ?_) rfl (by kernel_rfl) (by kernel_rfl) (by kernel_rfl) (fun _ _ _ h => h) (Or.inl ⟨by rfl, ?_⟩) (by assumption) ?_
          rotate_left 1
          · (intro w hSw; (try dsimp only at hSw); go_simp; (try simp only [hkn]); try (with_reducible rfl))
          try simp only [Act.put, List.setIfInBounds_toArray, List.set_cons_zero, List.set_cons_succ]
          refine wpAnyH_take (i := 4) (oi := ⟨some 21, _, _, _, _, _⟩) (v := ?_) rfl (by kernel_rfl) (by kernel_rfl) (by kernel_rfl) (fun _ _ _ h => h) (Or.inl ⟨by rfl, ?_⟩) (by assumption) ?_
          rotate_left 1
          · (intro w hSw; (try dsimp only at hSw); go_simp; (try simp only [hkn]); try (with_reducible rfl))
          try simp only [Act.put, List.setIfInBounds_toArray, List.set_cons_zero, List.set_cons_succ]
          refine wpAnyH_take (i := 5) (oi := ⟨some 22, _, _, _, _, _⟩) (v := ?_) rfl (by kernel_rfl) (by kernel_rfl) (by kernel_rfl) (fun _ _ _ h => h) (Or.inl ⟨by rfl, ?_⟩) (by assumption) ?_
          rotate_left 1
          · (intro w hSw; (try dsimp only at hSw); go_simp; (try simp only [hkn]); try (with_reducible rfl))
          try simp only [Act.put, List.setIfInBounds_toArray, List.set_cons_zero, List.set_cons_succ]
          refine wpAnyH_take (i := 6) (oi := ⟨some 23, _, _, _, _, _⟩) (v := ?_) rfl (by kernel_rfl) (by kernel_rfl) (by kernel_rfl) (fun _ _ _ h => h) (Or.inl ⟨by rfl, ?_⟩) (by assumption) ?_
          rotate_left 1
          · (intro w hSw; (try dsimp only at hSw); go_simp; (try simp only [hkn]); try (with_reducible rfl))
          try simp only [Act.put, List.setIfInBounds_toArray, List.set_cons_zero, List.set_cons_succ]
          refine wpAnyH_take (i := 7) (oi := ⟨some 24, _, _, _, _, _⟩) (v := ?_) rfl (by kernel_rfl) (by kernel_rfl) (by kernel_rfl) (fun _ _ _ h => h) (Or.inl ⟨by rfl, ?_⟩) (by assumption) ?_
          rotate_left 1
          · (intro w hSw; (try dsimp only at hSw); go_simp; (try simp only [hkn]); try (with_reducible rfl))
          try simp only [Act.put, List.setIfInBounds_toArray, List.set_cons_zero, List.set_cons_succ]
          refine wpAnyH_take (i := 8) (oi := ⟨some 25, _, _, _, _, _⟩) (v := ?_) rfl (by kernel_rfl) (by kernel_rfl) (by kernel_rfl) (fun _ _ _ h => h) (Or.inl ⟨by rfl, ?_⟩) (by assumption) ?_
          rotate_left 1
          · (intro w hSw; (try dsimp only at hSw); go_simp; (try simp only [hkn]); try (with_reducible rfl))
          try simp only [Act.put, List.setIfInBounds_toArray, List.set_cons_zero, List.set_cons_succ]
          refine wpAnyH_take (i := 9) (oi := ⟨some 26, _, _, _, _, _⟩) (v := ?_) rfl (by kernel_rfl) (by kernel_rfl) (by kernel_rfl) (fun _ _ _ h => h) (Or.inl ⟨by rfl, ?_⟩) (by assumption) ?_
          rotate_left 1
          · (intro w hSw; (try dsimp only at hSw); go_simp; (try simp only [hkn]); try (with_reducible rfl))
          try simp only [Act.put, List.setIfInBounds_toArray, List.set_cons_zero, List.set_cons_succ]
          refine wpAnyH_take (i := 10) (oi := ⟨some 27, _, _, _, _, _⟩) (v := ?_) rfl (by kernel_rfl) (by kernel_rfl) (by kernel_rfl) (fun _ _ _ h => h) (Or.inl ⟨by rfl, ?_⟩) (by assumption) ?_
          rotate_left 1
          · (intro w hSw; (try dsimp only at hSw); go_simp; (try simp only [hkn]); try (with_reducible rfl))
          try simp only [Act.put, List.setIfInBounds_toArray, List.set_cons_zero, List.set_cons_succ]
          refine wpAnyH_take (i := 11) (oi := ⟨some 28, _, _, _, _, _⟩) (v := ?_) rfl (by kernel_rfl) (by kernel_rfl) (by kernel_rfl) (fun _ _ _ h => h) (Or.inl ⟨by rfl, ?_⟩) (by assumption) ?_
          rotate_left 1
          · (intro w hSw; (try dsimp only at hSw); go_simp; (try simp only [hkn]); try (with_reducible rfl))
          try simp only [Act.put, List.setIfInBounds_toArray, List.set_cons_zero, List.set_cons_succ]
          refine wpAnyH_take (i := 12) (oi := ⟨some 29, _, _, _, _, _⟩) (v := ?_) rfl (by kernel_rfl) (by kernel_rfl) (by kernel_rfl) (fun _ _ _ h => h) (Or.inl ⟨by first | rfl | (simp only [hkn]; rfl), ?_⟩) (by assumption) ?_
          rotate_left 1
          · (intro w hSw; (try dsimp only at hSw); go_simp; (try simp only [hkn]); try (with_reducible rfl))
          try simp only [Act.put, List.setIfInBounds_toArray, List.set_cons_zero, List.set_cons_succ]
          refine wpAnyH_take (i := 13) (oi := ⟨some 30, _, _, _, _, _⟩) (v := ?_) rfl (by kernel_rfl) (by kernel_rfl) (by kernel_rfl) (fun _ _ _ h => h) (Or.inl ⟨by first | rfl | (simp only [hkn]; rfl), ?_⟩) (by assumption) ?_
          rotate_left 1
          · (intro w hSw; (try dsimp only at hSw); go_simp; (try simp only [hkn]); try (with_reducible rfl))
          try simp only [Act.put, List.setIfInBounds_toArray, List.set_cons_zero, List.set_cons_succ]
          refine wpAnyH_take (i := 14) (oi := ⟨some 31, _, _, _, _, _⟩) (v := ?_) rfl (by kernel_rfl) (by kernel_rfl) (by kernel_rfl) (fun _ _ _ h => h) (Or.inl ⟨by first | rfl | (simp only [hkn]; rfl), ?_⟩) (by assumption) ?_
          rotate_left 1
          · (intro w hSw; (try dsimp only at hSw); go_simp; (try simp only [hkn]); try (with_reducible rfl))
          try simp only [Act.put, List.setIfInBounds_toArray, List.set_cons_zero, List.set_cons_succ]
          refine wpAnyH_take (i := 15) (oi := ⟨some 32, _, _, _, _, _⟩) (v := ?_) rfl (by kernel_rfl) (by kernel_rfl) (by kernel_rfl) (fun _ _ _ h => h) (Or.inl ⟨by first | rfl | (simp only [hkn]; rfl), ?_⟩) (by assumption) ?_
          rotate_left 1
          · (intro w hSw; (try dsimp only at hSw); go_simp; (try simp only [hkn]); try (with_reducible rfl))
          try simp only [Act.put, List.setIfInBounds_toArray, List.set_cons_zero, List.set_cons_succ]
          refine wpAnyH_take (i := 16) (oi := ⟨some 33, _, _, _, _, _⟩) (v := ?_) rfl (by kernel_rfl) (by kernel_rfl) (by kernel_rfl) (fun _ _ _ h => h) (Or.inl ⟨by first | rfl | (simp only [hkn]; rfl), ?_⟩) (by assumption) ?_
          rotate_left 1
          · (intro w hSw; (try dsimp only at hSw); go_simp; (try simp only [hkn]); try (with_reducible rfl))
          try simp only [Act.put, List.setIfInBounds_toArray, List.set_cons_zero, List.set_cons_succ]
          refine wpAnyH_take (i := 17) (oi := ⟨some 34, _, _, _, _, _⟩) (v := ?_) rfl (by kernel_rfl) (by kernel_rfl) (by kernel_rfl) (fun _ _ _ h => h) (Or.inl ⟨by first | rfl | (simp only [hkn]; rfl), ?_⟩) (by assumption) ?_
          rotate_left 1
          · (intro w hSw; (try dsimp only at hSw); go_simp; (try simp only [hkn]); try (with_reducible rfl))
          try simp only [Act.put, List.setIfInBounds_toArray, List.set_cons_zero, List.set_cons_succ]
          refine wpAnyH_take (i := 18) (oi := ⟨some 35, _, _, _, _, _⟩) (v := ?_) rfl (by kernel_rfl) (by kernel_rfl) (by kernel_rfl) (fun _ _ _ h => h) (Or.inl ⟨by first | rfl | (simp only [hkn]; rfl), ?_⟩) (by assumption) ?_
          rotate_left 1
          · (intro w hSw; (try dsimp only at hSw); go_simp; (try simp only [hkn]); try (with_reducible rfl))
          try simp only [Act.put, List.setIfInBounds_toArray, List.set_cons_zero, List.set_cons_succ]
          refine wpAnyH_take (i := 19) (oi := ⟨some 36, _, _, _, _, _⟩) (v := ?_) rfl (by kernel_rfl) (by kernel_rfl) (by kernel_rfl) (fun _ _ _ h => h) (Or.inl ⟨by first | rfl | (simp only [hkn]; rfl), ?_⟩) (by assumption) ?_
          rotate_left 1
          · (intro w hSw; (try dsimp only at hSw); go_simp; (try simp only [hkn]); try (with_reducible rfl))
          try simp only [Act.put, List.setIfInBounds_toArray, List.set_cons_zero, List.set_cons_succ]
          refine wpAnyH_take (i := 20) (oi := ⟨some 37, _, _, _, _, _⟩) (v := ?_) rfl (by kernel_rfl) (by kernel_rfl) (by kernel_rfl) (fun _ _ _ h => h) (Or.inl ⟨by first | rfl | (simp only [hkn]; rfl), ?_⟩) (by assumption) ?_
          rotate_left 1
          · (intro w hSw; (try dsimp only at hSw); go_simp; (try simp only [hkn]); try (with_reducible rfl))
          try simp only [Act.put, List.setIfInBounds_toArray, List.set_cons_zero, List.set_cons_succ]
          refine wpAnyH_take (i := 21) (oi := ⟨some 38, _, _, _, _, _⟩) (v := ?_) rfl (by kernel_rfl) (by kernel_rfl) (by kernel_rfl) (fun _ _ _ h => h) (Or.inl ⟨by first | rfl | (simp only [hkn]; rfl), ?_⟩) (by assumption) ?_
          rotate_left 1
          · (intro w hSw; (try dsimp only at hSw); go_simp; (try simp only [hkn]); try (with_reducible rfl))
          try simp only [Act.put, List.setIfInBounds_toArray, List.set_cons_zero, List.set_cons_succ]
          refine wpAnyH_ready (rs := [22]) (by kernel_rfl) (by simp) ?_
          refine AllReadyH.cons (o := ⟨some 39, _, _, _, _, _⟩) rfl (fun K hK => ?_) AllReadyH.nil
          go_simp
          (first | (go_at_call 34; refine (laws_samePath p[j].2 q[j].2 _ _ _ _ B _ (hq.below EStep.loc (‹_ ∧ Below (wr.heap.size) wr _›).2 (by omega)) (hq'.below EStep.loc (‹_ ∧ Below (wr.heap.size) wr _›).2 (by omega)) (by have := (‹_ ∧ Below (wr.heap.size) wr _›).2.size; omega)).mono ?_; rintro e w2 ⟨rfl, hb2⟩))
          go_wp2_with fail
          refine hK.out _ _ (by first | exact ⟨fun _ _ _ => rfl, (Below.refl _ _).drew⟩ | exact keep_step (by assumption) (Below.drew (Below.refl _ _)) (Nat.le_refl _) | exact keep_step (by assumption) (by assumption) (by first | omega | ((try simp only [World.size_drew, size_alloc]); omega) | (have := (‹(_ ∧ Below (wr.heap.size) wr _)›).2.size; (try simp only [World.size_drew, size_alloc] at this ⊢); omega))) (fun hHeld => ?_)
          clear hK K
          try simp only [Act.put, List.setIfInBounds_toArray, List.set_cons_zero, List.set_cons_succ]
          refine wpAnyH_take (i := 23) (oi := ⟨some 40, _, _, _, _, _⟩) (v := ?_) rfl (by kernel_rfl) (by kernel_rfl) (by kernel_rfl) (fun _ _ _ h => h) (Or.inl ⟨by first | rfl | (simp only [hkn]; rfl), ?_⟩) (by assumption) ?_
          rotate_left 1
          · (intro w hSw; (try dsimp only at hSw); go_simp; (try simp only [hkn]); try (with_reducible rfl))
          try simp only [Act.put, List.setIfInBounds_toArray, List.set_cons_zero, List.set_cons_succ]
          refine wpAnyH_take (i := 24) (oi := ⟨some 41, _, _, _, _, _⟩) (v := ?_) rfl (by kernel_rfl) (by kernel_rfl) (by kernel_rfl) (fun _ _ _ h => h) (Or.inl ⟨by rfl, ?_⟩) (by assumption) ?_
          rotate_left 1
          · (intro w hSw; (try dsimp only at hSw); go_simp; (try simp only [hkn]); try (with_reducible rfl))
          try simp only [Act.put, List.setIfInBounds_toArray, List.set_cons_zero, List.set_cons_succ]
          refine wpAnyH_done (by kernel_rfl) ?_ _
          have K := Lib.hid (hb.trans ((‹_ ∧ Below (wr.heap.size) wr _›).2.mono hbs))
          clear hb2
          by_cases he : p[j].2 = q[j].2
          · have HE := Lib.hid (show p.take (j + 1) = q.take (j + 1) from by rw [take_snoc p j hlt, take_snoc q j hlt', HP.out, show p[j] = q[j] from Prod.ext HK.out he])
            have hd : decide (p[j].2 = q[j].2) = true := by simp [he]
            clear he
            rw [hd]
            go_wp2_with fail
            go_roundw
            case rel => exact ⟨j + 1, by omega, by go_num, HE.out, K.out⟩
            case measure => simp [intOf]; omega
          · have HE := Lib.hid (show ¬ p = q from fun e => he (by subst e; rfl))
            have hd : decide (p[j].2 = q[j].2) = false := by simp [he]
            clear he
            rw [hd]
            go_wp2_with fail
            go_ret
            exact ⟨ret_b (by have := HE.out; simp [this]), K.out⟩
        · have hkb : (p[j].1 == q[j].1) = false := by simp [hk]
          have hkn : (p[j].1 != q[j].1) = true := by simp [hk]
          have HE := Lib.hid (show ¬ p = q from fun e => hk (by subst e; rfl))
          clear hk
          go_wp2_with fail
          refine wp_region_held_drew (S := fun w' => (∀ b o, b < wr.heap.size → w'.cell? ⟨b, o, none⟩ = wr.cell? ⟨b, o, none⟩) ∧ Below (wr.heap.size) wr w') (by kernel_rfl) (by first | exact ⟨fun _ _ _ => rfl, (Below.refl _ _).drew⟩ | exact keep_step (by assumption) (Below.drew (Below.refl _ _)) (Nat.le_refl _) | exact keep_step (by assumption) (by assumption) (by first | omega | ((try simp only [World.size_drew, size_alloc]); omega) | (have := (‹(_ ∧ Below (wr.heap.size) wr _)›).2.size; (try simp only [World.size_drew, size_alloc] at this ⊢); omega))) (fun hHeld => ?_)
          refine wpAnyH_take (i := 0) (oi := ⟨some 17, _, _, _, _, _⟩) (v := ?_) rfl (by kernel_rfl) (by kernel_rfl) (by kernel_rfl) (fun _ _ _ h => h) (Or.inl ⟨by rfl, ?_⟩) (by assumption) ?_
          rotate_left 1
          · (intro w hSw; (try dsimp only at hSw); go_simp; (try simp only [hkn]); try (with_reducible rfl))
          try simp only [Act.put, List.setIfInBounds_toArray, List.set_cons_zero, List.set_cons_succ]
          refine wpAnyH_take (i := 1) (oi := ⟨some 18, _, _, _, _, _⟩) (v := ?_) rfl (by kernel_rfl) (by kernel_rfl) (by kernel_rfl) (fun _ _ _ h => h) (Or.inl ⟨by rfl, ?_⟩) (by assumption) ?_
          rotate_left 1
          · (intro w hSw; (try dsimp only at hSw); go_simp; (try simp only [hkn]); try (with_reducible rfl))
          try simp only [Act.put, List.setIfInBounds_toArray, List.set_cons_zero, List.set_cons_succ]
          refine wpAnyH_take (i := 2) (oi := ⟨some 19, _, _, _, _, _⟩) (v := ?_) rfl (by kernel_rfl) (by kernel_rfl) (by kernel_rfl) (fun _ _ _ h => h) (Or.inl ⟨by rfl, ?_⟩) (by assumption) ?_
          rotate_left 1
          · (intro w hSw; (try dsimp only at hSw); go_simp; (try simp only [hkn]); try (with_reducible rfl))
          try simp only [Act.put, List.setIfInBounds_toArray, List.set_cons_zero, List.set_cons_succ]
          refine wpAnyH_take (i := 3) (oi := ⟨some 20, _, _, _, _, _⟩) (v := ?_) rfl (by kernel_rfl) (by kernel_rfl) (by kernel_rfl) (fun _ _ _ h => h) (Or.inl ⟨by rfl, ?_⟩) (by assumption) ?_
          rotate_left 1
          · (intro w hSw; (try dsimp only at hSw); go_simp; (try simp only [hkn]); try (with_reducible rfl))
          try simp only [Act.put, List.setIfInBounds_toArray, List.set_cons_zero, List.set_cons_succ]
          refine wpAnyH_take (i := 4) (oi := ⟨some 21, _, _, _, _, _⟩) (v := ?_) rfl (by kernel_rfl) (by kernel_rfl) (by kernel_rfl) (fun _ _ _ h => h) (Or.inl ⟨by rfl, ?_⟩) (by assumption) ?_
          rotate_left 1
          · (intro w hSw; (try dsimp only at hSw); go_simp; (try simp only [hkn]); try (with_reducible rfl))
          try simp only [Act.put, List.setIfInBounds_toArray, List.set_cons_zero, List.set_cons_succ]
          refine wpAnyH_take (i := 5) (oi := ⟨some 22, _, _, _, _, _⟩) (v := ?_) rfl (by kernel_rfl) (by kernel_rfl) (by kernel_rfl) (fun _ _ _ h => h) (Or.inl ⟨by rfl, ?_⟩) (by assumption) ?_
          rotate_left 1
          · (intro w hSw; (try dsimp only at hSw); go_simp; (try simp only [hkn]); try (with_reducible rfl))
          try simp only [Act.put, List.setIfInBounds_toArray, List.set_cons_zero, List.set_cons_succ]
          refine wpAnyH_take (i := 6) (oi := ⟨some 23, _, _, _, _, _⟩) (v := ?_) rfl (by kernel_rfl) (by kernel_rfl) (by kernel_rfl) (fun _ _ _ h => h) (Or.inl ⟨by rfl, ?_⟩) (by assumption) ?_
          rotate_left 1
          · (intro w hSw; (try dsimp only at hSw); go_simp; (try simp only [hkn]); try (with_reducible rfl))
          try simp only [Act.put, List.setIfInBounds_toArray, List.set_cons_zero, List.set_cons_succ]
          refine wpAnyH_take (i := 7) (oi := ⟨some 24, _, _, _, _, _⟩) (v := ?_) rfl (by kernel_rfl) (by kernel_rfl) (by kernel_rfl) (fun _ _ _ h => h) (Or.inl ⟨by rfl, ?_⟩) (by assumption) ?_
          rotate_left 1
          · (intro w hSw; (try dsimp only at hSw); go_simp; (try simp only [hkn]); try (with_reducible rfl))
          try simp only [Act.put, List.setIfInBounds_toArray, List.set_cons_zero, List.set_cons_succ]
          refine wpAnyH_take (i := 8) (oi := ⟨some 25, _, _, _, _, _⟩) (v := ?_) rfl (by kernel_rfl) (by kernel_rfl) (by kernel_rfl) (fun _ _ _ h => h) (Or.inl ⟨by rfl, ?_⟩) (by assumption) ?_
          rotate_left 1
          · (intro w hSw; (try dsimp only at hSw); go_simp; (try simp only [hkn]); try (with_reducible rfl))
          try simp only [Act.put, List.setIfInBounds_toArray, List.set_cons_zero, List.set_cons_succ]
          refine wpAnyH_take (i := 9) (oi := ⟨some 26, _, _, _, _, _⟩) (v := ?_) rfl (by kernel_rfl) (by kernel_rfl) (by kernel_rfl) (fun _ _ _ h => h) (Or.inl ⟨by rfl, ?_⟩) (by assumption) ?_
          rotate_left 1
          · (intro w hSw; (try dsimp only at hSw); go_simp; (try simp only [hkn]); try (with_reducible rfl))
          try simp only [Act.put, List.setIfInBounds_toArray, List.set_cons_zero, List.set_cons_succ]
          refine wpAnyH_take (i := 10) (oi := ⟨some 27, _, _, _, _, _⟩) (v := ?_) rfl (by kernel_rfl) (by kernel_rfl) (by kernel_rfl) (fun _ _ _ h => h) (Or.inl ⟨by rfl, ?_⟩) (by assumption) ?_
          rotate_left 1
          · (intro w hSw; (try dsimp only at hSw); go_simp; (try simp only [hkn]); try (with_reducible rfl))
          try simp only [Act.put, List.setIfInBounds_toArray, List.set_cons_zero, List.set_cons_succ]
          refine wpAnyH_take (i := 11) (oi := ⟨some 28, _, _, _, _, _⟩) (v := ?_) rfl (by kernel_rfl) (by kernel_rfl) (by kernel_rfl) (fun _ _ _ h => h) (Or.inl ⟨by rfl, ?_⟩) (by assumption) ?_
          rotate_left 1
          · (intro w hSw; (try dsimp only at hSw); go_simp; (try simp only [hkn]); try (with_reducible rfl))
          try simp only [Act.put, List.setIfInBounds_toArray, List.set_cons_zero, List.set_cons_succ]
          refine wpAnyH_take (i := 12) (oi := ⟨some 29, _, _, _, _, _⟩) (v := undef) rfl (by kernel_rfl) (by kernel_rfl) (by kernel_rfl) (fun _ _ _ h => h) (Or.inr ⟨by (simp only [hkn]; rfl), rfl⟩) (by assumption) ?_
          try simp only [Act.put, List.setIfInBounds_toArray, List.set_cons_zero, List.set_cons_succ]
          refine wpAnyH_take (i := 13) (oi := ⟨some 30, _, _, _, _, _⟩) (v := undef) rfl (by kernel_rfl) (by kernel_rfl) (by kernel_rfl) (fun _ _ _ h => h) (Or.inr ⟨by (simp only [hkn]; rfl), rfl⟩) (by assumption) ?_
          try simp only [Act.put, List.setIfInBounds_toArray, List.set_cons_zero, List.set_cons_succ]
          refine wpAnyH_take (i := 14) (oi := ⟨some 31, _, _, _, _, _⟩) (v := undef) rfl (by kernel_rfl) (by kernel_rfl) (by kernel_rfl) (fun _ _ _ h => h) (Or.inr ⟨by (simp only [hkn]; rfl), rfl⟩) (by assumption) ?_
          try simp only [Act.put, List.setIfInBounds_toArray, List.set_cons_zero, List.set_cons_succ]
          refine wpAnyH_take (i := 15) (oi := ⟨some 32, _, _, _, _, _⟩) (v := undef) rfl (by kernel_rfl) (by kernel_rfl) (by kernel_rfl) (fun _ _ _ h => h) (Or.inr ⟨by (simp only [hkn]; rfl), rfl⟩) (by assumption) ?_
          try simp only [Act.put, List.setIfInBounds_toArray, List.set_cons_zero, List.set_cons_succ]
          refine wpAnyH_take (i := 16) (oi := ⟨some 33, _, _, _, _, _⟩) (v := undef) rfl (by kernel_rfl) (by kernel_rfl) (by kernel_rfl) (fun _ _ _ h => h) (Or.inr ⟨by (simp only [hkn]; rfl), rfl⟩) (by assumption) ?_
          try simp only [Act.put, List.setIfInBounds_toArray, List.set_cons_zero, List.set_cons_succ]
          refine wpAnyH_take (i := 17) (oi := ⟨some 34, _, _, _, _, _⟩) (v := undef) rfl (by kernel_rfl) (by kernel_rfl) (by kernel_rfl) (fun _ _ _ h => h) (Or.inr ⟨by (simp only [hkn]; rfl), rfl⟩) (by assumption) ?_
          try simp only [Act.put, List.setIfInBounds_toArray, List.set_cons_zero, List.set_cons_succ]
          refine wpAnyH_take (i := 18) (oi := ⟨some 35, _, _, _, _, _⟩) (v := undef) rfl (by kernel_rfl) (by kernel_rfl) (by kernel_rfl) (fun _ _ _ h => h) (Or.inr ⟨by (simp only [hkn]; rfl), rfl⟩) (by assumption) ?_
          try simp only [Act.put, List.setIfInBounds_toArray, List.set_cons_zero, List.set_cons_succ]
          refine wpAnyH_take (i := 19) (oi := ⟨some 36, _, _, _, _, _⟩) (v := undef) rfl (by kernel_rfl) (by kernel_rfl) (by kernel_rfl) (fun _ _ _ h => h) (Or.inr ⟨by (simp only [hkn]; rfl), rfl⟩) (by assumption) ?_
          try simp only [Act.put, List.setIfInBounds_toArray, List.set_cons_zero, List.set_cons_succ]
          refine wpAnyH_take (i := 20) (oi := ⟨some 37, _, _, _, _, _⟩) (v := undef) rfl (by kernel_rfl) (by kernel_rfl) (by kernel_rfl) (fun _ _ _ h => h) (Or.inr ⟨by (simp only [hkn]; rfl), rfl⟩) (by assumption) ?_
          try simp only [Act.put, List.setIfInBounds_toArray, List.set_cons_zero, List.set_cons_succ]
          refine wpAnyH_take (i := 21) (oi := ⟨some 38, _, _, _, _, _⟩) (v := undef) rfl (by kernel_rfl) (by kernel_rfl) (by kernel_rfl) (fun _ _ _ h => h) (Or.inr ⟨by (simp only [hkn]; rfl), rfl⟩) (by assumption) ?_
          try simp only [Act.put, List.setIfInBounds_toArray, List.set_cons_zero, List.set_cons_succ]
          refine wpAnyH_take (i := 22) (oi := ⟨some 39, _, _, _, _, _⟩) (v := undef) rfl (by kernel_rfl) (by kernel_rfl) (by kernel_rfl) (fun _ _ _ h => h) (Or.inr ⟨by (simp only [hkn]; rfl), rfl⟩) (by assumption) ?_
          try simp only [Act.put, List.setIfInBounds_toArray, List.set_cons_zero, List.set_cons_succ]
          refine wpAnyH_take (i := 23) (oi := ⟨some 40, _, _, _, _, _⟩) (v := undef) rfl (by kernel_rfl) (by kernel_rfl) (by kernel_rfl) (fun _ _ _ h => h) (Or.inr ⟨by (simp only [hkn]; rfl), rfl⟩) (by assumption) ?_
          try simp only [Act.put, List.setIfInBounds_toArray, List.set_cons_zero, List.set_cons_succ]
          refine wpAnyH_take (i := 24) (oi := ⟨some 41, _, _, _, _, _⟩) (v := ?_) rfl (by kernel_rfl) (by kernel_rfl) (by kernel_rfl) (fun _ _ _ h => h) (Or.inl ⟨by rfl, ?_⟩) (by assumption) ?_
          rotate_left 1
          · (intro w hSw; (try dsimp only at hSw); go_simp; (try simp only [hkn]); try (with_reducible rfl))
          try simp only [Act.put, List.setIfInBounds_toArray, List.set_cons_zero, List.set_cons_succ]
          refine wpAnyH_done (by kernel_rfl) ?_ _
          have K := Lib.hid (hb.trans ((‹_ ∧ Below (wr.heap.size) wr _›).2.mono hbs))
          go_wp2_with fail
          go_ret
          exact ⟨ret_b (by have := HE.out; simp [this]), K.out⟩
      · have HJ := Lib.hid (show p = q from by have := HP.out; have h2 := HL.out; rwa [List.take_of_length_le (by omega), List.take_of_length_le (by omega)] at this)
        go_wp2_with fail
        go_ret
        exact ⟨ret_b (by simp [HJ.out]), hb⟩
  · have hn : ((p.length : Int) == q.length) = false := by rw [beq_eq_false_iff_ne]; omega
    have HL := Lib.hid (show ¬ p = q from fun e => hpq (by rw [e])); clear hpq
    go_enter Tryz.func18, Tryz.ntmps18
    go_wp2_with fail
    go_ret
    exact ⟨ret_b (by have := HL.out; simp [this]), Below.refl _ _⟩
theorem laws_sameInts (p : List Int) (a a' : Option Addr) (cap cap' B : Nat) (w : World) (hr : Rd EInt 1 w B a cap p) (hr' : Rd EInt 1 w B a' cap' p) (hB : B ≤ w.heap.size) :
    Calls Tryz.prog 29 #[.slice a p.length cap, .slice a' p.length cap'] w fun e w' => e = .returned (.bool true) ∧ Below w.heap.size w w' := by
  obtain ⟨hl1, hl2⟩ := hr.len
  obtain ⟨hm1, hm2⟩ := hr'.len
  have HR := Lib.hid hr; have HR' := Lib.hid hr'; clear hr hr'
  go_enter Tryz.func29, Tryz.ntmps29
  go_wp2_with fail
  go_loopw [5] (fun i wr => ∃ (j : Nat), j ≤ p.length ∧ i = .int .i64 j ∧ Below w.heap.size w wr) (fun i _ => p.length - (intOf i).toNat)
  case atStart => exact ⟨0, Nat.zero_le _, rfl, Below.refl _ _⟩
  case round =>
    obtain ⟨j, hj, rfl, hb⟩ := hrel
    have hbs := hb.size
    by_cases hlt : j < p.length
    · have hltz : (j : Int) < (p.length : Int) := by omega
      obtain ⟨b, o, rfl, hbl, d0, _, _⟩ := (HR.out.below EInt.loc hb hB).int j hlt
      obtain ⟨b', o', rfl, hbl', d0', _, _⟩ := (HR'.out.below EInt.loc hb hB).int j hlt
      have l1 : b < wr.heap.size := by omega
      have l2 : b' < wr.heap.size := by omega
      generalize p[j] = x at *
      have hxx : (x != x) = false := by simp
      go_wp2_with fail
      try go_quiet (fail)
      go_wp2_with fail
      go_roundw
      case rel => exact ⟨j + 1, by omega, by go_num, by first | exact hb | exact hb.drew | exact hb.trans (below_drewN _ _ _)⟩
      case measure => simp [intOf]; omega
    · have hltz : ¬ (j : Int) < (p.length : Int) := by omega
      go_wp2_with fail
      go_ret
      exact ⟨rfl, hb⟩
end Go.Proofs.YtfbodhfdomdkpaaGreatDoor
namespace Go.Proofs.YtfbodhfdomdkpaaGreatDoor
open Go.ChangeShapes Go.WideShapes Go.ChangeAt Go.RowKit Go.Joins
set_option linter.unusedVariables false
set_option maxRecDepth 100000
/-! ### Draws: a cursor in a block of its own -/
/-- Nothing but block A has changed. -/
abbrev Kp (A : Nat) (w w' : World) : Prop := Beside A (A + 1) w w'
theorem Kp.of_below {A n : Nat} {w w' : World} (h : Below n w w') (hn : w.heap.size ≤ n) (hA : A ≤ n) : Kp A w w' := Beside.of_below h hn hA
theorem Kp.size {A : Nat} {w w' : World} (h : Kp A w w') : w.heap.size ≤ w'.heap.size := h.1.size
theorem Kp.heap {A : Nat} {w w' : World} (h : Kp A w w') (f : Nat) (hf : f ≠ A) (hl : f < w.heap.size) : w'.heap[f]? = w.heap[f]? := by
  rcases Nat.lt_or_ge f A with h1 | h1
  · exact h.1.block f h1
  · exact h.2 f (by omega) hl
theorem Kp.is {A g : Nat} {w w' : World} {e : TypeId} {cs : Array Value} (h : Kp A w w') (hi : Is w g e cs) (hg : g ≠ A) : Is w' g e cs := (h.heap g hg hi.lt).trans hi
theorem Kp.drewN {A : Nat} {w : World} (n : Nat) : Kp A w (w.drewN n) := ⟨below_drewN _ _ _, fun _ _ _ => rfl⟩
theorem Kp.cell {A : Nat} {w : World} (i : Nat) (v : Value) : Kp A w (w.setCell ⟨A, i, none⟩ v) := ⟨(Below.refl _ _).setCell (p := ⟨A, i, none⟩) (Nat.le_refl _) _, fun f hf _ => heap_miss _ _ _ _ (by omega) _⟩
theorem Kp.alloc {A : Nat} {w : World} (hA : A ≤ w.heap.size) (o : Obj) : Kp A w (w.alloc o) := Kp.of_below (below1 w o) (Nat.le_refl _) hA
/-- The slice value holds the list, in blocks that stand, other than block A. -/
def Rx {α : Type} (E : World → Nat → Nat → α → List Nat → Prop) (n : Nat) (w : World) (A : Nat) (a : Option Addr) (cap : Nat) (l : List α) : Prop := ∃ F, Sl E n w a cap l F ∧ ∀ f ∈ F, f ≠ A ∧ f < w.heap.size
section
variable {α : Type} {E : World → Nat → Nat → α → List Nat → Prop} {n : Nat} {w w' : World} {A B cap : Nat} {a : Option Addr} {l : List α}
theorem Rx.kp (hE : Loc E n) (h : Rx E n w A a cap l) (hk : Kp A w w') : Rx E n w' A a cap l := by
  obtain ⟨F, h1, h2⟩ := h
  exact ⟨F, h1.agree hE (fun f hf => hk.heap f (h2 f hf).1 (h2 f hf).2), fun f hf => ⟨(h2 f hf).1, Nat.lt_of_lt_of_le (h2 f hf).2 hk.size⟩⟩
theorem Rx.below (hE : Loc E n) (h : Rx E n w A a cap l) {m : Nat} (hb : Below m w w') (hm : w.heap.size ≤ m) : Rx E n w' A a cap l := by
  obtain ⟨F, h1, h2⟩ := h
  exact ⟨F, h1.agree hE (fun f hf => hb.block f (by have := (h2 f hf).2; omega)), fun f hf => ⟨(h2 f hf).1, Nat.lt_of_lt_of_le (h2 f hf).2 hb.size⟩⟩
theorem Rx.rd (h : Rx E n w A a cap l) : Rd E n w w.heap.size a cap l := by
  obtain ⟨F, h1, h2⟩ := h
  exact ⟨F, h1, fun f hf => (h2 f hf).2⟩
theorem Rd.rx (h : Rd E n w B a cap l) (hB : B ≤ A) (hA : A ≤ w.heap.size) : Rx E n w A a cap l := by
  obtain ⟨F, h1, h2⟩ := h
  exact ⟨F, h1, fun f hf => by have := h2 f hf; omega⟩
theorem Ow.rx {lo hi : Nat} (h : Ow E n w lo hi a cap l) (hB : A < lo) (hA : hi ≤ w.heap.size) : Rx E n w A a cap l := by
  obtain ⟨F, h1, _, h2⟩ := h
  exact ⟨F, h1, fun f hf => by have := h2 f hf; omega⟩
theorem Rx.nil (c : Nat) (hc : c ≤ maxLen) : Rx E n w A a c [] := ⟨[], Sl.nil _ _ _ hc, by simp⟩
theorem Rx.get (h : Rx E n w A a cap l) (i : Nat) (hi : i < l.length) :
    ∃ b o F, a = some ⟨b, o, none⟩ ∧ b ≠ A ∧ b < w.heap.size ∧ E w b (o + i * n) l[i] F ∧ ∀ f ∈ F, f ≠ A ∧ f < w.heap.size := by
  obtain ⟨F, ⟨h1, h2, h3, h4⟩, hF⟩ := h
  obtain ⟨b, o, F', ha, rfl, hr⟩ := h4 (by rintro rfl; simp at hi)
  obtain ⟨G, hv, hG⟩ := hr.get i hi
  exact ⟨b, o, G, ha, (hF b (by simp)).1, (hF b (by simp)).2, hv, fun f hf => hF f (by simp [hG f hf])⟩
end
/-- A row of ints in a block. -/
theorem ints_row {w : World} {g : Nat} {e : TypeId} {cs : Array Value} (h : Is w g e cs) : ∀ (l : List Int) (o : Nat), (∀ i (hi : i < l.length), cs[o + i]? = some (.int .i64 l[i])) → (∀ x ∈ l, I64 x) → Row EInt 1 w g o l [] := by
  intro l
  induction l with
  | nil => intro o _ _; rfl
  | cons x r ih =>
    intro o hc hx
    refine ⟨[], [], rfl, ⟨rfl, h.cell o (hc 0 (by simp)), hx x (by simp)⟩, ih (o + 1) (fun i hi => ?_) (fun y hy => hx y (by simp [hy]))⟩
    have := hc (i + 1) (by simpa using hi)
    rw [show o + 1 + i = o + (i + 1) from by omega]; simpa using this
theorem ints_rx {w : World} {g A : Nat} {e : TypeId} (l : List Int) (h : Is w g e (l.map (Value.int .i64)).toArray) (hx : ∀ x ∈ l, I64 x) (hA : g ≠ A) (hl : 0 < l.length) (hm : l.length ≤ maxLen) : Rx EInt 1 w A (some ⟨g, 0, none⟩) l.length l := by
  refine ⟨[g], ⟨Nat.le_refl _, hm, fun h => (by subst h; simp at hl), fun _ => ⟨g, 0, [], rfl, rfl, ints_row h l 0 (fun i hi => by simp [hi]) hx⟩⟩, fun f hf => ?_⟩
  rw [List.mem_singleton] at hf
  subst hf
  exact ⟨hA, h.lt⟩
/-- A row of strings. -/
def EStx (w : World) (b o : Nat) (x : ByteArray) (F : List Nat) : Prop := F = [] ∧ w.cell? ⟨b, o, none⟩ = some (.string x)
theorem EStx.loc : Loc EStx 1 := by
  intro x w w' b o F h hc _
  obtain ⟨h0, h1⟩ := h
  exact ⟨h0, by rw [hc _ (by omega) (by omega)]; exact h1⟩
theorem strs_row {w : World} {g : Nat} {e : TypeId} {cs : Array Value} (h : Is w g e cs) : ∀ (l : List ByteArray) (o : Nat), (∀ i (hi : i < l.length), cs[o + i]? = some (.string l[i])) → Row EStx 1 w g o l [] := by
  intro l
  induction l with
  | nil => intro o _; rfl
  | cons x r ih =>
    intro o hc
    refine ⟨[], [], rfl, ⟨rfl, h.cell o (hc 0 (by simp))⟩, ih (o + 1) (fun i hi => ?_)⟩
    have := hc (i + 1) (by simpa using hi)
    rw [show o + 1 + i = o + (i + 1) from by omega]; simpa using this
theorem strs_rx {w : World} {g A : Nat} {e : TypeId} (l : List ByteArray) (h : Is w g e (l.map Value.string).toArray) (hA : g ≠ A) (hl : 0 < l.length) (hm : l.length ≤ maxLen) : Rx EStx 1 w A (some ⟨g, 0, none⟩) l.length l := by
  refine ⟨[g], ⟨Nat.le_refl _, hm, fun h => (by subst h; simp at hl), fun _ => ⟨g, 0, [], rfl, rfl, strs_row h l 0 (fun i hi => by simp [hi])⟩⟩, fun f hf => ?_⟩
  rw [List.mem_singleton] at hf
  subst hf
  exact ⟨hA, h.lt⟩
/-- The cursor at block A: the bytes of the draw, the place, the mix. -/
def Cur (w : World) (A : Nat) : Prop := ∃ (a : Option Addr) (cap : Nat) (l : List Int) (i : Nat) (h : Int), Is w A 112 #[.slice a l.length cap, .int .i64 i, .int .i64 h] ∧ Rd EByte 1 w A a cap l ∧ i ≤ l.length ∧ I64 h ∧ l.length ≤ 1048576
theorem Cur.lt {w : World} {A : Nat} (h : Cur w A) : A < w.heap.size := by obtain ⟨_, _, _, _, _, h, _⟩ := h; exact h.lt
theorem Cur.below {w w' : World} {A n : Nat} (h : Cur w A) (hb : Below n w w') (hn : A < n) : Cur w' A := by
  obtain ⟨a, cap, l, i, m, h1, h2, h3⟩ := h
  exact ⟨a, cap, l, i, m, h1.below hb hn, h2.below EByte.loc hb (by omega), h3⟩
theorem Cur.next {w : World} {A cap i : Nat} {a : Option Addr} {l : List Int} {h : Int} (n : Nat) (hI : Is w A 112 #[.slice a l.length cap, .int .i64 i, .int .i64 h]) (hR : Rd EByte 1 w A a cap l) (hi : i < l.length) (hh : I64 h) (hl : l.length ≤ 1048576) :
    Cur ((w.drewN n).setCell ⟨A, 1, none⟩ (.int .i64 ((i : Int) + 1))) A ∧ Kp A w ((w.drewN n).setCell ⟨A, 1, none⟩ (.int .i64 ((i : Int) + 1))) := by
  have HI3 := (hI.agree (w' := w.drewN n) rfl).set 1 (.int .i64 ((i : Int) + 1))
  have hk : Kp A w ((w.drewN n).setCell ⟨A, 1, none⟩ (.int .i64 ((i : Int) + 1))) := (Kp.drewN n).trans (Kp.cell 1 _)
  refine ⟨⟨a, cap, l, i + 1, h, ?_, hR.below EByte.loc hk.1 (Nat.le_refl _), by omega, hh, hl⟩, hk⟩
  simpa using HI3
theorem Cur.stay {w : World} {A cap i : Nat} {a : Option Addr} {l : List Int} {h : Int} (n : Nat) (hI : Is w A 112 #[.slice a l.length cap, .int .i64 i, .int .i64 h]) (hR : Rd EByte 1 w A a cap l) (hi : i ≤ l.length) (hh : I64 h) (hl : l.length ≤ 1048576) :
    Cur (w.drewN n) A ∧ Kp A w (w.drewN n) :=
  ⟨⟨a, cap, l, i, h, hI.agree (w' := w.drewN n) rfl, hR.below EByte.loc (below_drewN A w n) (Nat.le_refl _), hi, hh, hl⟩, Kp.drewN n⟩
instance (n : Int) : Decidable (I64 n) := inferInstanceAs (Decidable (_ ∧ _))
theorem bits_and (x m : Int) (h0 : 0 ≤ m) (h1 : m ≤ 1073741823) : 0 ≤ bits BinOp.and IntKind.i64 x m ∧ bits BinOp.and IntKind.i64 x m ≤ m := by
  have hm : (BitVec.ofInt 64 m).toNat = m.toNat := by
    rw [BitVec.toNat_ofInt]
    have : m % (2 ^ 64 : Nat) = m := Int.emod_eq_of_lt h0 (by simp; omega)
    rw [this]
  have h2 : (BitVec.ofInt 64 x &&& BitVec.ofInt 64 m).toNat ≤ m.toNat := by
    rw [BitVec.toNat_and, hm]
    exact Nat.and_le_right
  show 0 ≤ IntKind.wrap .i64 ((BitVec.ofInt 64 x &&& BitVec.ofInt 64 m).toNat : Int) ∧ IntKind.wrap .i64 ((BitVec.ofInt 64 x &&& BitVec.ofInt 64 m).toNat : Int) ≤ m
  generalize (BitVec.ofInt 64 x &&& BitVec.ofInt 64 m).toNat = r at h2
  have : IntKind.wrap .i64 (r : Int) = (r : Int) := by simp [IntKind.wrap, IntKind.bits, IntKind.signed]; omega
  omega
theorem wrap_i64 (n : Int) : I64 (wrap64 n) := by
  unfold I64 wrap64
  constructor <;> (first | omega | (simp; omega) | (split <;> omega))
theorem Kp.set {A g : Nat} {w w' : World} (h : Kp A w w') (hg : w.heap.size ≤ g) (hA : A ≤ g) (i : Nat) (v : Value) : Kp A w (w'.setCell ⟨g, i, none⟩ v) :=
  ⟨h.1.trans ((Below.refl _ _).setCell (p := ⟨g, i, none⟩) hA _), fun f hf hl => (heap_miss _ _ _ _ (by omega) _).trans (h.2 f hf hl)⟩
theorem Cur.set {A g : Nat} {w : World} (h : Cur w A) (hA : A < g) (i : Nat) (v : Value) : Cur (w.setCell ⟨g, i, none⟩ v) A :=
  h.below ((Below.refl g w).setCell (p := ⟨g, i, none⟩) (Nat.le_refl _) _) hA
/-- A result of two cells is stored. -/
theorem fin2 {w w4 : World} {A g : Nat} {e : TypeId} {u0 u1 : Value} (v0 v1 : Value) (hI : Is w4 g e #[u0, u1]) (hk : Kp A w w4) (hg : w.heap.size ≤ g) (hc : Cur w4 A) (hA : A < g) :
    ((w4.setCell ⟨g, 0, none⟩ v0).setCell ⟨g, 1, none⟩ v1).cell? ⟨g, 0, none⟩ = some v0 ∧ ((w4.setCell ⟨g, 0, none⟩ v0).setCell ⟨g, 1, none⟩ v1).cell? ⟨g, 1, none⟩ = some v1 ∧
      Cur ((w4.setCell ⟨g, 0, none⟩ v0).setCell ⟨g, 1, none⟩ v1) A ∧ Kp A w ((w4.setCell ⟨g, 0, none⟩ v0).setCell ⟨g, 1, none⟩ v1) := by
  obtain ⟨e0, e1⟩ := ((hI.set 0 v0).set 1 v1).cells2
  exact ⟨e0, e1, (hc.set hA 0 v0).set hA 1 v1, (hk.set hg (by omega) 0 v0).set hg (by omega) 1 v1⟩
/-- A result of five cells is stored. -/
theorem fin5 {w w4 : World} {A g : Nat} {e : TypeId} (v0 v1 v2 v3 v4 : Value) (hI : Blk w4 g e 5) (hk : Kp A w w4) (hg : w.heap.size ≤ g) (hc : Cur w4 A) (hA : A < g) :
    (((((w4.setCell ⟨g, 0, none⟩ v0).setCell ⟨g, 1, none⟩ v1).setCell ⟨g, 2, none⟩ v2).setCell ⟨g, 3, none⟩ v3).setCell ⟨g, 4, none⟩ v4).cell? ⟨g, 0, none⟩ = some v0 ∧
    (((((w4.setCell ⟨g, 0, none⟩ v0).setCell ⟨g, 1, none⟩ v1).setCell ⟨g, 2, none⟩ v2).setCell ⟨g, 3, none⟩ v3).setCell ⟨g, 4, none⟩ v4).cell? ⟨g, 1, none⟩ = some v1 ∧
    (((((w4.setCell ⟨g, 0, none⟩ v0).setCell ⟨g, 1, none⟩ v1).setCell ⟨g, 2, none⟩ v2).setCell ⟨g, 3, none⟩ v3).setCell ⟨g, 4, none⟩ v4).cell? ⟨g, 2, none⟩ = some v2 ∧
    (((((w4.setCell ⟨g, 0, none⟩ v0).setCell ⟨g, 1, none⟩ v1).setCell ⟨g, 2, none⟩ v2).setCell ⟨g, 3, none⟩ v3).setCell ⟨g, 4, none⟩ v4).cell? ⟨g, 3, none⟩ = some v3 ∧
    (((((w4.setCell ⟨g, 0, none⟩ v0).setCell ⟨g, 1, none⟩ v1).setCell ⟨g, 2, none⟩ v2).setCell ⟨g, 3, none⟩ v3).setCell ⟨g, 4, none⟩ v4).cell? ⟨g, 4, none⟩ = some v4 ∧
    Cur (((((w4.setCell ⟨g, 0, none⟩ v0).setCell ⟨g, 1, none⟩ v1).setCell ⟨g, 2, none⟩ v2).setCell ⟨g, 3, none⟩ v3).setCell ⟨g, 4, none⟩ v4) A ∧
    Kp A w (((((w4.setCell ⟨g, 0, none⟩ v0).setCell ⟨g, 1, none⟩ v1).setCell ⟨g, 2, none⟩ v2).setCell ⟨g, 3, none⟩ v3).setCell ⟨g, 4, none⟩ v4) ∧
    (∀ f, f ≠ g → (((((w4.setCell ⟨g, 0, none⟩ v0).setCell ⟨g, 1, none⟩ v1).setCell ⟨g, 2, none⟩ v2).setCell ⟨g, 3, none⟩ v3).setCell ⟨g, 4, none⟩ v4).heap[f]? = w4.heap[f]?) ∧
    (((((w4.setCell ⟨g, 0, none⟩ v0).setCell ⟨g, 1, none⟩ v1).setCell ⟨g, 2, none⟩ v2).setCell ⟨g, 3, none⟩ v3).setCell ⟨g, 4, none⟩ v4).heap.size = w4.heap.size := by
  obtain ⟨e0, e1, e2, e3, e4, hb, hh, hs⟩ := out5 hI v0 v1 v2 v3 v4 g (Nat.le_refl _)
  exact ⟨e0, e1, e2, e3, e4, hc.below hb hA, ((((hk.set hg (by omega) 0 v0).set hg (by omega) 1 v1).set hg (by omega) 2 v2).set hg (by omega) 3 v3).set hg (by omega) 4 v4, hh, hs⟩
/-- The same, and a block was laid. -/
theorem fin2a {w w4 : World} {A g : Nat} {e : TypeId} {u0 u1 : Value} (v0 v1 : Value) (o : Obj) (hI : Is w4 g e #[u0, u1]) (hk : Kp A w w4) (hg : w.heap.size ≤ g) (hc : Cur w4 A) (hA : A < g) :
    (((w4.setCell ⟨g, 0, none⟩ v0).setCell ⟨g, 1, none⟩ v1).alloc o).cell? ⟨g, 0, none⟩ = some v0 ∧ (((w4.setCell ⟨g, 0, none⟩ v0).setCell ⟨g, 1, none⟩ v1).alloc o).cell? ⟨g, 1, none⟩ = some v1 ∧
      Cur (((w4.setCell ⟨g, 0, none⟩ v0).setCell ⟨g, 1, none⟩ v1).alloc o) A ∧ Kp A w (((w4.setCell ⟨g, 0, none⟩ v0).setCell ⟨g, 1, none⟩ v1).alloc o) := by
  obtain ⟨e0, e1⟩ := (((hI.set 0 v0).set 1 v1).alloc o).cells2
  have hc2 := (hc.set hA 0 v0).set hA 1 v1
  exact ⟨e0, e1, hc2.below (below1 _ o) hc2.lt, ((hk.set hg (by omega) 0 v0).set hg (by omega) 1 v1).trans (Kp.alloc (Nat.le_of_lt hc2.lt) o)⟩
end Go.Proofs.YtfbodhfdomdkpaaGreatDoor
namespace Go.Proofs.YtfbodhfdomdkpaaGreatDoor
open Go.ChangeShapes Go.WideShapes Go.ChangeAt Go.RowKit Go.Joins
set_option linter.unusedVariables false
set_option maxRecDepth 100000
set_option maxHeartbeats 2000000 in
theorem spec_l1New (a : Option Addr) (cap B : Nat) (l : List Int) (w : World) (hr : Rd EByte 1 w B a cap l) (hB : B ≤ w.heap.size) (hl : l.length ≤ 1048576) :
    Calls Tryz.prog 69 #[.slice a l.length cap] w fun e w' => ∃ A, e = .returned (.pointer (some ⟨A, 0, none⟩)) ∧ w.heap.size ≤ A ∧ Cur w' A ∧ Below w.heap.size w w' := by
  obtain ⟨hlc, hcap⟩ := hr.len
  have HR := Lib.hid hr; clear hr
  go_enter Tryz.func69, Tryz.ntmps69
  go_wp2_with fail
  go_loopw [3, 4] (fun h i wr => ∃ (m : Int) (j : Nat), h = .int .i64 m ∧ 0 ≤ m ∧ m ≤ 1073741823 ∧ i = .int .i64 j ∧ j ≤ l.length ∧ Below w.heap.size w wr) (fun _ i _ => l.length - (intOf i).toNat)
  case atStart => exact ⟨161919 + l.length, 0, by go_num, by omega, by omega, rfl, by omega, Below.refl _ _⟩
  case round =>
    obtain ⟨m, j, rfl, hm0, hm1, rfl, hj, hb⟩ := hrel
    have hbs := hb.size
    by_cases hgo : j < l.length ∧ j < 4000
    · obtain ⟨hg1, hg2⟩ := hgo
      obtain ⟨b, o, rfl, hbl, hcell, hx0, hx1⟩ := (HR.out.below EByte.loc hb hB).byte j hg1
      have hg3 : (j : Int) < 4000 := by omega
      have hg4 : (j : Int) < (l.length : Int) := by omega
      have hlb : b < wr.heap.size := by omega
      generalize l[j] = x at *
      have hb2 := bits_and (m * 137 + x + 11) 1073741823 (by decide) (by decide)
      go_wp2_with fail
      go_roundw
      case rel => exact ⟨_, j + 1, rfl, hb2.1, hb2.2, by go_num, by omega, hb⟩
      case measure => simp [intOf]; omega
    · by_cases hg1 : j < l.length
      · have hg3 : ¬ (j : Int) < 4000 := by omega
        have hg4 : (j : Int) < (l.length : Int) := by omega
        go_wp2_with fail
        go_ret
        refine ⟨wr.heap.size, rfl, hbs, ⟨a, cap, l, 0, m, Is.new wr _ _, ((HR.out.below EByte.loc hb hB).more (by omega)).below EByte.loc (below1 wr _) (Nat.le_refl _), by omega, ⟨by omega, by omega⟩, hl⟩, hb.trans ((below1 wr _).mono hbs)⟩
      · have hg4 : ¬ (j : Int) < (l.length : Int) := by omega
        go_wp2_with fail
        go_ret
        refine ⟨wr.heap.size, rfl, hbs, ⟨a, cap, l, 0, m, Is.new wr _ _, ((HR.out.below EByte.loc hb hB).more (by omega)).below EByte.loc (below1 wr _) (Nat.le_refl _), by omega, ⟨by omega, by omega⟩, hl⟩, hb.trans ((below1 wr _).mono hbs)⟩
set_option maxHeartbeats 2000000 in
theorem spec_l1Byte (A : Nat) (w : World) (hc : Cur w A) : Calls Tryz.prog 136 #[.pointer (some ⟨A, 0, none⟩)] w fun e w' => ∃ x : Nat, e = .returned (.int .i64 (x : Int)) ∧ x ≤ 255 ∧ Cur w' A ∧ Kp A w w' := by
  have hlt := hc.lt
  obtain ⟨a, cap, l, i, h, hI, hR, hi, hh, hl⟩ := hc
  obtain ⟨hlc, hcap⟩ := hR.len
  obtain ⟨c0, c1, c2⟩ := hI.cells3
  have ff := fun j => hI.frozen j
  have HR := Lib.hid hR; clear hR
  have HI := Lib.hid hI; clear hI
  go_enter Tryz.func136, Tryz.ntmps136
  go_wp2_with fail
  have h2b := wrap_i64 (wrap64 (h * 6364136223846793005) + 1442695040888963407)
  generalize (wrap64 (wrap64 (h * 6364136223846793005) + 1442695040888963407)) = h2 at *
  have HI2 := Lib.hid (HI.out.set 2 (.int .i64 h2))
  have hk2 : Kp A w (w.setCell ⟨A, 2, none⟩ (.int .i64 h2)) := ⟨(Below.refl _ _).setCell (p := ⟨A, 2, none⟩) (Nat.le_refl _) _, fun f hf _ => heap_miss _ _ _ _ (by omega) _⟩
  have HK2 := Lib.hid hk2; clear hk2
  generalize (w.setCell ⟨A, 2, none⟩ (.int .i64 h2)) = w2 at *
  obtain ⟨d0, d1, d2⟩ := HI2.out.cells3
  have fg := fun j => HI2.out.frozen j
  go_quiet (fail)
  have hx1 := bits_and (bits BinOp.xor IntKind.i64 (h2 / 8589934592) (h2 / 140737488355328)) 255 (by decide) (by decide)
  generalize bits BinOp.and IntKind.i64 (bits BinOp.xor IntKind.i64 (h2 / 8589934592) (h2 / 140737488355328)) 255 = x1 at *
  by_cases hgo : i < l.length
  · obtain ⟨b, o, rfl, hbl, hcell, hy0, hy1⟩ := (HR.out.below EByte.loc HK2.out.1 (Nat.le_refl _)).byte i hgo
    have hgz : (i : Int) < (l.length : Int) := by omega
    have hlb : b < w2.heap.size := by have := HK2.out.size; omega
    have hlA : A < w2.heap.size := by have := HK2.out.size; omega
    generalize l[i] = y at *
    go_wp2_with fail
    go_quiet (fail)
    go_wp2_with fail
    go_quiet (fail)
    go_wp2_with fail
    have hx2 := bits_and (x1 + y) 255 (by decide) (by decide)
    generalize bits BinOp.and IntKind.i64 (x1 + y) 255 = x2 at *
    obtain ⟨u, rfl⟩ : ∃ u : Nat, x2 = u := ⟨x2.toNat, by omega⟩
    go_ret
    have hh := fun k => Cur.next (w := w2) k HI2.out (HR.out.below EByte.loc HK2.out.1 (Nat.le_refl _)) hgo h2b hl
    exact ⟨u, rfl, by omega, (hh _).1, HK2.out.trans (hh _).2⟩
  · have hgz : ¬ (i : Int) < (l.length : Int) := by omega
    obtain ⟨u, rfl⟩ : ∃ u : Nat, x1 = u := ⟨x1.toNat, by omega⟩
    go_wp2_with fail
    go_quiet (fail)
    go_wp2_with fail
    go_ret
    have hcc := (Cur.stay (w := w2) 0 HI2.out (HR.out.below EByte.loc HK2.out.1 (Nat.le_refl _)) hi h2b hl).1
    exact ⟨u, rfl, by omega, (hcc.below (below_drewN (A + 1) w2 _) (by omega)).below (below_drewN (A + 1) _ _) (by omega), HK2.out.trans ((Kp.drewN _).trans (Kp.drewN _))⟩
theorem emod_le_self (a n : Int) (h : 0 ≤ a) (hn : 0 < n) : a % n ≤ a := by
  have h1 := Int.mul_ediv_add_emod a n
  have h2 : 0 ≤ a / n := Int.ediv_nonneg h (by omega)
  have h3 := Int.mul_nonneg (show 0 ≤ n by omega) h2
  omega
set_option maxHeartbeats 2000000 in
theorem spec_l1Below (A : Nat) (n : Int) (w : World) (hc : Cur w A) (hn : I64 n) : Calls Tryz.prog 77 #[.pointer (some ⟨A, 0, none⟩), .int .i64 n] w fun e w' => ∃ x : Nat, e = .returned (.int .i64 (x : Int)) ∧ ((x : Int) < n ∨ x = 0) ∧ x ≤ 16777215 ∧ Cur w' A ∧ Kp A w w' := by
  have HC := Lib.hid hc; clear hc
  obtain ⟨hn0, hn1⟩ := hn
  by_cases h0 : n ≤ 0
  · go_enter Tryz.func77, Tryz.ntmps77
    go_wp2_with fail
    go_ret
    exact ⟨0, rfl, Or.inr rfl, by omega, HC.out, Beside.refl _ _ _⟩
  by_cases h1 : n ≤ 256
  · go_enter Tryz.func77, Tryz.ntmps77
    go_wp2_with fail
    refine (spec_l1Byte A w HC.out).mono ?_
    rintro e w2 ⟨x, rfl, hx, hc2, hk2⟩
    have hne : (n == 0) = false := by simp; omega
    go_wp2_with fail
    go_ret
    have hm := Int.emod_lt_of_pos (x : Int) (show 0 < n by omega)
    have hm0 := Int.emod_nonneg (x : Int) (show n ≠ 0 by omega)
    obtain ⟨u, hu⟩ : ∃ u : Nat, (x : Int) % n = u := ⟨((x : Int) % n).toNat, by omega⟩
    exact ⟨u, by rw [← hu]; rfl, Or.inl (by omega), by omega, hc2, hk2⟩
  · go_enter Tryz.func77, Tryz.ntmps77
    go_wp2_with fail
    refine (spec_l1Byte A w HC.out).mono ?_
    rintro e w2 ⟨x, rfl, hx, hc2, hk2⟩
    have HC2 := Lib.hid hc2; have HK2 := Lib.hid hk2; clear hc2 hk2
    go_wp2_with fail
    refine (spec_l1Byte A w2 HC2.out).mono ?_
    rintro e w3 ⟨y, rfl, hy, hc3, hk3⟩
    have HC3 := Lib.hid hc3; have HK3 := Lib.hid (HK2.out.trans hk3); clear hc3 hk3
    go_wp2_with fail
    refine (spec_l1Byte A w3 HC3.out).mono ?_
    rintro e w4 ⟨z, rfl, hz, hc4, hk4⟩
    have HC4 := Lib.hid hc4; have HK4 := Lib.hid (HK3.out.trans hk4); clear hc4 hk4
    go_wp2_with fail
    go_ret
    have hm := Int.emod_lt_of_pos ((x : Int) * 65536 + y * 256 + z) (show 0 < n by omega)
    have hm0 := Int.emod_nonneg ((x : Int) * 65536 + y * 256 + z) (show n ≠ 0 by omega)
    have hm1 := emod_le_self ((x : Int) * 65536 + y * 256 + z) n (by omega) (by omega)
    obtain ⟨u, hu⟩ : ∃ u : Nat, ((x : Int) * 65536 + y * 256 + z) % n = u := ⟨(((x : Int) * 65536 + y * 256 + z) % n).toNat, by omega⟩
    exact ⟨u, by rw [← hu]; rfl, Or.inl (by omega), by omega, HC4.out, HK4.out⟩
set_option maxHeartbeats 2000000 in
theorem spec_l1Once (A : Nat) (n : Int) (w : World) (hc : Cur w A) (hn : I64 n) : Calls Tryz.prog 76 #[.pointer (some ⟨A, 0, none⟩), .int .i64 n] w fun e w' => ∃ b : Bool, e = .returned (.bool b) ∧ Cur w' A ∧ Kp A w w' := by
  have HC := Lib.hid hc; clear hc
  go_enter Tryz.func76, Tryz.ntmps76
  go_wp2_with fail
  refine (spec_l1Below A n w HC.out hn).mono ?_
  rintro e w2 ⟨x, rfl, hx, hx2, hc2, hk2⟩
  go_wp2_with fail
  go_ret
  exact ⟨_, rfl, hc2, hk2⟩
set_option maxHeartbeats 2000000 in
theorem spec_l1Int (A : Nat) (a : Option Addr) (cap : Nat) (l : List Int) (w : World) (hc : Cur w A) (hr : Rx EInt 1 w A a cap l) (hl : 0 < l.length) (hm : l.length ≤ 1000) :
    Calls Tryz.prog 135 #[.pointer (some ⟨A, 0, none⟩), .slice a l.length cap] w fun e w' => ∃ x, x ∈ l ∧ I64 x ∧ e = .returned (.int .i64 x) ∧ Cur w' A ∧ Kp A w w' := by
  have HC := Lib.hid hc; clear hc
  obtain ⟨hlc, hcap⟩ := hr.rd.len
  go_enter Tryz.func135, Tryz.ntmps135
  go_wp2_with fail
  refine (spec_l1Below A _ w HC.out ⟨by omega, by omega⟩).mono ?_
  rintro e w2 ⟨x, rfl, hx, hx2, hc2, hk2⟩
  have hxl : x < l.length := by omega
  have hxz : (x : Int) < (l.length : Int) := by omega
  obtain ⟨b, o, F, rfl, hb1, hb2, ⟨_, hcell, hi⟩, _⟩ := (hr.kp EInt.loc hk2).get x hxl
  rw [Nat.mul_one] at hcell
  go_wp2_with fail
  go_ret
  exact ⟨l[x], List.getElem_mem hxl, hi, rfl, hc2, hk2⟩
set_option maxHeartbeats 2000000 in
theorem spec_l1Str (A : Nat) (a : Option Addr) (cap : Nat) (l : List ByteArray) (w : World) (hc : Cur w A) (hr : Rx EStx 1 w A a cap l) (hl : 0 < l.length) (hm : l.length ≤ 1000) :
    Calls Tryz.prog 148 #[.pointer (some ⟨A, 0, none⟩), .slice a l.length cap] w fun e w' => ∃ x, x ∈ l ∧ e = .returned (.string x) ∧ Cur w' A ∧ Kp A w w' := by
  have HC := Lib.hid hc; clear hc
  obtain ⟨hlc, hcap⟩ := hr.rd.len
  go_enter Tryz.func148, Tryz.ntmps148
  go_wp2_with fail
  refine (spec_l1Below A _ w HC.out ⟨by omega, by omega⟩).mono ?_
  rintro e w2 ⟨x, rfl, hx, hx2, hc2, hk2⟩
  have hxl : x < l.length := by omega
  have hxz : (x : Int) < (l.length : Int) := by omega
  obtain ⟨b, o, F, rfl, hb1, hb2, ⟨_, hcell⟩, _⟩ := (hr.kp EStx.loc hk2).get x hxl
  rw [Nat.mul_one] at hcell
  go_wp2_with fail
  go_ret
  exact ⟨l[x], List.getElem_mem hxl, rfl, hc2, hk2⟩
/-- The list is a literal, just laid. -/
theorem spec_l1IntL (A : Nat) (l : List Int) (e : TypeId) (w : World) (hc : Cur w A) (hx : ∀ x ∈ l, I64 x) (hl : 0 < l.length) (hm : l.length ≤ 1000) :
    Calls Tryz.prog 135 #[.pointer (some ⟨A, 0, none⟩), .slice (some ⟨w.heap.size, 0, none⟩) l.length l.length] (w.alloc (.cells (l.map (Value.int .i64)).toArray e)) fun e w' => ∃ x, x ∈ l ∧ I64 x ∧ e = .returned (.int .i64 x) ∧ Cur w' A ∧ Kp A w w' := by
  have hk := Kp.alloc (w := w) (Nat.le_of_lt hc.lt) (.cells (l.map (Value.int .i64)).toArray e)
  refine (spec_l1Int A _ _ l _ (hc.below (below1 w _) hc.lt) (ints_rx l (Is.new w _ e) hx (by have := hc.lt; omega) hl (by unfold maxLen; omega)) hl hm).mono ?_
  rintro ee w2 ⟨x, h1, h2, h3, h4, h5⟩
  exact ⟨x, h1, h2, h3, h4, hk.trans h5⟩
theorem spec_l1StrL (A : Nat) (l : List ByteArray) (e : TypeId) (w : World) (hc : Cur w A) (hl : 0 < l.length) (hm : l.length ≤ 1000) :
    Calls Tryz.prog 148 #[.pointer (some ⟨A, 0, none⟩), .slice (some ⟨w.heap.size, 0, none⟩) l.length l.length] (w.alloc (.cells (l.map Value.string).toArray e)) fun e w' => ∃ x, x ∈ l ∧ e = .returned (.string x) ∧ Cur w' A ∧ Kp A w w' := by
  have hk := Kp.alloc (w := w) (Nat.le_of_lt hc.lt) (.cells (l.map Value.string).toArray e)
  refine (spec_l1Str A _ _ l _ (hc.below (below1 w _) hc.lt) (strs_rx l (Is.new w _ e) (by have := hc.lt; omega) hl (by unfold maxLen; omega)) hl hm).mono ?_
  rintro ee w2 ⟨x, h1, h3, h4, h5⟩
  exact ⟨x, h1, h3, h4, hk.trans h5⟩
end Go.Proofs.YtfbodhfdomdkpaaGreatDoor
