/- Texts of this proof, merged: Lss4, Lss5. No condition beyond what each theorem states. -/
import Derived.Test.YtfbodhfdomdkpaaGreatDoorRows
import Derived.WalkKit
import Derived.ProofKit
import Derived.OpenShut
import Derived.Handy
import Derived.Lib.Hide
import Derived.Lib.SmallJoins
import Derived.Deep.AppendLies
import Derived.Deep.AppendSrc
import Derived.Deep.Upon
import Derived.Lib.AppendZeros
import Derived.Deep.RegionHeld3
import Derived.Deep.QuietTactic
import Derived.BigQuiet
import Derived.Deep.DeepCutAuto
import Derived.Test.YtfbodhfdomdkpaaGreatDoorZG1
import Derived.Test.YtfbodhfdomdkpaaGreatDoorZG2
import Derived.Test.YtfbodhfdomdkpaaGreatDoorZG8
import Derived.Test.YtfbodhfdomdkpaaGreatDoorZG3
import Derived.Test.YtfbodhfdomdkpaaGreatDoorZG4
import Derived.Test.YtfbodhfdomdkpaaGreatDoorZG7
import Derived.Test.YtfbodhfdomdkpaaGreatDoorZG15
import Derived.Test.YtfbodhfdomdkpaaGreatDoorZG17
import Derived.Test.YtfbodhfdomdkpaaGreatDoorZG18
import Derived.Test.YtfbodhfdomdkpaaGreatDoorZG22
import Derived.Test.YtfbodhfdomdkpaaGreatDoorZG23
import Derived.Test.YtfbodhfdomdkpaaGreatDoorZG24
set_option linter.unusedSimpArgs false
set_option linter.unnecessarySimpa false
namespace Go.Proofs.YtfbodhfdomdkpaaGreatDoor
open Go.ChangeShapes Go.WideShapes Go.ChangeAt Go.RowKit Go.Joins
set_option linter.unusedVariables false
set_option maxRecDepth 100000
/-! ### A drawn loss, and a drawn list of losses -/
theorem AppL.out0 {α : Type} {E : World → Nat → Nat → α → List Nat → Prop} {n : Nat} {e : TypeId} (hE : Elem E n) {w w' : World} {rlo cap : Nat} {a : Option Addr} {l : List α} (h : AppL E n e w rlo a cap l []) (hw : ∀ f, rlo ≤ f → f < w.heap.size → w'.heap[f]? = w.heap[f]?) : AppL E n e w' rlo a cap l [] := by
  rcases h with h | ⟨g, cur, ha, h1, h3, h4, h5, h6, h7, h8⟩
  · exact Or.inl h
  · have hg : g < w.heap.size := (Array.getElem?_eq_some_iff.1 h3).1
    have hgb := hw g h1 hg
    exact Or.inr ⟨g, cur, ha, h1, hgb.trans h3, h4, h5, h6, h7.agree hE.loc l (Cells.of_block hgb _ _) (by simp [Agree]), h8⟩
set_option maxHeartbeats 8000000 in
theorem spec_l18Loss (A : Nat) (t : T) (a : Option Addr) (cap : Nat) (w : World) (hc : Cur w A) (hv : Rn TV 5 w (A + 1) a cap t.l) (hwf : Wf t) (hct : T.count t ≤ 9000) :
    Calls Tryz.prog 75 #[.pointer (some ⟨A, 0, none⟩), .agg (cV t a cap)] w fun e w' => ∃ (x : Lo) (a' : Option Addr) (c' : Nat), e = .returned (.agg (cL x a' c')) ∧ I64 x.1 ∧ x.2.length ≤ T.depth t + 1 ∧ AppL EStep 2 79 w' w.heap.size a' c' x.2 [] ∧ Cur w' A ∧ Kp A w w' := by
  have hlA := hc.lt
  have HWF := Lib.hid hwf
  go_enter Tryz.func75, Tryz.ntmps75
  go_upto_region 1 with (fail)
  generalize hW : (w.alloc (Obj.cells (cV t a cap) 36)).alloc (Obj.cells #[Value.int .i64 0, Value.slice none 0 0] 29) = W0
  have hk0 : Kp A w W0 := by subst hW; exact (Kp.alloc (Nat.le_of_lt hlA) _).trans (Kp.alloc (by simp; omega) _)
  have HV := Lib.hid (show Is W0 w.heap.size 36 (cV t a cap) from by subst hW; exact (Is.new _ _ _).alloc _)
  have HI := Lib.hid (show Is W0 (w.heap.size + 1) 29 #[.int .i64 0, .slice none 0 0] from by subst hW; exact Is.new2 _ _ _ _)
  have HC := Lib.hid (show Cur W0 A from by subst hW; exact hc.below (below2 _ _ _) hlA)
  have hs0 : w.heap.size + 2 ≤ W0.heap.size := by subst hW; simp
  clear hW
  have HK := Lib.hid hk0
  have HRN := Lib.hid (hv.kp TV.elem.loc hk0 (by omega))
  clear hc hv hk0 hwf
  obtain ⟨z0, z1, z2, z3, z4⟩ := HV.out.cells5
  have ff := fun i => HV.out.frozen i; have lg := HV.out.lt
  have HII := Lib.hid (show Is (W0.alloc (.cells (([1, 2, 3, 4, 5, 6, 7, 8, 9, 0, 10] : List Int).map (Value.int .i64)).toArray 3)).drew W0.heap.size 3 (([1, 2, 3, 4, 5, 6, 7, 8, 9, 0, 10] : List Int).map (Value.int .i64)).toArray from Is.new W0 _ _)
  have HRX := Lib.hid (ints_rx (A := A) [1, 2, 3, 4, 5, 6, 7, 8, 9, 0, 10] HII.out (by decide) (by omega) (by simp) (by simp [maxLen]))
  have HCI := Lib.hid (show Cur (W0.alloc (.cells (([1, 2, 3, 4, 5, 6, 7, 8, 9, 0, 10] : List Int).map (Value.int .i64)).toArray 3)).drew A from HC.out.below ((below1 W0 _).drew) (by omega))
  have HKI := Lib.hid (show Kp A W0 (W0.alloc (.cells (([1, 2, 3, 4, 5, 6, 7, 8, 9, 0, 10] : List Int).map (Value.int .i64)).toArray 3)).drew from Kp.of_below ((below1 W0 _).drew) (Nat.le_refl _) (by omega))
  refine wp_region_held_drew (S := fun _ => True) (by kernel_rfl) trivial (fun hHeld => ?_)
  refine wpAnyH_take (i := 0) (oi := ⟨some 5, _, _, _, _, _⟩) (v := ?_) rfl (by kernel_rfl) (by kernel_rfl) (by kernel_rfl) (fun _ _ _ h => h) (Or.inl ⟨by rfl, ?_⟩) (by assumption) ?_
  rotate_left 1
  · (intro w hSw; (try dsimp only at hSw); go_simp; try (with_reducible rfl))
  try simp only [Act.put, List.setIfInBounds_toArray, List.set_cons_zero, List.set_cons_succ]
  refine wpAnyH_take (i := 3) (oi := ⟨some 8, _, _, _, _, _⟩) (v := ?_) rfl (by kernel_rfl) (by kernel_rfl) (by kernel_rfl) (fun _ _ _ h => h) (Or.inl ⟨by rfl, ?_⟩) (by assumption) ?_
  rotate_left 1
  · (intro w hSw; (try dsimp only at hSw); go_simp; try (with_reducible rfl))
  try simp only [Act.put, List.setIfInBounds_toArray, List.set_cons_zero, List.set_cons_succ]
  refine wpAnyH_ready (rs := [1, 4]) (by kernel_rfl) (by simp) ?_
  refine AllReadyH.cons (o := ⟨some 6, _, _, _, _, _⟩) rfl (fun K hK => ?_) ?_
  focus (go_simp; go_wp2_with fail; refine hK.out _ _ trivial (fun hHeld => ?_); clear hK K; try simp only [Act.put, List.setIfInBounds_toArray, List.set_cons_zero, List.set_cons_succ])
  refine wpAnyH_ready (rs := [2, 4]) (by kernel_rfl) (by simp) ?_
  refine AllReadyH.cons (o := ⟨some 7, _, _, _, _, _⟩) rfl (fun K hK => ?_) ?_
  focus (go_simp; (first | (go_at_call 135; refine (spec_l1Int A _ _ [1, 2, 3, 4, 5, 6, 7, 8, 9, 0, 10] _ HCI.out HRX.out (by simp) (by simp)).mono ?_; rintro e w3 ⟨y, _, hy, rfl, hc3, hk3⟩; have HY := Lib.hid hy; have HC3 := Lib.hid hc3; have HK3 := Lib.hid (show Kp A W0 w3 from HKI.out.trans hk3); have hv3 := Kp.is HK3.out HV.out (by omega); have HI3 := Lib.hid (Kp.is HK3.out HI.out (by omega)); have hs3 := HK3.out.1.size; have HRN3 := Lib.hid (HRN.out.kp TV.elem.loc HK3.out (by omega)); obtain ⟨v0, v1, v2, v3, v4⟩ := hv3.cells5; have fv := (fun i => hv3.frozen i); have lv := hv3.lt; clear hc3 hk3 hy) | (go_at_call 78; refine (spec_l8Path A t a cap w3 HC3.out HRN3.out HWF.out hct).mono ?_; rintro e w4 ⟨q, a4, c4, rfl, hq, happ4, hc4, hk4⟩; have HI4 := Lib.hid (hk4.is HI3.out (by omega)); obtain ⟨u0, u1⟩ := HI4.out.cells2; have fu := (fun i => HI4.out.frozen i); have lu := HI4.out.lt; have HK4 := Lib.hid (show Kp A w w4 from (HK.out.trans HK3.out).trans hk4); have HA4 := Lib.hid happ4; have HC4 := Lib.hid hc4; clear hc4 hk4 happ4)); go_wp2_with fail; refine hK.out _ _ trivial (fun hHeld => ?_); clear hK K; try simp only [Act.put, List.setIfInBounds_toArray, List.set_cons_zero, List.set_cons_succ])
  refine wpAnyH_ready (rs := [4]) (by kernel_rfl) (by simp) ?_
  refine AllReadyH.cons (o := ⟨some 9, _, _, _, _, _⟩) rfl (fun K hK => ?_) AllReadyH.nil
  focus (go_simp; go_wp2_with fail; refine hK.out _ _ trivial (fun hHeld => ?_); clear hK K; try simp only [Act.put, List.setIfInBounds_toArray, List.set_cons_zero, List.set_cons_succ])
  refine wpAnyH_ready (rs := [5]) (by kernel_rfl) (by simp) ?_
  refine AllReadyH.cons (o := ⟨some 10, _, _, _, _, _⟩) rfl (fun K hK => ?_) AllReadyH.nil
  focus (go_simp; (first | (go_at_call 135; refine (spec_l1Int A _ _ [1, 2, 3, 4, 5, 6, 7, 8, 9, 0, 10] _ HCI.out HRX.out (by simp) (by simp)).mono ?_; rintro e w3 ⟨y, _, hy, rfl, hc3, hk3⟩; have HY := Lib.hid hy; have HC3 := Lib.hid hc3; have HK3 := Lib.hid (show Kp A W0 w3 from HKI.out.trans hk3); have hv3 := Kp.is HK3.out HV.out (by omega); have HI3 := Lib.hid (Kp.is HK3.out HI.out (by omega)); have hs3 := HK3.out.1.size; have HRN3 := Lib.hid (HRN.out.kp TV.elem.loc HK3.out (by omega)); obtain ⟨v0, v1, v2, v3, v4⟩ := hv3.cells5; have fv := (fun i => hv3.frozen i); have lv := hv3.lt; clear hc3 hk3 hy) | (go_at_call 78; refine (spec_l8Path A t a cap w3 HC3.out HRN3.out HWF.out hct).mono ?_; rintro e w4 ⟨q, a4, c4, rfl, hq, happ4, hc4, hk4⟩; have HI4 := Lib.hid (hk4.is HI3.out (by omega)); obtain ⟨u0, u1⟩ := HI4.out.cells2; have fu := (fun i => HI4.out.frozen i); have lu := HI4.out.lt; have HK4 := Lib.hid (show Kp A w w4 from (HK.out.trans HK3.out).trans hk4); have HA4 := Lib.hid happ4; have HC4 := Lib.hid hc4; clear hc4 hk4 happ4)); go_wp2_with fail; refine hK.out _ _ trivial (fun hHeld => ?_); clear hK K; try simp only [Act.put, List.setIfInBounds_toArray, List.set_cons_zero, List.set_cons_succ])
  refine wpAnyH_take (i := 6) (oi := ⟨some 11, _, _, _, _, _⟩) (v := ?_) rfl (by kernel_rfl) (by kernel_rfl) (by kernel_rfl) (fun _ _ _ h => h) (Or.inl ⟨by rfl, ?_⟩) (by assumption) ?_
  rotate_left 1
  · (intro w hSw; (try dsimp only at hSw); go_simp; try (with_reducible rfl))
  try simp only [Act.put, List.setIfInBounds_toArray, List.set_cons_zero, List.set_cons_succ]
  refine wpAnyH_ready (rs := [7]) (by kernel_rfl) (by simp) ?_
  refine AllReadyH.cons (o := ⟨none, _, _, _, _, _⟩) rfl (fun K hK => ?_) AllReadyH.nil
  focus (go_simp; go_wp2_with fail; refine hK.out _ _ trivial (fun hHeld => ?_); clear hK K; try simp only [Act.put])
  refine wpAnyH_done (by kernel_rfl) ?_ _
  rotate_left 1
  refine AllReadyH.cons (o := ⟨some 9, _, _, _, _, _⟩) rfl (fun K hK => ?_) AllReadyH.nil
  focus (go_simp; go_wp2_with fail; refine hK.out _ _ trivial (fun hHeld => ?_); clear hK K; try simp only [Act.put, List.setIfInBounds_toArray, List.set_cons_zero, List.set_cons_succ])
  refine wpAnyH_ready (rs := [2]) (by kernel_rfl) (by simp) ?_
  refine AllReadyH.cons (o := ⟨some 7, _, _, _, _, _⟩) rfl (fun K hK => ?_) AllReadyH.nil
  focus (go_simp; (first | (go_at_call 135; refine (spec_l1Int A _ _ [1, 2, 3, 4, 5, 6, 7, 8, 9, 0, 10] _ HCI.out HRX.out (by simp) (by simp)).mono ?_; rintro e w3 ⟨y, _, hy, rfl, hc3, hk3⟩; have HY := Lib.hid hy; have HC3 := Lib.hid hc3; have HK3 := Lib.hid (show Kp A W0 w3 from HKI.out.trans hk3); have hv3 := Kp.is HK3.out HV.out (by omega); have HI3 := Lib.hid (Kp.is HK3.out HI.out (by omega)); have hs3 := HK3.out.1.size; have HRN3 := Lib.hid (HRN.out.kp TV.elem.loc HK3.out (by omega)); obtain ⟨v0, v1, v2, v3, v4⟩ := hv3.cells5; have fv := (fun i => hv3.frozen i); have lv := hv3.lt; clear hc3 hk3 hy) | (go_at_call 78; refine (spec_l8Path A t a cap w3 HC3.out HRN3.out HWF.out hct).mono ?_; rintro e w4 ⟨q, a4, c4, rfl, hq, happ4, hc4, hk4⟩; have HI4 := Lib.hid (hk4.is HI3.out (by omega)); obtain ⟨u0, u1⟩ := HI4.out.cells2; have fu := (fun i => HI4.out.frozen i); have lu := HI4.out.lt; have HK4 := Lib.hid (show Kp A w w4 from (HK.out.trans HK3.out).trans hk4); have HA4 := Lib.hid happ4; have HC4 := Lib.hid hc4; clear hc4 hk4 happ4)); go_wp2_with fail; refine hK.out _ _ trivial (fun hHeld => ?_); clear hK K; try simp only [Act.put, List.setIfInBounds_toArray, List.set_cons_zero, List.set_cons_succ])
  refine wpAnyH_ready (rs := [5]) (by kernel_rfl) (by simp) ?_
  refine AllReadyH.cons (o := ⟨some 10, _, _, _, _, _⟩) rfl (fun K hK => ?_) AllReadyH.nil
  focus (go_simp; (first | (go_at_call 135; refine (spec_l1Int A _ _ [1, 2, 3, 4, 5, 6, 7, 8, 9, 0, 10] _ HCI.out HRX.out (by simp) (by simp)).mono ?_; rintro e w3 ⟨y, _, hy, rfl, hc3, hk3⟩; have HY := Lib.hid hy; have HC3 := Lib.hid hc3; have HK3 := Lib.hid (show Kp A W0 w3 from HKI.out.trans hk3); have hv3 := Kp.is HK3.out HV.out (by omega); have HI3 := Lib.hid (Kp.is HK3.out HI.out (by omega)); have hs3 := HK3.out.1.size; have HRN3 := Lib.hid (HRN.out.kp TV.elem.loc HK3.out (by omega)); obtain ⟨v0, v1, v2, v3, v4⟩ := hv3.cells5; have fv := (fun i => hv3.frozen i); have lv := hv3.lt; clear hc3 hk3 hy) | (go_at_call 78; refine (spec_l8Path A t a cap w3 HC3.out HRN3.out HWF.out hct).mono ?_; rintro e w4 ⟨q, a4, c4, rfl, hq, happ4, hc4, hk4⟩; have HI4 := Lib.hid (hk4.is HI3.out (by omega)); obtain ⟨u0, u1⟩ := HI4.out.cells2; have fu := (fun i => HI4.out.frozen i); have lu := HI4.out.lt; have HK4 := Lib.hid (show Kp A w w4 from (HK.out.trans HK3.out).trans hk4); have HA4 := Lib.hid happ4; have HC4 := Lib.hid hc4; clear hc4 hk4 happ4)); go_wp2_with fail; refine hK.out _ _ trivial (fun hHeld => ?_); clear hK K; try simp only [Act.put, List.setIfInBounds_toArray, List.set_cons_zero, List.set_cons_succ])
  refine wpAnyH_take (i := 6) (oi := ⟨some 11, _, _, _, _, _⟩) (v := ?_) rfl (by kernel_rfl) (by kernel_rfl) (by kernel_rfl) (fun _ _ _ h => h) (Or.inl ⟨by rfl, ?_⟩) (by assumption) ?_
  rotate_left 1
  · (intro w hSw; (try dsimp only at hSw); go_simp; try (with_reducible rfl))
  try simp only [Act.put, List.setIfInBounds_toArray, List.set_cons_zero, List.set_cons_succ]
  refine wpAnyH_ready (rs := [7]) (by kernel_rfl) (by simp) ?_
  refine AllReadyH.cons (o := ⟨none, _, _, _, _, _⟩) rfl (fun K hK => ?_) AllReadyH.nil
  focus (go_simp; go_wp2_with fail; refine hK.out _ _ trivial (fun hHeld => ?_); clear hK K; try simp only [Act.put])
  refine wpAnyH_done (by kernel_rfl) ?_ _
  rotate_left 1
  refine AllReadyH.cons (o := ⟨some 9, _, _, _, _, _⟩) rfl (fun K hK => ?_) AllReadyH.nil
  focus (go_simp; go_wp2_with fail; refine hK.out _ _ trivial (fun hHeld => ?_); clear hK K; try simp only [Act.put, List.setIfInBounds_toArray, List.set_cons_zero, List.set_cons_succ])
  refine wpAnyH_ready (rs := [1]) (by kernel_rfl) (by simp) ?_
  refine AllReadyH.cons (o := ⟨some 6, _, _, _, _, _⟩) rfl (fun K hK => ?_) AllReadyH.nil
  focus (go_simp; go_wp2_with fail; refine hK.out _ _ trivial (fun hHeld => ?_); clear hK K; try simp only [Act.put, List.setIfInBounds_toArray, List.set_cons_zero, List.set_cons_succ])
  refine wpAnyH_ready (rs := [2]) (by kernel_rfl) (by simp) ?_
  refine AllReadyH.cons (o := ⟨some 7, _, _, _, _, _⟩) rfl (fun K hK => ?_) AllReadyH.nil
  focus (go_simp; (first | (go_at_call 135; refine (spec_l1Int A _ _ [1, 2, 3, 4, 5, 6, 7, 8, 9, 0, 10] _ HCI.out HRX.out (by simp) (by simp)).mono ?_; rintro e w3 ⟨y, _, hy, rfl, hc3, hk3⟩; have HY := Lib.hid hy; have HC3 := Lib.hid hc3; have HK3 := Lib.hid (show Kp A W0 w3 from HKI.out.trans hk3); have hv3 := Kp.is HK3.out HV.out (by omega); have HI3 := Lib.hid (Kp.is HK3.out HI.out (by omega)); have hs3 := HK3.out.1.size; have HRN3 := Lib.hid (HRN.out.kp TV.elem.loc HK3.out (by omega)); obtain ⟨v0, v1, v2, v3, v4⟩ := hv3.cells5; have fv := (fun i => hv3.frozen i); have lv := hv3.lt; clear hc3 hk3 hy) | (go_at_call 78; refine (spec_l8Path A t a cap w3 HC3.out HRN3.out HWF.out hct).mono ?_; rintro e w4 ⟨q, a4, c4, rfl, hq, happ4, hc4, hk4⟩; have HI4 := Lib.hid (hk4.is HI3.out (by omega)); obtain ⟨u0, u1⟩ := HI4.out.cells2; have fu := (fun i => HI4.out.frozen i); have lu := HI4.out.lt; have HK4 := Lib.hid (show Kp A w w4 from (HK.out.trans HK3.out).trans hk4); have HA4 := Lib.hid happ4; have HC4 := Lib.hid hc4; clear hc4 hk4 happ4)); go_wp2_with fail; refine hK.out _ _ trivial (fun hHeld => ?_); clear hK K; try simp only [Act.put, List.setIfInBounds_toArray, List.set_cons_zero, List.set_cons_succ])
  refine wpAnyH_ready (rs := [5]) (by kernel_rfl) (by simp) ?_
  refine AllReadyH.cons (o := ⟨some 10, _, _, _, _, _⟩) rfl (fun K hK => ?_) AllReadyH.nil
  focus (go_simp; (first | (go_at_call 135; refine (spec_l1Int A _ _ [1, 2, 3, 4, 5, 6, 7, 8, 9, 0, 10] _ HCI.out HRX.out (by simp) (by simp)).mono ?_; rintro e w3 ⟨y, _, hy, rfl, hc3, hk3⟩; have HY := Lib.hid hy; have HC3 := Lib.hid hc3; have HK3 := Lib.hid (show Kp A W0 w3 from HKI.out.trans hk3); have hv3 := Kp.is HK3.out HV.out (by omega); have HI3 := Lib.hid (Kp.is HK3.out HI.out (by omega)); have hs3 := HK3.out.1.size; have HRN3 := Lib.hid (HRN.out.kp TV.elem.loc HK3.out (by omega)); obtain ⟨v0, v1, v2, v3, v4⟩ := hv3.cells5; have fv := (fun i => hv3.frozen i); have lv := hv3.lt; clear hc3 hk3 hy) | (go_at_call 78; refine (spec_l8Path A t a cap w3 HC3.out HRN3.out HWF.out hct).mono ?_; rintro e w4 ⟨q, a4, c4, rfl, hq, happ4, hc4, hk4⟩; have HI4 := Lib.hid (hk4.is HI3.out (by omega)); obtain ⟨u0, u1⟩ := HI4.out.cells2; have fu := (fun i => HI4.out.frozen i); have lu := HI4.out.lt; have HK4 := Lib.hid (show Kp A w w4 from (HK.out.trans HK3.out).trans hk4); have HA4 := Lib.hid happ4; have HC4 := Lib.hid hc4; clear hc4 hk4 happ4)); go_wp2_with fail; refine hK.out _ _ trivial (fun hHeld => ?_); clear hK K; try simp only [Act.put, List.setIfInBounds_toArray, List.set_cons_zero, List.set_cons_succ])
  refine wpAnyH_take (i := 6) (oi := ⟨some 11, _, _, _, _, _⟩) (v := ?_) rfl (by kernel_rfl) (by kernel_rfl) (by kernel_rfl) (fun _ _ _ h => h) (Or.inl ⟨by rfl, ?_⟩) (by assumption) ?_
  rotate_left 1
  · (intro w hSw; (try dsimp only at hSw); go_simp; try (with_reducible rfl))
  try simp only [Act.put, List.setIfInBounds_toArray, List.set_cons_zero, List.set_cons_succ]
  refine wpAnyH_ready (rs := [7]) (by kernel_rfl) (by simp) ?_
  refine AllReadyH.cons (o := ⟨none, _, _, _, _, _⟩) rfl (fun K hK => ?_) AllReadyH.nil
  focus (go_simp; go_wp2_with fail; refine hK.out _ _ trivial (fun hHeld => ?_); clear hK K; try simp only [Act.put])
  refine wpAnyH_done (by kernel_rfl) ?_ _
  all_goals
    go_wp2_with fail
    obtain ⟨e0, e1, hcf, hkf⟩ := fin2 (.int .i64 y) (.slice a4 q.length c4) HI4.out HK4.out (by omega) HC4.out (by omega)
    refine bodyPost_ret (v := .agg #[.int .i64 y, .slice a4 q.length c4]) (by simp [results, Tryz.results75, go_sem, e0, e1]) rfl ⟨(y, q), a4, c4, rfl, HY.out, hq, (HA4.out.out0 EStep.elem (fun f h1 _ => by rw [heap_miss _ _ _ _ (by omega), heap_miss _ _ _ _ (by omega)])).lower (by omega), hcf, hkf⟩
end Go.Proofs.YtfbodhfdomdkpaaGreatDoor
namespace Go.Proofs.YtfbodhfdomdkpaaGreatDoor
open Go.ChangeShapes Go.WideShapes Go.ChangeAt Go.RowKit Go.Joins
set_option linter.unusedVariables false
set_option maxRecDepth 100000
/-- The first loss of a row gets another path. -/
theorem App.put0 {w w' : World} {lo hi cap : Nat} {a : Option Addr} {x : Lo} {r : List Lo} {q : List St} {a7 : Option Addr} {c7 m : Nat} (h : App ELoss 2 29 True w lo hi a cap (x :: r)) (hh : hi ≤ w.heap.size) (hlo : lo ≤ m)
    (hq : ∃ G, Sl EStep 2 w' a7 c7 q G ∧ ∀ f ∈ G, m ≤ f ∧ f < w'.heap.size) (hsz : w.heap.size ≤ w'.heap.size) (g : Nat) (hg : a = Option.some ⟨g, 0, none⟩)
    (hb : ∀ f, f < w.heap.size → f ≠ g → w'.heap[f]? = w.heap[f]?) (hc : ∀ i, i ≠ 1 → w'.cell? ⟨g, i, none⟩ = w.cell? ⟨g, i, none⟩) (hc1 : w'.cell? ⟨g, 1, none⟩ = Option.some (.slice a7 q.length c7)) : Rn ELoss 2 w' lo a cap ((x.1, q) :: r) := by
  subst hg
  rcases h with ⟨h, _⟩ | ⟨g', cur, F, ha, k1, k2, h3, h4, h5, h6, h7, h8, h9, h10⟩
  · cases h
  · injection ha with ha; injection ha with ha; subst ha
    obtain ⟨F1, F2, rfl, hx, hr⟩ := h7
    obtain ⟨G, hs, hG⟩ := hq
    obtain ⟨e1, e2, _⟩ := hx
    have hF2 : ∀ f ∈ F2, w'.heap[f]? = w.heap[f]? := fun f hf => hb f (by have := (h10 f (by simp [hf])).2.1; omega) (fun e => h8 (by rw [← e]; simp [hf]))
    refine ⟨g :: (G ++ F2), ⟨by simpa using h4, h5, fun h => by simp at h, fun _ => ⟨g, 0, G ++ F2, rfl, rfl, G, F2, rfl, ⟨(hc 0 (by omega)).trans e1, e2, a7, c7, hc1, hs⟩, hr.agree ELoss.loc r (fun i h1 h2 => hc i (by omega)) hF2⟩⟩, ?_⟩
    intro f hf
    rcases List.mem_cons.1 hf with rfl | hf
    · exact ⟨k1, by omega⟩
    · rcases List.mem_append.1 hf with hf | hf
      · exact ⟨by have := (hG f hf).1; omega, (hG f hf).2⟩
      · have := h10 f (by simp [hf]); exact ⟨this.1, by omega⟩
theorem App.cells2 {w : World} {lo hi cap : Nat} {a : Option Addr} {L : List Lo} (h : App ELoss 2 29 True w lo hi a cap L) (hh : hi ≤ w.heap.size) (h1 : 1 < L.length) :
    ∃ g a1 c1 e, a = Option.some ⟨g, 0, none⟩ ∧ lo ≤ g ∧ g < hi ∧ Blk w g e (cap * 2) ∧ w.cell? ⟨g, 3, none⟩ = Option.some (.slice a1 L[1].2.length c1) ∧ (∃ v, w.cell? ⟨g, 1, none⟩ = Option.some v) ∧ Rd EStep 2 w w.heap.size a1 c1 L[1].2 := by
  rcases h with ⟨_, _, rfl⟩ | ⟨g, cur, F, rfl, k1, k2, h3, h4, h5, h6, h7, h8, h9, h10⟩
  · simp at h1
  · obtain ⟨F2, ⟨_, _, a1, c1, e1, e2⟩, hF⟩ := h7.get 1 h1
    exact ⟨g, a1, c1, 29, rfl, k1, k2, ⟨cur, h3, h6⟩, by simpa using e1, (by obtain ⟨F3, ⟨_, _, a9, c9, e9, _⟩, _⟩ := h7.get 0 (by omega); exact ⟨_, by simpa using e9⟩), ⟨F2, e2, fun f hf => by have := (h10 f (hF f hf)).2.1; omega⟩⟩
set_option maxHeartbeats 16000000 in
theorem spec_l18List (A : Nat) (t : T) (a : Option Addr) (cap : Nat) (w : World) (hc : Cur w A) (hv : Rn TV 5 w (A + 1) a cap t.l) (hwf : Wf t) (hct : T.count t ≤ 9000) :
    Calls Tryz.prog 70 #[.pointer (some ⟨A, 0, none⟩), .agg (cV t a cap)] w fun e w' => ∃ (L : List Lo) (a' : Option Addr) (c' : Nat), e = .returned (.slice a' L.length c') ∧ L.length ≤ 4 ∧ (∀ x ∈ L, x.2.length ≤ T.depth t + 1) ∧ Rn ELoss 2 w' w.heap.size a' c' L ∧ Cur w' A ∧ Kp A w w' := by
  have hlA := hc.lt
  have HWF := Lib.hid hwf
  have HRN := Lib.hid hv
  have hdc := T.depth_le_count t
  have hk0 : Kp A w ((w.alloc (.cells (cV t a cap) 36)).alloc (.cells #[] 29)) := (Kp.alloc (Nat.le_of_lt hlA) _).trans (Kp.alloc (by simp; omega) _)
  have HV0 := Lib.hid (show Is ((w.alloc (.cells (cV t a cap) 36)).alloc (.cells #[] 29)) w.heap.size 36 (cV t a cap) from (Is.new _ _ _).alloc _)
  have hA0 : App ELoss 2 29 True ((w.alloc (.cells (cV t a cap) 36)).alloc (.cells #[] 29)) (w.heap.size + 1) (w.heap.size + 2) (some ⟨w.heap.size + 1, 0, none⟩) 0 [] := by
    have := App.empty (E := ELoss) (n := 2) (e := 29) (nd := True) (w.alloc (.cells (cV t a cap) 36)) (w.heap.size + 1) (w.heap.size + 2) (by simp) (by simp)
    rw [size_alloc] at this; exact this
  have HA0 := Lib.hid hA0
  have HC0 := Lib.hid (show Cur ((w.alloc (.cells (cV t a cap) 36)).alloc (.cells #[] 29)) A from hc.below (below2 _ _ _) hlA)
  have HK0 := Lib.hid hk0
  clear hc hv hwf hk0 hA0
  go_enter Tryz.func70, Tryz.ntmps70
  go_wp2_with fail
  refine (spec_l1Below A 5 _ HC0.out ⟨by decide, by decide⟩).mono ?_
  rintro e w2 ⟨i0, rfl, hi0, _, hc2, hk2⟩
  have HC2 := Lib.hid hc2; have HV2 := Lib.hid (hk2.is HV0.out (by omega)); have HK2 := Lib.hid (show Kp A w w2 from HK0.out.trans hk2)
  have HA2 := Lib.hid ((HA0.out.kp ELoss.elem hk2 (by omega) (by simp)).more (Nat.le_refl _) (by have := hk2.size; simpa using this))
  clear hc2 hk2 HC0 HV0 HK0 HA0
  have hi4 : i0 ≤ 4 := by omega
  go_wp2_with fail
  go_loopw [5, 6, 7] (fun q i _ wr => ∃ (j : Nat) (xs : List Lo) (ar : Option Addr) (cr : Nat), i = .int .i64 j ∧ xs.length + j ≤ 4 ∧ (∀ x ∈ xs, x.2.length ≤ T.depth t + 1) ∧ q = .slice ar xs.length cr ∧ App ELoss 2 29 True wr (w.heap.size + 1) wr.heap.size ar cr xs ∧ Is wr w.heap.size 36 (cV t a cap) ∧ Cur wr A ∧ Kp A w wr) (fun _ i _ _ => (intOf i).toNat)
  case atStart => exact ⟨i0, [], _, _, rfl, by simpa using hi4, by simp, rfl, HA2.out, HV2.out, HC2.out, HK2.out⟩
  case round =>
    obtain ⟨j, xs, ar, cr, rfl, hj, hxs, rfl, happ, hv, hc, hk⟩ := hrel
    have HA := Lib.hid happ; have HV := Lib.hid hv; have HC := Lib.hid hc; have HK := Lib.hid hk; have HXS := Lib.hid hxs; clear happ hv hc hk hxs HA2 HV2 HC2 HK2
    have hs := HK.out.1.size
    have hsw := HK.out.size
    have hlv := HV.out.lt
    by_cases hj0 : 0 < j
    · have hjz : (0 : Int) < (j : Int) := by omega
      obtain ⟨z0, z1, z2, z3, z4⟩ := HV.out.cells5
      have ff := fun i => HV.out.frozen i
      have HRN2 := Lib.hid (HRN.out.kp TV.elem.loc HK.out (by omega))
      go_wp2_with fail
      refine (spec_l18Loss A t a cap wr HC.out HRN2.out HWF.out hct).mono ?_
      rintro e w5 ⟨x, a3, c3, rfl, hx1, hx2, happ3, hc5, hk5⟩
      have hs5 := hk5.size
      obtain ⟨G, g1, g2, g3⟩ := happ3.own (lo := wr.heap.size) (by simp) (Nat.le_refl _) (by simp)
      have HA5 := Lib.hid (HA.out.kp ELoss.elem hk5 (by omega) (Nat.le_refl _))
      have HV5 := Lib.hid (hk5.is HV.out (by omega))
      have HK5 := Lib.hid (show Kp A w w5 from HK.out.trans hk5)
      have HX1 := Lib.hid hx1
      have H2 := Lib.hid (below1 w5 (.cells (cL x a3 c3) 29))
      have HN := Lib.hid ((HA5.out.below ELoss.elem H2.out (by omega)).below ELoss.elem (below1 (w5.alloc (.cells (cL x a3 c3) 29)) (.cells (cL x a3 c3) 29)) (by simp; omega))
      have hI7 := Is.new (w5.alloc (.cells (cL x a3 c3) 29)) (cL x a3 c3) 29
      have HB7 := Lib.hid (show Below w5.heap.size w5 ((w5.alloc (.cells (cL x a3 c3) 29)).alloc (.cells (cL x a3 c3) 29)) from H2.out.trans ((below1 _ _).mono (by simp)))
      have HEL := Lib.hid (show ELoss ((w5.alloc (.cells (cL x a3 c3) 29)).alloc (.cells (cL x a3 c3) 29)) (w5.alloc (.cells (cL x a3 c3) 29)).heap.size 0 x G from ⟨hI7.cell 0 rfl, hx1, a3, c3, hI7.cell 1 rfl, g1.agree EStep.loc (fun f hf => HB7.out.block f (g3 f hf).2.1)⟩)
      have HG := Lib.hid (show ∀ f ∈ G, wr.heap.size ≤ f ∧ f < ((w5.alloc (.cells (cL x a3 c3) 29)).alloc (.cells (cL x a3 c3) 29)).heap.size ∧ Unf ((w5.alloc (.cells (cL x a3 c3) 29)).alloc (.cells (cL x a3 c3) 29)) f from fun f hf => ⟨(g3 f hf).1, by have := (g3 f hf).2.1; simp; omega, ((g3 f hf).2.2.alloc _).alloc _⟩)
      have HV7 := Lib.hid ((HV5.out.alloc (.cells (cL x a3 c3) 29)).alloc (.cells (cL x a3 c3) 29))
      have HC7 := Lib.hid (hc5.below HB7.out hc5.lt)
      have HK7 := Lib.hid (show Kp A w _ from HK5.out.trans (Kp.of_below HB7.out (Nat.le_refl _) (Nat.le_of_lt hc5.lt)))
      clear g1 g3 hI7 hc5 hk5 happ3 hx1
      rw [size_alloc] at HEL
      go_wp2_with (at_builtin; refine wpList_app1 ELoss.elem rfl _ _ 24 rfl (.agg #[.int .i64 0, .slice none 0 0]) 32 Tryz.underlying24 info_Loss rfl (w.heap.size + 1) wr.heap.size ar cr xs (by first | rfl | simp) HN.out (by simp; omega) (by omega) (w5.heap.size + 1) 0 1 x G (by first | rfl | simp) HEL.out g2 HG.out (by unfold maxLen; omega) (by omega) ?_; intro ar2 cr2 w6 happ6 hb6 _)
      go_roundw
      case rel =>
        refine ⟨j - 1, xs ++ [x], ar2, cr2, by go_num, by simp; omega, fun y hy => ?_, by rw [List.length_append]; rfl, happ6, HV7.out.below hb6 (by omega), HC7.out.below hb6 (by omega), Kp.grow HK7.out (hb6.mono (by omega)) (by omega)⟩
        rcases List.mem_append.1 hy with hy | hy
        · exact HXS.out y hy
        · rw [List.mem_singleton.1 hy]; exact hx2
      case measure => simp [intOf]; omega
    · have hjz : ¬ (0 : Int) < (j : Int) := by omega
      have hrn := (HA.out.rn (Nat.le_refl _)).less (lo' := w.heap.size) (by omega)
      by_cases hlen : 1 < xs.length
      · have hlz : (1 : Int) < (xs.length : Int) := by omega
        go_wp2_with fail
        refine (spec_l1Once A 3 wr HC.out ⟨by decide, by decide⟩).mono ?_
        rintro e w6 ⟨bb, rfl, hc6, hk6⟩
        have HK6 := Lib.hid (show Kp A w w6 from HK.out.trans hk6)
        have hs6 := hk6.size
        have HC6 := Lib.hid hc6
        have HA6 := Lib.hid (HA.out.kp ELoss.elem hk6 (by omega) (Nat.le_refl _))
        have HRN6 := Lib.hid (hrn.kp ELoss.elem.loc hk6 (by omega))
        clear hc6 hk6 hrn
        cases bb with
        | false =>
          go_wp2_with fail
          go_ret
          exact ⟨xs, ar, cr, rfl, by omega, (by first | exact HXS.out | exact fun a b h => HXS.out (a, b) h), HRN6.out, HC6.out, HK6.out⟩
        | true =>
          obtain ⟨g, a1, c1, eg, rfl, hg1, hg2, hblk, hcell, ⟨v1, hcell1⟩, hrd⟩ := HA6.out.cells2 hs6 hlen
          have hdl := HXS.out xs[1] (List.getElem_mem hlen)
          obtain ⟨a7, c7, w7, hrun, happ7, hb7⟩ := copyS w6 xs[1].2 a1 c1 w6.heap.size hrd (Nat.le_refl _) (by omega)
          have hgl : g < w6.heap.size := by omega
          have hblk7 : Blk w7 g eg (cr * 2) := hblk.agree (hb7.block g hgl)
          have hs7 := hb7.size
          obtain ⟨hcap1, hcap2⟩ := HA6.out.len
          have hfz := fun i => hblk7.frozen i
          have HB7 := Lib.hid hb7
          have hcell7 : w7.cell? ⟨g, 1, none⟩ = some v1 := (World.cell?_of_block (w := w6) (a := ⟨g, 1, none⟩) (hb7.block g hgl)).trans hcell1
          have hgl7 : g < w7.heap.size := by omega
          generalize hxq : xs[1].2 = q at *
          go_wp2_with (at_builtin; refine Lib.wpList_append_run _ rfl _ _ _ _ rfl _ _ rfl rfl _ _ hrun ?_)
          go_ret
          obtain ⟨x0, r, hxr⟩ : ∃ x0 r, xs = x0 :: r := by
            cases xs with
            | nil => simp at hlen
            | cons x0 r => exact ⟨x0, r, rfl⟩
          obtain ⟨G, q1, q2, q3⟩ := happ7.own (lo := w6.heap.size) (by simp) (Nat.le_refl _) (by simp)
          have hput := App.put0 (w' := w7.setCell ⟨g, 1, none⟩ (.slice a7 q.length c7)) (m := w6.heap.size) (q := q) (a7 := a7) (c7 := c7) (by rw [← hxr]; exact HA6.out) hs6 (by omega) ⟨G, q1.agree EStep.loc (fun f hf => heap_miss _ _ _ _ (by have := (q3 f hf).1; omega) _), fun f hf => ⟨(q3 f hf).1, by rw [size_set]; exact (q3 f hf).2.1⟩⟩ (by rw [size_set]; omega) g rfl (fun f h1 h2 => (heap_miss _ _ _ _ h2 _).trans (HB7.out.block f h1)) (fun i hi => (cell_miss _ _ _ _ (fun e => hi e.symm) _).trans (World.cell?_of_block (w := w6) (a := ⟨g, i, none⟩) (HB7.out.block g hgl))) (hblk7.hit 1 (by omega) _)
          have hlx : xs.length = ((x0.1, q) :: r).length := by rw [hxr]; rfl
          have HLX := Lib.hid hlx; clear hlx
          refine ⟨(x0.1, q) :: r, some ⟨g, 0, none⟩, cr, by rw [← HLX.out]; rfl, by rw [← HLX.out]; omega, ?_, hput.less (by omega), (HC6.out.below HB7.out (by omega)).set (by omega) 1 _, Kp.set (HK6.out.trans (Kp.of_below HB7.out (Nat.le_refl _) (by omega))) (by omega) (by omega) 1 _⟩
          have hall : ∀ x ∈ (x0.1, q) :: r, x.2.length ≤ T.depth t + 1 := by
            intro y hy
            rcases List.mem_cons.1 hy with rfl | hy
            · exact hdl
            · exact HXS.out y (by rw [hxr]; simp [hy])
          first | exact hall | exact fun a b h => hall (a, b) h
      · have hlz : ¬ (1 : Int) < (xs.length : Int) := by omega
        go_wp2_with fail
        go_ret
        exact ⟨xs, ar, cr, rfl, by omega, (by first | exact HXS.out | exact fun a b h => HXS.out (a, b) h), hrn, HC.out, HK.out⟩
end Go.Proofs.YtfbodhfdomdkpaaGreatDoor
