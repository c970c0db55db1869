/- Contracts and lemmas for the proofs of this seat: TightF. No condition beyond those stated. -/
import Derived.Test.YtfbgmhjjdgglnaaRows
import Derived.WalkKit
import Derived.ProofKit
import Derived.OpenShut
import Derived.Handy
import Derived.Lib.Hide
import Derived.Lib.SmallJoins
import Derived.Deep.RegionHeld3
import Derived.Deep.QuietTactic
import Derived.BigQuiet
import Derived.Test.YtfbgmhjjdgglnaaBase
import Derived.Test.YtfbgmhjjdgglnaaGen
import Derived.Test.YtfbgmhjjdgglnaaKit
import Derived.Test.YtfbgmhjjdgglnaaTree1
import Derived.Test.YtfbgmhjjdgglnaaBytesF
import Derived.Test.YtfbgmhjjdgglnaaPathAt2
namespace Go.Proofs.Ytfbgmhjjdgglnaa
open Go.ChangeShapes Go.WideShapes Go.ChangeAt Go.RowKit Go.Joins
set_option linter.unusedVariables false
set_option maxRecDepth 100000
theorem eqLimits_calls (a b c : Int) (w : World) :
    Calls Try.prog 15 #[.agg (cI3 a b c), .agg (cI3 a b c)] w fun e w' => e = .returned (.bool true) ∧ Below w.heap.size w w' := by
  go_enter Try.func15, Try.ntmps15
  go_wp2
  go_ret
  exact ⟨rfl, by go_grown⟩
theorem out3 {W : World} {g : Nat} {e : TypeId} {z0 z1 z2 : Value} (hk : Is W g e #[z0, z1, z2]) (v0 v1 v2 : Value) :
    Is (((W.setCell ⟨g, 0, none⟩ v0).setCell ⟨g, 1, none⟩ v1).setCell ⟨g, 2, none⟩ v2) g e #[v0, v1, v2] := ((hk.set 0 v0).set 1 v1).set 2 v2
theorem spec_Tightest (t : T) (l : List Int) (a : Option Addr) (cap : Nat) (a' : Option Addr) (cap' B : Nat) (w : World) (hr : R w B a cap t.l) (hr' : Rd EByte 1 w B a' cap' l) (hwf : Wf t) (hct : T.count t ≤ 4611686018427387904) (hB : B ≤ w.heap.size) :
    Calls Try.prog 11 #[.agg (cV t a cap), .slice a' l.length cap'] w fun e w' => e = .returned (.agg (cI3 (T.depth t) l.length (T.count t))) ∧ Below w.heap.size w w' := by
  obtain ⟨hm1, hm2⟩ := hr'.len
  have HR := Lib.hid hr; clear hr hwf
  go_enter Try.func11, Try.ntmps11
  go_wp2_with fail
  generalize hW : (w.alloc (Obj.cells (cV t a cap) 32)).alloc (Obj.cells (cI3 0 0 0) 28) = W0
  have q1 : Is W0 w.heap.size 32 (cV t a cap) := by subst hW; exact (Is.new _ _ _).alloc _
  have q2 : Is W0 (w.heap.size + 1) 28 (cI3 0 0 0) := by subst hW; exact Is.new2 _ _ _ _
  have H0 := Lib.hid (show Below w.heap.size w W0 from by subst hW; exact below2 _ _ _)
  have hs0 : W0.heap.size = w.heap.size + 2 := by subst hW; simp
  clear hW
  obtain ⟨r0, r1, r2, r3, r4⟩ := q1.cells5
  obtain ⟨o0, o1, o2⟩ := q2.cells3
  have hfz := fun i => q2.frozen i
  have hl1 : w.heap.size < W0.heap.size := by omega
  have hl2 : w.heap.size + 1 < W0.heap.size := by omega
  refine wp_region_held_drew (S := fun w' => (∀ b o, b < w.heap.size + 1 → w'.cell? ⟨b, o, none⟩ = W0.cell? ⟨b, o, none⟩) ∧ Below (w.heap.size + 1) W0 w') (by kernel_rfl) (by first | exact ⟨fun _ _ _ => rfl, (Below.refl _ _).drew⟩ | exact keep_step (by assumption) (Below.drew (Below.refl _ _)) (Nat.le_refl _) | exact keep_step (by assumption) (by assumption) (by first | omega | (simp only [World.size_drew, size_alloc]; omega) | (have := (‹(_ ∧ Below (w.heap.size + 1) W0 _)›).2.size; first | omega | (simp only [World.size_drew, size_alloc]; omega) | (simp only [World.size_drew, size_alloc] at this; omega)))) (fun hHeld => ?_)
  refine wpAnyH_take (i := 0) (oi := ⟨some 5, _, _, _, _, _⟩) (v := ?_) rfl (by kernel_rfl) (by kernel_rfl) (by kernel_rfl) (fun _ _ _ h => h) (Or.inl ⟨by rfl, ?_⟩) (by assumption) ?_
  rotate_left 1
  · (intro w hSw; (try dsimp only at hSw); go_simp; try (with_reducible rfl))
  try simp only [Act.put, List.setIfInBounds_toArray, List.set_cons_zero, List.set_cons_succ]
  refine wpAnyH_take (i := 2) (oi := ⟨some 7, _, _, _, _, _⟩) (v := ?_) rfl (by kernel_rfl) (by kernel_rfl) (by kernel_rfl) (fun _ _ _ h => h) (Or.inl ⟨by rfl, ?_⟩) (by assumption) ?_
  rotate_left 1
  · (intro w hSw; (try dsimp only at hSw); go_simp; try (with_reducible rfl))
  try simp only [Act.put, List.setIfInBounds_toArray, List.set_cons_zero, List.set_cons_succ]
  refine wpAnyH_take (i := 3) (oi := ⟨some 8, _, _, _, _, _⟩) (v := ?_) rfl (by kernel_rfl) (by kernel_rfl) (by kernel_rfl) (fun _ _ _ h => h) (Or.inl ⟨by rfl, ?_⟩) (by assumption) ?_
  rotate_left 1
  · (intro w hSw; (try dsimp only at hSw); go_simp; try (with_reducible rfl))
  try simp only [Act.put, List.setIfInBounds_toArray, List.set_cons_zero, List.set_cons_succ]
  refine wpAnyH_take (i := 4) (oi := ⟨some 9, _, _, _, _, _⟩) (v := ?_) rfl (by kernel_rfl) (by kernel_rfl) (by kernel_rfl) (fun _ _ _ h => h) (Or.inl ⟨by rfl, ?_⟩) (by assumption) ?_
  rotate_left 1
  · (intro w hSw; (try dsimp only at hSw); go_simp; try (with_reducible rfl))
  try simp only [Act.put, List.setIfInBounds_toArray, List.set_cons_zero, List.set_cons_succ]
  refine wpAnyH_ready (rs := [1]) (by kernel_rfl) (by simp) ?_
  refine AllReadyH.cons (o := ⟨some 6, _, _, _, _, _⟩) rfl (fun K hK => ?_) AllReadyH.nil
  go_simp
  (first | (go_at_call 48; refine (spec_DeepOf t hct a cap B _ (HR.out.below (H0.out.trans ((‹_ ∧ Below (w.heap.size + 1) W0 _›).2.mono (by omega))) hB) (by have := (‹_ ∧ Below (w.heap.size + 1) W0 _›).2.size; omega)).mono ?_; rintro e w2 ⟨rfl, hb2⟩; have hsz2 := hb2.size; (try simp only [World.size_drew] at hsz2); have qn := Is.below (g := w.heap.size + 1) (e := 28) (cs := cI3 0 0 0) (by first | exact Is.drew q2 | assumption) hb2 (by first | omega | (simp only [World.size_drew]; omega)); have fz := (fun i => qn.frozen i); obtain ⟨y0, y1, y2⟩ := qn.cells3) | (go_at_call 49; refine (spec_CountOf t hct a cap B _ (HR.out.below (H0.out.trans ((‹_ ∧ Below (w.heap.size + 1) W0 _›).2.mono (by omega))) hB) (by have := (‹_ ∧ Below (w.heap.size + 1) W0 _›).2.size; omega)).mono ?_; rintro e w2 ⟨rfl, hb2⟩; have hsz2 := hb2.size; (try simp only [World.size_drew] at hsz2); have qn := Is.below (g := w.heap.size + 1) (e := 28) (cs := cI3 0 0 0) (by first | exact Is.drew q2 | assumption) hb2 (by first | omega | (simp only [World.size_drew]; omega)); have fz := (fun i => qn.frozen i); obtain ⟨y0, y1, y2⟩ := qn.cells3))
  go_wp2_with fail
  refine hK.out _ _ (by first | exact ⟨fun _ _ _ => rfl, (Below.refl _ _).drew⟩ | exact keep_step (by assumption) (Below.drew (Below.refl _ _)) (Nat.le_refl _) | exact keep_step (by assumption) (by assumption) (by first | omega | (simp only [World.size_drew, size_alloc]; omega) | (have := (‹(_ ∧ Below (w.heap.size + 1) W0 _)›).2.size; first | omega | (simp only [World.size_drew, size_alloc]; omega) | (simp only [World.size_drew, size_alloc] at this; omega)))) (fun hHeld => ?_)
  clear hK K
  try simp only [Act.put, List.setIfInBounds_toArray, List.set_cons_zero, List.set_cons_succ]
  refine wpAnyH_ready (rs := [5]) (by kernel_rfl) (by simp) ?_
  refine AllReadyH.cons (o := ⟨some 10, _, _, _, _, _⟩) rfl (fun K hK => ?_) AllReadyH.nil
  focus (go_simp; (first | (go_at_call 48; refine (spec_DeepOf t hct a cap B _ (HR.out.below (H0.out.trans ((‹_ ∧ Below (w.heap.size + 1) W0 _›).2.mono (by omega))) hB) (by have := (‹_ ∧ Below (w.heap.size + 1) W0 _›).2.size; omega)).mono ?_; rintro e w2 ⟨rfl, hb2⟩; have hsz2 := hb2.size; (try simp only [World.size_drew] at hsz2); have qn := Is.below (g := w.heap.size + 1) (e := 28) (cs := cI3 0 0 0) (by first | exact Is.drew q2 | assumption) hb2 (by first | omega | (simp only [World.size_drew]; omega)); have fz := (fun i => qn.frozen i); obtain ⟨y0, y1, y2⟩ := qn.cells3) | (go_at_call 49; refine (spec_CountOf t hct a cap B _ (HR.out.below (H0.out.trans ((‹_ ∧ Below (w.heap.size + 1) W0 _›).2.mono (by omega))) hB) (by have := (‹_ ∧ Below (w.heap.size + 1) W0 _›).2.size; omega)).mono ?_; rintro e w2 ⟨rfl, hb2⟩; have hsz2 := hb2.size; (try simp only [World.size_drew] at hsz2); have qn := Is.below (g := w.heap.size + 1) (e := 28) (cs := cI3 0 0 0) (by first | exact Is.drew q2 | assumption) hb2 (by first | omega | (simp only [World.size_drew]; omega)); have fz := (fun i => qn.frozen i); obtain ⟨y0, y1, y2⟩ := qn.cells3)); go_wp2_with fail; refine hK.out _ _ (by first | exact ⟨fun _ _ _ => rfl, (Below.refl _ _).drew⟩ | exact keep_step (by assumption) (Below.drew (Below.refl _ _)) (Nat.le_refl _) | exact keep_step (by assumption) (by assumption) (by first | omega | (simp only [World.size_drew, size_alloc]; omega) | (have := (‹(_ ∧ Below (w.heap.size + 1) W0 _)›).2.size; first | omega | (simp only [World.size_drew, size_alloc]; omega) | (simp only [World.size_drew, size_alloc] at this; omega)))) (fun hHeld => ?_); clear hK K; try simp only [Act.put, List.setIfInBounds_toArray, List.set_cons_zero, List.set_cons_succ])
  refine wpAnyH_take (i := 6) (oi := ⟨some 11, _, _, _, _, _⟩) (v := ?_) rfl (by kernel_rfl) (by kernel_rfl) (by kernel_rfl) (fun _ _ _ h => h) (Or.inl ⟨by rfl, ?_⟩) (by assumption) ?_
  rotate_left 1
  · (intro w hSw; (try dsimp only at hSw); go_simp; try (with_reducible rfl))
  try simp only [Act.put, List.setIfInBounds_toArray, List.set_cons_zero, List.set_cons_succ]
  refine wpAnyH_ready (rs := [7]) (by kernel_rfl) (by simp) ?_
  refine AllReadyH.cons (o := ⟨none, _, _, _, _, _⟩) rfl (fun K hK => ?_) AllReadyH.nil
  focus (go_simp; go_wp2_with fail; refine hK.out _ _ (by exact keep_step (by assumption) (below3s _ _ _ _ _) (by omega)) (fun hHeld => ?_); clear hK K; try simp only [Act.put])
  refine wpAnyH_done (by kernel_rfl) ?_ _
  all_goals
    have hI := out3 qn (.int .i64 (T.depth t)) (.int .i64 l.length) (.int .i64 (T.count t))
    obtain ⟨e0, e1, e2⟩ := hI.cells3
    have hB := (‹_ ∧ Below (w.heap.size + 1) W0 _›).2
    go_wp2_with fail
    refine bodyPost_ret (v := .agg (cI3 (T.depth t) l.length (T.count t))) (by simp [results, Try.results11, go_sem, e0, e1, e2]) rfl ⟨rfl, H0.out.trans (hB.mono (by omega))⟩
theorem impl_Tightest (t : T) (l : List Int) (a : Option Addr) (cap : Nat) (a' : Option Addr) (cap' B : Nat) (w : World) (hr : R w B a cap t.l) (hr' : Rd EByte 1 w B a' cap' l) (hwf : Wf t) (hct : T.count t ≤ 4611686018427387904) (hB : B ≤ w.heap.size) :
    Calls Try.prog 14 #[.agg (cV t a cap), .slice a' l.length cap'] w fun e w' => e = .returned (.agg (cI3 (T.depth t) l.length (T.count t))) ∧ Below w.heap.size w w' := by
  obtain ⟨hm1, hm2⟩ := hr'.len
  have HR := Lib.hid hr; clear hr hwf
  go_enter Try.func14, Try.ntmps14
  go_wp2_with fail
  generalize hW : (w.alloc (Obj.cells (cV t a cap) 32)).alloc (Obj.cells (cI3 0 0 0) 28) = W0
  have q1 : Is W0 w.heap.size 32 (cV t a cap) := by subst hW; exact (Is.new _ _ _).alloc _
  have q2 : Is W0 (w.heap.size + 1) 28 (cI3 0 0 0) := by subst hW; exact Is.new2 _ _ _ _
  have H0 := Lib.hid (show Below w.heap.size w W0 from by subst hW; exact below2 _ _ _)
  have hs0 : W0.heap.size = w.heap.size + 2 := by subst hW; simp
  clear hW
  obtain ⟨r0, r1, r2, r3, r4⟩ := q1.cells5
  obtain ⟨o0, o1, o2⟩ := q2.cells3
  have hfz := fun i => q2.frozen i
  have hl1 : w.heap.size < W0.heap.size := by omega
  have hl2 : w.heap.size + 1 < W0.heap.size := by omega
  refine wp_region_held_drew (S := fun w' => (∀ b o, b < w.heap.size + 1 → w'.cell? ⟨b, o, none⟩ = W0.cell? ⟨b, o, none⟩) ∧ Below (w.heap.size + 1) W0 w') (by kernel_rfl) (by first | exact ⟨fun _ _ _ => rfl, (Below.refl _ _).drew⟩ | exact keep_step (by assumption) (Below.drew (Below.refl _ _)) (Nat.le_refl _) | exact keep_step (by assumption) (by assumption) (by first | omega | (simp only [World.size_drew, size_alloc]; omega) | (have := (‹(_ ∧ Below (w.heap.size + 1) W0 _)›).2.size; first | omega | (simp only [World.size_drew, size_alloc]; omega) | (simp only [World.size_drew, size_alloc] at this; omega)))) (fun hHeld => ?_)
  refine wpAnyH_take (i := 0) (oi := ⟨some 5, _, _, _, _, _⟩) (v := ?_) rfl (by kernel_rfl) (by kernel_rfl) (by kernel_rfl) (fun _ _ _ h => h) (Or.inl ⟨by rfl, ?_⟩) (by assumption) ?_
  rotate_left 1
  · (intro w hSw; (try dsimp only at hSw); go_simp; try (with_reducible rfl))
  try simp only [Act.put, List.setIfInBounds_toArray, List.set_cons_zero, List.set_cons_succ]
  refine wpAnyH_take (i := 2) (oi := ⟨some 7, _, _, _, _, _⟩) (v := ?_) rfl (by kernel_rfl) (by kernel_rfl) (by kernel_rfl) (fun _ _ _ h => h) (Or.inl ⟨by rfl, ?_⟩) (by assumption) ?_
  rotate_left 1
  · (intro w hSw; (try dsimp only at hSw); go_simp; try (with_reducible rfl))
  try simp only [Act.put, List.setIfInBounds_toArray, List.set_cons_zero, List.set_cons_succ]
  refine wpAnyH_take (i := 3) (oi := ⟨some 8, _, _, _, _, _⟩) (v := ?_) rfl (by kernel_rfl) (by kernel_rfl) (by kernel_rfl) (fun _ _ _ h => h) (Or.inl ⟨by rfl, ?_⟩) (by assumption) ?_
  rotate_left 1
  · (intro w hSw; (try dsimp only at hSw); go_simp; try (with_reducible rfl))
  try simp only [Act.put, List.setIfInBounds_toArray, List.set_cons_zero, List.set_cons_succ]
  refine wpAnyH_take (i := 4) (oi := ⟨some 9, _, _, _, _, _⟩) (v := ?_) rfl (by kernel_rfl) (by kernel_rfl) (by kernel_rfl) (fun _ _ _ h => h) (Or.inl ⟨by rfl, ?_⟩) (by assumption) ?_
  rotate_left 1
  · (intro w hSw; (try dsimp only at hSw); go_simp; try (with_reducible rfl))
  try simp only [Act.put, List.setIfInBounds_toArray, List.set_cons_zero, List.set_cons_succ]
  refine wpAnyH_ready (rs := [1]) (by kernel_rfl) (by simp) ?_
  refine AllReadyH.cons (o := ⟨some 6, _, _, _, _, _⟩) rfl (fun K hK => ?_) AllReadyH.nil
  go_simp
  (first | (go_at_call 51; refine (impl_DeepOf t hct a cap B _ (HR.out.below (H0.out.trans ((‹_ ∧ Below (w.heap.size + 1) W0 _›).2.mono (by omega))) hB) (by have := (‹_ ∧ Below (w.heap.size + 1) W0 _›).2.size; omega)).mono ?_; rintro e w2 ⟨rfl, hb2⟩; have hsz2 := hb2.size; (try simp only [World.size_drew] at hsz2); have qn := Is.below (g := w.heap.size + 1) (e := 28) (cs := cI3 0 0 0) (by first | exact Is.drew q2 | assumption) hb2 (by first | omega | (simp only [World.size_drew]; omega)); have fz := (fun i => qn.frozen i); obtain ⟨y0, y1, y2⟩ := qn.cells3) | (go_at_call 52; refine (impl_CountOf t hct a cap B _ (HR.out.below (H0.out.trans ((‹_ ∧ Below (w.heap.size + 1) W0 _›).2.mono (by omega))) hB) (by have := (‹_ ∧ Below (w.heap.size + 1) W0 _›).2.size; omega)).mono ?_; rintro e w2 ⟨rfl, hb2⟩; have hsz2 := hb2.size; (try simp only [World.size_drew] at hsz2); have qn := Is.below (g := w.heap.size + 1) (e := 28) (cs := cI3 0 0 0) (by first | exact Is.drew q2 | assumption) hb2 (by first | omega | (simp only [World.size_drew]; omega)); have fz := (fun i => qn.frozen i); obtain ⟨y0, y1, y2⟩ := qn.cells3))
  go_wp2_with fail
  refine hK.out _ _ (by first | exact ⟨fun _ _ _ => rfl, (Below.refl _ _).drew⟩ | exact keep_step (by assumption) (Below.drew (Below.refl _ _)) (Nat.le_refl _) | exact keep_step (by assumption) (by assumption) (by first | omega | (simp only [World.size_drew, size_alloc]; omega) | (have := (‹(_ ∧ Below (w.heap.size + 1) W0 _)›).2.size; first | omega | (simp only [World.size_drew, size_alloc]; omega) | (simp only [World.size_drew, size_alloc] at this; omega)))) (fun hHeld => ?_)
  clear hK K
  try simp only [Act.put, List.setIfInBounds_toArray, List.set_cons_zero, List.set_cons_succ]
  refine wpAnyH_ready (rs := [5]) (by kernel_rfl) (by simp) ?_
  refine AllReadyH.cons (o := ⟨some 10, _, _, _, _, _⟩) rfl (fun K hK => ?_) AllReadyH.nil
  focus (go_simp; (first | (go_at_call 51; refine (impl_DeepOf t hct a cap B _ (HR.out.below (H0.out.trans ((‹_ ∧ Below (w.heap.size + 1) W0 _›).2.mono (by omega))) hB) (by have := (‹_ ∧ Below (w.heap.size + 1) W0 _›).2.size; omega)).mono ?_; rintro e w2 ⟨rfl, hb2⟩; have hsz2 := hb2.size; (try simp only [World.size_drew] at hsz2); have qn := Is.below (g := w.heap.size + 1) (e := 28) (cs := cI3 0 0 0) (by first | exact Is.drew q2 | assumption) hb2 (by first | omega | (simp only [World.size_drew]; omega)); have fz := (fun i => qn.frozen i); obtain ⟨y0, y1, y2⟩ := qn.cells3) | (go_at_call 52; refine (impl_CountOf t hct a cap B _ (HR.out.below (H0.out.trans ((‹_ ∧ Below (w.heap.size + 1) W0 _›).2.mono (by omega))) hB) (by have := (‹_ ∧ Below (w.heap.size + 1) W0 _›).2.size; omega)).mono ?_; rintro e w2 ⟨rfl, hb2⟩; have hsz2 := hb2.size; (try simp only [World.size_drew] at hsz2); have qn := Is.below (g := w.heap.size + 1) (e := 28) (cs := cI3 0 0 0) (by first | exact Is.drew q2 | assumption) hb2 (by first | omega | (simp only [World.size_drew]; omega)); have fz := (fun i => qn.frozen i); obtain ⟨y0, y1, y2⟩ := qn.cells3)); go_wp2_with fail; refine hK.out _ _ (by first | exact ⟨fun _ _ _ => rfl, (Below.refl _ _).drew⟩ | exact keep_step (by assumption) (Below.drew (Below.refl _ _)) (Nat.le_refl _) | exact keep_step (by assumption) (by assumption) (by first | omega | (simp only [World.size_drew, size_alloc]; omega) | (have := (‹(_ ∧ Below (w.heap.size + 1) W0 _)›).2.size; first | omega | (simp only [World.size_drew, size_alloc]; omega) | (simp only [World.size_drew, size_alloc] at this; omega)))) (fun hHeld => ?_); clear hK K; try simp only [Act.put, List.setIfInBounds_toArray, List.set_cons_zero, List.set_cons_succ])
  refine wpAnyH_take (i := 6) (oi := ⟨some 11, _, _, _, _, _⟩) (v := ?_) rfl (by kernel_rfl) (by kernel_rfl) (by kernel_rfl) (fun _ _ _ h => h) (Or.inl ⟨by rfl, ?_⟩) (by assumption) ?_
  rotate_left 1
  · (intro w hSw; (try dsimp only at hSw); go_simp; try (with_reducible rfl))
  try simp only [Act.put, List.setIfInBounds_toArray, List.set_cons_zero, List.set_cons_succ]
  refine wpAnyH_ready (rs := [7]) (by kernel_rfl) (by simp) ?_
  refine AllReadyH.cons (o := ⟨none, _, _, _, _, _⟩) rfl (fun K hK => ?_) AllReadyH.nil
  focus (go_simp; go_wp2_with fail; refine hK.out _ _ (by exact keep_step (by assumption) (below3s _ _ _ _ _) (by omega)) (fun hHeld => ?_); clear hK K; try simp only [Act.put])
  refine wpAnyH_done (by kernel_rfl) ?_ _
  all_goals
    have hI := out3 qn (.int .i64 (T.depth t)) (.int .i64 l.length) (.int .i64 (T.count t))
    obtain ⟨e0, e1, e2⟩ := hI.cells3
    have hB := (‹_ ∧ Below (w.heap.size + 1) W0 _›).2
    go_wp2_with fail
    refine bodyPost_ret (v := .agg (cI3 (T.depth t) l.length (T.count t))) (by simp [results, Try.results14, go_sem, e0, e1, e2]) rfl ⟨rfl, H0.out.trans (hB.mono (by omega))⟩
end Go.Proofs.Ytfbgmhjjdgglnaa
