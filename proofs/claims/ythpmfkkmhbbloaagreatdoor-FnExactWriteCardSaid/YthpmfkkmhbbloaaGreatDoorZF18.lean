/- Texts of this proof, merged: TigM, Tig6, Tig7, Less2. No condition beyond what each theorem states. -/
import Derived.Test.YthpmfkkmhbbloaaGreatDoorRows
import Derived.WalkKit
import Derived.ProofKit
import Derived.OpenShut
import Derived.Handy
import Derived.Lib.Hide
import Derived.Lib.SmallJoins
import Derived.Deep.RegionHeld3
import Derived.Deep.QuietTactic
import Derived.BigQuiet
import Derived.Laws.Bits64
import Derived.Laws.Bits64b
import Derived.Deep.CutBlock
import Derived.Deep.DeepCutAuto
import Derived.Lib.AppendStr
import Derived.Lib.AppendZeros
import Derived.Test.YthpmfkkmhbbloaaGreatDoorZF1
import Derived.Test.YthpmfkkmhbbloaaGreatDoorZF2
import Derived.Test.YthpmfkkmhbbloaaGreatDoorZF3
import Derived.Test.YthpmfkkmhbbloaaGreatDoorZF7
import Derived.Test.YthpmfkkmhbbloaaGreatDoorZF9
import Derived.Test.YthpmfkkmhbbloaaGreatDoorZF16
import Derived.Test.YthpmfkkmhbbloaaGreatDoorZF10
import Derived.Test.YthpmfkkmhbbloaaGreatDoorZF4
import Derived.Test.YthpmfkkmhbbloaaGreatDoorZF5
import Derived.Test.YthpmfkkmhbbloaaGreatDoorZF11
import Derived.Test.YthpmfkkmhbbloaaGreatDoorZF12
import Derived.Test.YthpmfkkmhbbloaaGreatDoorZF17
import Derived.Deep.AppendLies
import Derived.Deep.RegionLaw
import Derived.Test.YthpmfkkmhbbloaaGreatDoorZF8
import Derived.Test.YthpmfkkmhbbloaaGreatDoorShelf
import Derived.Test.YthpmfkkmhbbloaaGreatDoorZF6
import Derived.Lib.Bytealg
import Derived.Lib.Bytes
import Derived.Lib.BytesEntry
import Derived.Laws.Externs
set_option linter.unusedSimpArgs false
set_option linter.unnecessarySimpa false
namespace Go.Proofs.YthpmfkkmhbbloaaGreatDoor
open Go.ChangeShapes Go.WideShapes Go.ChangeAt Go.RowKit Go.Joins
set_option linter.unusedVariables false
set_option maxRecDepth 100000
set_option maxHeartbeats 4000000 in
theorem pt10 (n x : Int) (s : ByteArray) (l : List T) (IH : ∀ t ∈ l, PT t)  : PT (.mk 10 n x s l) := by
  intro a cap B w hr hwf hsz hB
  obtain ⟨hwk, hwn, hwx, hws⟩ := hwf
  simp only [cV, T.k, T.n, T.x, T.s, T.l] at hr hwk hwn hwx hws ⊢
  have hszl : T.szL l ≤ 1048576 := by simp only [T.sz] at hsz; omega
  obtain ⟨hl1, hl2⟩ := hr.len
  have hl0 := T.length_le_szL l
  have HR := Lib.hid hr
  have HI := Lib.hid IH
  have hwq : IntKind.i64.wrap ((l.length : Int) / 2) = ((l.length / 2 : Nat) : Int) := by rw [show (l.length : Int) / 2 = ((l.length / 2 : Nat) : Int) from by omega, Go.IntWalk.i64_left]; exact Go.IntWalk.wrap64_in _ ⟨by omega, by omega⟩
  have HE := Lib.hid (show packT (.mk 10 n x s l) = hdL 5 ((l.length / 2 : Nat) : Int) ++ packTs l from by rw [packT, if_neg (by omega), if_neg (by omega), if_neg (by omega), if_neg (by omega), if_neg (by omega), if_neg (by omega), if_neg (by omega), if_neg (by omega), if_pos rfl])
  clear hr IH hwk hwn hwx hws hsz
  go_enter Tryz.func54, Tryz.ntmps54
  go_wp2_with fail
  generalize hW : (w.alloc (Obj.cells _ 29)).alloc (Obj.cells #[] 5) = W0
  have q1 : Is W0 w.heap.size 29 (cV (.mk 10 n x s l) a cap) := by subst hW; exact (Is.new _ _ _).alloc _
  have H0 := Lib.hid (show Below w.heap.size w W0 from by subst hW; exact below2 _ _ _)
  have hs0 : W0.heap.size = w.heap.size + 2 := by subst hW; simp
  clear hW
  obtain ⟨r0, r1, r2, r3, r4⟩ := q1.cells5
  simp only [cV, T.k, T.n, T.x, T.s, T.l] at r0 r1 r2 r3 r4
  have hl3 : w.heap.size < W0.heap.size := by omega
  refine wp_region_held_drew (S := fun w' => (∀ b o, b < W0.heap.size → w'.cell? ⟨b, o, none⟩ = W0.cell? ⟨b, o, none⟩) ∧ Below (W0.heap.size) W0 w') (by kernel_rfl) (by first | exact ⟨fun _ _ _ => rfl, (Below.refl _ _).drew⟩ | exact keep_step (by assumption) (Below.drew (Below.refl _ _)) (Nat.le_refl _) | exact keep_step (by assumption) (by assumption) (by first | omega | (simp only [World.size_drew]; omega) | (simp only [size_alloc]; omega) | (simp only [World.size_drew, size_alloc]; omega) | (have := (‹(_ ∧ Below (W0.heap.size) W0 _)›).2.size; first | omega | (simp only [World.size_drew]; omega) | (simp only [size_alloc]; omega) | (simp only [World.size_drew, size_alloc]; omega) | (simp only [World.size_drew] at this; omega) | (simp only [size_alloc] at this; omega) | (simp only [World.size_drew, size_alloc] at this; omega)))) (fun hHeld => ?_)
  refine wpAnyH_take (i := 0) (oi := ⟨some 103, _, _, _, _, _⟩) (v := ?_) rfl (by kernel_rfl) (by kernel_rfl) (by kernel_rfl) (fun _ _ _ h => h) (Or.inl ⟨by rfl, ?_⟩) (by assumption) ?_
  rotate_left 1
  · (intro w hSw; (try dsimp only at hSw); go_simp; try (with_reducible rfl))
  try simp only [Act.put, List.setIfInBounds_toArray, List.set_cons_zero, List.set_cons_succ]
  refine wpAnyH_take (i := 1) (oi := ⟨some 104, _, _, _, _, _⟩) (v := ?_) rfl (by kernel_rfl) (by kernel_rfl) (by kernel_rfl) (fun _ _ _ h => h) (Or.inl ⟨by rfl, ?_⟩) (by assumption) ?_
  rotate_left 1
  · (intro w hSw; (try dsimp only at hSw); go_simp; try (with_reducible rfl))
  try simp only [Act.put, List.setIfInBounds_toArray, List.set_cons_zero, List.set_cons_succ]
  refine wpAnyH_take (i := 2) (oi := ⟨some 105, _, _, _, _, _⟩) (v := ?_) rfl (by kernel_rfl) (by kernel_rfl) (by kernel_rfl) (fun _ _ _ h => h) (Or.inl ⟨by rfl, ?_⟩) (by assumption) ?_
  rotate_left 1
  · (intro w hSw; (try dsimp only at hSw); go_simp; try (with_reducible rfl))
  try simp only [Act.put, List.setIfInBounds_toArray, List.set_cons_zero, List.set_cons_succ]
  refine wpAnyH_take (i := 3) (oi := ⟨some 106, _, _, _, _, _⟩) (v := ?_) rfl (by kernel_rfl) (by kernel_rfl) (by kernel_rfl) (fun _ _ _ h => h) (Or.inl ⟨by rfl, ?_⟩) (by assumption) ?_
  rotate_left 1
  · (intro w hSw; (try dsimp only at hSw); go_simp; try (with_reducible rfl))
  try simp only [Act.put, List.setIfInBounds_toArray, List.set_cons_zero, List.set_cons_succ]
  refine wpAnyH_take (i := 7) (oi := ⟨some 110, _, _, _, _, _⟩) (v := ?_) rfl (by kernel_rfl) (by kernel_rfl) (by kernel_rfl) (fun _ _ _ h => h) (Or.inl ⟨by rfl, ?_⟩) (by assumption) ?_
  rotate_left 1
  · (intro w hSw; (try dsimp only at hSw); go_simp; try (with_reducible rfl))
  try simp only [Act.put, List.setIfInBounds_toArray, List.set_cons_zero, List.set_cons_succ]
  refine wpAnyH_take (i := 8) (oi := ⟨some 111, _, _, _, _, _⟩) (v := ?_) rfl (by kernel_rfl) (by kernel_rfl) (by kernel_rfl) (fun _ _ _ h => h) (Or.inl ⟨by rfl, ?_⟩) (by assumption) ?_
  rotate_left 1
  · (intro w hSw; (try dsimp only at hSw); go_simp; try (with_reducible rfl))
  try simp only [Act.put, List.setIfInBounds_toArray, List.set_cons_zero, List.set_cons_succ]
  refine wpAnyH_ready (rs := [4]) (by kernel_rfl) (by simp) ?_
  refine AllReadyH.cons (o := ⟨some 107, _, _, _, _, _⟩) rfl (fun K hK => ?_) AllReadyH.nil
  go_simp
  go_wp2_with fail
  refine hK.out _ _ (by first | assumption | first | exact ⟨fun _ _ _ => rfl, (Below.refl _ _).drew⟩ | exact keep_step (by assumption) (Below.drew (Below.refl _ _)) (Nat.le_refl _) | exact keep_step (by assumption) (by assumption) (by first | omega | (simp only [World.size_drew]; omega) | (simp only [size_alloc]; omega) | (simp only [World.size_drew, size_alloc]; omega) | (have := (‹(_ ∧ Below (W0.heap.size) W0 _)›).2.size; first | omega | (simp only [World.size_drew]; omega) | (simp only [size_alloc]; omega) | (simp only [World.size_drew, size_alloc]; omega) | (simp only [World.size_drew] at this; omega) | (simp only [size_alloc] at this; omega) | (simp only [World.size_drew, size_alloc] at this; omega)))) (fun hHeld => ?_)
  clear hK K
  try simp only [Act.put, List.setIfInBounds_toArray, List.set_cons_zero, List.set_cons_succ]
  refine wpAnyH_ready (rs := [5]) (by kernel_rfl) (by simp) ?_
  refine AllReadyH.cons (o := ⟨some 108, _, _, _, _, _⟩) rfl (fun K hK => ?_) AllReadyH.nil
  focus (go_simp; (first | (go_at_call 86; refine (spec_PutHead0 5 ((l.length / 2 : Nat) : Int) kk _ _ ⟨by omega, by omega⟩).mono ?_; rintro e w3 ⟨a3, c3, rfl, happ3, hb3⟩; have HA3 := Lib.hid (happ3.less (show W0.heap.size ≤ _ by omega)); clear happ3; have hsz3 := hb3.size) | (go_at_call 89; refine (l13All_of l HI _ _ _ _ W0.heap.size _ _ B _ rfl HA3.out (by omega) (HR.out.below (H0.out.trans ((‹_ ∧ Below (W0.heap.size) W0 _›).2.mono (by omega))) hB) (by omega) hszl (by have := headL_len 5 ((l.length / 2 : Nat) : Int) kk; omega)).mono ?_; rintro e w4 ⟨a4, c4, rfl, happ4, hb4⟩; have hsz4 := hb4.size) | (go_at_call 87; (try simp only [T.l]); (try rw [hwq]); refine (spec_HeadForOk 5 ((l.length / 2 : Nat) : Int) _ (by omega) (by omega)).mono ?_; rintro e w2 ⟨⟨kk, rfl, hkk⟩, hb2⟩; have hsz2 := hb2.size; (try simp only [World.size_drew] at hsz2))); go_wp2_with fail; refine hK.out _ _ (by first | exact ⟨fun _ _ _ => rfl, (Below.refl _ _).drew⟩ | exact keep_step (by assumption) (Below.drew (Below.refl _ _)) (Nat.le_refl _) | exact keep_step (by assumption) (by assumption) (by first | omega | (simp only [World.size_drew]; omega) | (simp only [size_alloc]; omega) | (simp only [World.size_drew, size_alloc]; omega) | (have := (‹(_ ∧ Below (W0.heap.size) W0 _)›).2.size; first | omega | (simp only [World.size_drew]; omega) | (simp only [size_alloc]; omega) | (simp only [World.size_drew, size_alloc]; omega) | (simp only [World.size_drew] at this; omega) | (simp only [size_alloc] at this; omega) | (simp only [World.size_drew, size_alloc] at this; omega)))) (fun hHeld => ?_); clear hK K; try simp only [Act.put, List.setIfInBounds_toArray, List.set_cons_zero, List.set_cons_succ])
  refine wpAnyH_ready (rs := [6]) (by kernel_rfl) (by simp) ?_
  refine AllReadyH.cons (o := ⟨some 109, _, _, _, _, _⟩) rfl (fun K hK => ?_) AllReadyH.nil
  focus (go_simp; (first | (go_at_call 86; refine (spec_PutHead0 5 ((l.length / 2 : Nat) : Int) kk _ _ ⟨by omega, by omega⟩).mono ?_; rintro e w3 ⟨a3, c3, rfl, happ3, hb3⟩; have HA3 := Lib.hid (happ3.less (show W0.heap.size ≤ _ by omega)); clear happ3; have hsz3 := hb3.size) | (go_at_call 89; refine (l13All_of l HI _ _ _ _ W0.heap.size _ _ B _ rfl HA3.out (by omega) (HR.out.below (H0.out.trans ((‹_ ∧ Below (W0.heap.size) W0 _›).2.mono (by omega))) hB) (by omega) hszl (by have := headL_len 5 ((l.length / 2 : Nat) : Int) kk; omega)).mono ?_; rintro e w4 ⟨a4, c4, rfl, happ4, hb4⟩; have hsz4 := hb4.size) | (go_at_call 87; (try simp only [T.l]); (try rw [hwq]); refine (spec_HeadForOk 5 ((l.length / 2 : Nat) : Int) _ (by omega) (by omega)).mono ?_; rintro e w2 ⟨⟨kk, rfl, hkk⟩, hb2⟩; have hsz2 := hb2.size; (try simp only [World.size_drew] at hsz2))); go_wp2_with fail; refine hK.out _ _ (by first | exact ⟨fun _ _ _ => rfl, (Below.refl _ _).drew⟩ | exact keep_step (by assumption) (Below.drew (Below.refl _ _)) (Nat.le_refl _) | exact keep_step (by assumption) (by assumption) (by first | omega | (simp only [World.size_drew]; omega) | (simp only [size_alloc]; omega) | (simp only [World.size_drew, size_alloc]; omega) | (have := (‹(_ ∧ Below (W0.heap.size) W0 _)›).2.size; first | omega | (simp only [World.size_drew]; omega) | (simp only [size_alloc]; omega) | (simp only [World.size_drew, size_alloc]; omega) | (simp only [World.size_drew] at this; omega) | (simp only [size_alloc] at this; omega) | (simp only [World.size_drew, size_alloc] at this; omega)))) (fun hHeld => ?_); clear hK K; try simp only [Act.put, List.setIfInBounds_toArray, List.set_cons_zero, List.set_cons_succ])
  refine wpAnyH_ready (rs := [9]) (by kernel_rfl) (by simp) ?_
  refine AllReadyH.cons (o := ⟨some 112, _, _, _, _, _⟩) rfl (fun K hK => ?_) AllReadyH.nil
  focus (go_simp; (first | (go_at_call 86; refine (spec_PutHead0 5 ((l.length / 2 : Nat) : Int) kk _ _ ⟨by omega, by omega⟩).mono ?_; rintro e w3 ⟨a3, c3, rfl, happ3, hb3⟩; have HA3 := Lib.hid (happ3.less (show W0.heap.size ≤ _ by omega)); clear happ3; have hsz3 := hb3.size) | (go_at_call 89; refine (l13All_of l HI _ _ _ _ W0.heap.size _ _ B _ rfl HA3.out (by omega) (HR.out.below (H0.out.trans ((‹_ ∧ Below (W0.heap.size) W0 _›).2.mono (by omega))) hB) (by omega) hszl (by have := headL_len 5 ((l.length / 2 : Nat) : Int) kk; omega)).mono ?_; rintro e w4 ⟨a4, c4, rfl, happ4, hb4⟩; have hsz4 := hb4.size) | (go_at_call 87; (try simp only [T.l]); (try rw [hwq]); refine (spec_HeadForOk 5 ((l.length / 2 : Nat) : Int) _ (by omega) (by omega)).mono ?_; rintro e w2 ⟨⟨kk, rfl, hkk⟩, hb2⟩; have hsz2 := hb2.size; (try simp only [World.size_drew] at hsz2))); go_wp2_with fail; refine hK.out _ _ (by first | exact ⟨fun _ _ _ => rfl, (Below.refl _ _).drew⟩ | exact keep_step (by assumption) (Below.drew (Below.refl _ _)) (Nat.le_refl _) | exact keep_step (by assumption) (by assumption) (by first | omega | (simp only [World.size_drew]; omega) | (simp only [size_alloc]; omega) | (simp only [World.size_drew, size_alloc]; omega) | (have := (‹(_ ∧ Below (W0.heap.size) W0 _)›).2.size; first | omega | (simp only [World.size_drew]; omega) | (simp only [size_alloc]; omega) | (simp only [World.size_drew, size_alloc]; omega) | (simp only [World.size_drew] at this; omega) | (simp only [size_alloc] at this; omega) | (simp only [World.size_drew, size_alloc] at this; omega)))) (fun hHeld => ?_); clear hK K; try simp only [Act.put, List.setIfInBounds_toArray, List.set_cons_zero, List.set_cons_succ])
  refine wpAnyH_take (i := 10) (oi := ⟨some 2, _, _, _, _, _⟩) (v := ?_) rfl (by kernel_rfl) (by kernel_rfl) (by kernel_rfl) (fun _ _ _ h => h) (Or.inl ⟨by rfl, ?_⟩) (by assumption) ?_
  rotate_left 1
  · (intro w hSw; (try dsimp only at hSw); go_simp; try (with_reducible rfl))
  try simp only [Act.put, List.setIfInBounds_toArray, List.set_cons_zero, List.set_cons_succ]
  refine wpAnyH_done (by kernel_rfl) ?_ _
  all_goals
    have hBB := (‹_ ∧ Below (W0.heap.size) W0 _›).2
    go_wp2_with fail
    go_ret
    exact ⟨a4, c4, ret_sl (by rw [HE.out, hkk, List.length_append, show ((l.length / 2 : Nat) : Int) = (l.length : Int) / 2 from by omega]), by rw [HE.out, hkk]; exact happ4.less (by omega), H0.out.trans (hBB.mono (by omega))⟩
end Go.Proofs.YthpmfkkmhbbloaaGreatDoor
namespace Go.Proofs.YthpmfkkmhbbloaaGreatDoor
open Go.ChangeShapes Go.WideShapes Go.ChangeAt Go.RowKit Go.Joins
set_option linter.unusedVariables false
set_option maxRecDepth 100000
theorem spec_PackTight : ∀ t : T, PT t := by
  apply T.ind
  intro k n x s l ih
  by_cases h0 : ¬ (k = 1 ∨ k = 2 ∨ k = 3 ∨ k = 4 ∨ k = 5 ∨ k = 7 ∨ k = 8 ∨ k = 9 ∨ k = 10 ∨ k = 11)
  · exact pt0 k n x s l h0
  · rcases Classical.not_not.1 h0 with h | h | h | h | h | h | h | h | h | h
    · exact pt1 k n x s l h
    · exact pt2 k n x s l h
    · exact pt3 k n x s l h
    · exact pt4 k n x s l h
    · exact pt5 k n x s l h
    · subst h; exact pt7 n x s l
    · subst h; exact pt8 n x s l
    · subst h; exact pt9 n x s l ih
    · subst h; exact pt10 n x s l ih
    · subst h
      by_cases hn : 0 ≤ n ∧ n ≤ 1000000000000000
      · exact pt11 n x s l ih hn
      · exact pt11n n x s l hn
set_option maxHeartbeats 4000000 in
theorem spec_LessTight (t u : T) (a a' : Option Addr) (cap cap' B : Nat) (w : World) (hr : R w B a cap t.l) (hr' : R w B a' cap' u.l) (hwf : Wf t) (hwf' : Wf u) (hsz : T.sz t ≤ 1048576) (hsz' : T.sz u ≤ 1048576) (hB : B ≤ w.heap.size) :
    Calls Tryz.prog 68 #[.agg (cV t a cap), .agg (cV u a' cap')] w fun e w' => e = .returned (.bool (lexB (packT t) (packT u))) ∧ Below w.heap.size w w' := by
  have CT := Lib.hid (fun W h1 h2 => spec_PackTight t a cap B W h1 hwf hsz h2)
  have CU := Lib.hid (fun W h1 h2 => spec_PackTight u a' cap' B W h1 hwf' hsz' h2)
  have HR := Lib.hid hr
  have HR' := Lib.hid hr'
  clear hwf hwf' hsz hsz' hr hr'
  go_enter Tryz.func68, Tryz.ntmps68
  go_wp2_with fail
  generalize hW : (w.alloc (Obj.cells _ 29)).alloc (Obj.cells _ 29) = W0
  have q1 : Is W0 w.heap.size 29 (cV t a cap) := by subst hW; exact (Is.new _ _ _).alloc _
  have q2 : Is W0 (w.heap.size + 1) 29 (cV u a' cap') := by subst hW; exact Is.new2 _ _ _ _
  have H0 := Lib.hid (show Below w.heap.size w W0 from by subst hW; exact below2 _ _ _)
  have hs0 : W0.heap.size = w.heap.size + 2 := by subst hW; simp
  clear hW
  obtain ⟨r0, r1, r2, r3, r4⟩ := q1.cells5
  obtain ⟨s0, s1, s2, s3, s4⟩ := q2.cells5
  have hl3 : w.heap.size + 1 < W0.heap.size := by omega
  have hl4 : w.heap.size < W0.heap.size := by omega
  refine wp_region_held_drew (S := fun w' => (∀ b o, b < W0.heap.size → w'.cell? ⟨b, o, none⟩ = W0.cell? ⟨b, o, none⟩) ∧ Below (W0.heap.size) W0 w') (by kernel_rfl) (by first | exact ⟨fun _ _ _ => rfl, (Below.refl _ _).drew⟩ | exact keep_step (by assumption) (Below.drew (Below.refl _ _)) (Nat.le_refl _) | exact keep_step (by assumption) (by assumption) (by first | omega | (simp only [World.size_drew]; omega) | (simp only [size_alloc]; omega) | (simp only [World.size_drew, size_alloc]; omega) | (have := (‹(_ ∧ Below (W0.heap.size) W0 _)›).2.size; first | omega | (simp only [World.size_drew]; omega) | (simp only [size_alloc]; omega) | (simp only [World.size_drew, size_alloc]; omega) | (simp only [World.size_drew] at this; omega) | (simp only [size_alloc] at this; omega) | (simp only [World.size_drew, size_alloc] at this; omega)))) (fun hHeld => ?_)
  refine wpAnyH_take (i := 0) (oi := ⟨some 5, _, _, _, _, _⟩) (v := ?_) rfl (by kernel_rfl) (by kernel_rfl) (by kernel_rfl) (fun _ _ _ h => h) (Or.inl ⟨by rfl, ?_⟩) (by assumption) ?_
  rotate_left 1
  · (intro w hSw; (try dsimp only at hSw); go_simp; try (with_reducible rfl))
  try simp only [Act.put, List.setIfInBounds_toArray, List.set_cons_zero, List.set_cons_succ]
  refine wpAnyH_take (i := 2) (oi := ⟨some 7, _, _, _, _, _⟩) (v := ?_) rfl (by kernel_rfl) (by kernel_rfl) (by kernel_rfl) (fun _ _ _ h => h) (Or.inl ⟨by rfl, ?_⟩) (by assumption) ?_
  rotate_left 1
  · (intro w hSw; (try dsimp only at hSw); go_simp; try (with_reducible rfl))
  try simp only [Act.put, List.setIfInBounds_toArray, List.set_cons_zero, List.set_cons_succ]
  refine wpAnyH_ready (rs := [1]) (by kernel_rfl) (by simp) ?_
  refine AllReadyH.cons (o := ⟨some 6, _, _, _, _, _⟩) rfl (fun K hK => ?_) AllReadyH.nil
  go_simp
  (first | (go_at_call 101; refine (spec_LessBytes (packT t) (packT u) _ _ _ _ w4.heap.size _ (HA3.out.rd (by omega)) (HA4.out.rd (by omega)) (by first | exact Nat.le_refl _ | (simp only [World.size_drew]; omega))).mono ?_; rintro e w5 ⟨rfl, hb5⟩) | (go_at_call 54; have hguard := happ3; refine (CU.out _ (HR'.out.below (H0.out.trans ((‹_ ∧ Below (W0.heap.size) W0 _›).2.mono (by omega))) hB) (by have := (‹_ ∧ Below (W0.heap.size) W0 _›).2.size; omega)).mono ?_; rintro e w4 ⟨a4, c4, rfl, happ4, hb4⟩; have hsz4 := hb4.size; (try simp only [World.size_drew] at hsz4); have HA3 := Lib.hid ((happ3.less (show W0.heap.size ≤ _ by first | omega | (simp only [World.size_drew]; omega))).agree EByte.elem (fun f hf => hb4.block f hf) (by omega)); have HA4 := Lib.hid (happ4.less (show W0.heap.size ≤ _ by first | omega | (simp only [World.size_drew]; omega)))) | (go_at_call 54; refine (CT.out _ (HR.out.below (H0.out.trans ((‹_ ∧ Below (W0.heap.size) W0 _›).2.mono (by omega))) hB) (by have := (‹_ ∧ Below (W0.heap.size) W0 _›).2.size; omega)).mono ?_; rintro e w3 ⟨a3, c3, rfl, happ3, hb3⟩; have hsz3 := hb3.size; (try simp only [World.size_drew] at hsz3)))
  go_wp2_with fail
  refine hK.out _ _ (by first | exact ⟨fun _ _ _ => rfl, (Below.refl _ _).drew⟩ | exact keep_step (by assumption) (Below.drew (Below.refl _ _)) (Nat.le_refl _) | exact keep_step (by assumption) (by assumption) (by first | omega | (simp only [World.size_drew]; omega) | (simp only [size_alloc]; omega) | (simp only [World.size_drew, size_alloc]; omega) | (have := (‹(_ ∧ Below (W0.heap.size) W0 _)›).2.size; first | omega | (simp only [World.size_drew]; omega) | (simp only [size_alloc]; omega) | (simp only [World.size_drew, size_alloc]; omega) | (simp only [World.size_drew] at this; omega) | (simp only [size_alloc] at this; omega) | (simp only [World.size_drew, size_alloc] at this; omega)))) (fun hHeld => ?_)
  clear hK K
  try simp only [Act.put, List.setIfInBounds_toArray, List.set_cons_zero, List.set_cons_succ]
  refine wpAnyH_ready (rs := [3]) (by kernel_rfl) (by simp) ?_
  refine AllReadyH.cons (o := ⟨some 8, _, _, _, _, _⟩) rfl (fun K hK => ?_) AllReadyH.nil
  focus (go_simp; (first | (go_at_call 101; refine (spec_LessBytes (packT t) (packT u) _ _ _ _ w4.heap.size _ (HA3.out.rd (by omega)) (HA4.out.rd (by omega)) (by first | exact Nat.le_refl _ | (simp only [World.size_drew]; omega))).mono ?_; rintro e w5 ⟨rfl, hb5⟩) | (go_at_call 54; have hguard := happ3; refine (CU.out _ (HR'.out.below (H0.out.trans ((‹_ ∧ Below (W0.heap.size) W0 _›).2.mono (by omega))) hB) (by have := (‹_ ∧ Below (W0.heap.size) W0 _›).2.size; omega)).mono ?_; rintro e w4 ⟨a4, c4, rfl, happ4, hb4⟩; have hsz4 := hb4.size; (try simp only [World.size_drew] at hsz4); have HA3 := Lib.hid ((happ3.less (show W0.heap.size ≤ _ by first | omega | (simp only [World.size_drew]; omega))).agree EByte.elem (fun f hf => hb4.block f hf) (by omega)); have HA4 := Lib.hid (happ4.less (show W0.heap.size ≤ _ by first | omega | (simp only [World.size_drew]; omega)))) | (go_at_call 54; refine (CT.out _ (HR.out.below (H0.out.trans ((‹_ ∧ Below (W0.heap.size) W0 _›).2.mono (by omega))) hB) (by have := (‹_ ∧ Below (W0.heap.size) W0 _›).2.size; omega)).mono ?_; rintro e w3 ⟨a3, c3, rfl, happ3, hb3⟩; have hsz3 := hb3.size; (try simp only [World.size_drew] at hsz3))); go_wp2_with fail; refine hK.out _ _ (by first | exact ⟨fun _ _ _ => rfl, (Below.refl _ _).drew⟩ | exact keep_step (by assumption) (Below.drew (Below.refl _ _)) (Nat.le_refl _) | exact keep_step (by assumption) (by assumption) (by first | omega | (simp only [World.size_drew]; omega) | (simp only [size_alloc]; omega) | (simp only [World.size_drew, size_alloc]; omega) | (have := (‹(_ ∧ Below (W0.heap.size) W0 _)›).2.size; first | omega | (simp only [World.size_drew]; omega) | (simp only [size_alloc]; omega) | (simp only [World.size_drew, size_alloc]; omega) | (simp only [World.size_drew] at this; omega) | (simp only [size_alloc] at this; omega) | (simp only [World.size_drew, size_alloc] at this; omega)))) (fun hHeld => ?_); clear hK K; try simp only [Act.put, List.setIfInBounds_toArray, List.set_cons_zero, List.set_cons_succ])
  refine wpAnyH_ready (rs := [4]) (by kernel_rfl) (by simp) ?_
  refine AllReadyH.cons (o := ⟨some 9, _, _, _, _, _⟩) rfl (fun K hK => ?_) AllReadyH.nil
  focus (go_simp; (first | (go_at_call 101; refine (spec_LessBytes (packT t) (packT u) _ _ _ _ w4.heap.size _ (HA3.out.rd (by omega)) (HA4.out.rd (by omega)) (by first | exact Nat.le_refl _ | (simp only [World.size_drew]; omega))).mono ?_; rintro e w5 ⟨rfl, hb5⟩) | (go_at_call 54; have hguard := happ3; refine (CU.out _ (HR'.out.below (H0.out.trans ((‹_ ∧ Below (W0.heap.size) W0 _›).2.mono (by omega))) hB) (by have := (‹_ ∧ Below (W0.heap.size) W0 _›).2.size; omega)).mono ?_; rintro e w4 ⟨a4, c4, rfl, happ4, hb4⟩; have hsz4 := hb4.size; (try simp only [World.size_drew] at hsz4); have HA3 := Lib.hid ((happ3.less (show W0.heap.size ≤ _ by first | omega | (simp only [World.size_drew]; omega))).agree EByte.elem (fun f hf => hb4.block f hf) (by omega)); have HA4 := Lib.hid (happ4.less (show W0.heap.size ≤ _ by first | omega | (simp only [World.size_drew]; omega)))) | (go_at_call 54; refine (CT.out _ (HR.out.below (H0.out.trans ((‹_ ∧ Below (W0.heap.size) W0 _›).2.mono (by omega))) hB) (by have := (‹_ ∧ Below (W0.heap.size) W0 _›).2.size; omega)).mono ?_; rintro e w3 ⟨a3, c3, rfl, happ3, hb3⟩; have hsz3 := hb3.size; (try simp only [World.size_drew] at hsz3))); go_wp2_with fail; refine hK.out _ _ (by first | exact ⟨fun _ _ _ => rfl, (Below.refl _ _).drew⟩ | exact keep_step (by assumption) (Below.drew (Below.refl _ _)) (Nat.le_refl _) | exact keep_step (by assumption) (by assumption) (by first | omega | (simp only [World.size_drew]; omega) | (simp only [size_alloc]; omega) | (simp only [World.size_drew, size_alloc]; omega) | (have := (‹(_ ∧ Below (W0.heap.size) W0 _)›).2.size; first | omega | (simp only [World.size_drew]; omega) | (simp only [size_alloc]; omega) | (simp only [World.size_drew, size_alloc]; omega) | (simp only [World.size_drew] at this; omega) | (simp only [size_alloc] at this; omega) | (simp only [World.size_drew, size_alloc] at this; omega)))) (fun hHeld => ?_); clear hK K; try simp only [Act.put, List.setIfInBounds_toArray, List.set_cons_zero, List.set_cons_succ])
  refine wpAnyH_take (i := 5) (oi := ⟨some 4, _, _, _, _, _⟩) (v := ?_) rfl (by kernel_rfl) (by kernel_rfl) (by kernel_rfl) (fun _ _ _ h => h) (Or.inl ⟨by rfl, ?_⟩) (by assumption) ?_
  rotate_left 1
  · (intro w hSw; (try dsimp only at hSw); go_simp; try (with_reducible rfl))
  try simp only [Act.put, List.setIfInBounds_toArray, List.set_cons_zero, List.set_cons_succ]
  refine wpAnyH_done (by kernel_rfl) ?_ _
  all_goals
    have hBB := (‹_ ∧ Below (W0.heap.size) W0 _›).2
    go_wp2_with fail
    go_ret
    exact ⟨rfl, H0.out.trans (hBB.mono (by omega))⟩
end Go.Proofs.YthpmfkkmhbbloaaGreatDoor
namespace Go.Proofs.YthpmfkkmhbbloaaGreatDoor
open Go.ChangeShapes Go.WideShapes Go.ChangeAt Go.RowKit Go.Joins
set_option linter.unusedVariables false
set_option maxRecDepth 100000
set_option maxHeartbeats 4000000 in
theorem spec_l13Fits : ∀ t : T, ∀ (a : Option Addr) (cap B : Nat) (w : World), R w B a cap t.l → Wf t → T.sz t ≤ 1048576 → B ≤ w.heap.size →
    Calls Tryz.prog 38 #[.agg (cV t a cap)] w fun e w' => e = .returned (.bool (allB tightU t)) ∧ Below w.heap.size w w' := by
  intro t
  induction t using T.ind with
  | h k n x s l ih =>
    intro a cap B w hr hwf hsz hB
    have IH := Lib.hid ih; clear ih
    obtain ⟨hk, hn, hx, _⟩ := hwf
    simp only [cV, T.k, T.n, T.x, T.s, T.l] at hr hk hn hx ⊢
    obtain ⟨hk0, hk1⟩ := hk
    rw [sz_of] at hsz
    have hl0 := T.length_le_szL l
    obtain ⟨hlc, hcap⟩ := hr.len
    have HR := Lib.hid hr; clear hr
    have HALL0 := Lib.hid (allB_eq tightU (.mk k n x s l))
    go_enter Tryz.func38, Tryz.ntmps38
    go_wp2_with fail
    generalize hW : w.alloc (Obj.cells #[Value.int IntKind.i64 k, Value.int IntKind.i64 n, Value.int IntKind.i64 x, Value.string s, Value.slice a l.length cap] 29) = W0
    have q1 : Is W0 w.heap.size 29 #[Value.int IntKind.i64 k, Value.int IntKind.i64 n, Value.int IntKind.i64 x, Value.string s, Value.slice a l.length cap] := by subst hW; exact Is.new _ _ _
    have H0 := Lib.hid (show Below w.heap.size w W0 from by subst hW; exact below1 _ _)
    have hs0 : W0.heap.size = w.heap.size + 1 := by subst hW; simp
    clear hW
    go_loopw [3] (fun i wr => ∃ (j : Nat), j ≤ l.length ∧ i = .int .i64 j ∧ Hid ((l.take j).all (allB tightU) = true) ∧ Below W0.heap.size W0 wr) (fun i _ => l.length - (intOf i).toNat)
    case atStart => exact ⟨0, Nat.zero_le _, rfl, rfl, Below.refl _ _⟩
    case round =>
      obtain ⟨j, hj, rfl, HA, hb⟩ := hrel
      have hbs := hb.size
      have hbox := q1.below hb (by omega)
      have hbox0 := hbox
      obtain ⟨r0, r1, r2, r3, r4⟩ := hbox.cells5
      have hlt2 : w.heap.size < wr.heap.size := by omega
      have HBw := Lib.hid (H0.out.trans (hb.mono (by omega)))
      by_cases hlt : j < l.length
      · obtain ⟨b, o, a2, cap2, rfl, hbl, d0, d1, d2, d3, d4, hwfj, hq⟩ := (HR.out.below HBw.out hB).get j hlt
        have hlb : b < wr.heap.size := by omega
        have hszj := T.sz_get l j hlt
        have HWF := Lib.hid hwfj; clear hwfj
        have HQ := Lib.hid hq; clear hq
        have HT := Lib.hid (all_take_succ (allB tightU) l j hlt)
        have HF := Lib.hid (all_false (allB tightU) l j hlt)
        go_wp2_with fail
        refine (IH.out l[j] (List.getElem_mem hlt) a2 cap2 B wr HQ.out HWF.out (by omega) (by omega)).mono ?_
        rintro e w2 ⟨rfl, hb2⟩
        cases hv : allB tightU l[j] with
        | false =>
          have HE := Lib.hid (show allB tightU (.mk k n x s l) = false from by rw [HALL0.out]; simp only [T.l]; rw [HF.out hv, Bool.and_false])
          clear HF HT hv
          go_wp2_with fail
          go_ret
          exact ⟨ret_b (by rw [HE.out]), HBw.out.trans (hb2.mono HBw.out.size)⟩
        | true =>
          have HE := Lib.hid (show (l.take (j + 1)).all (allB tightU) = true from by rw [HT.out, HA.out, hv]; rfl)
          clear HF HT hv
          go_wp2_with fail
          go_roundw
          case rel => exact ⟨j + 1, by omega, by go_num, HE.out, hb.trans (hb2.mono hbs)⟩
          case measure => simp [intOf]; omega
      · have hjj : l.length = j := by omega
        have HJ := Lib.hid (show l.take j = l from by rw [← hjj, List.take_length]); clear hjj
        have HALL := Lib.hid (show allB tightU (.mk k n x s l) = tightU (.mk k n x s l) from by rw [HALL0.out]; simp only [T.l]; rw [show l.all (allB tightU) = true from by rw [← HJ.out]; exact HA.out, Bool.and_true])
        clear HA HJ IH HALL0 hb q1 H0 hs0
        by_cases h10 : k = 10
        · have HD := Lib.hid (HALL.out.trans (tightU_map (t := .mk k n x s l) h10))
          simp only [T.l] at HD
          subst h10
          go_wp2_with fail
          clear r0 r1 r2 r3 r4 hbox
          go_loopw [4] (fun iv w5 => ∃ (p i q : Nat), i = 2 * p ∧ q = i + 2 ∧ 2 * p ≤ l.length + 1 ∧ iv = .int .i64 (q : Int) ∧ Hid (ascU (evN l ((l.length + 1) / 2)) (p + 1) = true) ∧ Below wr.heap.size wr w5) (fun iv _ => l.length + 2 - (intOf iv).toNat)
          case atStart => exact ⟨0, 0, 2, rfl, rfl, by omega, rfl, Lib.hid rfl, Below.refl _ _⟩
          case round =>
            obtain ⟨p, i, q, hip, hqi, hpl, rfl, HP, hb5⟩ := hrel
            rename World => w5
            have hs5 := hb5.size
            have hbox5 := hbox0.below hb5 hlt2
            obtain ⟨y0, y1, y2, y3, y4⟩ := hbox5.cells5
            have hlt5 : w.heap.size < w5.heap.size := by omega
            have HB5 := Lib.hid (HBw.out.trans (hb5.mono (by omega)))
            by_cases hil : q < l.length
            · obtain ⟨b, o, a2, cap2, hba, hbl, d0, d1, d2, d3, d4, hwf1, hq1⟩ := (HR.out.below HB5.out hB).get q hil
              obtain ⟨b', o', a3, cap3, ha, hbl', d0', d1', d2', d3', d4', hwf2, hq2⟩ := (HR.out.below HB5.out hB).get i (by omega)
              subst hba
              injection ha with ha; injection ha with ha ha2; subst ha ha2
              have hlb : b < w5.heap.size := by omega
              have hi1 : (0 : Int) ≤ (q : Int) := by omega
              have hi2 : (q : Int) < (l.length : Int) := by omega
              have hi3 : (0 : Int) ≤ (i : Int) := by omega
              have hi4 : (i : Int) < (l.length : Int) := by omega
              have hwr : IntKind.i64.wrap ((q : Int) - 2) = (i : Int) := by rw [show (q : Int) - 2 = (i : Int) from by omega]; rw [Go.IntWalk.i64_left]; exact Go.IntWalk.wrap64_in _ ⟨by omega, by omega⟩
              have HQ1 := Lib.hid hq1; have HQ2 := Lib.hid hq2; have HW1 := Lib.hid hwf1; have HW2 := Lib.hid hwf2
              have hz1 := T.sz_get l q hil
              have hz2 := T.sz_get l i (by omega)
              have HS := Lib.hid (show ascU (evN l ((l.length + 1) / 2)) (p + 2) = (ascU (evN l ((l.length + 1) / 2)) (p + 1) && lexB (packT (l[i]'(by omega))) (packT l[q])) from by
                subst hqi hip; rw [evAsc_succ l _ p rfl (by omega)])
              clear hq1 hq2 hwf1 hwf2 hbl hbl'
              obtain ⟨u, hu⟩ : ∃ u, l[q] = u := ⟨_, rfl⟩
              obtain ⟨v, hv⟩ : ∃ v, l[i]'(by omega) = v := ⟨_, rfl⟩
              rw [hu] at d0 d1 d2 d3 d4 HQ1 HW1 HS hz1
              rw [hv] at d0' d1' d2' d3' d4' HQ2 HW2 HS hz2
              have HQI := Lib.hid hqi; have HIP := Lib.hid hip
              clear hqi hip hu hv
              go_wp2_with fail
              go_region_held3 (fun w' => (∀ b o, b < w5.heap.size → w'.cell? ⟨b, o, none⟩ = w5.cell? ⟨b, o, none⟩) ∧ Below (w5.heap.size) w5 w') (first | exact ⟨fun _ _ _ => rfl, (Below.refl _ _).drew⟩ | exact keep_step (by assumption) (Below.drew (Below.refl _ _)) (Nat.le_refl _) | exact keep_step (by assumption) (by assumption) (by first | omega | (simp only [World.size_drew]; omega) | (simp only [size_alloc]; omega) | (simp only [World.size_drew, size_alloc]; omega) | (have := (‹(_ ∧ Below (w5.heap.size) w5 _)›).2.size; first | omega | (simp only [World.size_drew]; omega) | (simp only [size_alloc]; omega) | (simp only [World.size_drew, size_alloc]; omega) | (simp only [World.size_drew] at this; omega) | (simp only [size_alloc] at this; omega) | (simp only [World.size_drew, size_alloc] at this; omega))) | exact keep_step (by assumption) (below1 _ _) (by first | omega | (simp only [World.size_drew]; omega) | (simp only [size_alloc]; omega) | (simp only [World.size_drew, size_alloc]; omega) | (have := (‹(_ ∧ Below (w5.heap.size) w5 _)›).2.size; first | omega | (simp only [World.size_drew]; omega) | (simp only [size_alloc]; omega) | (simp only [World.size_drew, size_alloc]; omega) | (simp only [World.size_drew] at this; omega) | (simp only [size_alloc] at this; omega) | (simp only [World.size_drew, size_alloc] at this; omega)))) (first | (go_at_call 68; refine (spec_LessTight v u a3 a2 cap3 cap2 B _ (HQ2.out.below (‹_ ∧ Below (w5.heap.size) w5 _›).2 (by omega)) (HQ1.out.below (‹_ ∧ Below (w5.heap.size) w5 _›).2 (by omega)) HW2.out HW1.out (by omega) (by omega) (by have := (‹_ ∧ Below (w5.heap.size) w5 _›).2.size; omega)).mono ?_; rintro e w6 ⟨rfl, hb6⟩))
              have hb6 := (‹_ ∧ Below (w5.heap.size) w5 _›).2
              cases hx : lexB (packT v) (packT u) with
              | false =>
                have HF := Lib.hid (show allB tightU (.mk 10 n x s l) = false from by rw [HD.out]; exact ascU_false _ (p + 2) _ (by have := HQI.out; have := HIP.out; omega) (by rw [HS.out, HP.out, hx]; rfl))
                go_wp2_with fail
                go_ret
                exact ⟨ret_b (by rw [HF.out]), HB5.out.trans (hb6.mono (by omega))⟩
              | true =>
                have HP2 := Lib.hid (show ascU (evN l ((l.length + 1) / 2)) (p + 1 + 1) = true from by rw [HS.out, HP.out, hx]; rfl)
                go_wp2_with fail
                go_roundw
                case rel => exact ⟨p + 1, q, q + 2, by have := HQI.out; have := HIP.out; omega, rfl, by have := HQI.out; have := HIP.out; omega, by go_num, HP2, hb5.trans (hb6.mono (by omega))⟩
                case measure => simp [intOf]; omega
            · have HT := Lib.hid (show allB tightU (.mk 10 n x s l) = true from by
                rw [HD.out]
                by_cases h : ascU (evN l ((l.length + 1) / 2)) ((l.length + 1) / 2) = true
                · exact h
                · have h' := ascU_false _ _ (p + 1) (by omega) (Bool.not_eq_true _ ▸ h)
                  rw [HP.out] at h'; cases h')
              go_wp2_with fail
              go_ret
              exact ⟨ret_b (by rw [HT.out]; first | done | rfl | simp), HB5.out⟩
        · have HD := Lib.hid (HALL.out.trans (tightU_not (t := .mk k n x s l) h10))
          simp only [T.k] at HD
          have hz : ¬ k = 10 := h10
          go_wp2_with fail
          go_loopw [4] (fun iv w5 => iv = .int .i64 2 ∧ w5 = wr) (fun _ _ => 0)
          case atStart => exact ⟨rfl, rfl⟩
          case round =>
            obtain ⟨rfl, hw5⟩ := hrel
            subst hw5
            by_cases hl2 : 2 < l.length
            · go_wp2_with fail
              go_ret
              exact ⟨ret_b (by rw [HD.out]; first | done | rfl | (by_cases h6 : k = 6 <;> simp [h6])), HBw.out⟩
            · go_wp2_with fail
              go_ret
              exact ⟨ret_b (by rw [HD.out]; first | done | rfl | (by_cases h6 : k = 6 <;> simp [h6])), HBw.out⟩
set_option maxHeartbeats 1000000 in
theorem spec_FitsTight (t : T) (a : Option Addr) (cap B : Nat) (w : World) (hr : R w B a cap t.l) (hwf : Wf t) (hsz : T.sz t ≤ 1048576) (hB : B ≤ w.heap.size) :
    Calls Tryz.prog 18 #[.agg (cV t a cap)] w fun e w' => e = .returned (.bool (allB ownB t && allB tightU t)) ∧ Below w.heap.size w w' := by
  have HR := Lib.hid hr; clear hr
  have HWF := Lib.hid hwf; clear hwf
  have H0 := Lib.hid (below1 w (.cells (cV t a cap) 29))
  have q0 := Is.new w (cV t a cap) 29
  go_enter Tryz.func18, Tryz.ntmps18
  go_wp2_with fail
  refine (spec_ValOk t a cap B _ (HR.out.below H0.out hB) HWF.out hsz (by simp; omega)).mono ?_
  rintro e w1 ⟨rfl, hb1⟩
  have HB1 := Lib.hid (below_step H0.out hb1 (by simp))
  have p1 := q0.below hb1 (by simp)
  obtain ⟨r0, r1, r2, r3, r4⟩ := p1.cells5
  have l1 : w.heap.size < w1.heap.size := by have := hb1.size; simp at this; omega
  clear hb1
  cases hv : allB ownB t with
  | false =>
    have HV := Lib.hid hv; clear hv
    go_wp2_with fail
    go_ret
    exact ⟨ret_b (by rw [HV.out]; rfl), HB1.out⟩
  | true =>
    have HV := Lib.hid hv; clear hv
    go_wp2_with fail
    refine (spec_l13Fits t a cap B _ (HR.out.below HB1.out hB) HWF.out hsz (by omega)).mono ?_
    rintro e w2 ⟨rfl, hb2⟩
    go_wp2_with fail
    go_ret
    exact ⟨ret_b (by rw [HV.out]; rfl), HB1.out.trans (hb2.mono HB1.out.size)⟩
end Go.Proofs.YthpmfkkmhbbloaaGreatDoor
namespace Go.Proofs.YthpmfkkmhbbloaaGreatDoor
open Go.ChangeShapes Go.WideShapes Go.ChangeAt Go.RowKit Go.Joins
set_option linter.unusedVariables false
set_option maxRecDepth 100000
theorem u8_nat {x : Int} (h : U8 x) : (UInt8.ofNat x.toNat).toNat = x.toNat := by
  unfold U8 at h
  rw [UInt8.toNat_ofNat']; omega
theorem lexB_compare : ∀ (x y : List Int), (∀ a ∈ x, U8 a) → (∀ a ∈ y, U8 a) → lexB x y = decide (Lib.compareBytes (Lib.bytesOf x) (Lib.bytesOf y) < 0)
  | [], [], _, _ => rfl
  | [], _ :: _, _, _ => rfl
  | _ :: _, [], _, _ => rfl
  | a :: x, b :: y, hx, hy => by
    have ih := lexB_compare x y (fun c hc => hx c (List.mem_cons_of_mem _ hc)) (fun c hc => hy c (List.mem_cons_of_mem _ hc))
    have ha := hx a (List.mem_cons_self ..)
    have hb := hy b (List.mem_cons_self ..)
    have e1 := u8_nat ha
    have e2 := u8_nat hb
    have i1 : 0 ≤ a := by unfold U8 at ha; omega
    have i2 : 0 ≤ b := by unfold U8 at hb; omega
    simp only [lexB, Lib.bytesOf, List.map_cons, Lib.compareBytes]
    rw [show List.map (fun n => UInt8.ofNat n.toNat) x = Lib.bytesOf x from rfl, show List.map (fun n => UInt8.ofNat n.toNat) y = Lib.bytesOf y from rfl]
    have l1 : (UInt8.ofNat a.toNat < UInt8.ofNat b.toNat) ↔ a < b := by rw [UInt8.lt_iff_toNat_lt, e1, e2]; omega
    have l2 : (UInt8.ofNat b.toNat < UInt8.ofNat a.toNat) ↔ b < a := by rw [UInt8.lt_iff_toNat_lt, e1, e2]; omega
    simp only [l1, l2]
    by_cases h : a = b
    · subst h
      rw [if_pos rfl, if_neg (by omega), if_neg (by omega)]; exact ih
    · rw [if_neg h]
      by_cases h1 : a < b
      · rw [if_pos h1, decide_eq_true h1]; rfl
      · rw [if_neg h1, if_pos (by omega), decide_eq_false h1]; rfl
theorem run_bytesOfRd {P : Program} (w : World) (x : List Int) (a : Option Addr) (cap B : Nat) (hr : Rd EByte 1 w B a cap x) :
    (Extern.Bytes.bytesOf (.slice a x.length cap)).run P w = .ok ⟨(Lib.bytesOf x).toArray⟩ w := by
  by_cases h : x = []
  · subst h
    cases a <;> simp [Extern.Bytes.bytesOf, Extern.Bytes.loadBytes, Lib.bytesOf] <;> rfl
  · have hp : 0 < x.length := List.length_pos_iff.2 h
    obtain ⟨b, o, ha, _, _, _⟩ := hr.byte 0 hp
    subst ha
    have := Lib.run_loadBytesX (P := P) w x ⟨b, o, none⟩ .empty (fun j v hj => by
      have hjl : j < x.length := by
        rcases Nat.lt_or_ge j x.length with h | h
        · exact h
        · rw [List.getElem?_eq_none h] at hj; cases hj
      obtain ⟨b', o', ha, _, hc, _⟩ := hr.byte j hjl
      injection ha with ha; injection ha with ha ha2; subst ha ha2
      rw [Addr.add_lit, hc]
      rw [List.getElem?_eq_getElem hjl] at hj
      injection hj with hj; rw [hj])
    simp only [Extern.Bytes.bytesOf]
    rw [this]
    exact congrArg (fun z => Result.ok (ByteArray.mk z) w) (by show (#[] : Array UInt8) ++ _ = _; simp)
theorem run_compareSl {P : Program} (w : World) (x y : List Int) (a a' : Option Addr) (cap cap' B : Nat) (hr : Rd EByte 1 w B a cap x) (hr' : Rd EByte 1 w B a' cap' y) :
    (Extern.BytealgCompare.compare #[.slice a x.length cap, .slice a' y.length cap']).run P w = .ok (.int .i64 (Lib.compareBytes (Lib.bytesOf x) (Lib.bytesOf y))) w := by
  change Sem.run P (do pure (goInt (Extern.BytealgCompare.cmp (← Extern.Bytes.bytesOf (.slice a x.length cap)) (← Extern.Bytes.bytesOf (.slice a' y.length cap'))))) w = _
  simp only [Sem.run_bind, Sem.run_pure, run_bytesOfRd w x a cap B hr, run_bytesOfRd w y a' cap' B hr', Result.andThen]
  rw [Lib.cmp_eq]
  rfl
set_option maxHeartbeats 2000000 in
set_option maxRecDepth 100000 in
theorem bytes_Compare (x y : List Int) (a a' : Option Addr) (cap cap' B : Nat) (w : World) (hr : Rd EByte 1 w B a cap x) (hr' : Rd EByte 1 w B a' cap' y) :
    Calls Tryz.prog 108 #[.slice a x.length cap, .slice a' y.length cap'] w fun e w' => e = .returned (.int .i64 (Lib.compareBytes (Lib.bytesOf x) (Lib.bytesOf y))) ∧ w' = w := by
  have HC := Lib.hid (run_compareSl (P := Tryz.prog) w x y a a' cap cap' B hr hr')
  clear hr hr'
  go_enter Tryz.func108, Tryz.ntmps108
  go_wp2
  rw [run_callFunc_extern Tryz.func134 (by kernel_rfl) (by kernel_rfl) (by kernel_rfl) (e := Extern.BytealgCompare.compare) (by kernel_rfl), HC.out]
  simp only [Result.andThen]
  rw [Oper.upon_value]
  go_wp2
  go_ret
  exact ⟨rfl, rfl⟩
theorem impl_LessBytes (x y : List Int) (a a' : Option Addr) (cap cap' B : Nat) (w : World) (hr : Rd EByte 1 w B a cap x) (hr' : Rd EByte 1 w B a' cap' y) (hu : ∀ v ∈ x, U8 v) (hu' : ∀ v ∈ y, U8 v) :
    Calls Tryz.prog 76 #[.slice a x.length cap, .slice a' y.length cap'] w fun e w' => e = .returned (.bool (lexB x y)) ∧ Below w.heap.size w w' := by
  have HC := Lib.hid (bytes_Compare x y a a' cap cap' B w hr hr')
  have HL := Lib.hid (lexB_compare x y hu hu')
  clear hr hr' hu hu'
  go_enter Tryz.func76, Tryz.ntmps76
  go_wp2_with fail
  refine HC.out.mono ?_
  rintro e w2 ⟨rfl, rfl⟩
  go_wp2_with fail
  go_ret
  exact ⟨ret_b (by rw [HL.out]), Below.refl _ _⟩
end Go.Proofs.YthpmfkkmhbbloaaGreatDoor
