/- Texts of this proof, merged: FltD. No condition beyond what each theorem states. -/
import Derived.Test.YtggdenkmohnijaaGreatDoorZN18
set_option linter.unusedSimpArgs false
set_option linter.unnecessarySimpa false
namespace Go.Proofs.YtggdenkmohnijaaGreatDoor
open Go.ChangeShapes Go.WideShapes Go.ChangeAt Go.RowKit Go.Joins
set_option linter.unusedVariables false
set_option maxRecDepth 100000
def fltDecD (m e : Int) : Int × Int := if ¬ fltOk m e then (0, 0) else if 0 ≤ e then (wrap64 (m * 2 ^ e.toNat), 0) else (decNewD (m * (5 ^ (-e).toNat : Nat)) (-e).toNat).1
theorem fltOk_small {m e : Int} (h : fltOk m e) : -65535 ≤ m ∧ m ≤ 65535 ∧ -16 ≤ e ∧ e ≤ 46 := by
  rcases h with ⟨rfl, rfl⟩ | ⟨_, h1, _, h2, h3 | h3⟩ <;> omega
theorem five_le {k : Nat} (h : k ≤ 16) : 5 ^ k ≤ 152587890625 := by
  have h1 : 5 ^ k ≤ 5 ^ 16 := Nat.pow_le_pow_right (by omega) h
  have h2 : (5 : Nat) ^ 16 = 152587890625 := by decide
  omega
theorem mul_box {m : Int} {P : Nat} (h0 : -65535 ≤ m) (h1 : m ≤ 65535) (hP : P ≤ 152587890625) : -10000000000000000 ≤ m * (P : Int) ∧ m * (P : Int) ≤ 10000000000000000 := by
  have hp : (0 : Int) ≤ (P : Int) := by omega
  have a := Int.mul_le_mul_of_nonneg_right h1 hp
  have b := Int.mul_le_mul_of_nonneg_right h0 hp
  omega
theorem stripD_abs (k : Nat) : ∀ n : Int, (stripD k n).1.natAbs ≤ n.natAbs := by
  induction k with
  | zero => intro n; simp [stripD]
  | succ k ih =>
    intro n
    rw [stripD]
    split
    · have h1 := ih (n.tdiv 10)
      have h2 := tdiv_abs n
      omega
    · simp
theorem decNewD_box (n : Int) (k : Nat) (hk : k ≤ 40) (h : I64 n) : I64 (decNewD n k).1.1 ∧ -40 ≤ (decNewD n k).1.2 ∧ (decNewD n k).1.2 ≤ 0 := by
  have h1 := stripD_abs k n
  have h2 := stripD_le k n
  obtain ⟨ha, hb⟩ := h
  unfold decNewD
  split
  · exact ⟨⟨by simp, by simp⟩, by simp, by simp⟩
  · split
    · exact ⟨⟨by simp, by simp⟩, by simp, by simp⟩
    · split
      · rename_i h17 h0 hd
        have hbox : (stripD k n).1.natAbs < 100000000000000000 := by
          rcases hd with ⟨_, d1, d2⟩ | ⟨_, _, d3, _⟩
          · omega
          · have h3 := Lib.lt_pow_nDigits (stripD k n).1.natAbs
            have h4 : 10 ^ (Lib.nDigits (stripD k n).1.natAbs) ≤ 10 ^ 17 := Nat.pow_le_pow_right (by omega) d3
            have h5 : (10 : Nat) ^ 17 = 100000000000000000 := by decide
            omega
        refine ⟨⟨?_, ?_⟩, ?_, ?_⟩
        · show _ ≤ (stripD k n).1; omega
        · show (stripD k n).1 ≤ _; omega
        · show -40 ≤ -((stripD k n).2 : Int); omega
        · show -((stripD k n).2 : Int) ≤ 0; omega
      · exact ⟨⟨by simp, by simp⟩, by simp, by simp⟩
theorem wrap_box (n : Int) : I64 (wrap64 n) := by
  unfold I64 wrap64
  constructor <;> (first | omega | (simp; omega) | (split <;> omega))
theorem fltDecD_box (m e : Int) : I64 (fltDecD m e).1 ∧ -40 ≤ (fltDecD m e).2 ∧ (fltDecD m e).2 ≤ 0 := by
  unfold fltDecD
  split
  · exact ⟨⟨by simp, by simp⟩, by simp, by simp⟩
  · rename_i h
    have hs := fltOk_small (Decidable.not_not.1 h)
    split
    · exact ⟨wrap_box _, by simp, by simp⟩
    · have h5 := five_le (k := (-e).toNat) (by omega)
      have h6 := mul_box hs.1 hs.2.1 h5
      exact decNewD_box _ _ (by omega) ⟨by omega, by omega⟩
set_option maxHeartbeats 4000000 in
theorem spec_FltDec (m e : Int) (w : World) (hm : I64 m) (he : I64 e) :
    Calls Tryz.prog 206 #[.agg (cF m e)] w fun ee w' => ee = .returned (.agg (cF (fltDecD m e).1 (fltDecD m e).2)) ∧ Below w.heap.size w w' := by
  have HM := Lib.hid hm
  have HE := Lib.hid he
  obtain ⟨hm0, hm1⟩ := hm
  obtain ⟨he0, he1⟩ := he
  go_enter Tryz.func206, Tryz.ntmps206
  go_wp2_with fail
  generalize hW : (w.alloc (Obj.cells (cF m e) 61)).alloc (Obj.cells (cF 0 0) 100) = W0
  have q1 : Is W0 w.heap.size 61 (cF m e) := by subst hW; exact (Is.new _ _ _).alloc _
  have q2 : Is W0 (w.heap.size + 1) 100 (cF 0 0) := by subst hW; exact Is.new2 _ _ _ _
  have H0 := Lib.hid (show Below w.heap.size w W0 from by subst hW; exact below2 _ _ _)
  have hs0 : W0.heap.size = w.heap.size + 2 := by subst hW; simp
  clear hW
  refine (spec_FltOk m e W0 HM.out HE.out).mono ?_
  rintro ee w2 ⟨rfl, hb2⟩
  have hs2 := hb2.size
  have p1 := q1.below hb2 (by omega)
  have p2 := q2.below hb2 (by omega)
  have HB2 := Lib.hid (H0.out.trans (hb2.mono (by omega))); clear hb2
  obtain ⟨x0, x1⟩ := p1.cells2b
  obtain ⟨z0, z1⟩ := p2.cells2b
  have ff := fun i => p2.frozen i
  have l1 : w.heap.size < w2.heap.size := by omega
  have l2 : w.heap.size + 1 < w2.heap.size := by omega
  by_cases hok : fltOk m e
  · have hs := fltOk_small hok
    rw [decide_eq_true hok]
    by_cases h0 : 0 ≤ e
    · have HD := Lib.hid (show fltDecD m e = (wrap64 (m * 2 ^ e.toNat), 0) from (if_neg (fun h => h hok)).trans (if_pos h0))
      have hmin : min e.toNat 64 = e.toNat := by omega
      clear hok
      go_wp2_with fail
      obtain ⟨e0, e1⟩ := ((p2.set 0 (.int .i64 (wrap64 (m * 2 ^ e.toNat)))).set 1 (.int .i64 0)).cells2b
      refine bodyPost_ret (v := .agg #[.int .i64 (wrap64 (m * 2 ^ e.toNat)), .int .i64 0]) (by simp [results, Tryz.results206, go_sem, e0, e1]) rfl ⟨by rw [HD.out], HB2.out.trans ((below2s _ _ _ _).mono (by omega))⟩
    · obtain ⟨k, hk⟩ : ∃ k : Nat, e = -(k : Int) := ⟨(-e).toNat, by omega⟩
      have HD := Lib.hid (show fltDecD m e = (decNewD (m * (5 ^ k : Nat)) k).1 from by
        have e1 : (-e).toNat = k := by omega
        unfold fltDecD; rw [if_neg (fun h => h hok), if_neg h0, e1])
      have hP5 := Lib.hid (five_le (k := k) (by omega))
      obtain ⟨P, hP⟩ : ∃ P, 5 ^ k = P := ⟨_, rfl⟩
      have hP5b := hP5.out
      rw [hP] at hP5b HD
      have hmb := mul_box hs.1 hs.2.1 hP5b
      have HPP := Lib.hid hP; clear hP
      have hneg : ¬ (-(k : Int) ≥ 0) := by omega
      subst hk
      clear hok h0
      obtain ⟨dn, hdn⟩ : ∃ d, decNewD (m * (P : Int)) k = d := ⟨_, rfl⟩
      have HDN := Lib.hid hdn; rw [hdn] at HD; clear hdn
      have PK := Lib.hid (And.intro p2 (And.intro HB2.out HD.out))
      clear q1 q2 p1 p2 H0 HB2 HD HM HE ff z0 z1 hs0 hs2 hm0 hm1 he0 he1
      go_wp2_with fail
      refine wp_region_held_drew (S := fun w' => (∀ b o, b < w2.heap.size → w'.cell? ⟨b, o, none⟩ = w2.cell? ⟨b, o, none⟩) ∧ Below (w2.heap.size) w2 w') (by kernel_rfl) (by first | exact ⟨fun _ _ _ => rfl, (Below.refl _ _).drew⟩ | exact keep_step (by assumption) (Below.drew (Below.refl _ _)) (Nat.le_refl _) | exact keep_step (by assumption) (by assumption) (by first | omega | ((try simp only [World.size_drew, size_alloc]); omega) | (have := (‹(_ ∧ Below (w2.heap.size) w2 _)›).2.size; (try simp only [World.size_drew, size_alloc] at this ⊢); omega))) (fun hHeld => ?_)
      refine wpAnyH_take (i := 0) (oi := ⟨some 19, _, _, _, _, _⟩) (v := ?_) rfl (by kernel_rfl) (by kernel_rfl) (by kernel_rfl) (fun _ _ _ h => h) (Or.inl ⟨by rfl, ?_⟩) (by assumption) ?_
      rotate_left 1
      · (intro w hSw; (try dsimp only at hSw); go_simp; try (with_reducible rfl))
      try simp only [Act.put, List.setIfInBounds_toArray, List.set_cons_zero, List.set_cons_succ]
      refine wpAnyH_take (i := 1) (oi := ⟨some 20, _, _, _, _, _⟩) (v := ?_) rfl (by kernel_rfl) (by kernel_rfl) (by kernel_rfl) (fun _ _ _ h => h) (Or.inl ⟨by rfl, ?_⟩) (by assumption) ?_
      rotate_left 1
      · (intro w hSw; (try dsimp only at hSw); go_simp; try (with_reducible rfl))
      try simp only [Act.put, List.setIfInBounds_toArray, List.set_cons_zero, List.set_cons_succ]
      refine wpAnyH_take (i := 2) (oi := ⟨some 21, _, _, _, _, _⟩) (v := ?_) rfl (by kernel_rfl) (by kernel_rfl) (by kernel_rfl) (fun _ _ _ h => h) (Or.inl ⟨by rfl, ?_⟩) (by assumption) ?_
      rotate_left 1
      · (intro w hSw; (try dsimp only at hSw); go_simp; try (with_reducible rfl))
      try simp only [Act.put, List.setIfInBounds_toArray, List.set_cons_zero, List.set_cons_succ]
      refine wpAnyH_take (i := 3) (oi := ⟨some 22, _, _, _, _, _⟩) (v := ?_) rfl (by kernel_rfl) (by kernel_rfl) (by kernel_rfl) (fun _ _ _ h => h) (Or.inl ⟨by rfl, ?_⟩) (by assumption) ?_
      rotate_left 1
      · (intro w hSw; (try dsimp only at hSw); go_simp; try (with_reducible rfl))
      try simp only [Act.put, List.setIfInBounds_toArray, List.set_cons_zero, List.set_cons_succ]
      refine wpAnyH_take (i := 4) (oi := ⟨some 23, _, _, _, _, _⟩) (v := ?_) rfl (by kernel_rfl) (by kernel_rfl) (by kernel_rfl) (fun _ _ _ h => h) (Or.inl ⟨by rfl, ?_⟩) (by assumption) ?_
      rotate_left 1
      · (intro w hSw; (try dsimp only at hSw); go_simp; try (with_reducible rfl))
      try simp only [Act.put, List.setIfInBounds_toArray, List.set_cons_zero, List.set_cons_succ]
      refine wpAnyH_take (i := 7) (oi := ⟨some 26, _, _, _, _, _⟩) (v := ?_) rfl (by kernel_rfl) (by kernel_rfl) (by kernel_rfl) (fun _ _ _ h => h) (Or.inl ⟨by rfl, ?_⟩) (by assumption) ?_
      rotate_left 1
      · (intro w hSw; (try dsimp only at hSw); go_simp; try (with_reducible rfl))
      try simp only [Act.put, List.setIfInBounds_toArray, List.set_cons_zero, List.set_cons_succ]
      refine wpAnyH_take (i := 8) (oi := ⟨some 27, _, _, _, _, _⟩) (v := ?_) rfl (by kernel_rfl) (by kernel_rfl) (by kernel_rfl) (fun _ _ _ h => h) (Or.inl ⟨by rfl, ?_⟩) (by assumption) ?_
      rotate_left 1
      · (intro w hSw; (try dsimp only at hSw); go_simp; try (with_reducible rfl))
      try simp only [Act.put, List.setIfInBounds_toArray, List.set_cons_zero, List.set_cons_succ]
      refine wpAnyH_ready (rs := [5, 13]) (by kernel_rfl) (by simp) ?_
      refine AllReadyH.cons (o := ⟨some 24, _, _, _, _, _⟩) rfl (fun K hK => ?_) ?_
      focus (go_simp; (first | (go_at_call 247; refine (spec_Pow5 k _ _ (by first | rfl | omega | (rw [Go.IntWalk.i64_left]; exact Go.IntWalk.wrap64_in _ ⟨by omega, by omega⟩) | exact Go.IntWalk.wrap64_in _ ⟨by omega, by omega⟩) (by omega)).mono ?_; rintro e w3 ⟨rfl, hb3⟩; rw [HPP.out]; (first | (have p8 := (Is.drew (Is.new w2 (cF 0 0) 100)).below hb3 (by simp only [World.size_drew, size_alloc]; omega)) | skip); have hsz3 : w2.heap.size ≤ w3.heap.size := (by have := hb3.size; first | omega | (simp only [World.size_drew, size_alloc] at this; omega))) | (go_at_call 246; refine (spec_DecNewA (m * (P : Int)) k _ _ _ (by first | rfl | omega | (rw [Go.IntWalk.i64_left]; exact Go.IntWalk.wrap64_in _ ⟨by omega, by omega⟩) | exact Go.IntWalk.wrap64_in _ ⟨by omega, by omega⟩) (by first | rfl | omega | (rw [Go.IntWalk.i64_left]; exact Go.IntWalk.wrap64_in _ ⟨by omega, by omega⟩) | exact Go.IntWalk.wrap64_in _ ⟨by omega, by omega⟩) ⟨by omega, by omega⟩ (by omega)).mono ?_; rintro e w4 ⟨rfl, hb4⟩; rw [HDN.out]; (first | (have p8 := p8.below hb4 (by have := hb3.size; first | omega | (simp only [World.size_drew, size_alloc] at this; omega) | (simp only [World.size_drew, size_alloc] at this ⊢; omega)); have f8 := (fun i => p8.frozen i); obtain ⟨y0, y1⟩ := p8.cells2b) | (have p8 := (Is.new w3 (cF 0 0) 100).below hb4 (by simp); have f8 := (fun i => p8.frozen i); obtain ⟨y0, y1⟩ := p8.cells2b) | skip); have hsz4 : w2.heap.size ≤ w4.heap.size := (by have := hb4.size; first | omega | (simp only [World.size_drew, size_alloc] at this; omega)))); go_wp2_with fail; refine hK.out _ _ (by first | exact ⟨fun _ _ _ => rfl, (Below.refl _ _).drew⟩ | exact keep_step (by assumption) (Below.drew (Below.refl _ _)) (Nat.le_refl _) | exact keep_step (by assumption) (by assumption) (by first | omega | ((try simp only [World.size_drew, size_alloc]); omega) | (have := (‹(_ ∧ Below (w2.heap.size) w2 _)›).2.size; (try simp only [World.size_drew, size_alloc] at this ⊢); omega))) (fun hHeld => ?_); clear hK K; try simp only [Act.put, List.setIfInBounds_toArray, List.set_cons_zero, List.set_cons_succ])
      refine wpAnyH_take (i := 6) (oi := ⟨some 25, _, _, _, _, _⟩) (v := ?_) rfl (by kernel_rfl) (by kernel_rfl) (by kernel_rfl) (fun _ _ _ h => h) (Or.inl ⟨by rfl, ?_⟩) (by assumption) ?_
      rotate_left 1
      · (intro w hSw; (try dsimp only at hSw); go_simp; try (with_reducible rfl))
      try simp only [Act.put, List.setIfInBounds_toArray, List.set_cons_zero, List.set_cons_succ]
      refine wpAnyH_ready (rs := [9, 13]) (by kernel_rfl) (by simp) ?_
      refine AllReadyH.cons (o := ⟨some 28, _, _, _, _, _⟩) rfl (fun K hK => ?_) ?_
      focus (go_simp; (first | (go_at_call 247; refine (spec_Pow5 k _ _ (by first | rfl | omega | (rw [Go.IntWalk.i64_left]; exact Go.IntWalk.wrap64_in _ ⟨by omega, by omega⟩) | exact Go.IntWalk.wrap64_in _ ⟨by omega, by omega⟩) (by omega)).mono ?_; rintro e w3 ⟨rfl, hb3⟩; rw [HPP.out]; (first | (have p8 := (Is.drew (Is.new w2 (cF 0 0) 100)).below hb3 (by simp only [World.size_drew, size_alloc]; omega)) | skip); have hsz3 : w2.heap.size ≤ w3.heap.size := (by have := hb3.size; first | omega | (simp only [World.size_drew, size_alloc] at this; omega))) | (go_at_call 246; refine (spec_DecNewA (m * (P : Int)) k _ _ _ (by first | rfl | omega | (rw [Go.IntWalk.i64_left]; exact Go.IntWalk.wrap64_in _ ⟨by omega, by omega⟩) | exact Go.IntWalk.wrap64_in _ ⟨by omega, by omega⟩) (by first | rfl | omega | (rw [Go.IntWalk.i64_left]; exact Go.IntWalk.wrap64_in _ ⟨by omega, by omega⟩) | exact Go.IntWalk.wrap64_in _ ⟨by omega, by omega⟩) ⟨by omega, by omega⟩ (by omega)).mono ?_; rintro e w4 ⟨rfl, hb4⟩; rw [HDN.out]; (first | (have p8 := p8.below hb4 (by have := hb3.size; first | omega | (simp only [World.size_drew, size_alloc] at this; omega) | (simp only [World.size_drew, size_alloc] at this ⊢; omega)); have f8 := (fun i => p8.frozen i); obtain ⟨y0, y1⟩ := p8.cells2b) | (have p8 := (Is.new w3 (cF 0 0) 100).below hb4 (by simp); have f8 := (fun i => p8.frozen i); obtain ⟨y0, y1⟩ := p8.cells2b) | skip); have hsz4 : w2.heap.size ≤ w4.heap.size := (by have := hb4.size; first | omega | (simp only [World.size_drew, size_alloc] at this; omega)))); go_wp2_with fail; refine hK.out _ _ (by first | exact ⟨fun _ _ _ => rfl, (Below.refl _ _).drew⟩ | exact keep_step (by assumption) (Below.drew (Below.refl _ _)) (Nat.le_refl _) | exact keep_step (by assumption) (by assumption) (by first | omega | ((try simp only [World.size_drew, size_alloc]); omega) | (have := (‹(_ ∧ Below (w2.heap.size) w2 _)›).2.size; (try simp only [World.size_drew, size_alloc] at this ⊢); omega))) (fun hHeld => ?_); clear hK K; try simp only [Act.put, List.setIfInBounds_toArray, List.set_cons_zero, List.set_cons_succ])
      refine wpAnyH_take (i := 10) (oi := ⟨some 18, _, _, _, _, _⟩) (v := ?_) rfl (by kernel_rfl) (by kernel_rfl) (by kernel_rfl) (fun _ _ _ h => h) (Or.inl ⟨by rfl, ?_⟩) (by assumption) ?_
      rotate_left 1
      · (intro w hSw; (try dsimp only at hSw); go_simp; try (with_reducible rfl))
      try simp only [Act.put, List.setIfInBounds_toArray, List.set_cons_zero, List.set_cons_succ]
      refine wpAnyH_take (i := 11) (oi := ⟨some 29, _, _, _, _, _⟩) (v := ?_) rfl (by kernel_rfl) (by kernel_rfl) (by kernel_rfl) (fun _ _ _ h => h) (Or.inl ⟨by rfl, ?_⟩) (by assumption) ?_
      rotate_left 1
      · (intro w hSw; (try dsimp only at hSw); go_simp; try (with_reducible rfl))
      try simp only [Act.put, List.setIfInBounds_toArray, List.set_cons_zero, List.set_cons_succ]
      refine wpAnyH_take (i := 12) (oi := ⟨some 30, _, _, _, _, _⟩) (v := ?_) rfl (by kernel_rfl) (by kernel_rfl) (by kernel_rfl) (fun _ _ _ h => h) (Or.inl ⟨by rfl, ?_⟩) (by assumption) ?_
      rotate_left 1
      · (intro w hSw; (try dsimp only at hSw); go_simp; try (with_reducible rfl))
      try simp only [Act.put, List.setIfInBounds_toArray, List.set_cons_zero, List.set_cons_succ]
      refine wpAnyH_ready (rs := [13]) (by kernel_rfl) (by simp) ?_
      refine AllReadyH.cons (o := ⟨some 3, _, _, _, _, _⟩) rfl (fun K hK => ?_) AllReadyH.nil
      focus (go_simp; go_wp2_with fail; refine hK.out _ _ (by first | (with_reducible exact keep_step (by assumption) (below1 _ _) (by first | omega | ((try simp only [World.size_drew, size_alloc]); omega) | (have := (‹(_ ∧ Below (w2.heap.size) w2 _)›).2.size; (try simp only [World.size_drew, size_alloc] at this ⊢); omega))) | (exact keep_step (by assumption) (below1 _ _) (by first | omega | ((try simp only [World.size_drew, size_alloc]); omega) | (have := (‹(_ ∧ Below (w2.heap.size) w2 _)›).2.size; (try simp only [World.size_drew, size_alloc] at this ⊢); omega)))) (fun hHeld => ?_); clear hK K; try simp only [Act.put, List.setIfInBounds_toArray, List.set_cons_zero, List.set_cons_succ])
      refine wpAnyH_ready (rs := [14]) (by kernel_rfl) (by simp) ?_
      refine AllReadyH.cons (o := ⟨none, _, _, _, _, _⟩) rfl (fun K hK => ?_) AllReadyH.nil
      focus (go_simp; go_wp2_with fail; refine hK.out _ _ (by first | exact keep_step (by assumption) (below1 _ _) (by first | omega | ((try simp only [World.size_drew, size_alloc]); omega) | (have := (‹(_ ∧ Below (w2.heap.size) w2 _)›).2.size; (try simp only [World.size_drew, size_alloc] at this ⊢); omega)) | (clear hHeld; exact keep_step (by assumption) (below1 _ _) (by first | omega | ((try simp only [World.size_drew, size_alloc]); omega) | (have := (‹(_ ∧ Below (w2.heap.size) w2 _)›).2.size; (try simp only [World.size_drew, size_alloc] at this ⊢); omega)))) (fun hHeld => ?_); clear hK K; try simp only [Act.put])
      refine wpAnyH_take (i := 15) (oi := ⟨some 4, _, _, _, _, _⟩) (v := ?_) rfl (by kernel_rfl) (by kernel_rfl) (by kernel_rfl) (fun _ _ _ h => h) (Or.inl ⟨by rfl, ?_⟩) (by assumption) ?_
      rotate_left 1
      · (intro w hSw; (try dsimp only at hSw); go_simp; try (with_reducible rfl))
      try simp only [Act.put, List.setIfInBounds_toArray, List.set_cons_zero, List.set_cons_succ]
      refine wpAnyH_done (by kernel_rfl) ?_ _
      rotate_left 1
      refine AllReadyH.cons (o := ⟨some 3, _, _, _, _, _⟩) rfl (fun K hK => ?_) AllReadyH.nil
      focus (go_simp; go_wp2_with fail; refine hK.out _ _ (by first | (with_reducible exact keep_step (by assumption) (below1 _ _) (by first | omega | ((try simp only [World.size_drew, size_alloc]); omega) | (have := (‹(_ ∧ Below (w2.heap.size) w2 _)›).2.size; (try simp only [World.size_drew, size_alloc] at this ⊢); omega))) | (exact keep_step (by assumption) (below1 _ _) (by first | omega | ((try simp only [World.size_drew, size_alloc]); omega) | (have := (‹(_ ∧ Below (w2.heap.size) w2 _)›).2.size; (try simp only [World.size_drew, size_alloc] at this ⊢); omega)))) (fun hHeld => ?_); clear hK K; try simp only [Act.put, List.setIfInBounds_toArray, List.set_cons_zero, List.set_cons_succ])
      refine wpAnyH_ready (rs := [9]) (by kernel_rfl) (by simp) ?_
      refine AllReadyH.cons (o := ⟨some 28, _, _, _, _, _⟩) rfl (fun K hK => ?_) AllReadyH.nil
      focus (go_simp; (first | (go_at_call 247; refine (spec_Pow5 k _ _ (by first | rfl | omega | (rw [Go.IntWalk.i64_left]; exact Go.IntWalk.wrap64_in _ ⟨by omega, by omega⟩) | exact Go.IntWalk.wrap64_in _ ⟨by omega, by omega⟩) (by omega)).mono ?_; rintro e w3 ⟨rfl, hb3⟩; rw [HPP.out]; (first | (have p8 := (Is.drew (Is.new w2 (cF 0 0) 100)).below hb3 (by simp only [World.size_drew, size_alloc]; omega)) | skip); have hsz3 : w2.heap.size ≤ w3.heap.size := (by have := hb3.size; first | omega | (simp only [World.size_drew, size_alloc] at this; omega))) | (go_at_call 246; refine (spec_DecNewA (m * (P : Int)) k _ _ _ (by first | rfl | omega | (rw [Go.IntWalk.i64_left]; exact Go.IntWalk.wrap64_in _ ⟨by omega, by omega⟩) | exact Go.IntWalk.wrap64_in _ ⟨by omega, by omega⟩) (by first | rfl | omega | (rw [Go.IntWalk.i64_left]; exact Go.IntWalk.wrap64_in _ ⟨by omega, by omega⟩) | exact Go.IntWalk.wrap64_in _ ⟨by omega, by omega⟩) ⟨by omega, by omega⟩ (by omega)).mono ?_; rintro e w4 ⟨rfl, hb4⟩; rw [HDN.out]; (first | (have p8 := p8.below hb4 (by have := hb3.size; first | omega | (simp only [World.size_drew, size_alloc] at this; omega) | (simp only [World.size_drew, size_alloc] at this ⊢; omega)); have f8 := (fun i => p8.frozen i); obtain ⟨y0, y1⟩ := p8.cells2b) | (have p8 := (Is.new w3 (cF 0 0) 100).below hb4 (by simp); have f8 := (fun i => p8.frozen i); obtain ⟨y0, y1⟩ := p8.cells2b) | skip); have hsz4 : w2.heap.size ≤ w4.heap.size := (by have := hb4.size; first | omega | (simp only [World.size_drew, size_alloc] at this; omega)))); go_wp2_with fail; refine hK.out _ _ (by first | exact ⟨fun _ _ _ => rfl, (Below.refl _ _).drew⟩ | exact keep_step (by assumption) (Below.drew (Below.refl _ _)) (Nat.le_refl _) | exact keep_step (by assumption) (by assumption) (by first | omega | ((try simp only [World.size_drew, size_alloc]); omega) | (have := (‹(_ ∧ Below (w2.heap.size) w2 _)›).2.size; (try simp only [World.size_drew, size_alloc] at this ⊢); omega))) (fun hHeld => ?_); clear hK K; try simp only [Act.put, List.setIfInBounds_toArray, List.set_cons_zero, List.set_cons_succ])
      refine wpAnyH_take (i := 10) (oi := ⟨some 18, _, _, _, _, _⟩) (v := ?_) rfl (by kernel_rfl) (by kernel_rfl) (by kernel_rfl) (fun _ _ _ h => h) (Or.inl ⟨by rfl, ?_⟩) (by assumption) ?_
      rotate_left 1
      · (intro w hSw; (try dsimp only at hSw); go_simp; try (with_reducible rfl))
      try simp only [Act.put, List.setIfInBounds_toArray, List.set_cons_zero, List.set_cons_succ]
      refine wpAnyH_take (i := 11) (oi := ⟨some 29, _, _, _, _, _⟩) (v := ?_) rfl (by kernel_rfl) (by kernel_rfl) (by kernel_rfl) (fun _ _ _ h => h) (Or.inl ⟨by rfl, ?_⟩) (by assumption) ?_
      rotate_left 1
      · (intro w hSw; (try dsimp only at hSw); go_simp; try (with_reducible rfl))
      try simp only [Act.put, List.setIfInBounds_toArray, List.set_cons_zero, List.set_cons_succ]
      refine wpAnyH_take (i := 12) (oi := ⟨some 30, _, _, _, _, _⟩) (v := ?_) rfl (by kernel_rfl) (by kernel_rfl) (by kernel_rfl) (fun _ _ _ h => h) (Or.inl ⟨by rfl, ?_⟩) (by assumption) ?_
      rotate_left 1
      · (intro w hSw; (try dsimp only at hSw); go_simp; try (with_reducible rfl))
      try simp only [Act.put, List.setIfInBounds_toArray, List.set_cons_zero, List.set_cons_succ]
      refine wpAnyH_ready (rs := [14]) (by kernel_rfl) (by simp) ?_
      refine AllReadyH.cons (o := ⟨none, _, _, _, _, _⟩) rfl (fun K hK => ?_) AllReadyH.nil
      focus (go_simp; go_wp2_with fail; refine hK.out _ _ (by exact keep_step (by assumption) (below2s _ _ _ _) (by omega)) (fun hHeld => ?_); clear hK K; try simp only [Act.put])
      refine wpAnyH_take (i := 15) (oi := ⟨some 4, _, _, _, _, _⟩) (v := ?_) rfl (by kernel_rfl) (by kernel_rfl) (by kernel_rfl) (fun _ _ _ h => h) (Or.inl ⟨by rfl, ?_⟩) (by assumption) ?_
      rotate_left 1
      · (intro w hSw; (try dsimp only at hSw); go_simp; try (with_reducible rfl))
      try simp only [Act.put, List.setIfInBounds_toArray, List.set_cons_zero, List.set_cons_succ]
      refine wpAnyH_done (by kernel_rfl) ?_ _
      rotate_left 1
      refine AllReadyH.cons (o := ⟨some 3, _, _, _, _, _⟩) rfl (fun K hK => ?_) AllReadyH.nil
      focus (go_simp; go_wp2_with fail; refine hK.out _ _ (by first | (with_reducible exact keep_step (by assumption) (below1 _ _) (by first | omega | ((try simp only [World.size_drew, size_alloc]); omega) | (have := (‹(_ ∧ Below (w2.heap.size) w2 _)›).2.size; (try simp only [World.size_drew, size_alloc] at this ⊢); omega))) | (exact keep_step (by assumption) (below1 _ _) (by first | omega | ((try simp only [World.size_drew, size_alloc]); omega) | (have := (‹(_ ∧ Below (w2.heap.size) w2 _)›).2.size; (try simp only [World.size_drew, size_alloc] at this ⊢); omega)))) (fun hHeld => ?_); clear hK K; try simp only [Act.put, List.setIfInBounds_toArray, List.set_cons_zero, List.set_cons_succ])
      refine wpAnyH_ready (rs := [5]) (by kernel_rfl) (by simp) ?_
      refine AllReadyH.cons (o := ⟨some 24, _, _, _, _, _⟩) rfl (fun K hK => ?_) AllReadyH.nil
      focus (go_simp; (first | (go_at_call 247; refine (spec_Pow5 k _ _ (by first | rfl | omega | (rw [Go.IntWalk.i64_left]; exact Go.IntWalk.wrap64_in _ ⟨by omega, by omega⟩) | exact Go.IntWalk.wrap64_in _ ⟨by omega, by omega⟩) (by omega)).mono ?_; rintro e w3 ⟨rfl, hb3⟩; rw [HPP.out]; (first | (have p8 := (Is.drew (Is.new w2 (cF 0 0) 100)).below hb3 (by simp only [World.size_drew, size_alloc]; omega)) | skip); have hsz3 : w2.heap.size ≤ w3.heap.size := (by have := hb3.size; first | omega | (simp only [World.size_drew, size_alloc] at this; omega))) | (go_at_call 246; refine (spec_DecNewA (m * (P : Int)) k _ _ _ (by first | rfl | omega | (rw [Go.IntWalk.i64_left]; exact Go.IntWalk.wrap64_in _ ⟨by omega, by omega⟩) | exact Go.IntWalk.wrap64_in _ ⟨by omega, by omega⟩) (by first | rfl | omega | (rw [Go.IntWalk.i64_left]; exact Go.IntWalk.wrap64_in _ ⟨by omega, by omega⟩) | exact Go.IntWalk.wrap64_in _ ⟨by omega, by omega⟩) ⟨by omega, by omega⟩ (by omega)).mono ?_; rintro e w4 ⟨rfl, hb4⟩; rw [HDN.out]; (first | (have p8 := p8.below hb4 (by have := hb3.size; first | omega | (simp only [World.size_drew, size_alloc] at this; omega) | (simp only [World.size_drew, size_alloc] at this ⊢; omega)); have f8 := (fun i => p8.frozen i); obtain ⟨y0, y1⟩ := p8.cells2b) | (have p8 := (Is.new w3 (cF 0 0) 100).below hb4 (by simp); have f8 := (fun i => p8.frozen i); obtain ⟨y0, y1⟩ := p8.cells2b) | skip); have hsz4 : w2.heap.size ≤ w4.heap.size := (by have := hb4.size; first | omega | (simp only [World.size_drew, size_alloc] at this; omega)))); go_wp2_with fail; refine hK.out _ _ (by first | exact ⟨fun _ _ _ => rfl, (Below.refl _ _).drew⟩ | exact keep_step (by assumption) (Below.drew (Below.refl _ _)) (Nat.le_refl _) | exact keep_step (by assumption) (by assumption) (by first | omega | ((try simp only [World.size_drew, size_alloc]); omega) | (have := (‹(_ ∧ Below (w2.heap.size) w2 _)›).2.size; (try simp only [World.size_drew, size_alloc] at this ⊢); omega))) (fun hHeld => ?_); clear hK K; try simp only [Act.put, List.setIfInBounds_toArray, List.set_cons_zero, List.set_cons_succ])
      refine wpAnyH_take (i := 6) (oi := ⟨some 25, _, _, _, _, _⟩) (v := ?_) rfl (by kernel_rfl) (by kernel_rfl) (by kernel_rfl) (fun _ _ _ h => h) (Or.inl ⟨by rfl, ?_⟩) (by assumption) ?_
      rotate_left 1
      · (intro w hSw; (try dsimp only at hSw); go_simp; try (with_reducible rfl))
      try simp only [Act.put, List.setIfInBounds_toArray, List.set_cons_zero, List.set_cons_succ]
      refine wpAnyH_ready (rs := [9]) (by kernel_rfl) (by simp) ?_
      refine AllReadyH.cons (o := ⟨some 28, _, _, _, _, _⟩) rfl (fun K hK => ?_) AllReadyH.nil
      focus (go_simp; (first | (go_at_call 247; refine (spec_Pow5 k _ _ (by first | rfl | omega | (rw [Go.IntWalk.i64_left]; exact Go.IntWalk.wrap64_in _ ⟨by omega, by omega⟩) | exact Go.IntWalk.wrap64_in _ ⟨by omega, by omega⟩) (by omega)).mono ?_; rintro e w3 ⟨rfl, hb3⟩; rw [HPP.out]; (first | (have p8 := (Is.drew (Is.new w2 (cF 0 0) 100)).below hb3 (by simp only [World.size_drew, size_alloc]; omega)) | skip); have hsz3 : w2.heap.size ≤ w3.heap.size := (by have := hb3.size; first | omega | (simp only [World.size_drew, size_alloc] at this; omega))) | (go_at_call 246; refine (spec_DecNewA (m * (P : Int)) k _ _ _ (by first | rfl | omega | (rw [Go.IntWalk.i64_left]; exact Go.IntWalk.wrap64_in _ ⟨by omega, by omega⟩) | exact Go.IntWalk.wrap64_in _ ⟨by omega, by omega⟩) (by first | rfl | omega | (rw [Go.IntWalk.i64_left]; exact Go.IntWalk.wrap64_in _ ⟨by omega, by omega⟩) | exact Go.IntWalk.wrap64_in _ ⟨by omega, by omega⟩) ⟨by omega, by omega⟩ (by omega)).mono ?_; rintro e w4 ⟨rfl, hb4⟩; rw [HDN.out]; (first | (have p8 := p8.below hb4 (by have := hb3.size; first | omega | (simp only [World.size_drew, size_alloc] at this; omega) | (simp only [World.size_drew, size_alloc] at this ⊢; omega)); have f8 := (fun i => p8.frozen i); obtain ⟨y0, y1⟩ := p8.cells2b) | (have p8 := (Is.new w3 (cF 0 0) 100).below hb4 (by simp); have f8 := (fun i => p8.frozen i); obtain ⟨y0, y1⟩ := p8.cells2b) | skip); have hsz4 : w2.heap.size ≤ w4.heap.size := (by have := hb4.size; first | omega | (simp only [World.size_drew, size_alloc] at this; omega)))); go_wp2_with fail; refine hK.out _ _ (by first | exact ⟨fun _ _ _ => rfl, (Below.refl _ _).drew⟩ | exact keep_step (by assumption) (Below.drew (Below.refl _ _)) (Nat.le_refl _) | exact keep_step (by assumption) (by assumption) (by first | omega | ((try simp only [World.size_drew, size_alloc]); omega) | (have := (‹(_ ∧ Below (w2.heap.size) w2 _)›).2.size; (try simp only [World.size_drew, size_alloc] at this ⊢); omega))) (fun hHeld => ?_); clear hK K; try simp only [Act.put, List.setIfInBounds_toArray, List.set_cons_zero, List.set_cons_succ])
      refine wpAnyH_take (i := 10) (oi := ⟨some 18, _, _, _, _, _⟩) (v := ?_) rfl (by kernel_rfl) (by kernel_rfl) (by kernel_rfl) (fun _ _ _ h => h) (Or.inl ⟨by rfl, ?_⟩) (by assumption) ?_
      rotate_left 1
      · (intro w hSw; (try dsimp only at hSw); go_simp; try (with_reducible rfl))
      try simp only [Act.put, List.setIfInBounds_toArray, List.set_cons_zero, List.set_cons_succ]
      refine wpAnyH_take (i := 11) (oi := ⟨some 29, _, _, _, _, _⟩) (v := ?_) rfl (by kernel_rfl) (by kernel_rfl) (by kernel_rfl) (fun _ _ _ h => h) (Or.inl ⟨by rfl, ?_⟩) (by assumption) ?_
      rotate_left 1
      · (intro w hSw; (try dsimp only at hSw); go_simp; try (with_reducible rfl))
      try simp only [Act.put, List.setIfInBounds_toArray, List.set_cons_zero, List.set_cons_succ]
      refine wpAnyH_take (i := 12) (oi := ⟨some 30, _, _, _, _, _⟩) (v := ?_) rfl (by kernel_rfl) (by kernel_rfl) (by kernel_rfl) (fun _ _ _ h => h) (Or.inl ⟨by rfl, ?_⟩) (by assumption) ?_
      rotate_left 1
      · (intro w hSw; (try dsimp only at hSw); go_simp; try (with_reducible rfl))
      try simp only [Act.put, List.setIfInBounds_toArray, List.set_cons_zero, List.set_cons_succ]
      refine wpAnyH_ready (rs := [14]) (by kernel_rfl) (by simp) ?_
      refine AllReadyH.cons (o := ⟨none, _, _, _, _, _⟩) rfl (fun K hK => ?_) AllReadyH.nil
      focus (go_simp; go_wp2_with fail; refine hK.out _ _ (by exact keep_step (by assumption) (below2s _ _ _ _) (by omega)) (fun hHeld => ?_); clear hK K; try simp only [Act.put])
      refine wpAnyH_take (i := 15) (oi := ⟨some 4, _, _, _, _, _⟩) (v := ?_) rfl (by kernel_rfl) (by kernel_rfl) (by kernel_rfl) (fun _ _ _ h => h) (Or.inl ⟨by rfl, ?_⟩) (by assumption) ?_
      rotate_left 1
      · (intro w hSw; (try dsimp only at hSw); go_simp; try (with_reducible rfl))
      try simp only [Act.put, List.setIfInBounds_toArray, List.set_cons_zero, List.set_cons_succ]
      refine wpAnyH_done (by kernel_rfl) ?_ _
      all_goals
        have HB8 := Lib.hid (show Below w2.heap.size w2 _ from (‹_ ∧ Below (w2.heap.size) w2 _›).2)
        first
          | have hI8 := (p8.set 0 (.int .i64 dn.1.1)).set 1 (.int .i64 dn.1.2)
          | have hI8 := Is.new w4 (cF dn.1.1 dn.1.2) 100
        obtain ⟨p2, HB2, HD⟩ := PK.out
        obtain ⟨zo0, zo1⟩ := p2.cells2b
        obtain ⟨i0, i1⟩ := hI8.cells2b
        have p9 := p2.below HB8.out (by omega)
        obtain ⟨z0, z1⟩ := p9.cells2b
        have ff := fun i => p9.frozen i
        have hs9 := HB8.out.size
        have hl9 := p9.lt
        have hl8 := hI8.lt
        go_wp2_with fail
        obtain ⟨e0, e1⟩ := ((p9.set 0 (.int .i64 dn.1.1)).set 1 (.int .i64 dn.1.2)).cells2b
        refine bodyPost_ret (v := .agg #[.int .i64 dn.1.1, .int .i64 dn.1.2]) (by simp [results, Tryz.results206, go_sem, e0, e1]) rfl ⟨by rw [HD], (HB2.trans (HB8.out.mono HB2.size)).trans ((below2s _ _ _ _).mono (by omega))⟩
  · have HD := Lib.hid (show fltDecD m e = (0, 0) from if_pos hok)
    rw [decide_eq_false hok]
    clear hok
    go_wp2_with fail
    obtain ⟨e0, e1⟩ := ((p2.set 0 (.int .i64 0)).set 1 (.int .i64 0)).cells2b
    refine bodyPost_ret (v := .agg #[.int .i64 0, .int .i64 0]) (by simp [results, Tryz.results206, go_sem, e0, e1]) rfl ⟨by rw [HD.out], HB2.out.trans ((below2s _ _ _ _).mono (by omega))⟩
set_option maxHeartbeats 4000000 in
theorem impl_FltDec (m e : Int) (w : World) (hm : I64 m) (he : I64 e) (htab : Lib.TabBelow Tryz.prog w.heap.size w "internal/strconv.uint64pow10" .u64 Lib.pow10Tab) :
    Calls Tryz.prog 202 #[.agg (cF m e)] w fun ee w' => ee = .returned (.agg (cF (fltDecD m e).1 (fltDecD m e).2)) ∧ Below w.heap.size w w' := by
  have HT := Lib.hid htab; clear htab
  have HM := Lib.hid hm
  have HE := Lib.hid he
  obtain ⟨hm0, hm1⟩ := hm
  obtain ⟨he0, he1⟩ := he
  go_enter Tryz.func202, Tryz.ntmps202
  go_wp2_with fail
  generalize hW : (w.alloc (Obj.cells (cF m e) 61)).alloc (Obj.cells (cF 0 0) 100) = W0
  have q1 : Is W0 w.heap.size 61 (cF m e) := by subst hW; exact (Is.new _ _ _).alloc _
  have q2 : Is W0 (w.heap.size + 1) 100 (cF 0 0) := by subst hW; exact Is.new2 _ _ _ _
  have H0 := Lib.hid (show Below w.heap.size w W0 from by subst hW; exact below2 _ _ _)
  have hs0 : W0.heap.size = w.heap.size + 2 := by subst hW; simp
  clear hW
  refine (impl_FltOk m e W0 HM.out HE.out).mono ?_
  rintro ee w2 ⟨rfl, hb2⟩
  have hs2 := hb2.size
  have p1 := q1.below hb2 (by omega)
  have p2 := q2.below hb2 (by omega)
  have HB2 := Lib.hid (H0.out.trans (hb2.mono (by omega))); clear hb2
  obtain ⟨x0, x1⟩ := p1.cells2b
  obtain ⟨z0, z1⟩ := p2.cells2b
  have ff := fun i => p2.frozen i
  have l1 : w.heap.size < w2.heap.size := by omega
  have l2 : w.heap.size + 1 < w2.heap.size := by omega
  by_cases hok : fltOk m e
  · have hs := fltOk_small hok
    rw [decide_eq_true hok]
    by_cases h0 : 0 ≤ e
    · have HD := Lib.hid (show fltDecD m e = (wrap64 (m * 2 ^ e.toNat), 0) from (if_neg (fun h => h hok)).trans (if_pos h0))
      have hmin : min e.toNat 64 = e.toNat := by omega
      clear hok
      go_wp2_with fail
      obtain ⟨e0, e1⟩ := ((p2.set 0 (.int .i64 (wrap64 (m * 2 ^ e.toNat)))).set 1 (.int .i64 0)).cells2b
      refine bodyPost_ret (v := .agg #[.int .i64 (wrap64 (m * 2 ^ e.toNat)), .int .i64 0]) (by simp [results, Tryz.results202, go_sem, e0, e1]) rfl ⟨by rw [HD.out], HB2.out.trans ((below2s _ _ _ _).mono (by omega))⟩
    · obtain ⟨k, hk⟩ : ∃ k : Nat, e = -(k : Int) := ⟨(-e).toNat, by omega⟩
      have HD := Lib.hid (show fltDecD m e = (decNewD (m * (5 ^ k : Nat)) k).1 from by
        have e1 : (-e).toNat = k := by omega
        unfold fltDecD; rw [if_neg (fun h => h hok), if_neg h0, e1])
      have hP5 := Lib.hid (five_le (k := k) (by omega))
      obtain ⟨P, hP⟩ : ∃ P, 5 ^ k = P := ⟨_, rfl⟩
      have hP5b := hP5.out
      rw [hP] at hP5b HD
      have hmb := mul_box hs.1 hs.2.1 hP5b
      have HPP := Lib.hid hP; clear hP
      have hneg : ¬ (-(k : Int) ≥ 0) := by omega
      subst hk
      clear hok h0
      obtain ⟨dn, hdn⟩ : ∃ d, decNewD (m * (P : Int)) k = d := ⟨_, rfl⟩
      have HDN := Lib.hid hdn; rw [hdn] at HD; clear hdn
      have PK := Lib.hid (And.intro p2 (And.intro HB2.out HD.out))
      clear q1 q2 p1 p2 H0 HB2 HD HM HE ff z0 z1 hs0 hs2 hm0 hm1 he0 he1
      go_wp2_with fail
      refine wp_region_held_drew (S := fun w' => (∀ b o, b < w2.heap.size → w'.cell? ⟨b, o, none⟩ = w2.cell? ⟨b, o, none⟩) ∧ Below (w2.heap.size) w2 w') (by kernel_rfl) (by first | exact ⟨fun _ _ _ => rfl, (Below.refl _ _).drew⟩ | exact keep_step (by assumption) (Below.drew (Below.refl _ _)) (Nat.le_refl _) | exact keep_step (by assumption) (by assumption) (by first | omega | ((try simp only [World.size_drew, size_alloc]); omega) | (have := (‹(_ ∧ Below (w2.heap.size) w2 _)›).2.size; (try simp only [World.size_drew, size_alloc] at this ⊢); omega))) (fun hHeld => ?_)
      refine wpAnyH_take (i := 0) (oi := ⟨some 20, _, _, _, _, _⟩) (v := ?_) rfl (by kernel_rfl) (by kernel_rfl) (by kernel_rfl) (fun _ _ _ h => h) (Or.inl ⟨by rfl, ?_⟩) (by assumption) ?_
      rotate_left 1
      · (intro w hSw; (try dsimp only at hSw); go_simp; try (with_reducible rfl))
      try simp only [Act.put, List.setIfInBounds_toArray, List.set_cons_zero, List.set_cons_succ]
      refine wpAnyH_take (i := 1) (oi := ⟨some 21, _, _, _, _, _⟩) (v := ?_) rfl (by kernel_rfl) (by kernel_rfl) (by kernel_rfl) (fun _ _ _ h => h) (Or.inl ⟨by rfl, ?_⟩) (by assumption) ?_
      rotate_left 1
      · (intro w hSw; (try dsimp only at hSw); go_simp; try (with_reducible rfl))
      try simp only [Act.put, List.setIfInBounds_toArray, List.set_cons_zero, List.set_cons_succ]
      refine wpAnyH_take (i := 2) (oi := ⟨some 22, _, _, _, _, _⟩) (v := ?_) rfl (by kernel_rfl) (by kernel_rfl) (by kernel_rfl) (fun _ _ _ h => h) (Or.inl ⟨by rfl, ?_⟩) (by assumption) ?_
      rotate_left 1
      · (intro w hSw; (try dsimp only at hSw); go_simp; try (with_reducible rfl))
      try simp only [Act.put, List.setIfInBounds_toArray, List.set_cons_zero, List.set_cons_succ]
      refine wpAnyH_take (i := 3) (oi := ⟨some 23, _, _, _, _, _⟩) (v := ?_) rfl (by kernel_rfl) (by kernel_rfl) (by kernel_rfl) (fun _ _ _ h => h) (Or.inl ⟨by rfl, ?_⟩) (by assumption) ?_
      rotate_left 1
      · (intro w hSw; (try dsimp only at hSw); go_simp; try (with_reducible rfl))
      try simp only [Act.put, List.setIfInBounds_toArray, List.set_cons_zero, List.set_cons_succ]
      refine wpAnyH_take (i := 4) (oi := ⟨some 24, _, _, _, _, _⟩) (v := ?_) rfl (by kernel_rfl) (by kernel_rfl) (by kernel_rfl) (fun _ _ _ h => h) (Or.inl ⟨by rfl, ?_⟩) (by assumption) ?_
      rotate_left 1
      · (intro w hSw; (try dsimp only at hSw); go_simp; try (with_reducible rfl))
      try simp only [Act.put, List.setIfInBounds_toArray, List.set_cons_zero, List.set_cons_succ]
      refine wpAnyH_take (i := 7) (oi := ⟨some 27, _, _, _, _, _⟩) (v := ?_) rfl (by kernel_rfl) (by kernel_rfl) (by kernel_rfl) (fun _ _ _ h => h) (Or.inl ⟨by rfl, ?_⟩) (by assumption) ?_
      rotate_left 1
      · (intro w hSw; (try dsimp only at hSw); go_simp; try (with_reducible rfl))
      try simp only [Act.put, List.setIfInBounds_toArray, List.set_cons_zero, List.set_cons_succ]
      refine wpAnyH_take (i := 8) (oi := ⟨some 28, _, _, _, _, _⟩) (v := ?_) rfl (by kernel_rfl) (by kernel_rfl) (by kernel_rfl) (fun _ _ _ h => h) (Or.inl ⟨by rfl, ?_⟩) (by assumption) ?_
      rotate_left 1
      · (intro w hSw; (try dsimp only at hSw); go_simp; try (with_reducible rfl))
      try simp only [Act.put, List.setIfInBounds_toArray, List.set_cons_zero, List.set_cons_succ]
      refine wpAnyH_ready (rs := [5, 13]) (by kernel_rfl) (by simp) ?_
      refine AllReadyH.cons (o := ⟨some 25, _, _, _, _, _⟩) rfl (fun K hK => ?_) ?_
      focus (go_simp; (first | (go_at_call 245; refine (impl_power5 k _ _ (by first | rfl | omega | (rw [Go.IntWalk.i64_left]; exact Go.IntWalk.wrap64_in _ ⟨by omega, by omega⟩) | exact Go.IntWalk.wrap64_in _ ⟨by omega, by omega⟩) (by omega)).mono ?_; rintro e w3 ⟨rfl, hb3⟩; rw [HPP.out]; (first | (have p8 := (Is.drew (Is.new w2 (cF 0 0) 100)).below hb3 (by simp only [World.size_drew, size_alloc]; omega)) | skip); have hsz3 : w2.heap.size ≤ w3.heap.size := (by have := hb3.size; first | omega | (simp only [World.size_drew, size_alloc] at this; omega))) | (go_at_call 244; refine (impl_DecNewA (m * (P : Int)) k _ _ _ (by first | rfl | omega | (rw [Go.IntWalk.i64_left]; exact Go.IntWalk.wrap64_in _ ⟨by omega, by omega⟩) | exact Go.IntWalk.wrap64_in _ ⟨by omega, by omega⟩) (by first | rfl | omega | (rw [Go.IntWalk.i64_left]; exact Go.IntWalk.wrap64_in _ ⟨by omega, by omega⟩) | exact Go.IntWalk.wrap64_in _ ⟨by omega, by omega⟩) ⟨by omega, by omega⟩ (by omega) (fun V hV => HT.out V ((PK.out.2.1.trans ((‹_ ∧ Below (w2.heap.size) w2 _›).2.mono PK.out.2.1.size)).trans (hV.mono (Nat.le_trans PK.out.2.1.size (‹_ ∧ Below (w2.heap.size) w2 _›).2.size))))).mono ?_; rintro e w4 ⟨rfl, hb4⟩; rw [HDN.out]; (first | (have p8 := p8.below hb4 (by have := hb3.size; first | omega | (simp only [World.size_drew, size_alloc] at this; omega) | (simp only [World.size_drew, size_alloc] at this ⊢; omega)); have f8 := (fun i => p8.frozen i); obtain ⟨y0, y1⟩ := p8.cells2b) | (have p8 := (Is.new w3 (cF 0 0) 100).below hb4 (by simp); have f8 := (fun i => p8.frozen i); obtain ⟨y0, y1⟩ := p8.cells2b) | skip); have hsz4 : w2.heap.size ≤ w4.heap.size := (by have := hb4.size; first | omega | (simp only [World.size_drew, size_alloc] at this; omega)))); go_wp2_with fail; refine hK.out _ _ (by first | exact ⟨fun _ _ _ => rfl, (Below.refl _ _).drew⟩ | exact keep_step (by assumption) (Below.drew (Below.refl _ _)) (Nat.le_refl _) | exact keep_step (by assumption) (by assumption) (by first | omega | ((try simp only [World.size_drew, size_alloc]); omega) | (have := (‹(_ ∧ Below (w2.heap.size) w2 _)›).2.size; (try simp only [World.size_drew, size_alloc] at this ⊢); omega))) (fun hHeld => ?_); clear hK K; try simp only [Act.put, List.setIfInBounds_toArray, List.set_cons_zero, List.set_cons_succ])
      refine wpAnyH_take (i := 6) (oi := ⟨some 26, _, _, _, _, _⟩) (v := ?_) rfl (by kernel_rfl) (by kernel_rfl) (by kernel_rfl) (fun _ _ _ h => h) (Or.inl ⟨by rfl, ?_⟩) (by assumption) ?_
      rotate_left 1
      · (intro w hSw; (try dsimp only at hSw); go_simp; try (with_reducible rfl))
      try simp only [Act.put, List.setIfInBounds_toArray, List.set_cons_zero, List.set_cons_succ]
      refine wpAnyH_ready (rs := [9, 13]) (by kernel_rfl) (by simp) ?_
      refine AllReadyH.cons (o := ⟨some 29, _, _, _, _, _⟩) rfl (fun K hK => ?_) ?_
      focus (go_simp; (first | (go_at_call 245; refine (impl_power5 k _ _ (by first | rfl | omega | (rw [Go.IntWalk.i64_left]; exact Go.IntWalk.wrap64_in _ ⟨by omega, by omega⟩) | exact Go.IntWalk.wrap64_in _ ⟨by omega, by omega⟩) (by omega)).mono ?_; rintro e w3 ⟨rfl, hb3⟩; rw [HPP.out]; (first | (have p8 := (Is.drew (Is.new w2 (cF 0 0) 100)).below hb3 (by simp only [World.size_drew, size_alloc]; omega)) | skip); have hsz3 : w2.heap.size ≤ w3.heap.size := (by have := hb3.size; first | omega | (simp only [World.size_drew, size_alloc] at this; omega))) | (go_at_call 244; refine (impl_DecNewA (m * (P : Int)) k _ _ _ (by first | rfl | omega | (rw [Go.IntWalk.i64_left]; exact Go.IntWalk.wrap64_in _ ⟨by omega, by omega⟩) | exact Go.IntWalk.wrap64_in _ ⟨by omega, by omega⟩) (by first | rfl | omega | (rw [Go.IntWalk.i64_left]; exact Go.IntWalk.wrap64_in _ ⟨by omega, by omega⟩) | exact Go.IntWalk.wrap64_in _ ⟨by omega, by omega⟩) ⟨by omega, by omega⟩ (by omega) (fun V hV => HT.out V ((PK.out.2.1.trans ((‹_ ∧ Below (w2.heap.size) w2 _›).2.mono PK.out.2.1.size)).trans (hV.mono (Nat.le_trans PK.out.2.1.size (‹_ ∧ Below (w2.heap.size) w2 _›).2.size))))).mono ?_; rintro e w4 ⟨rfl, hb4⟩; rw [HDN.out]; (first | (have p8 := p8.below hb4 (by have := hb3.size; first | omega | (simp only [World.size_drew, size_alloc] at this; omega) | (simp only [World.size_drew, size_alloc] at this ⊢; omega)); have f8 := (fun i => p8.frozen i); obtain ⟨y0, y1⟩ := p8.cells2b) | (have p8 := (Is.new w3 (cF 0 0) 100).below hb4 (by simp); have f8 := (fun i => p8.frozen i); obtain ⟨y0, y1⟩ := p8.cells2b) | skip); have hsz4 : w2.heap.size ≤ w4.heap.size := (by have := hb4.size; first | omega | (simp only [World.size_drew, size_alloc] at this; omega)))); go_wp2_with fail; refine hK.out _ _ (by first | exact ⟨fun _ _ _ => rfl, (Below.refl _ _).drew⟩ | exact keep_step (by assumption) (Below.drew (Below.refl _ _)) (Nat.le_refl _) | exact keep_step (by assumption) (by assumption) (by first | omega | ((try simp only [World.size_drew, size_alloc]); omega) | (have := (‹(_ ∧ Below (w2.heap.size) w2 _)›).2.size; (try simp only [World.size_drew, size_alloc] at this ⊢); omega))) (fun hHeld => ?_); clear hK K; try simp only [Act.put, List.setIfInBounds_toArray, List.set_cons_zero, List.set_cons_succ])
      refine wpAnyH_take (i := 10) (oi := ⟨some 19, _, _, _, _, _⟩) (v := ?_) rfl (by kernel_rfl) (by kernel_rfl) (by kernel_rfl) (fun _ _ _ h => h) (Or.inl ⟨by rfl, ?_⟩) (by assumption) ?_
      rotate_left 1
      · (intro w hSw; (try dsimp only at hSw); go_simp; try (with_reducible rfl))
      try simp only [Act.put, List.setIfInBounds_toArray, List.set_cons_zero, List.set_cons_succ]
      refine wpAnyH_take (i := 11) (oi := ⟨some 30, _, _, _, _, _⟩) (v := ?_) rfl (by kernel_rfl) (by kernel_rfl) (by kernel_rfl) (fun _ _ _ h => h) (Or.inl ⟨by rfl, ?_⟩) (by assumption) ?_
      rotate_left 1
      · (intro w hSw; (try dsimp only at hSw); go_simp; try (with_reducible rfl))
      try simp only [Act.put, List.setIfInBounds_toArray, List.set_cons_zero, List.set_cons_succ]
      refine wpAnyH_take (i := 12) (oi := ⟨some 31, _, _, _, _, _⟩) (v := ?_) rfl (by kernel_rfl) (by kernel_rfl) (by kernel_rfl) (fun _ _ _ h => h) (Or.inl ⟨by rfl, ?_⟩) (by assumption) ?_
      rotate_left 1
      · (intro w hSw; (try dsimp only at hSw); go_simp; try (with_reducible rfl))
      try simp only [Act.put, List.setIfInBounds_toArray, List.set_cons_zero, List.set_cons_succ]
      refine wpAnyH_ready (rs := [13]) (by kernel_rfl) (by simp) ?_
      refine AllReadyH.cons (o := ⟨some 3, _, _, _, _, _⟩) rfl (fun K hK => ?_) AllReadyH.nil
      focus (go_simp; go_wp2_with fail; refine hK.out _ _ (by first | (with_reducible exact keep_step (by assumption) (below1 _ _) (by first | omega | ((try simp only [World.size_drew, size_alloc]); omega) | (have := (‹(_ ∧ Below (w2.heap.size) w2 _)›).2.size; (try simp only [World.size_drew, size_alloc] at this ⊢); omega))) | (exact keep_step (by assumption) (below1 _ _) (by first | omega | ((try simp only [World.size_drew, size_alloc]); omega) | (have := (‹(_ ∧ Below (w2.heap.size) w2 _)›).2.size; (try simp only [World.size_drew, size_alloc] at this ⊢); omega)))) (fun hHeld => ?_); clear hK K; try simp only [Act.put, List.setIfInBounds_toArray, List.set_cons_zero, List.set_cons_succ])
      refine wpAnyH_ready (rs := [14]) (by kernel_rfl) (by simp) ?_
      refine AllReadyH.cons (o := ⟨none, _, _, _, _, _⟩) rfl (fun K hK => ?_) AllReadyH.nil
      focus (go_simp; go_wp2_with fail; refine hK.out _ _ (by first | exact keep_step (by assumption) (below1 _ _) (by first | omega | ((try simp only [World.size_drew, size_alloc]); omega) | (have := (‹(_ ∧ Below (w2.heap.size) w2 _)›).2.size; (try simp only [World.size_drew, size_alloc] at this ⊢); omega)) | (clear hHeld; exact keep_step (by assumption) (below1 _ _) (by first | omega | ((try simp only [World.size_drew, size_alloc]); omega) | (have := (‹(_ ∧ Below (w2.heap.size) w2 _)›).2.size; (try simp only [World.size_drew, size_alloc] at this ⊢); omega)))) (fun hHeld => ?_); clear hK K; try simp only [Act.put])
      refine wpAnyH_take (i := 15) (oi := ⟨some 4, _, _, _, _, _⟩) (v := ?_) rfl (by kernel_rfl) (by kernel_rfl) (by kernel_rfl) (fun _ _ _ h => h) (Or.inl ⟨by rfl, ?_⟩) (by assumption) ?_
      rotate_left 1
      · (intro w hSw; (try dsimp only at hSw); go_simp; try (with_reducible rfl))
      try simp only [Act.put, List.setIfInBounds_toArray, List.set_cons_zero, List.set_cons_succ]
      refine wpAnyH_done (by kernel_rfl) ?_ _
      rotate_left 1
      refine AllReadyH.cons (o := ⟨some 3, _, _, _, _, _⟩) rfl (fun K hK => ?_) AllReadyH.nil
      focus (go_simp; go_wp2_with fail; refine hK.out _ _ (by first | (with_reducible exact keep_step (by assumption) (below1 _ _) (by first | omega | ((try simp only [World.size_drew, size_alloc]); omega) | (have := (‹(_ ∧ Below (w2.heap.size) w2 _)›).2.size; (try simp only [World.size_drew, size_alloc] at this ⊢); omega))) | (exact keep_step (by assumption) (below1 _ _) (by first | omega | ((try simp only [World.size_drew, size_alloc]); omega) | (have := (‹(_ ∧ Below (w2.heap.size) w2 _)›).2.size; (try simp only [World.size_drew, size_alloc] at this ⊢); omega)))) (fun hHeld => ?_); clear hK K; try simp only [Act.put, List.setIfInBounds_toArray, List.set_cons_zero, List.set_cons_succ])
      refine wpAnyH_ready (rs := [9]) (by kernel_rfl) (by simp) ?_
      refine AllReadyH.cons (o := ⟨some 29, _, _, _, _, _⟩) rfl (fun K hK => ?_) AllReadyH.nil
      focus (go_simp; (first | (go_at_call 245; refine (impl_power5 k _ _ (by first | rfl | omega | (rw [Go.IntWalk.i64_left]; exact Go.IntWalk.wrap64_in _ ⟨by omega, by omega⟩) | exact Go.IntWalk.wrap64_in _ ⟨by omega, by omega⟩) (by omega)).mono ?_; rintro e w3 ⟨rfl, hb3⟩; rw [HPP.out]; (first | (have p8 := (Is.drew (Is.new w2 (cF 0 0) 100)).below hb3 (by simp only [World.size_drew, size_alloc]; omega)) | skip); have hsz3 : w2.heap.size ≤ w3.heap.size := (by have := hb3.size; first | omega | (simp only [World.size_drew, size_alloc] at this; omega))) | (go_at_call 244; refine (impl_DecNewA (m * (P : Int)) k _ _ _ (by first | rfl | omega | (rw [Go.IntWalk.i64_left]; exact Go.IntWalk.wrap64_in _ ⟨by omega, by omega⟩) | exact Go.IntWalk.wrap64_in _ ⟨by omega, by omega⟩) (by first | rfl | omega | (rw [Go.IntWalk.i64_left]; exact Go.IntWalk.wrap64_in _ ⟨by omega, by omega⟩) | exact Go.IntWalk.wrap64_in _ ⟨by omega, by omega⟩) ⟨by omega, by omega⟩ (by omega) (fun V hV => HT.out V ((PK.out.2.1.trans ((‹_ ∧ Below (w2.heap.size) w2 _›).2.mono PK.out.2.1.size)).trans (hV.mono (Nat.le_trans PK.out.2.1.size (‹_ ∧ Below (w2.heap.size) w2 _›).2.size))))).mono ?_; rintro e w4 ⟨rfl, hb4⟩; rw [HDN.out]; (first | (have p8 := p8.below hb4 (by have := hb3.size; first | omega | (simp only [World.size_drew, size_alloc] at this; omega) | (simp only [World.size_drew, size_alloc] at this ⊢; omega)); have f8 := (fun i => p8.frozen i); obtain ⟨y0, y1⟩ := p8.cells2b) | (have p8 := (Is.new w3 (cF 0 0) 100).below hb4 (by simp); have f8 := (fun i => p8.frozen i); obtain ⟨y0, y1⟩ := p8.cells2b) | skip); have hsz4 : w2.heap.size ≤ w4.heap.size := (by have := hb4.size; first | omega | (simp only [World.size_drew, size_alloc] at this; omega)))); go_wp2_with fail; refine hK.out _ _ (by first | exact ⟨fun _ _ _ => rfl, (Below.refl _ _).drew⟩ | exact keep_step (by assumption) (Below.drew (Below.refl _ _)) (Nat.le_refl _) | exact keep_step (by assumption) (by assumption) (by first | omega | ((try simp only [World.size_drew, size_alloc]); omega) | (have := (‹(_ ∧ Below (w2.heap.size) w2 _)›).2.size; (try simp only [World.size_drew, size_alloc] at this ⊢); omega))) (fun hHeld => ?_); clear hK K; try simp only [Act.put, List.setIfInBounds_toArray, List.set_cons_zero, List.set_cons_succ])
      refine wpAnyH_take (i := 10) (oi := ⟨some 19, _, _, _, _, _⟩) (v := ?_) rfl (by kernel_rfl) (by kernel_rfl) (by kernel_rfl) (fun _ _ _ h => h) (Or.inl ⟨by rfl, ?_⟩) (by assumption) ?_
      rotate_left 1
      · (intro w hSw; (try dsimp only at hSw); go_simp; try (with_reducible rfl))
      try simp only [Act.put, List.setIfInBounds_toArray, List.set_cons_zero, List.set_cons_succ]
      refine wpAnyH_take (i := 11) (oi := ⟨some 30, _, _, _, _, _⟩) (v := ?_) rfl (by kernel_rfl) (by kernel_rfl) (by kernel_rfl) (fun _ _ _ h => h) (Or.inl ⟨by rfl, ?_⟩) (by assumption) ?_
      rotate_left 1
      · (intro w hSw; (try dsimp only at hSw); go_simp; try (with_reducible rfl))
      try simp only [Act.put, List.setIfInBounds_toArray, List.set_cons_zero, List.set_cons_succ]
      refine wpAnyH_take (i := 12) (oi := ⟨some 31, _, _, _, _, _⟩) (v := ?_) rfl (by kernel_rfl) (by kernel_rfl) (by kernel_rfl) (fun _ _ _ h => h) (Or.inl ⟨by rfl, ?_⟩) (by assumption) ?_
      rotate_left 1
      · (intro w hSw; (try dsimp only at hSw); go_simp; try (with_reducible rfl))
      try simp only [Act.put, List.setIfInBounds_toArray, List.set_cons_zero, List.set_cons_succ]
      refine wpAnyH_ready (rs := [14]) (by kernel_rfl) (by simp) ?_
      refine AllReadyH.cons (o := ⟨none, _, _, _, _, _⟩) rfl (fun K hK => ?_) AllReadyH.nil
      focus (go_simp; go_wp2_with fail; refine hK.out _ _ (by exact keep_step (by assumption) (below2s _ _ _ _) (by omega)) (fun hHeld => ?_); clear hK K; try simp only [Act.put])
      refine wpAnyH_take (i := 15) (oi := ⟨some 4, _, _, _, _, _⟩) (v := ?_) rfl (by kernel_rfl) (by kernel_rfl) (by kernel_rfl) (fun _ _ _ h => h) (Or.inl ⟨by rfl, ?_⟩) (by assumption) ?_
      rotate_left 1
      · (intro w hSw; (try dsimp only at hSw); go_simp; try (with_reducible rfl))
      try simp only [Act.put, List.setIfInBounds_toArray, List.set_cons_zero, List.set_cons_succ]
      refine wpAnyH_done (by kernel_rfl) ?_ _
      rotate_left 1
      refine AllReadyH.cons (o := ⟨some 3, _, _, _, _, _⟩) rfl (fun K hK => ?_) AllReadyH.nil
      focus (go_simp; go_wp2_with fail; refine hK.out _ _ (by first | (with_reducible exact keep_step (by assumption) (below1 _ _) (by first | omega | ((try simp only [World.size_drew, size_alloc]); omega) | (have := (‹(_ ∧ Below (w2.heap.size) w2 _)›).2.size; (try simp only [World.size_drew, size_alloc] at this ⊢); omega))) | (exact keep_step (by assumption) (below1 _ _) (by first | omega | ((try simp only [World.size_drew, size_alloc]); omega) | (have := (‹(_ ∧ Below (w2.heap.size) w2 _)›).2.size; (try simp only [World.size_drew, size_alloc] at this ⊢); omega)))) (fun hHeld => ?_); clear hK K; try simp only [Act.put, List.setIfInBounds_toArray, List.set_cons_zero, List.set_cons_succ])
      refine wpAnyH_ready (rs := [5]) (by kernel_rfl) (by simp) ?_
      refine AllReadyH.cons (o := ⟨some 25, _, _, _, _, _⟩) rfl (fun K hK => ?_) AllReadyH.nil
      focus (go_simp; (first | (go_at_call 245; refine (impl_power5 k _ _ (by first | rfl | omega | (rw [Go.IntWalk.i64_left]; exact Go.IntWalk.wrap64_in _ ⟨by omega, by omega⟩) | exact Go.IntWalk.wrap64_in _ ⟨by omega, by omega⟩) (by omega)).mono ?_; rintro e w3 ⟨rfl, hb3⟩; rw [HPP.out]; (first | (have p8 := (Is.drew (Is.new w2 (cF 0 0) 100)).below hb3 (by simp only [World.size_drew, size_alloc]; omega)) | skip); have hsz3 : w2.heap.size ≤ w3.heap.size := (by have := hb3.size; first | omega | (simp only [World.size_drew, size_alloc] at this; omega))) | (go_at_call 244; refine (impl_DecNewA (m * (P : Int)) k _ _ _ (by first | rfl | omega | (rw [Go.IntWalk.i64_left]; exact Go.IntWalk.wrap64_in _ ⟨by omega, by omega⟩) | exact Go.IntWalk.wrap64_in _ ⟨by omega, by omega⟩) (by first | rfl | omega | (rw [Go.IntWalk.i64_left]; exact Go.IntWalk.wrap64_in _ ⟨by omega, by omega⟩) | exact Go.IntWalk.wrap64_in _ ⟨by omega, by omega⟩) ⟨by omega, by omega⟩ (by omega) (fun V hV => HT.out V ((PK.out.2.1.trans ((‹_ ∧ Below (w2.heap.size) w2 _›).2.mono PK.out.2.1.size)).trans (hV.mono (Nat.le_trans PK.out.2.1.size (‹_ ∧ Below (w2.heap.size) w2 _›).2.size))))).mono ?_; rintro e w4 ⟨rfl, hb4⟩; rw [HDN.out]; (first | (have p8 := p8.below hb4 (by have := hb3.size; first | omega | (simp only [World.size_drew, size_alloc] at this; omega) | (simp only [World.size_drew, size_alloc] at this ⊢; omega)); have f8 := (fun i => p8.frozen i); obtain ⟨y0, y1⟩ := p8.cells2b) | (have p8 := (Is.new w3 (cF 0 0) 100).below hb4 (by simp); have f8 := (fun i => p8.frozen i); obtain ⟨y0, y1⟩ := p8.cells2b) | skip); have hsz4 : w2.heap.size ≤ w4.heap.size := (by have := hb4.size; first | omega | (simp only [World.size_drew, size_alloc] at this; omega)))); go_wp2_with fail; refine hK.out _ _ (by first | exact ⟨fun _ _ _ => rfl, (Below.refl _ _).drew⟩ | exact keep_step (by assumption) (Below.drew (Below.refl _ _)) (Nat.le_refl _) | exact keep_step (by assumption) (by assumption) (by first | omega | ((try simp only [World.size_drew, size_alloc]); omega) | (have := (‹(_ ∧ Below (w2.heap.size) w2 _)›).2.size; (try simp only [World.size_drew, size_alloc] at this ⊢); omega))) (fun hHeld => ?_); clear hK K; try simp only [Act.put, List.setIfInBounds_toArray, List.set_cons_zero, List.set_cons_succ])
      refine wpAnyH_take (i := 6) (oi := ⟨some 26, _, _, _, _, _⟩) (v := ?_) rfl (by kernel_rfl) (by kernel_rfl) (by kernel_rfl) (fun _ _ _ h => h) (Or.inl ⟨by rfl, ?_⟩) (by assumption) ?_
      rotate_left 1
      · (intro w hSw; (try dsimp only at hSw); go_simp; try (with_reducible rfl))
      try simp only [Act.put, List.setIfInBounds_toArray, List.set_cons_zero, List.set_cons_succ]
      refine wpAnyH_ready (rs := [9]) (by kernel_rfl) (by simp) ?_
      refine AllReadyH.cons (o := ⟨some 29, _, _, _, _, _⟩) rfl (fun K hK => ?_) AllReadyH.nil
      focus (go_simp; (first | (go_at_call 245; refine (impl_power5 k _ _ (by first | rfl | omega | (rw [Go.IntWalk.i64_left]; exact Go.IntWalk.wrap64_in _ ⟨by omega, by omega⟩) | exact Go.IntWalk.wrap64_in _ ⟨by omega, by omega⟩) (by omega)).mono ?_; rintro e w3 ⟨rfl, hb3⟩; rw [HPP.out]; (first | (have p8 := (Is.drew (Is.new w2 (cF 0 0) 100)).below hb3 (by simp only [World.size_drew, size_alloc]; omega)) | skip); have hsz3 : w2.heap.size ≤ w3.heap.size := (by have := hb3.size; first | omega | (simp only [World.size_drew, size_alloc] at this; omega))) | (go_at_call 244; refine (impl_DecNewA (m * (P : Int)) k _ _ _ (by first | rfl | omega | (rw [Go.IntWalk.i64_left]; exact Go.IntWalk.wrap64_in _ ⟨by omega, by omega⟩) | exact Go.IntWalk.wrap64_in _ ⟨by omega, by omega⟩) (by first | rfl | omega | (rw [Go.IntWalk.i64_left]; exact Go.IntWalk.wrap64_in _ ⟨by omega, by omega⟩) | exact Go.IntWalk.wrap64_in _ ⟨by omega, by omega⟩) ⟨by omega, by omega⟩ (by omega) (fun V hV => HT.out V ((PK.out.2.1.trans ((‹_ ∧ Below (w2.heap.size) w2 _›).2.mono PK.out.2.1.size)).trans (hV.mono (Nat.le_trans PK.out.2.1.size (‹_ ∧ Below (w2.heap.size) w2 _›).2.size))))).mono ?_; rintro e w4 ⟨rfl, hb4⟩; rw [HDN.out]; (first | (have p8 := p8.below hb4 (by have := hb3.size; first | omega | (simp only [World.size_drew, size_alloc] at this; omega) | (simp only [World.size_drew, size_alloc] at this ⊢; omega)); have f8 := (fun i => p8.frozen i); obtain ⟨y0, y1⟩ := p8.cells2b) | (have p8 := (Is.new w3 (cF 0 0) 100).below hb4 (by simp); have f8 := (fun i => p8.frozen i); obtain ⟨y0, y1⟩ := p8.cells2b) | skip); have hsz4 : w2.heap.size ≤ w4.heap.size := (by have := hb4.size; first | omega | (simp only [World.size_drew, size_alloc] at this; omega)))); go_wp2_with fail; refine hK.out _ _ (by first | exact ⟨fun _ _ _ => rfl, (Below.refl _ _).drew⟩ | exact keep_step (by assumption) (Below.drew (Below.refl _ _)) (Nat.le_refl _) | exact keep_step (by assumption) (by assumption) (by first | omega | ((try simp only [World.size_drew, size_alloc]); omega) | (have := (‹(_ ∧ Below (w2.heap.size) w2 _)›).2.size; (try simp only [World.size_drew, size_alloc] at this ⊢); omega))) (fun hHeld => ?_); clear hK K; try simp only [Act.put, List.setIfInBounds_toArray, List.set_cons_zero, List.set_cons_succ])
      refine wpAnyH_take (i := 10) (oi := ⟨some 19, _, _, _, _, _⟩) (v := ?_) rfl (by kernel_rfl) (by kernel_rfl) (by kernel_rfl) (fun _ _ _ h => h) (Or.inl ⟨by rfl, ?_⟩) (by assumption) ?_
      rotate_left 1
      · (intro w hSw; (try dsimp only at hSw); go_simp; try (with_reducible rfl))
      try simp only [Act.put, List.setIfInBounds_toArray, List.set_cons_zero, List.set_cons_succ]
      refine wpAnyH_take (i := 11) (oi := ⟨some 30, _, _, _, _, _⟩) (v := ?_) rfl (by kernel_rfl) (by kernel_rfl) (by kernel_rfl) (fun _ _ _ h => h) (Or.inl ⟨by rfl, ?_⟩) (by assumption) ?_
      rotate_left 1
      · (intro w hSw; (try dsimp only at hSw); go_simp; try (with_reducible rfl))
      try simp only [Act.put, List.setIfInBounds_toArray, List.set_cons_zero, List.set_cons_succ]
      refine wpAnyH_take (i := 12) (oi := ⟨some 31, _, _, _, _, _⟩) (v := ?_) rfl (by kernel_rfl) (by kernel_rfl) (by kernel_rfl) (fun _ _ _ h => h) (Or.inl ⟨by rfl, ?_⟩) (by assumption) ?_
      rotate_left 1
      · (intro w hSw; (try dsimp only at hSw); go_simp; try (with_reducible rfl))
      try simp only [Act.put, List.setIfInBounds_toArray, List.set_cons_zero, List.set_cons_succ]
      refine wpAnyH_ready (rs := [14]) (by kernel_rfl) (by simp) ?_
      refine AllReadyH.cons (o := ⟨none, _, _, _, _, _⟩) rfl (fun K hK => ?_) AllReadyH.nil
      focus (go_simp; go_wp2_with fail; refine hK.out _ _ (by exact keep_step (by assumption) (below2s _ _ _ _) (by omega)) (fun hHeld => ?_); clear hK K; try simp only [Act.put])
      refine wpAnyH_take (i := 15) (oi := ⟨some 4, _, _, _, _, _⟩) (v := ?_) rfl (by kernel_rfl) (by kernel_rfl) (by kernel_rfl) (fun _ _ _ h => h) (Or.inl ⟨by rfl, ?_⟩) (by assumption) ?_
      rotate_left 1
      · (intro w hSw; (try dsimp only at hSw); go_simp; try (with_reducible rfl))
      try simp only [Act.put, List.setIfInBounds_toArray, List.set_cons_zero, List.set_cons_succ]
      refine wpAnyH_done (by kernel_rfl) ?_ _
      all_goals
        have HB8 := Lib.hid (show Below w2.heap.size w2 _ from (‹_ ∧ Below (w2.heap.size) w2 _›).2)
        first
          | have hI8 := (p8.set 0 (.int .i64 dn.1.1)).set 1 (.int .i64 dn.1.2)
          | have hI8 := Is.new w4 (cF dn.1.1 dn.1.2) 100
        obtain ⟨p2, HB2, HD⟩ := PK.out
        obtain ⟨zo0, zo1⟩ := p2.cells2b
        obtain ⟨i0, i1⟩ := hI8.cells2b
        have p9 := p2.below HB8.out (by omega)
        obtain ⟨z0, z1⟩ := p9.cells2b
        have ff := fun i => p9.frozen i
        have hs9 := HB8.out.size
        have hl9 := p9.lt
        have hl8 := hI8.lt
        go_wp2_with fail
        obtain ⟨e0, e1⟩ := ((p9.set 0 (.int .i64 dn.1.1)).set 1 (.int .i64 dn.1.2)).cells2b
        refine bodyPost_ret (v := .agg #[.int .i64 dn.1.1, .int .i64 dn.1.2]) (by simp [results, Tryz.results202, go_sem, e0, e1]) rfl ⟨by rw [HD], (HB2.trans (HB8.out.mono HB2.size)).trans ((below2s _ _ _ _).mono (by omega))⟩
  · have HD := Lib.hid (show fltDecD m e = (0, 0) from if_pos hok)
    rw [decide_eq_false hok]
    clear hok
    go_wp2_with fail
    obtain ⟨e0, e1⟩ := ((p2.set 0 (.int .i64 0)).set 1 (.int .i64 0)).cells2b
    refine bodyPost_ret (v := .agg #[.int .i64 0, .int .i64 0]) (by simp [results, Tryz.results202, go_sem, e0, e1]) rfl ⟨by rw [HD.out], HB2.out.trans ((below2s _ _ _ _).mono (by omega))⟩
end Go.Proofs.YtggdenkmohnijaaGreatDoor
