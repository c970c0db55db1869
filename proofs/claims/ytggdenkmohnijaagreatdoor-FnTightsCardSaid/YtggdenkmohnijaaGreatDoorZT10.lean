/- Texts of this proof, merged: Tig3, Tig5, TigM. No condition beyond what each theorem states. -/
import Derived.Test.YtggdenkmohnijaaGreatDoorZT9
set_option linter.unusedSimpArgs false
set_option linter.unnecessarySimpa false
namespace Go.Proofs.YtggdenkmohnijaaGreatDoor
open Go.ChangeShapes Go.WideShapes Go.ChangeAt Go.RowKit Go.Joins
set_option linter.unusedVariables false
set_option maxRecDepth 100000
set_option maxHeartbeats 4000000 in
theorem pt9 (n x : Int) (s : ByteArray) (l : List T) (IH : ∀ t ∈ l, PT t)  : PT (.mk 9 n x s l) := by
  intro a cap B w hr hwf hsz hB
  obtain ⟨hwk, hwn, hwx, hws⟩ := hwf
  simp only [cV, T.k, T.n, T.x, T.s, T.l] at hr hwk hwn hwx hws ⊢
  have hszl : T.szL l ≤ 1048576 := by simp only [T.sz] at hsz; omega
  obtain ⟨hl1, hl2⟩ := hr.len
  have hl0 := T.length_le_szL l
  have HR := Lib.hid hr
  have HI := Lib.hid IH
  have HE := Lib.hid (show packT (.mk 9 n x s l) = hdL 4 l.length ++ packTs l from by rw [packT, if_neg (by omega), if_neg (by omega), if_neg (by omega), if_neg (by omega), if_neg (by omega), if_neg (by omega), if_neg (by omega), if_pos rfl])
  clear hr IH hwk hwn hwx hws hsz
  go_enter Tryz.func22, Tryz.ntmps22
  go_wp2_with fail
  generalize hW : (w.alloc (Obj.cells _ 26)).alloc (Obj.cells #[] 5) = W0
  have q1 : Is W0 w.heap.size 26 (cV (.mk 9 n x s l) a cap) := by subst hW; exact (Is.new _ _ _).alloc _
  have H0 := Lib.hid (show Below w.heap.size w W0 from by subst hW; exact below2 _ _ _)
  have hs0 : W0.heap.size = w.heap.size + 2 := by subst hW; simp
  clear hW
  obtain ⟨r0, r1, r2, r3, r4⟩ := q1.cells5
  have hl3 : w.heap.size < W0.heap.size := by omega
  refine wp_region_held_drew (S := fun w' => (∀ b o, b < W0.heap.size → w'.cell? ⟨b, o, none⟩ = W0.cell? ⟨b, o, none⟩) ∧ Below (W0.heap.size) W0 w') (by kernel_rfl) (by first | exact ⟨fun _ _ _ => rfl, (Below.refl _ _).drew⟩ | exact keep_step (by assumption) (Below.drew (Below.refl _ _)) (Nat.le_refl _) | exact keep_step (by assumption) (by assumption) (by first | omega | ((try simp only [World.size_drew, size_alloc]); omega) | (have := (‹(_ ∧ Below (W0.heap.size) W0 _)›).2.size; (try simp only [World.size_drew, size_alloc] at this ⊢); omega))) (fun hHeld => ?_)
  refine wpAnyH_take (i := 0) (oi := ⟨some 92, _, _, _, _, _⟩) (v := ?_) rfl (by kernel_rfl) (by kernel_rfl) (by kernel_rfl) (fun _ _ _ h => h) (Or.inl ⟨by rfl, ?_⟩) (by assumption) ?_
  rotate_left 1
  · (intro w hSw; (try dsimp only at hSw); go_simp; try (with_reducible rfl))
  try simp only [Act.put, List.setIfInBounds_toArray, List.set_cons_zero, List.set_cons_succ]
  refine wpAnyH_take (i := 1) (oi := ⟨some 93, _, _, _, _, _⟩) (v := ?_) rfl (by kernel_rfl) (by kernel_rfl) (by kernel_rfl) (fun _ _ _ h => h) (Or.inl ⟨by rfl, ?_⟩) (by assumption) ?_
  rotate_left 1
  · (intro w hSw; (try dsimp only at hSw); go_simp; try (with_reducible rfl))
  try simp only [Act.put, List.setIfInBounds_toArray, List.set_cons_zero, List.set_cons_succ]
  refine wpAnyH_take (i := 2) (oi := ⟨some 94, _, _, _, _, _⟩) (v := ?_) rfl (by kernel_rfl) (by kernel_rfl) (by kernel_rfl) (fun _ _ _ h => h) (Or.inl ⟨by rfl, ?_⟩) (by assumption) ?_
  rotate_left 1
  · (intro w hSw; (try dsimp only at hSw); go_simp; try (with_reducible rfl))
  try simp only [Act.put, List.setIfInBounds_toArray, List.set_cons_zero, List.set_cons_succ]
  refine wpAnyH_take (i := 3) (oi := ⟨some 95, _, _, _, _, _⟩) (v := ?_) rfl (by kernel_rfl) (by kernel_rfl) (by kernel_rfl) (fun _ _ _ h => h) (Or.inl ⟨by rfl, ?_⟩) (by assumption) ?_
  rotate_left 1
  · (intro w hSw; (try dsimp only at hSw); go_simp; try (with_reducible rfl))
  try simp only [Act.put, List.setIfInBounds_toArray, List.set_cons_zero, List.set_cons_succ]
  refine wpAnyH_take (i := 6) (oi := ⟨some 98, _, _, _, _, _⟩) (v := ?_) rfl (by kernel_rfl) (by kernel_rfl) (by kernel_rfl) (fun _ _ _ h => h) (Or.inl ⟨by rfl, ?_⟩) (by assumption) ?_
  rotate_left 1
  · (intro w hSw; (try dsimp only at hSw); go_simp; try (with_reducible rfl))
  try simp only [Act.put, List.setIfInBounds_toArray, List.set_cons_zero, List.set_cons_succ]
  refine wpAnyH_take (i := 7) (oi := ⟨some 99, _, _, _, _, _⟩) (v := ?_) rfl (by kernel_rfl) (by kernel_rfl) (by kernel_rfl) (fun _ _ _ h => h) (Or.inl ⟨by rfl, ?_⟩) (by assumption) ?_
  rotate_left 1
  · (intro w hSw; (try dsimp only at hSw); go_simp; try (with_reducible rfl))
  try simp only [Act.put, List.setIfInBounds_toArray, List.set_cons_zero, List.set_cons_succ]
  refine wpAnyH_ready (rs := [4]) (by kernel_rfl) (by simp) ?_
  refine AllReadyH.cons (o := ⟨some 96, _, _, _, _, _⟩) rfl (fun K hK => ?_) AllReadyH.nil
  go_simp
  (first | (go_at_call 73; refine (spec_PutHead0 4 (l.length : Int) kk _ _ ⟨by omega, by omega⟩).mono ?_; rintro e w3 ⟨a3, c3, rfl, happ3, hb3⟩; have HA3 := Lib.hid (happ3.less (show W0.heap.size ≤ _ by omega)); clear happ3; have hsz3 := hb3.size) | (go_at_call 77; refine (l13All_of l HI _ _ _ _ W0.heap.size _ _ B _ rfl HA3.out (by omega) (HR.out.below (H0.out.trans ((‹_ ∧ Below (W0.heap.size) W0 _›).2.mono (by omega))) hB) (by omega) hszl (by have := headL_len 4 (l.length : Int) kk; omega)).mono ?_; rintro e w4 ⟨a4, c4, rfl, happ4, hb4⟩; have hsz4 := hb4.size) | (go_at_call 75; refine (spec_HeadForOk 4 (l.length : Int) _ (by omega) (by omega)).mono ?_; rintro e w2 ⟨⟨kk, rfl, hkk⟩, hb2⟩; have hsz2 := hb2.size; (try simp only [World.size_drew] at hsz2)))
  go_wp2_with fail
  refine hK.out _ _ (by first | exact ⟨fun _ _ _ => rfl, (Below.refl _ _).drew⟩ | exact keep_step (by assumption) (Below.drew (Below.refl _ _)) (Nat.le_refl _) | exact keep_step (by assumption) (by assumption) (by first | omega | ((try simp only [World.size_drew, size_alloc]); omega) | (have := (‹(_ ∧ Below (W0.heap.size) W0 _)›).2.size; (try simp only [World.size_drew, size_alloc] at this ⊢); omega))) (fun hHeld => ?_)
  clear hK K
  try simp only [Act.put, List.setIfInBounds_toArray, List.set_cons_zero, List.set_cons_succ]
  refine wpAnyH_ready (rs := [5]) (by kernel_rfl) (by simp) ?_
  refine AllReadyH.cons (o := ⟨some 97, _, _, _, _, _⟩) rfl (fun K hK => ?_) AllReadyH.nil
  focus (go_simp; (first | (go_at_call 73; refine (spec_PutHead0 4 (l.length : Int) kk _ _ ⟨by omega, by omega⟩).mono ?_; rintro e w3 ⟨a3, c3, rfl, happ3, hb3⟩; have HA3 := Lib.hid (happ3.less (show W0.heap.size ≤ _ by omega)); clear happ3; have hsz3 := hb3.size) | (go_at_call 77; refine (l13All_of l HI _ _ _ _ W0.heap.size _ _ B _ rfl HA3.out (by omega) (HR.out.below (H0.out.trans ((‹_ ∧ Below (W0.heap.size) W0 _›).2.mono (by omega))) hB) (by omega) hszl (by have := headL_len 4 (l.length : Int) kk; omega)).mono ?_; rintro e w4 ⟨a4, c4, rfl, happ4, hb4⟩; have hsz4 := hb4.size) | (go_at_call 75; refine (spec_HeadForOk 4 (l.length : Int) _ (by omega) (by omega)).mono ?_; rintro e w2 ⟨⟨kk, rfl, hkk⟩, hb2⟩; have hsz2 := hb2.size; (try simp only [World.size_drew] at hsz2))); go_wp2_with fail; refine hK.out _ _ (by first | exact ⟨fun _ _ _ => rfl, (Below.refl _ _).drew⟩ | exact keep_step (by assumption) (Below.drew (Below.refl _ _)) (Nat.le_refl _) | exact keep_step (by assumption) (by assumption) (by first | omega | ((try simp only [World.size_drew, size_alloc]); omega) | (have := (‹(_ ∧ Below (W0.heap.size) W0 _)›).2.size; (try simp only [World.size_drew, size_alloc] at this ⊢); omega))) (fun hHeld => ?_); clear hK K; try simp only [Act.put, List.setIfInBounds_toArray, List.set_cons_zero, List.set_cons_succ])
  refine wpAnyH_ready (rs := [8]) (by kernel_rfl) (by simp) ?_
  refine AllReadyH.cons (o := ⟨some 100, _, _, _, _, _⟩) rfl (fun K hK => ?_) AllReadyH.nil
  focus (go_simp; (first | (go_at_call 73; refine (spec_PutHead0 4 (l.length : Int) kk _ _ ⟨by omega, by omega⟩).mono ?_; rintro e w3 ⟨a3, c3, rfl, happ3, hb3⟩; have HA3 := Lib.hid (happ3.less (show W0.heap.size ≤ _ by omega)); clear happ3; have hsz3 := hb3.size) | (go_at_call 77; refine (l13All_of l HI _ _ _ _ W0.heap.size _ _ B _ rfl HA3.out (by omega) (HR.out.below (H0.out.trans ((‹_ ∧ Below (W0.heap.size) W0 _›).2.mono (by omega))) hB) (by omega) hszl (by have := headL_len 4 (l.length : Int) kk; omega)).mono ?_; rintro e w4 ⟨a4, c4, rfl, happ4, hb4⟩; have hsz4 := hb4.size) | (go_at_call 75; refine (spec_HeadForOk 4 (l.length : Int) _ (by omega) (by omega)).mono ?_; rintro e w2 ⟨⟨kk, rfl, hkk⟩, hb2⟩; have hsz2 := hb2.size; (try simp only [World.size_drew] at hsz2))); go_wp2_with fail; refine hK.out _ _ (by first | exact ⟨fun _ _ _ => rfl, (Below.refl _ _).drew⟩ | exact keep_step (by assumption) (Below.drew (Below.refl _ _)) (Nat.le_refl _) | exact keep_step (by assumption) (by assumption) (by first | omega | ((try simp only [World.size_drew, size_alloc]); omega) | (have := (‹(_ ∧ Below (W0.heap.size) W0 _)›).2.size; (try simp only [World.size_drew, size_alloc] at this ⊢); omega))) (fun hHeld => ?_); clear hK K; try simp only [Act.put, List.setIfInBounds_toArray, List.set_cons_zero, List.set_cons_succ])
  refine wpAnyH_take (i := 9) (oi := ⟨some 2, _, _, _, _, _⟩) (v := ?_) rfl (by kernel_rfl) (by kernel_rfl) (by kernel_rfl) (fun _ _ _ h => h) (Or.inl ⟨by rfl, ?_⟩) (by assumption) ?_
  rotate_left 1
  · (intro w hSw; (try dsimp only at hSw); go_simp; try (with_reducible rfl))
  try simp only [Act.put, List.setIfInBounds_toArray, List.set_cons_zero, List.set_cons_succ]
  refine wpAnyH_done (by kernel_rfl) ?_ _
  all_goals
    have hBB := (‹_ ∧ Below (W0.heap.size) W0 _›).2
    go_wp2_with fail
    go_ret
    exact ⟨a4, c4, ret_sl (by simp only [HE.out, hkk, List.length_append]), by rw [HE.out, hkk]; exact happ4.less (by omega), H0.out.trans (hBB.mono (by omega))⟩
set_option maxHeartbeats 4000000 in
theorem pt11 (n x : Int) (s : ByteArray) (l : List T) (IH : ∀ t ∈ l, PT t) (h0 : 0 ≤ n ∧ n ≤ 1000000000000000) : PT (.mk 11 n x s l) := by
  intro a cap B w hr hwf hsz hB
  obtain ⟨hwk, hwn, hwx, hws⟩ := hwf
  simp only [cV, T.k, T.n, T.x, T.s, T.l] at hr hwk hwn hwx hws ⊢
  have hszl : T.szL l ≤ 1048576 := by simp only [T.sz] at hsz; omega
  obtain ⟨hl1, hl2⟩ := hr.len
  have hl0 := T.length_le_szL l
  have HR := Lib.hid hr
  have HI := Lib.hid IH
  have HE := Lib.hid (show packT (.mk 11 n x s l) = hdL 6 n ++ packTs l from by rw [packT, if_neg (by omega), if_neg (by omega), if_neg (by omega), if_neg (by omega), if_neg (by omega), if_neg (by omega), if_neg (by omega), if_neg (by omega), if_neg (by omega), if_pos rfl, if_pos h0])
  have DN := Lib.hid (show decide (0 ≤ n ∧ n ≤ 1000000000000000) = true from decide_eq_true h0)
  obtain ⟨i1, i2⟩ := h0
  have q0 := (Is.new w (cV (.mk 11 n x s l) a cap) 26).alloc (.cells #[] 5)
  simp only [cV, T.k, T.n, T.x, T.s, T.l] at q0
  obtain ⟨c0, c1, c2', c3, c4⟩ := q0.cells5
  have lg := q0.lt
  clear hr IH hwk hwn hwx hws hsz
  go_enter Tryz.func22, Tryz.ntmps22
  go_wp2_with (go_at_call 74; refine (spec_l1InE _ _ _ _).mono ?_; rintro ee w2 ⟨rfl, rfl⟩; rw [DN.out])
  clear q0 c0 c1 c2' c3 c4 lg
  generalize hW : (w.alloc (Obj.cells _ 26)).alloc (Obj.cells #[] 5) = W0
  have q1 : Is W0 w.heap.size 26 (cV (.mk 11 n x s l) a cap) := by subst hW; exact (Is.new _ _ _).alloc _
  have H0 := Lib.hid (show Below w.heap.size w W0 from by subst hW; exact below2 _ _ _)
  have hs0 : W0.heap.size = w.heap.size + 2 := by subst hW; simp
  clear hW
  obtain ⟨r0, r1, r2, r3, r4⟩ := q1.cells5
  have hl3 : w.heap.size < W0.heap.size := by omega
  refine wp_region_held_drew (S := fun w' => (∀ b o, b < W0.heap.size → w'.cell? ⟨b, o, none⟩ = W0.cell? ⟨b, o, none⟩) ∧ Below (W0.heap.size) W0 w') (by kernel_rfl) (by first | exact ⟨fun _ _ _ => rfl, (Below.refl _ _).drew⟩ | exact keep_step (by assumption) (Below.drew (Below.refl _ _)) (Nat.le_refl _) | exact keep_step (by assumption) (by assumption) (by first | omega | ((try simp only [World.size_drew, size_alloc]); omega) | (have := (‹(_ ∧ Below (W0.heap.size) W0 _)›).2.size; (try simp only [World.size_drew, size_alloc] at this ⊢); omega))) (fun hHeld => ?_)
  refine wpAnyH_take (i := 0) (oi := ⟨some 120, _, _, _, _, _⟩) (v := ?_) rfl (by kernel_rfl) (by kernel_rfl) (by kernel_rfl) (fun _ _ _ h => h) (Or.inl ⟨by rfl, ?_⟩) (by assumption) ?_
  rotate_left 1
  · (intro w hSw; (try dsimp only at hSw); go_simp; try (with_reducible rfl))
  try simp only [Act.put, List.setIfInBounds_toArray, List.set_cons_zero, List.set_cons_succ]
  refine wpAnyH_take (i := 1) (oi := ⟨some 121, _, _, _, _, _⟩) (v := ?_) rfl (by kernel_rfl) (by kernel_rfl) (by kernel_rfl) (fun _ _ _ h => h) (Or.inl ⟨by rfl, ?_⟩) (by assumption) ?_
  rotate_left 1
  · (intro w hSw; (try dsimp only at hSw); go_simp; try (with_reducible rfl))
  try simp only [Act.put, List.setIfInBounds_toArray, List.set_cons_zero, List.set_cons_succ]
  refine wpAnyH_take (i := 2) (oi := ⟨some 122, _, _, _, _, _⟩) (v := ?_) rfl (by kernel_rfl) (by kernel_rfl) (by kernel_rfl) (fun _ _ _ h => h) (Or.inl ⟨by rfl, ?_⟩) (by assumption) ?_
  rotate_left 1
  · (intro w hSw; (try dsimp only at hSw); go_simp; try (with_reducible rfl))
  try simp only [Act.put, List.setIfInBounds_toArray, List.set_cons_zero, List.set_cons_succ]
  refine wpAnyH_take (i := 5) (oi := ⟨some 125, _, _, _, _, _⟩) (v := ?_) rfl (by kernel_rfl) (by kernel_rfl) (by kernel_rfl) (fun _ _ _ h => h) (Or.inl ⟨by rfl, ?_⟩) (by assumption) ?_
  rotate_left 1
  · (intro w hSw; (try dsimp only at hSw); go_simp; try (with_reducible rfl))
  try simp only [Act.put, List.setIfInBounds_toArray, List.set_cons_zero, List.set_cons_succ]
  refine wpAnyH_take (i := 6) (oi := ⟨some 126, _, _, _, _, _⟩) (v := ?_) rfl (by kernel_rfl) (by kernel_rfl) (by kernel_rfl) (fun _ _ _ h => h) (Or.inl ⟨by rfl, ?_⟩) (by assumption) ?_
  rotate_left 1
  · (intro w hSw; (try dsimp only at hSw); go_simp; try (with_reducible rfl))
  try simp only [Act.put, List.setIfInBounds_toArray, List.set_cons_zero, List.set_cons_succ]
  refine wpAnyH_ready (rs := [3]) (by kernel_rfl) (by simp) ?_
  refine AllReadyH.cons (o := ⟨some 123, _, _, _, _, _⟩) rfl (fun K hK => ?_) AllReadyH.nil
  go_simp
  (first | (go_at_call 73; refine (spec_PutHead0 6 n kk _ _ ⟨by omega, by omega⟩).mono ?_; rintro e w3 ⟨a3, c3, rfl, happ3, hb3⟩; have HA3 := Lib.hid (happ3.less (show W0.heap.size ≤ _ by omega)); clear happ3; have hsz3 := hb3.size) | (go_at_call 77; refine (l13All_of l HI _ _ _ _ W0.heap.size _ _ B _ rfl HA3.out (by omega) (HR.out.below (H0.out.trans ((‹_ ∧ Below (W0.heap.size) W0 _›).2.mono (by omega))) hB) (by omega) hszl (by have := headL_len 6 n kk; omega)).mono ?_; rintro e w4 ⟨a4, c4, rfl, happ4, hb4⟩; have hsz4 := hb4.size) | (go_at_call 75; refine (spec_HeadForOk 6 n _ (by omega) (by omega)).mono ?_; rintro e w2 ⟨⟨kk, rfl, hkk⟩, hb2⟩; have hsz2 := hb2.size; (try simp only [World.size_drew] at hsz2)))
  go_wp2_with fail
  refine hK.out _ _ (by first | exact ⟨fun _ _ _ => rfl, (Below.refl _ _).drew⟩ | exact keep_step (by assumption) (Below.drew (Below.refl _ _)) (Nat.le_refl _) | exact keep_step (by assumption) (by assumption) (by first | omega | ((try simp only [World.size_drew, size_alloc]); omega) | (have := (‹(_ ∧ Below (W0.heap.size) W0 _)›).2.size; (try simp only [World.size_drew, size_alloc] at this ⊢); omega))) (fun hHeld => ?_)
  clear hK K
  try simp only [Act.put, List.setIfInBounds_toArray, List.set_cons_zero, List.set_cons_succ]
  refine wpAnyH_ready (rs := [4]) (by kernel_rfl) (by simp) ?_
  refine AllReadyH.cons (o := ⟨some 124, _, _, _, _, _⟩) rfl (fun K hK => ?_) AllReadyH.nil
  focus (go_simp; (first | (go_at_call 73; refine (spec_PutHead0 6 n kk _ _ ⟨by omega, by omega⟩).mono ?_; rintro e w3 ⟨a3, c3, rfl, happ3, hb3⟩; have HA3 := Lib.hid (happ3.less (show W0.heap.size ≤ _ by omega)); clear happ3; have hsz3 := hb3.size) | (go_at_call 77; refine (l13All_of l HI _ _ _ _ W0.heap.size _ _ B _ rfl HA3.out (by omega) (HR.out.below (H0.out.trans ((‹_ ∧ Below (W0.heap.size) W0 _›).2.mono (by omega))) hB) (by omega) hszl (by have := headL_len 6 n kk; omega)).mono ?_; rintro e w4 ⟨a4, c4, rfl, happ4, hb4⟩; have hsz4 := hb4.size) | (go_at_call 75; refine (spec_HeadForOk 6 n _ (by omega) (by omega)).mono ?_; rintro e w2 ⟨⟨kk, rfl, hkk⟩, hb2⟩; have hsz2 := hb2.size; (try simp only [World.size_drew] at hsz2))); go_wp2_with fail; refine hK.out _ _ (by first | exact ⟨fun _ _ _ => rfl, (Below.refl _ _).drew⟩ | exact keep_step (by assumption) (Below.drew (Below.refl _ _)) (Nat.le_refl _) | exact keep_step (by assumption) (by assumption) (by first | omega | ((try simp only [World.size_drew, size_alloc]); omega) | (have := (‹(_ ∧ Below (W0.heap.size) W0 _)›).2.size; (try simp only [World.size_drew, size_alloc] at this ⊢); omega))) (fun hHeld => ?_); clear hK K; try simp only [Act.put, List.setIfInBounds_toArray, List.set_cons_zero, List.set_cons_succ])
  refine wpAnyH_ready (rs := [7]) (by kernel_rfl) (by simp) ?_
  refine AllReadyH.cons (o := ⟨some 127, _, _, _, _, _⟩) rfl (fun K hK => ?_) AllReadyH.nil
  focus (go_simp; (first | (go_at_call 73; refine (spec_PutHead0 6 n kk _ _ ⟨by omega, by omega⟩).mono ?_; rintro e w3 ⟨a3, c3, rfl, happ3, hb3⟩; have HA3 := Lib.hid (happ3.less (show W0.heap.size ≤ _ by omega)); clear happ3; have hsz3 := hb3.size) | (go_at_call 77; refine (l13All_of l HI _ _ _ _ W0.heap.size _ _ B _ rfl HA3.out (by omega) (HR.out.below (H0.out.trans ((‹_ ∧ Below (W0.heap.size) W0 _›).2.mono (by omega))) hB) (by omega) hszl (by have := headL_len 6 n kk; omega)).mono ?_; rintro e w4 ⟨a4, c4, rfl, happ4, hb4⟩; have hsz4 := hb4.size) | (go_at_call 75; refine (spec_HeadForOk 6 n _ (by omega) (by omega)).mono ?_; rintro e w2 ⟨⟨kk, rfl, hkk⟩, hb2⟩; have hsz2 := hb2.size; (try simp only [World.size_drew] at hsz2))); go_wp2_with fail; refine hK.out _ _ (by first | exact ⟨fun _ _ _ => rfl, (Below.refl _ _).drew⟩ | exact keep_step (by assumption) (Below.drew (Below.refl _ _)) (Nat.le_refl _) | exact keep_step (by assumption) (by assumption) (by first | omega | ((try simp only [World.size_drew, size_alloc]); omega) | (have := (‹(_ ∧ Below (W0.heap.size) W0 _)›).2.size; (try simp only [World.size_drew, size_alloc] at this ⊢); omega))) (fun hHeld => ?_); clear hK K; try simp only [Act.put, List.setIfInBounds_toArray, List.set_cons_zero, List.set_cons_succ])
  refine wpAnyH_take (i := 8) (oi := ⟨some 2, _, _, _, _, _⟩) (v := ?_) rfl (by kernel_rfl) (by kernel_rfl) (by kernel_rfl) (fun _ _ _ h => h) (Or.inl ⟨by rfl, ?_⟩) (by assumption) ?_
  rotate_left 1
  · (intro w hSw; (try dsimp only at hSw); go_simp; try (with_reducible rfl))
  try simp only [Act.put, List.setIfInBounds_toArray, List.set_cons_zero, List.set_cons_succ]
  refine wpAnyH_done (by kernel_rfl) ?_ _
  all_goals
    have hBB := (‹_ ∧ Below (W0.heap.size) W0 _›).2
    go_wp2_with fail
    go_ret
    exact ⟨a4, c4, ret_sl (by simp only [HE.out, hkk, List.length_append]), by rw [HE.out, hkk]; exact happ4.less (by omega), H0.out.trans (hBB.mono (by omega))⟩
theorem pt11n (n x : Int) (s : ByteArray) (l : List T) (h0 : ¬ (0 ≤ n ∧ n ≤ 1000000000000000)) : PT (.mk 11 n x s l) := by
  intro a cap B w hr hwf hsz hB
  obtain ⟨hwk, hwn, hwx, hws⟩ := hwf
  simp only [cV, T.k, T.n, T.x, T.s, T.l] at hr hwk hwn hwx hws ⊢
  have q1 := (Is.new w (cV (.mk 11 n x s l) a cap) 26).alloc (.cells #[] 5)
  have H0 := Lib.hid (below2 w (.cells (cV (.mk 11 n x s l) a cap) 26) (.cells #[] 5))
  simp only [cV, T.k, T.n, T.x, T.s, T.l] at q1 H0
  obtain ⟨c0, c1, c2', c3, c4⟩ := q1.cells5
  have lg := q1.lt
  have DN := Lib.hid (show decide (0 ≤ n ∧ n ≤ 1000000000000000) = false from decide_eq_false h0)
  have HE := Lib.hid (show packT (.mk 11 n x s l) = [] from by rw [packT, if_neg (by omega), if_neg (by omega), if_neg (by omega), if_neg (by omega), if_neg (by omega), if_neg (by omega), if_neg (by omega), if_neg (by omega), if_neg (by omega), if_pos rfl, if_neg h0])
  have HA := Lib.hid (AppL.empty (E := EByte) (n := 1) (e := 5) (w.alloc (Obj.cells #[Value.int IntKind.i64 11, Value.int IntKind.i64 n, Value.int IntKind.i64 x, Value.string s, Value.slice a l.length cap] 26)) w.heap.size (by simp))
  clear h0
  go_enter Tryz.func22, Tryz.ntmps22
  go_wp2_with (go_at_call 74; refine (spec_l1InE _ _ _ _).mono ?_; rintro ee w2 ⟨rfl, rfl⟩; rw [DN.out])
  go_ret
  exact ⟨_, 0, ret_sl (by rw [HE.out]; rfl), by rw [HE.out]; have h := HA.out; rw [size_alloc] at h; exact h, H0.out⟩
theorem step_appS {P : Program} {w : World} {ops : Array Oper} {o : Oper} {act : Act} {K : Act → World → Prop} {Q : Exit → Act → World → Prop} {X : Prop} {e : TypeId} (ty : TypeId) (hgd : o.guard = none) (hty : o.type = ty) (s x : Operand) (t u : TypeId)
    (ho : o.op = .call { callee := .builtin .append, args := #[s, x], argTypes := #[t, u] }) (ht : P.underlying t = some (.slice e)) (hu : P.underlying u = some .string) (hinfo : (P.info? e).map (fun i => (i.zero, i.size, i.bytes)) = some (some (.int .u8 0), 1, 1))
    (rlo : Nat) (a : Option Addr) (cap : Nat) (l : List Int) (hl : ∀ x ∈ l, U8 x) (hs : act.eval s = .slice a l.length cap) (happ : AppL EByte 1 e w rlo a cap l []) (hlo : rlo ≤ w.heap.size) (st : ByteArray) (hx : act.eval x = .string st) (hbytes : l.length + st.size ≤ 140737488355328)
    (h : ∀ a' cap' w', AppL EByte 1 e w' rlo a' cap' (l ++ byteL st) [] → Below rlo w w' → (∀ f, f < w.heap.size → (∀ k, (Value.slice a l.length cap).ownBlock = some k → f ≠ k) → w'.heap[f]? = w.heap[f]?) → w.heap.size ≤ w'.heap.size → K (act.put o.dst (.slice a' (l ++ byteL st).length cap')) w') : if Region.wanted o (yielded ops act.tmps) = true then Oper.wp P o act w K Q else X := by
  obtain ⟨a', c', w', hrun, r1, r2, r3, r4⟩ := run_appStr (P := P) w t u o.type ht hu hinfo rlo a cap l hl happ hlo st hbytes
  exact step_append_run w hgd s x t u ho _ _ hs hx _ _ hrun (h a' c' w' r1 r2 r3 r4)
set_option maxHeartbeats 4000000 in
theorem pt7 (n x : Int) (s : ByteArray) (l : List T) : PT (.mk 7 n x s l) := by
  intro a cap B w hr hwf hsz hB
  obtain ⟨hwk, hwn, hwx, hws⟩ := hwf
  simp only [cV, T.k, T.n, T.x, T.s, T.l] at hr hwk hwn hwx hws ⊢
  have hss : s.size ≤ 1048576 := by simp only [T.sz] at hsz; omega
  have HE := Lib.hid (show packT (.mk 7 n x s l) = hdL 3 s.size ++ byteL s from by rw [packT, if_neg (by omega), if_neg (by omega), if_neg (by omega), if_neg (by omega), if_neg (by omega), if_pos rfl])
  clear hr hwk hwn hwx hws hsz
  go_enter Tryz.func22, Tryz.ntmps22
  go_wp2_with fail
  generalize hW : (w.alloc (Obj.cells _ 26)).alloc (Obj.cells #[] 5) = W0
  have q1 : Is W0 w.heap.size 26 (cV (.mk 7 n x s l) a cap) := by subst hW; exact (Is.new _ _ _).alloc _
  have H0 := Lib.hid (show Below w.heap.size w W0 from by subst hW; exact below2 _ _ _)
  have hs0 : W0.heap.size = w.heap.size + 2 := by subst hW; simp
  clear hW
  obtain ⟨r0, r1, r2, r3, r4⟩ := q1.cells5
  have hl3 : w.heap.size < W0.heap.size := by omega
  refine wp_region_held_drew (S := fun w' => (∀ b o, b < W0.heap.size → w'.cell? ⟨b, o, none⟩ = W0.cell? ⟨b, o, none⟩) ∧ Below (W0.heap.size) W0 w') (by kernel_rfl) (by first | exact ⟨fun _ _ _ => rfl, (Below.refl _ _).drew⟩ | exact keep_step (by assumption) (Below.drew (Below.refl _ _)) (Nat.le_refl _) | exact keep_step (by assumption) (by assumption) (by first | omega | ((try simp only [World.size_drew, size_alloc]); omega) | (have := (‹(_ ∧ Below (W0.heap.size) W0 _)›).2.size; (try simp only [World.size_drew, size_alloc] at this ⊢); omega))) (fun hHeld => ?_)
  refine wpAnyH_take (i := 0) (oi := ⟨some 70, _, _, _, _, _⟩) (v := ?_) rfl (by kernel_rfl) (by kernel_rfl) (by kernel_rfl) (fun _ _ _ h => h) (Or.inl ⟨by rfl, ?_⟩) (by assumption) ?_
  rotate_left 1
  · (intro w hSw; (try dsimp only at hSw); go_simp; try (with_reducible rfl))
  try simp only [Act.put, List.setIfInBounds_toArray, List.set_cons_zero, List.set_cons_succ]
  refine wpAnyH_take (i := 1) (oi := ⟨some 71, _, _, _, _, _⟩) (v := ?_) rfl (by kernel_rfl) (by kernel_rfl) (by kernel_rfl) (fun _ _ _ h => h) (Or.inl ⟨by rfl, ?_⟩) (by assumption) ?_
  rotate_left 1
  · (intro w hSw; (try dsimp only at hSw); go_simp; try (with_reducible rfl))
  try simp only [Act.put, List.setIfInBounds_toArray, List.set_cons_zero, List.set_cons_succ]
  refine wpAnyH_take (i := 2) (oi := ⟨some 72, _, _, _, _, _⟩) (v := ?_) rfl (by kernel_rfl) (by kernel_rfl) (by kernel_rfl) (fun _ _ _ h => h) (Or.inl ⟨by rfl, ?_⟩) (by assumption) ?_
  rotate_left 1
  · (intro w hSw; (try dsimp only at hSw); go_simp; try (with_reducible rfl))
  try simp only [Act.put, List.setIfInBounds_toArray, List.set_cons_zero, List.set_cons_succ]
  refine wpAnyH_take (i := 3) (oi := ⟨some 73, _, _, _, _, _⟩) (v := ?_) rfl (by kernel_rfl) (by kernel_rfl) (by kernel_rfl) (fun _ _ _ h => h) (Or.inl ⟨by rfl, ?_⟩) (by assumption) ?_
  rotate_left 1
  · (intro w hSw; (try dsimp only at hSw); go_simp; try (with_reducible rfl))
  try simp only [Act.put, List.setIfInBounds_toArray, List.set_cons_zero, List.set_cons_succ]
  refine wpAnyH_take (i := 6) (oi := ⟨some 76, _, _, _, _, _⟩) (v := ?_) rfl (by kernel_rfl) (by kernel_rfl) (by kernel_rfl) (fun _ _ _ h => h) (Or.inl ⟨by rfl, ?_⟩) (by assumption) ?_
  rotate_left 1
  · (intro w hSw; (try dsimp only at hSw); go_simp; try (with_reducible rfl))
  try simp only [Act.put, List.setIfInBounds_toArray, List.set_cons_zero, List.set_cons_succ]
  refine wpAnyH_take (i := 7) (oi := ⟨some 77, _, _, _, _, _⟩) (v := ?_) rfl (by kernel_rfl) (by kernel_rfl) (by kernel_rfl) (fun _ _ _ h => h) (Or.inl ⟨by rfl, ?_⟩) (by assumption) ?_
  rotate_left 1
  · (intro w hSw; (try dsimp only at hSw); go_simp; try (with_reducible rfl))
  try simp only [Act.put, List.setIfInBounds_toArray, List.set_cons_zero, List.set_cons_succ]
  refine wpAnyH_ready (rs := [4]) (by kernel_rfl) (by simp) ?_
  refine AllReadyH.cons (o := ⟨some 74, _, _, _, _, _⟩) rfl (fun K hK => ?_) AllReadyH.nil
  go_simp
  (first | (go_at_call 73; refine (spec_PutHead0 3 (s.size : Int) kk _ _ ⟨by omega, by omega⟩).mono ?_; rintro e w3 ⟨a3, c3, rfl, happ3, hb3⟩; have HA3 := Lib.hid (happ3.less (show W0.heap.size ≤ _ by omega)); clear happ3; have hsz3 := hb3.size; have HU := Lib.hid (headL_u8 3 (s.size : Int) kk); have HLN := Lib.hid (headL_len 3 (s.size : Int) kk)) | (go_at_call 75; refine (spec_HeadForOk 3 (s.size : Int) _ (by omega) (by omega)).mono ?_; rintro e w2 ⟨⟨kk, rfl, hkk⟩, hb2⟩; have hsz2 := hb2.size; (try simp only [World.size_drew] at hsz2)) | (refine step_appS 22 rfl rfl _ _ _ _ rfl Tryz.underlying22 Tryz.underlying9 info_Byte2 W0.heap.size a3 c3 (headL 3 (s.size : Int) kk) HU.out rfl HA3.out (by have := (‹_ ∧ Below (W0.heap.size) W0 _›).2.size; first | omega | (simp only [World.size_drew] at this ⊢; omega)) s rfl (by have := HLN.out; omega) ?_; intro a4 c4 w4 happ4 hb4 hout4 hsz4))
  go_wp2_with fail
  refine hK.out _ _ (by first | exact ⟨fun _ _ _ => rfl, (Below.refl _ _).drew⟩ | exact keep_step (by assumption) (Below.drew (Below.refl _ _)) (Nat.le_refl _) | exact keep_step (by assumption) (by assumption) (by first | omega | ((try simp only [World.size_drew, size_alloc]); omega) | (have := (‹(_ ∧ Below (W0.heap.size) W0 _)›).2.size; (try simp only [World.size_drew, size_alloc] at this ⊢); omega))) (fun hHeld => ?_)
  clear hK K
  try simp only [Act.put, List.setIfInBounds_toArray, List.set_cons_zero, List.set_cons_succ]
  refine wpAnyH_ready (rs := [5]) (by kernel_rfl) (by simp) ?_
  refine AllReadyH.cons (o := ⟨some 75, _, _, _, _, _⟩) rfl (fun K hK => ?_) AllReadyH.nil
  focus (go_simp; (first | (go_at_call 73; refine (spec_PutHead0 3 (s.size : Int) kk _ _ ⟨by omega, by omega⟩).mono ?_; rintro e w3 ⟨a3, c3, rfl, happ3, hb3⟩; have HA3 := Lib.hid (happ3.less (show W0.heap.size ≤ _ by omega)); clear happ3; have hsz3 := hb3.size; have HU := Lib.hid (headL_u8 3 (s.size : Int) kk); have HLN := Lib.hid (headL_len 3 (s.size : Int) kk)) | (go_at_call 75; refine (spec_HeadForOk 3 (s.size : Int) _ (by omega) (by omega)).mono ?_; rintro e w2 ⟨⟨kk, rfl, hkk⟩, hb2⟩; have hsz2 := hb2.size; (try simp only [World.size_drew] at hsz2)) | (refine step_appS 22 rfl rfl _ _ _ _ rfl Tryz.underlying22 Tryz.underlying9 info_Byte2 W0.heap.size a3 c3 (headL 3 (s.size : Int) kk) HU.out rfl HA3.out (by have := (‹_ ∧ Below (W0.heap.size) W0 _›).2.size; first | omega | (simp only [World.size_drew] at this ⊢; omega)) s rfl (by have := HLN.out; omega) ?_; intro a4 c4 w4 happ4 hb4 hout4 hsz4)); go_wp2_with fail; refine hK.out _ _ (by first | exact ⟨fun _ _ _ => rfl, (Below.refl _ _).drew⟩ | exact keep_step (by assumption) (Below.drew (Below.refl _ _)) (Nat.le_refl _) | exact keep_step (by assumption) (by assumption) (by first | omega | ((try simp only [World.size_drew, size_alloc]); omega) | (have := (‹(_ ∧ Below (W0.heap.size) W0 _)›).2.size; (try simp only [World.size_drew, size_alloc] at this ⊢); omega))) (fun hHeld => ?_); clear hK K; try simp only [Act.put, List.setIfInBounds_toArray, List.set_cons_zero, List.set_cons_succ])
  refine wpAnyH_ready (rs := [8]) (by kernel_rfl) (by simp) ?_
  refine AllReadyH.cons (o := ⟨some 78, _, _, _, _, _⟩) rfl (fun K hK => ?_) AllReadyH.nil
  focus ((first | (go_at_call 73; refine (spec_PutHead0 3 (s.size : Int) kk _ _ ⟨by omega, by omega⟩).mono ?_; rintro e w3 ⟨a3, c3, rfl, happ3, hb3⟩; have HA3 := Lib.hid (happ3.less (show W0.heap.size ≤ _ by omega)); clear happ3; have hsz3 := hb3.size; have HU := Lib.hid (headL_u8 3 (s.size : Int) kk); have HLN := Lib.hid (headL_len 3 (s.size : Int) kk)) | (go_at_call 75; refine (spec_HeadForOk 3 (s.size : Int) _ (by omega) (by omega)).mono ?_; rintro e w2 ⟨⟨kk, rfl, hkk⟩, hb2⟩; have hsz2 := hb2.size; (try simp only [World.size_drew] at hsz2)) | (refine step_appS 22 rfl rfl _ _ _ _ rfl Tryz.underlying22 Tryz.underlying9 info_Byte2 W0.heap.size a3 c3 (headL 3 (s.size : Int) kk) HU.out rfl HA3.out (by have := (‹_ ∧ Below (W0.heap.size) W0 _›).2.size; first | omega | (simp only [World.size_drew] at this ⊢; omega)) s rfl (by have := HLN.out; omega) ?_; intro a4 c4 w4 happ4 hb4 hout4 hsz4)); refine hK.out _ _ (by first | (with_reducible exact keep_step (by assumption) (by assumption) (by first | omega | ((try simp only [World.size_drew, size_alloc]); omega) | (have := (‹(_ ∧ Below (W0.heap.size) W0 _)›).2.size; (try simp only [World.size_drew, size_alloc] at this ⊢); omega))) | first | exact ⟨fun _ _ _ => rfl, (Below.refl _ _).drew⟩ | exact keep_step (by assumption) (Below.drew (Below.refl _ _)) (Nat.le_refl _) | exact keep_step (by assumption) (by assumption) (by first | omega | ((try simp only [World.size_drew, size_alloc]); omega) | (have := (‹(_ ∧ Below (W0.heap.size) W0 _)›).2.size; (try simp only [World.size_drew, size_alloc] at this ⊢); omega))) (fun hHeld => ?_); clear hK K; try simp only [Act.put, List.setIfInBounds_toArray, List.set_cons_zero, List.set_cons_succ])
  refine wpAnyH_take (i := 9) (oi := ⟨some 2, _, _, _, _, _⟩) (v := ?_) rfl (by kernel_rfl) (by kernel_rfl) (by kernel_rfl) (fun _ _ _ h => h) (Or.inl ⟨by rfl, ?_⟩) (by assumption) ?_
  rotate_left 1
  · (intro w hSw; (try dsimp only at hSw); go_simp; try (with_reducible rfl))
  try simp only [Act.put, List.setIfInBounds_toArray, List.set_cons_zero, List.set_cons_succ]
  refine wpAnyH_done (by kernel_rfl) ?_ _
  all_goals
    have hBB := (‹_ ∧ Below (W0.heap.size) W0 _›).2
    go_wp2_with fail
    go_ret
    exact ⟨a4, c4, ret_sl (by rw [HE.out, hkk, List.length_append]), by rw [HE.out, hkk]; exact happ4.less (by omega), H0.out.trans (hBB.mono (by omega))⟩
set_option maxHeartbeats 4000000 in
theorem pt8 (n x : Int) (s : ByteArray) (l : List T) : PT (.mk 8 n x s l) := by
  intro a cap B w hr hwf hsz hB
  obtain ⟨hwk, hwn, hwx, hws⟩ := hwf
  simp only [cV, T.k, T.n, T.x, T.s, T.l] at hr hwk hwn hwx hws ⊢
  have hss : s.size ≤ 1048576 := by simp only [T.sz] at hsz; omega
  have HE := Lib.hid (show packT (.mk 8 n x s l) = hdL 2 s.size ++ byteL s from by rw [packT, if_neg (by omega), if_neg (by omega), if_neg (by omega), if_neg (by omega), if_neg (by omega), if_neg (by omega), if_pos rfl])
  clear hr hwk hwn hwx hws hsz
  go_enter Tryz.func22, Tryz.ntmps22
  go_wp2_with fail
  generalize hW : (w.alloc (Obj.cells _ 26)).alloc (Obj.cells #[] 5) = W0
  have q1 : Is W0 w.heap.size 26 (cV (.mk 8 n x s l) a cap) := by subst hW; exact (Is.new _ _ _).alloc _
  have H0 := Lib.hid (show Below w.heap.size w W0 from by subst hW; exact below2 _ _ _)
  have hs0 : W0.heap.size = w.heap.size + 2 := by subst hW; simp
  clear hW
  obtain ⟨r0, r1, r2, r3, r4⟩ := q1.cells5
  have hl3 : w.heap.size < W0.heap.size := by omega
  refine wp_region_held_drew (S := fun w' => (∀ b o, b < W0.heap.size → w'.cell? ⟨b, o, none⟩ = W0.cell? ⟨b, o, none⟩) ∧ Below (W0.heap.size) W0 w') (by kernel_rfl) (by first | exact ⟨fun _ _ _ => rfl, (Below.refl _ _).drew⟩ | exact keep_step (by assumption) (Below.drew (Below.refl _ _)) (Nat.le_refl _) | exact keep_step (by assumption) (by assumption) (by first | omega | ((try simp only [World.size_drew, size_alloc]); omega) | (have := (‹(_ ∧ Below (W0.heap.size) W0 _)›).2.size; (try simp only [World.size_drew, size_alloc] at this ⊢); omega))) (fun hHeld => ?_)
  refine wpAnyH_take (i := 0) (oi := ⟨some 81, _, _, _, _, _⟩) (v := ?_) rfl (by kernel_rfl) (by kernel_rfl) (by kernel_rfl) (fun _ _ _ h => h) (Or.inl ⟨by rfl, ?_⟩) (by assumption) ?_
  rotate_left 1
  · (intro w hSw; (try dsimp only at hSw); go_simp; try (with_reducible rfl))
  try simp only [Act.put, List.setIfInBounds_toArray, List.set_cons_zero, List.set_cons_succ]
  refine wpAnyH_take (i := 1) (oi := ⟨some 82, _, _, _, _, _⟩) (v := ?_) rfl (by kernel_rfl) (by kernel_rfl) (by kernel_rfl) (fun _ _ _ h => h) (Or.inl ⟨by rfl, ?_⟩) (by assumption) ?_
  rotate_left 1
  · (intro w hSw; (try dsimp only at hSw); go_simp; try (with_reducible rfl))
  try simp only [Act.put, List.setIfInBounds_toArray, List.set_cons_zero, List.set_cons_succ]
  refine wpAnyH_take (i := 2) (oi := ⟨some 83, _, _, _, _, _⟩) (v := ?_) rfl (by kernel_rfl) (by kernel_rfl) (by kernel_rfl) (fun _ _ _ h => h) (Or.inl ⟨by rfl, ?_⟩) (by assumption) ?_
  rotate_left 1
  · (intro w hSw; (try dsimp only at hSw); go_simp; try (with_reducible rfl))
  try simp only [Act.put, List.setIfInBounds_toArray, List.set_cons_zero, List.set_cons_succ]
  refine wpAnyH_take (i := 3) (oi := ⟨some 84, _, _, _, _, _⟩) (v := ?_) rfl (by kernel_rfl) (by kernel_rfl) (by kernel_rfl) (fun _ _ _ h => h) (Or.inl ⟨by rfl, ?_⟩) (by assumption) ?_
  rotate_left 1
  · (intro w hSw; (try dsimp only at hSw); go_simp; try (with_reducible rfl))
  try simp only [Act.put, List.setIfInBounds_toArray, List.set_cons_zero, List.set_cons_succ]
  refine wpAnyH_take (i := 6) (oi := ⟨some 87, _, _, _, _, _⟩) (v := ?_) rfl (by kernel_rfl) (by kernel_rfl) (by kernel_rfl) (fun _ _ _ h => h) (Or.inl ⟨by rfl, ?_⟩) (by assumption) ?_
  rotate_left 1
  · (intro w hSw; (try dsimp only at hSw); go_simp; try (with_reducible rfl))
  try simp only [Act.put, List.setIfInBounds_toArray, List.set_cons_zero, List.set_cons_succ]
  refine wpAnyH_take (i := 7) (oi := ⟨some 88, _, _, _, _, _⟩) (v := ?_) rfl (by kernel_rfl) (by kernel_rfl) (by kernel_rfl) (fun _ _ _ h => h) (Or.inl ⟨by rfl, ?_⟩) (by assumption) ?_
  rotate_left 1
  · (intro w hSw; (try dsimp only at hSw); go_simp; try (with_reducible rfl))
  try simp only [Act.put, List.setIfInBounds_toArray, List.set_cons_zero, List.set_cons_succ]
  refine wpAnyH_ready (rs := [4]) (by kernel_rfl) (by simp) ?_
  refine AllReadyH.cons (o := ⟨some 85, _, _, _, _, _⟩) rfl (fun K hK => ?_) AllReadyH.nil
  go_simp
  (first | (go_at_call 73; refine (spec_PutHead0 2 (s.size : Int) kk _ _ ⟨by omega, by omega⟩).mono ?_; rintro e w3 ⟨a3, c3, rfl, happ3, hb3⟩; have HA3 := Lib.hid (happ3.less (show W0.heap.size ≤ _ by omega)); clear happ3; have hsz3 := hb3.size; have HU := Lib.hid (headL_u8 2 (s.size : Int) kk); have HLN := Lib.hid (headL_len 2 (s.size : Int) kk)) | (go_at_call 75; refine (spec_HeadForOk 2 (s.size : Int) _ (by omega) (by omega)).mono ?_; rintro e w2 ⟨⟨kk, rfl, hkk⟩, hb2⟩; have hsz2 := hb2.size; (try simp only [World.size_drew] at hsz2)) | (refine step_appS 22 rfl rfl _ _ _ _ rfl Tryz.underlying22 Tryz.underlying9 info_Byte2 W0.heap.size a3 c3 (headL 2 (s.size : Int) kk) HU.out rfl HA3.out (by have := (‹_ ∧ Below (W0.heap.size) W0 _›).2.size; first | omega | (simp only [World.size_drew] at this ⊢; omega)) s rfl (by have := HLN.out; omega) ?_; intro a4 c4 w4 happ4 hb4 hout4 hsz4))
  go_wp2_with fail
  refine hK.out _ _ (by first | exact ⟨fun _ _ _ => rfl, (Below.refl _ _).drew⟩ | exact keep_step (by assumption) (Below.drew (Below.refl _ _)) (Nat.le_refl _) | exact keep_step (by assumption) (by assumption) (by first | omega | ((try simp only [World.size_drew, size_alloc]); omega) | (have := (‹(_ ∧ Below (W0.heap.size) W0 _)›).2.size; (try simp only [World.size_drew, size_alloc] at this ⊢); omega))) (fun hHeld => ?_)
  clear hK K
  try simp only [Act.put, List.setIfInBounds_toArray, List.set_cons_zero, List.set_cons_succ]
  refine wpAnyH_ready (rs := [5]) (by kernel_rfl) (by simp) ?_
  refine AllReadyH.cons (o := ⟨some 86, _, _, _, _, _⟩) rfl (fun K hK => ?_) AllReadyH.nil
  focus (go_simp; (first | (go_at_call 73; refine (spec_PutHead0 2 (s.size : Int) kk _ _ ⟨by omega, by omega⟩).mono ?_; rintro e w3 ⟨a3, c3, rfl, happ3, hb3⟩; have HA3 := Lib.hid (happ3.less (show W0.heap.size ≤ _ by omega)); clear happ3; have hsz3 := hb3.size; have HU := Lib.hid (headL_u8 2 (s.size : Int) kk); have HLN := Lib.hid (headL_len 2 (s.size : Int) kk)) | (go_at_call 75; refine (spec_HeadForOk 2 (s.size : Int) _ (by omega) (by omega)).mono ?_; rintro e w2 ⟨⟨kk, rfl, hkk⟩, hb2⟩; have hsz2 := hb2.size; (try simp only [World.size_drew] at hsz2)) | (refine step_appS 22 rfl rfl _ _ _ _ rfl Tryz.underlying22 Tryz.underlying9 info_Byte2 W0.heap.size a3 c3 (headL 2 (s.size : Int) kk) HU.out rfl HA3.out (by have := (‹_ ∧ Below (W0.heap.size) W0 _›).2.size; first | omega | (simp only [World.size_drew] at this ⊢; omega)) s rfl (by have := HLN.out; omega) ?_; intro a4 c4 w4 happ4 hb4 hout4 hsz4)); go_wp2_with fail; refine hK.out _ _ (by first | exact ⟨fun _ _ _ => rfl, (Below.refl _ _).drew⟩ | exact keep_step (by assumption) (Below.drew (Below.refl _ _)) (Nat.le_refl _) | exact keep_step (by assumption) (by assumption) (by first | omega | ((try simp only [World.size_drew, size_alloc]); omega) | (have := (‹(_ ∧ Below (W0.heap.size) W0 _)›).2.size; (try simp only [World.size_drew, size_alloc] at this ⊢); omega))) (fun hHeld => ?_); clear hK K; try simp only [Act.put, List.setIfInBounds_toArray, List.set_cons_zero, List.set_cons_succ])
  refine wpAnyH_ready (rs := [8]) (by kernel_rfl) (by simp) ?_
  refine AllReadyH.cons (o := ⟨some 89, _, _, _, _, _⟩) rfl (fun K hK => ?_) AllReadyH.nil
  focus ((first | (go_at_call 73; refine (spec_PutHead0 2 (s.size : Int) kk _ _ ⟨by omega, by omega⟩).mono ?_; rintro e w3 ⟨a3, c3, rfl, happ3, hb3⟩; have HA3 := Lib.hid (happ3.less (show W0.heap.size ≤ _ by omega)); clear happ3; have hsz3 := hb3.size; have HU := Lib.hid (headL_u8 2 (s.size : Int) kk); have HLN := Lib.hid (headL_len 2 (s.size : Int) kk)) | (go_at_call 75; refine (spec_HeadForOk 2 (s.size : Int) _ (by omega) (by omega)).mono ?_; rintro e w2 ⟨⟨kk, rfl, hkk⟩, hb2⟩; have hsz2 := hb2.size; (try simp only [World.size_drew] at hsz2)) | (refine step_appS 22 rfl rfl _ _ _ _ rfl Tryz.underlying22 Tryz.underlying9 info_Byte2 W0.heap.size a3 c3 (headL 2 (s.size : Int) kk) HU.out rfl HA3.out (by have := (‹_ ∧ Below (W0.heap.size) W0 _›).2.size; first | omega | (simp only [World.size_drew] at this ⊢; omega)) s rfl (by have := HLN.out; omega) ?_; intro a4 c4 w4 happ4 hb4 hout4 hsz4)); refine hK.out _ _ (by first | (with_reducible exact keep_step (by assumption) (by assumption) (by first | omega | ((try simp only [World.size_drew, size_alloc]); omega) | (have := (‹(_ ∧ Below (W0.heap.size) W0 _)›).2.size; (try simp only [World.size_drew, size_alloc] at this ⊢); omega))) | first | exact ⟨fun _ _ _ => rfl, (Below.refl _ _).drew⟩ | exact keep_step (by assumption) (Below.drew (Below.refl _ _)) (Nat.le_refl _) | exact keep_step (by assumption) (by assumption) (by first | omega | ((try simp only [World.size_drew, size_alloc]); omega) | (have := (‹(_ ∧ Below (W0.heap.size) W0 _)›).2.size; (try simp only [World.size_drew, size_alloc] at this ⊢); omega))) (fun hHeld => ?_); clear hK K; try simp only [Act.put, List.setIfInBounds_toArray, List.set_cons_zero, List.set_cons_succ])
  refine wpAnyH_take (i := 9) (oi := ⟨some 2, _, _, _, _, _⟩) (v := ?_) rfl (by kernel_rfl) (by kernel_rfl) (by kernel_rfl) (fun _ _ _ h => h) (Or.inl ⟨by rfl, ?_⟩) (by assumption) ?_
  rotate_left 1
  · (intro w hSw; (try dsimp only at hSw); go_simp; try (with_reducible rfl))
  try simp only [Act.put, List.setIfInBounds_toArray, List.set_cons_zero, List.set_cons_succ]
  refine wpAnyH_done (by kernel_rfl) ?_ _
  all_goals
    have hBB := (‹_ ∧ Below (W0.heap.size) W0 _›).2
    go_wp2_with fail
    go_ret
    exact ⟨a4, c4, ret_sl (by rw [HE.out, hkk, List.length_append]), by rw [HE.out, hkk]; exact happ4.less (by omega), H0.out.trans (hBB.mono (by omega))⟩
set_option maxHeartbeats 4000000 in
theorem pt10 (n x : Int) (s : ByteArray) (l : List T) (IH : ∀ t ∈ l, PT t)  : PT (.mk 10 n x s l) := by
  intro a cap B w hr hwf hsz hB
  obtain ⟨hwk, hwn, hwx, hws⟩ := hwf
  simp only [cV, T.k, T.n, T.x, T.s, T.l] at hr hwk hwn hwx hws ⊢
  have hszl : T.szL l ≤ 1048576 := by simp only [T.sz] at hsz; omega
  obtain ⟨hl1, hl2⟩ := hr.len
  have hl0 := T.length_le_szL l
  have HR := Lib.hid hr
  have HI := Lib.hid IH
  have hwq : IntKind.i64.wrap ((l.length : Int) / 2) = ((l.length / 2 : Nat) : Int) := by rw [show (l.length : Int) / 2 = ((l.length / 2 : Nat) : Int) from by omega, Go.IntWalk.i64_left]; exact Go.IntWalk.wrap64_in _ ⟨by omega, by omega⟩
  have HE := Lib.hid (show packT (.mk 10 n x s l) = hdL 5 ((l.length / 2 : Nat) : Int) ++ packTs l from by rw [packT, if_neg (by omega), if_neg (by omega), if_neg (by omega), if_neg (by omega), if_neg (by omega), if_neg (by omega), if_neg (by omega), if_neg (by omega), if_pos rfl])
  clear hr IH hwk hwn hwx hws hsz
  go_enter Tryz.func22, Tryz.ntmps22
  go_wp2_with fail
  generalize hW : (w.alloc (Obj.cells _ 26)).alloc (Obj.cells #[] 5) = W0
  have q1 : Is W0 w.heap.size 26 (cV (.mk 10 n x s l) a cap) := by subst hW; exact (Is.new _ _ _).alloc _
  have H0 := Lib.hid (show Below w.heap.size w W0 from by subst hW; exact below2 _ _ _)
  have hs0 : W0.heap.size = w.heap.size + 2 := by subst hW; simp
  clear hW
  obtain ⟨r0, r1, r2, r3, r4⟩ := q1.cells5
  simp only [cV, T.k, T.n, T.x, T.s, T.l] at r0 r1 r2 r3 r4
  have hl3 : w.heap.size < W0.heap.size := by omega
  refine wp_region_held_drew (S := fun w' => (∀ b o, b < W0.heap.size → w'.cell? ⟨b, o, none⟩ = W0.cell? ⟨b, o, none⟩) ∧ Below (W0.heap.size) W0 w') (by kernel_rfl) (by first | exact ⟨fun _ _ _ => rfl, (Below.refl _ _).drew⟩ | exact keep_step (by assumption) (Below.drew (Below.refl _ _)) (Nat.le_refl _) | exact keep_step (by assumption) (by assumption) (by first | omega | ((try simp only [World.size_drew, size_alloc]); omega) | (have := (‹(_ ∧ Below (W0.heap.size) W0 _)›).2.size; (try simp only [World.size_drew, size_alloc] at this ⊢); omega))) (fun hHeld => ?_)
  refine wpAnyH_take (i := 0) (oi := ⟨some 103, _, _, _, _, _⟩) (v := ?_) rfl (by kernel_rfl) (by kernel_rfl) (by kernel_rfl) (fun _ _ _ h => h) (Or.inl ⟨by rfl, ?_⟩) (by assumption) ?_
  rotate_left 1
  · (intro w hSw; (try dsimp only at hSw); go_simp; try (with_reducible rfl))
  try simp only [Act.put, List.setIfInBounds_toArray, List.set_cons_zero, List.set_cons_succ]
  refine wpAnyH_take (i := 1) (oi := ⟨some 104, _, _, _, _, _⟩) (v := ?_) rfl (by kernel_rfl) (by kernel_rfl) (by kernel_rfl) (fun _ _ _ h => h) (Or.inl ⟨by rfl, ?_⟩) (by assumption) ?_
  rotate_left 1
  · (intro w hSw; (try dsimp only at hSw); go_simp; try (with_reducible rfl))
  try simp only [Act.put, List.setIfInBounds_toArray, List.set_cons_zero, List.set_cons_succ]
  refine wpAnyH_take (i := 2) (oi := ⟨some 105, _, _, _, _, _⟩) (v := ?_) rfl (by kernel_rfl) (by kernel_rfl) (by kernel_rfl) (fun _ _ _ h => h) (Or.inl ⟨by rfl, ?_⟩) (by assumption) ?_
  rotate_left 1
  · (intro w hSw; (try dsimp only at hSw); go_simp; try (with_reducible rfl))
  try simp only [Act.put, List.setIfInBounds_toArray, List.set_cons_zero, List.set_cons_succ]
  refine wpAnyH_take (i := 3) (oi := ⟨some 106, _, _, _, _, _⟩) (v := ?_) rfl (by kernel_rfl) (by kernel_rfl) (by kernel_rfl) (fun _ _ _ h => h) (Or.inl ⟨by rfl, ?_⟩) (by assumption) ?_
  rotate_left 1
  · (intro w hSw; (try dsimp only at hSw); go_simp; try (with_reducible rfl))
  try simp only [Act.put, List.setIfInBounds_toArray, List.set_cons_zero, List.set_cons_succ]
  refine wpAnyH_take (i := 7) (oi := ⟨some 110, _, _, _, _, _⟩) (v := ?_) rfl (by kernel_rfl) (by kernel_rfl) (by kernel_rfl) (fun _ _ _ h => h) (Or.inl ⟨by rfl, ?_⟩) (by assumption) ?_
  rotate_left 1
  · (intro w hSw; (try dsimp only at hSw); go_simp; try (with_reducible rfl))
  try simp only [Act.put, List.setIfInBounds_toArray, List.set_cons_zero, List.set_cons_succ]
  refine wpAnyH_take (i := 8) (oi := ⟨some 111, _, _, _, _, _⟩) (v := ?_) rfl (by kernel_rfl) (by kernel_rfl) (by kernel_rfl) (fun _ _ _ h => h) (Or.inl ⟨by rfl, ?_⟩) (by assumption) ?_
  rotate_left 1
  · (intro w hSw; (try dsimp only at hSw); go_simp; try (with_reducible rfl))
  try simp only [Act.put, List.setIfInBounds_toArray, List.set_cons_zero, List.set_cons_succ]
  refine wpAnyH_ready (rs := [4]) (by kernel_rfl) (by simp) ?_
  refine AllReadyH.cons (o := ⟨some 107, _, _, _, _, _⟩) rfl (fun K hK => ?_) AllReadyH.nil
  go_simp
  go_wp2_with fail
  refine hK.out _ _ (by first | assumption | first | exact ⟨fun _ _ _ => rfl, (Below.refl _ _).drew⟩ | exact keep_step (by assumption) (Below.drew (Below.refl _ _)) (Nat.le_refl _) | exact keep_step (by assumption) (by assumption) (by first | omega | ((try simp only [World.size_drew, size_alloc]); omega) | (have := (‹(_ ∧ Below (W0.heap.size) W0 _)›).2.size; (try simp only [World.size_drew, size_alloc] at this ⊢); omega))) (fun hHeld => ?_)
  clear hK K
  try simp only [Act.put, List.setIfInBounds_toArray, List.set_cons_zero, List.set_cons_succ]
  refine wpAnyH_ready (rs := [5]) (by kernel_rfl) (by simp) ?_
  refine AllReadyH.cons (o := ⟨some 108, _, _, _, _, _⟩) rfl (fun K hK => ?_) AllReadyH.nil
  focus (go_simp; (first | (go_at_call 73; refine (spec_PutHead0 5 ((l.length / 2 : Nat) : Int) kk _ _ ⟨by omega, by omega⟩).mono ?_; rintro e w3 ⟨a3, c3, rfl, happ3, hb3⟩; have HA3 := Lib.hid (happ3.less (show W0.heap.size ≤ _ by omega)); clear happ3; have hsz3 := hb3.size) | (go_at_call 77; refine (l13All_of l HI _ _ _ _ W0.heap.size _ _ B _ rfl HA3.out (by omega) (HR.out.below (H0.out.trans ((‹_ ∧ Below (W0.heap.size) W0 _›).2.mono (by omega))) hB) (by omega) hszl (by have := headL_len 5 ((l.length / 2 : Nat) : Int) kk; omega)).mono ?_; rintro e w4 ⟨a4, c4, rfl, happ4, hb4⟩; have hsz4 := hb4.size) | (go_at_call 75; (try simp only [T.l]); (try rw [hwq]); refine (spec_HeadForOk 5 ((l.length / 2 : Nat) : Int) _ (by omega) (by omega)).mono ?_; rintro e w2 ⟨⟨kk, rfl, hkk⟩, hb2⟩; have hsz2 := hb2.size; (try simp only [World.size_drew] at hsz2))); go_wp2_with fail; refine hK.out _ _ (by first | exact ⟨fun _ _ _ => rfl, (Below.refl _ _).drew⟩ | exact keep_step (by assumption) (Below.drew (Below.refl _ _)) (Nat.le_refl _) | exact keep_step (by assumption) (by assumption) (by first | omega | ((try simp only [World.size_drew, size_alloc]); omega) | (have := (‹(_ ∧ Below (W0.heap.size) W0 _)›).2.size; (try simp only [World.size_drew, size_alloc] at this ⊢); omega))) (fun hHeld => ?_); clear hK K; try simp only [Act.put, List.setIfInBounds_toArray, List.set_cons_zero, List.set_cons_succ])
  refine wpAnyH_ready (rs := [6]) (by kernel_rfl) (by simp) ?_
  refine AllReadyH.cons (o := ⟨some 109, _, _, _, _, _⟩) rfl (fun K hK => ?_) AllReadyH.nil
  focus (go_simp; (first | (go_at_call 73; refine (spec_PutHead0 5 ((l.length / 2 : Nat) : Int) kk _ _ ⟨by omega, by omega⟩).mono ?_; rintro e w3 ⟨a3, c3, rfl, happ3, hb3⟩; have HA3 := Lib.hid (happ3.less (show W0.heap.size ≤ _ by omega)); clear happ3; have hsz3 := hb3.size) | (go_at_call 77; refine (l13All_of l HI _ _ _ _ W0.heap.size _ _ B _ rfl HA3.out (by omega) (HR.out.below (H0.out.trans ((‹_ ∧ Below (W0.heap.size) W0 _›).2.mono (by omega))) hB) (by omega) hszl (by have := headL_len 5 ((l.length / 2 : Nat) : Int) kk; omega)).mono ?_; rintro e w4 ⟨a4, c4, rfl, happ4, hb4⟩; have hsz4 := hb4.size) | (go_at_call 75; (try simp only [T.l]); (try rw [hwq]); refine (spec_HeadForOk 5 ((l.length / 2 : Nat) : Int) _ (by omega) (by omega)).mono ?_; rintro e w2 ⟨⟨kk, rfl, hkk⟩, hb2⟩; have hsz2 := hb2.size; (try simp only [World.size_drew] at hsz2))); go_wp2_with fail; refine hK.out _ _ (by first | exact ⟨fun _ _ _ => rfl, (Below.refl _ _).drew⟩ | exact keep_step (by assumption) (Below.drew (Below.refl _ _)) (Nat.le_refl _) | exact keep_step (by assumption) (by assumption) (by first | omega | ((try simp only [World.size_drew, size_alloc]); omega) | (have := (‹(_ ∧ Below (W0.heap.size) W0 _)›).2.size; (try simp only [World.size_drew, size_alloc] at this ⊢); omega))) (fun hHeld => ?_); clear hK K; try simp only [Act.put, List.setIfInBounds_toArray, List.set_cons_zero, List.set_cons_succ])
  refine wpAnyH_ready (rs := [9]) (by kernel_rfl) (by simp) ?_
  refine AllReadyH.cons (o := ⟨some 112, _, _, _, _, _⟩) rfl (fun K hK => ?_) AllReadyH.nil
  focus (go_simp; (first | (go_at_call 73; refine (spec_PutHead0 5 ((l.length / 2 : Nat) : Int) kk _ _ ⟨by omega, by omega⟩).mono ?_; rintro e w3 ⟨a3, c3, rfl, happ3, hb3⟩; have HA3 := Lib.hid (happ3.less (show W0.heap.size ≤ _ by omega)); clear happ3; have hsz3 := hb3.size) | (go_at_call 77; refine (l13All_of l HI _ _ _ _ W0.heap.size _ _ B _ rfl HA3.out (by omega) (HR.out.below (H0.out.trans ((‹_ ∧ Below (W0.heap.size) W0 _›).2.mono (by omega))) hB) (by omega) hszl (by have := headL_len 5 ((l.length / 2 : Nat) : Int) kk; omega)).mono ?_; rintro e w4 ⟨a4, c4, rfl, happ4, hb4⟩; have hsz4 := hb4.size) | (go_at_call 75; (try simp only [T.l]); (try rw [hwq]); refine (spec_HeadForOk 5 ((l.length / 2 : Nat) : Int) _ (by omega) (by omega)).mono ?_; rintro e w2 ⟨⟨kk, rfl, hkk⟩, hb2⟩; have hsz2 := hb2.size; (try simp only [World.size_drew] at hsz2))); go_wp2_with fail; refine hK.out _ _ (by first | exact ⟨fun _ _ _ => rfl, (Below.refl _ _).drew⟩ | exact keep_step (by assumption) (Below.drew (Below.refl _ _)) (Nat.le_refl _) | exact keep_step (by assumption) (by assumption) (by first | omega | ((try simp only [World.size_drew, size_alloc]); omega) | (have := (‹(_ ∧ Below (W0.heap.size) W0 _)›).2.size; (try simp only [World.size_drew, size_alloc] at this ⊢); omega))) (fun hHeld => ?_); clear hK K; try simp only [Act.put, List.setIfInBounds_toArray, List.set_cons_zero, List.set_cons_succ])
  refine wpAnyH_take (i := 10) (oi := ⟨some 2, _, _, _, _, _⟩) (v := ?_) rfl (by kernel_rfl) (by kernel_rfl) (by kernel_rfl) (fun _ _ _ h => h) (Or.inl ⟨by rfl, ?_⟩) (by assumption) ?_
  rotate_left 1
  · (intro w hSw; (try dsimp only at hSw); go_simp; try (with_reducible rfl))
  try simp only [Act.put, List.setIfInBounds_toArray, List.set_cons_zero, List.set_cons_succ]
  refine wpAnyH_done (by kernel_rfl) ?_ _
  all_goals
    have hBB := (‹_ ∧ Below (W0.heap.size) W0 _›).2
    go_wp2_with fail
    go_ret
    exact ⟨a4, c4, ret_sl (by rw [HE.out, hkk, List.length_append, show ((l.length / 2 : Nat) : Int) = (l.length : Int) / 2 from by omega]), by rw [HE.out, hkk]; exact happ4.less (by omega), H0.out.trans (hBB.mono (by omega))⟩
end Go.Proofs.YtggdenkmohnijaaGreatDoor
