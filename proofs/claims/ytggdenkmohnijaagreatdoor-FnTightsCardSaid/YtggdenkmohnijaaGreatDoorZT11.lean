/- Texts of this proof, merged: Tig6, Tig7, Less2, Pack2, Pack3. No condition beyond what each theorem states. -/
import Derived.Test.YtggdenkmohnijaaGreatDoorZT10
import Derived.Lib.Bytealg
import Derived.Lib.Bytes
import Derived.Lib.BytesEntry
import Derived.Laws.Externs
import Derived.Deep.RegionWith
set_option linter.unusedSimpArgs false
set_option linter.unnecessarySimpa false
namespace Go.Proofs.YtggdenkmohnijaaGreatDoor
open Go.ChangeShapes Go.WideShapes Go.ChangeAt Go.RowKit Go.Joins
set_option linter.unusedVariables false
set_option maxRecDepth 100000
/- (Calls Tryz.prog 22) -/
theorem spec_PackTight : ∀ t : T, PT t := by
  apply T.ind
  intro k n x s l ih
  by_cases h0 : ¬ (k = 1 ∨ k = 2 ∨ k = 3 ∨ k = 4 ∨ k = 5 ∨ k = 7 ∨ k = 8 ∨ k = 9 ∨ k = 10 ∨ k = 11)
  · exact pt0 k n x s l h0
  · rcases Classical.not_not.1 h0 with h | h | h | h | h | h | h | h | h | h
    · exact pt1 k n x s l h
    · exact pt2 k n x s l h
    · exact pt3 k n x s l h
    · exact pt4 k n x s l h
    · exact pt5 k n x s l h
    · subst h; exact pt7 n x s l
    · subst h; exact pt8 n x s l
    · subst h; exact pt9 n x s l ih
    · subst h; exact pt10 n x s l ih
    · subst h
      by_cases hn : 0 ≤ n ∧ n ≤ 1000000000000000
      · exact pt11 n x s l ih hn
      · exact pt11n n x s l hn
set_option maxHeartbeats 4000000 in
theorem spec_LessTight (t u : T) (a a' : Option Addr) (cap cap' B : Nat) (w : World) (hr : R w B a cap t.l) (hr' : R w B a' cap' u.l) (hwf : Wf t) (hwf' : Wf u) (hsz : T.sz t ≤ 1048576) (hsz' : T.sz u ≤ 1048576) (hB : B ≤ w.heap.size) :
    Calls Tryz.prog 124 #[.agg (cV t a cap), .agg (cV u a' cap')] w fun e w' => e = .returned (.bool (lexB (packT t) (packT u))) ∧ Below w.heap.size w w' := by
  have CT := Lib.hid (fun W h1 h2 => spec_PackTight t a cap B W h1 hwf hsz h2)
  have CU := Lib.hid (fun W h1 h2 => spec_PackTight u a' cap' B W h1 hwf' hsz' h2)
  have HR := Lib.hid hr
  have HR' := Lib.hid hr'
  clear hwf hwf' hsz hsz' hr hr'
  go_enter Tryz.func124, Tryz.ntmps124
  go_wp2_with fail
  generalize hW : (w.alloc (Obj.cells _ 26)).alloc (Obj.cells _ 26) = W0
  have q1 : Is W0 w.heap.size 26 (cV t a cap) := by subst hW; exact (Is.new _ _ _).alloc _
  have q2 : Is W0 (w.heap.size + 1) 26 (cV u a' cap') := by subst hW; exact Is.new2 _ _ _ _
  have H0 := Lib.hid (show Below w.heap.size w W0 from by subst hW; exact below2 _ _ _)
  have hs0 : W0.heap.size = w.heap.size + 2 := by subst hW; simp
  clear hW
  obtain ⟨r0, r1, r2, r3, r4⟩ := q1.cells5
  obtain ⟨s0, s1, s2, s3, s4⟩ := q2.cells5
  have hl3 : w.heap.size + 1 < W0.heap.size := by omega
  have hl4 : w.heap.size < W0.heap.size := by omega
  refine wp_region_held_drew (S := fun w' => (∀ b o, b < W0.heap.size → w'.cell? ⟨b, o, none⟩ = W0.cell? ⟨b, o, none⟩) ∧ Below (W0.heap.size) W0 w') (by kernel_rfl) (by first | exact ⟨fun _ _ _ => rfl, (Below.refl _ _).drew⟩ | exact keep_step (by assumption) (Below.drew (Below.refl _ _)) (Nat.le_refl _) | exact keep_step (by assumption) (by assumption) (by first | omega | ((try simp only [World.size_drew, size_alloc]); omega) | (have := (‹(_ ∧ Below (W0.heap.size) W0 _)›).2.size; (try simp only [World.size_drew, size_alloc] at this ⊢); omega))) (fun hHeld => ?_)
  refine wpAnyH_take (i := 0) (oi := ⟨some 5, _, _, _, _, _⟩) (v := ?_) rfl (by kernel_rfl) (by kernel_rfl) (by kernel_rfl) (fun _ _ _ h => h) (Or.inl ⟨by rfl, ?_⟩) (by assumption) ?_
  rotate_left 1
  · (intro w hSw; (try dsimp only at hSw); go_simp; try (with_reducible rfl))
  try simp only [Act.put, List.setIfInBounds_toArray, List.set_cons_zero, List.set_cons_succ]
  refine wpAnyH_take (i := 2) (oi := ⟨some 7, _, _, _, _, _⟩) (v := ?_) rfl (by kernel_rfl) (by kernel_rfl) (by kernel_rfl) (fun _ _ _ h => h) (Or.inl ⟨by rfl, ?_⟩) (by assumption) ?_
  rotate_left 1
  · (intro w hSw; (try dsimp only at hSw); go_simp; try (with_reducible rfl))
  try simp only [Act.put, List.setIfInBounds_toArray, List.set_cons_zero, List.set_cons_succ]
  refine wpAnyH_ready (rs := [1]) (by kernel_rfl) (by simp) ?_
  refine AllReadyH.cons (o := ⟨some 6, _, _, _, _, _⟩) rfl (fun K hK => ?_) AllReadyH.nil
  go_simp
  (first | (go_at_call 189; refine (spec_LessBytes (packT t) (packT u) _ _ _ _ w4.heap.size _ (HA3.out.rd (by omega)) (HA4.out.rd (by omega)) (by first | exact Nat.le_refl _ | (simp only [World.size_drew]; omega))).mono ?_; rintro e w5 ⟨rfl, hb5⟩) | (go_at_call 22; have hguard := happ3; refine (CU.out _ (HR'.out.below (H0.out.trans ((‹_ ∧ Below (W0.heap.size) W0 _›).2.mono (by omega))) hB) (by have := (‹_ ∧ Below (W0.heap.size) W0 _›).2.size; omega)).mono ?_; rintro e w4 ⟨a4, c4, rfl, happ4, hb4⟩; have hsz4 := hb4.size; (try simp only [World.size_drew] at hsz4); have HA3 := Lib.hid ((happ3.less (show W0.heap.size ≤ _ by first | omega | (simp only [World.size_drew]; omega))).agree EByte.elem (fun f hf => hb4.block f hf) (by omega)); have HA4 := Lib.hid (happ4.less (show W0.heap.size ≤ _ by first | omega | (simp only [World.size_drew]; omega)))) | (go_at_call 22; refine (CT.out _ (HR.out.below (H0.out.trans ((‹_ ∧ Below (W0.heap.size) W0 _›).2.mono (by omega))) hB) (by have := (‹_ ∧ Below (W0.heap.size) W0 _›).2.size; omega)).mono ?_; rintro e w3 ⟨a3, c3, rfl, happ3, hb3⟩; have hsz3 := hb3.size; (try simp only [World.size_drew] at hsz3)))
  go_wp2_with fail
  refine hK.out _ _ (by first | exact ⟨fun _ _ _ => rfl, (Below.refl _ _).drew⟩ | exact keep_step (by assumption) (Below.drew (Below.refl _ _)) (Nat.le_refl _) | exact keep_step (by assumption) (by assumption) (by first | omega | ((try simp only [World.size_drew, size_alloc]); omega) | (have := (‹(_ ∧ Below (W0.heap.size) W0 _)›).2.size; (try simp only [World.size_drew, size_alloc] at this ⊢); omega))) (fun hHeld => ?_)
  clear hK K
  try simp only [Act.put, List.setIfInBounds_toArray, List.set_cons_zero, List.set_cons_succ]
  refine wpAnyH_ready (rs := [3]) (by kernel_rfl) (by simp) ?_
  refine AllReadyH.cons (o := ⟨some 8, _, _, _, _, _⟩) rfl (fun K hK => ?_) AllReadyH.nil
  focus (go_simp; (first | (go_at_call 189; refine (spec_LessBytes (packT t) (packT u) _ _ _ _ w4.heap.size _ (HA3.out.rd (by omega)) (HA4.out.rd (by omega)) (by first | exact Nat.le_refl _ | (simp only [World.size_drew]; omega))).mono ?_; rintro e w5 ⟨rfl, hb5⟩) | (go_at_call 22; have hguard := happ3; refine (CU.out _ (HR'.out.below (H0.out.trans ((‹_ ∧ Below (W0.heap.size) W0 _›).2.mono (by omega))) hB) (by have := (‹_ ∧ Below (W0.heap.size) W0 _›).2.size; omega)).mono ?_; rintro e w4 ⟨a4, c4, rfl, happ4, hb4⟩; have hsz4 := hb4.size; (try simp only [World.size_drew] at hsz4); have HA3 := Lib.hid ((happ3.less (show W0.heap.size ≤ _ by first | omega | (simp only [World.size_drew]; omega))).agree EByte.elem (fun f hf => hb4.block f hf) (by omega)); have HA4 := Lib.hid (happ4.less (show W0.heap.size ≤ _ by first | omega | (simp only [World.size_drew]; omega)))) | (go_at_call 22; refine (CT.out _ (HR.out.below (H0.out.trans ((‹_ ∧ Below (W0.heap.size) W0 _›).2.mono (by omega))) hB) (by have := (‹_ ∧ Below (W0.heap.size) W0 _›).2.size; omega)).mono ?_; rintro e w3 ⟨a3, c3, rfl, happ3, hb3⟩; have hsz3 := hb3.size; (try simp only [World.size_drew] at hsz3))); go_wp2_with fail; refine hK.out _ _ (by first | exact ⟨fun _ _ _ => rfl, (Below.refl _ _).drew⟩ | exact keep_step (by assumption) (Below.drew (Below.refl _ _)) (Nat.le_refl _) | exact keep_step (by assumption) (by assumption) (by first | omega | ((try simp only [World.size_drew, size_alloc]); omega) | (have := (‹(_ ∧ Below (W0.heap.size) W0 _)›).2.size; (try simp only [World.size_drew, size_alloc] at this ⊢); omega))) (fun hHeld => ?_); clear hK K; try simp only [Act.put, List.setIfInBounds_toArray, List.set_cons_zero, List.set_cons_succ])
  refine wpAnyH_ready (rs := [4]) (by kernel_rfl) (by simp) ?_
  refine AllReadyH.cons (o := ⟨some 9, _, _, _, _, _⟩) rfl (fun K hK => ?_) AllReadyH.nil
  focus (go_simp; (first | (go_at_call 189; refine (spec_LessBytes (packT t) (packT u) _ _ _ _ w4.heap.size _ (HA3.out.rd (by omega)) (HA4.out.rd (by omega)) (by first | exact Nat.le_refl _ | (simp only [World.size_drew]; omega))).mono ?_; rintro e w5 ⟨rfl, hb5⟩) | (go_at_call 22; have hguard := happ3; refine (CU.out _ (HR'.out.below (H0.out.trans ((‹_ ∧ Below (W0.heap.size) W0 _›).2.mono (by omega))) hB) (by have := (‹_ ∧ Below (W0.heap.size) W0 _›).2.size; omega)).mono ?_; rintro e w4 ⟨a4, c4, rfl, happ4, hb4⟩; have hsz4 := hb4.size; (try simp only [World.size_drew] at hsz4); have HA3 := Lib.hid ((happ3.less (show W0.heap.size ≤ _ by first | omega | (simp only [World.size_drew]; omega))).agree EByte.elem (fun f hf => hb4.block f hf) (by omega)); have HA4 := Lib.hid (happ4.less (show W0.heap.size ≤ _ by first | omega | (simp only [World.size_drew]; omega)))) | (go_at_call 22; refine (CT.out _ (HR.out.below (H0.out.trans ((‹_ ∧ Below (W0.heap.size) W0 _›).2.mono (by omega))) hB) (by have := (‹_ ∧ Below (W0.heap.size) W0 _›).2.size; omega)).mono ?_; rintro e w3 ⟨a3, c3, rfl, happ3, hb3⟩; have hsz3 := hb3.size; (try simp only [World.size_drew] at hsz3))); go_wp2_with fail; refine hK.out _ _ (by first | exact ⟨fun _ _ _ => rfl, (Below.refl _ _).drew⟩ | exact keep_step (by assumption) (Below.drew (Below.refl _ _)) (Nat.le_refl _) | exact keep_step (by assumption) (by assumption) (by first | omega | ((try simp only [World.size_drew, size_alloc]); omega) | (have := (‹(_ ∧ Below (W0.heap.size) W0 _)›).2.size; (try simp only [World.size_drew, size_alloc] at this ⊢); omega))) (fun hHeld => ?_); clear hK K; try simp only [Act.put, List.setIfInBounds_toArray, List.set_cons_zero, List.set_cons_succ])
  refine wpAnyH_take (i := 5) (oi := ⟨some 4, _, _, _, _, _⟩) (v := ?_) rfl (by kernel_rfl) (by kernel_rfl) (by kernel_rfl) (fun _ _ _ h => h) (Or.inl ⟨by rfl, ?_⟩) (by assumption) ?_
  rotate_left 1
  · (intro w hSw; (try dsimp only at hSw); go_simp; try (with_reducible rfl))
  try simp only [Act.put, List.setIfInBounds_toArray, List.set_cons_zero, List.set_cons_succ]
  refine wpAnyH_done (by kernel_rfl) ?_ _
  all_goals
    have hBB := (‹_ ∧ Below (W0.heap.size) W0 _›).2
    go_wp2_with fail
    go_ret
    exact ⟨rfl, H0.out.trans (hBB.mono (by omega))⟩
set_option maxHeartbeats 4000000 in
theorem spec_l13Fits : ∀ t : T, ∀ (a : Option Addr) (cap B : Nat) (w : World), R w B a cap t.l → Wf t → T.sz t ≤ 1048576 → B ≤ w.heap.size →
    Calls Tryz.prog 71 #[.agg (cV t a cap)] w fun e w' => e = .returned (.bool (allB tightU t)) ∧ Below w.heap.size w w' := by
  intro t
  induction t using T.ind with
  | h k n x s l ih =>
    intro a cap B w hr hwf hsz hB
    have IH := Lib.hid ih; clear ih
    obtain ⟨hk, hn, hx, _⟩ := hwf
    simp only [cV, T.k, T.n, T.x, T.s, T.l] at hr hk hn hx ⊢
    obtain ⟨hk0, hk1⟩ := hk
    rw [sz_of] at hsz
    have hl0 := T.length_le_szL l
    obtain ⟨hlc, hcap⟩ := hr.len
    have HR := Lib.hid hr; clear hr
    have HALL0 := Lib.hid (allB_eq tightU (.mk k n x s l))
    go_enter Tryz.func71, Tryz.ntmps71
    go_wp2_with fail
    generalize hW : w.alloc (Obj.cells #[Value.int IntKind.i64 k, Value.int IntKind.i64 n, Value.int IntKind.i64 x, Value.string s, Value.slice a l.length cap] 26) = W0
    have q1 : Is W0 w.heap.size 26 #[Value.int IntKind.i64 k, Value.int IntKind.i64 n, Value.int IntKind.i64 x, Value.string s, Value.slice a l.length cap] := by subst hW; exact Is.new _ _ _
    have H0 := Lib.hid (show Below w.heap.size w W0 from by subst hW; exact below1 _ _)
    have hs0 : W0.heap.size = w.heap.size + 1 := by subst hW; simp
    clear hW
    go_loopw [3] (fun i wr => ∃ (j : Nat), j ≤ l.length ∧ i = .int .i64 j ∧ Hid ((l.take j).all (allB tightU) = true) ∧ Below W0.heap.size W0 wr) (fun i _ => l.length - (intOf i).toNat)
    case atStart => exact ⟨0, Nat.zero_le _, rfl, rfl, Below.refl _ _⟩
    case round =>
      obtain ⟨j, hj, rfl, HA, hb⟩ := hrel
      have hbs := hb.size
      have hbox := q1.below hb (by omega)
      have hbox0 := hbox
      obtain ⟨r0, r1, r2, r3, r4⟩ := hbox.cells5
      have hlt2 : w.heap.size < wr.heap.size := by omega
      have HBw := Lib.hid (H0.out.trans (hb.mono (by omega)))
      by_cases hlt : j < l.length
      · obtain ⟨b, o, a2, cap2, rfl, hbl, d0, d1, d2, d3, d4, hwfj, hq⟩ := (HR.out.below HBw.out hB).get j hlt
        have hlb : b < wr.heap.size := by omega
        have hszj := T.sz_get l j hlt
        have HWF := Lib.hid hwfj; clear hwfj
        have HQ := Lib.hid hq; clear hq
        have HT := Lib.hid (all_take_succ (allB tightU) l j hlt)
        have HF := Lib.hid (all_false (allB tightU) l j hlt)
        go_wp2_with fail
        refine (IH.out l[j] (List.getElem_mem hlt) a2 cap2 B wr HQ.out HWF.out (by omega) (by omega)).mono ?_
        rintro e w2 ⟨rfl, hb2⟩
        cases hv : allB tightU l[j] with
        | false =>
          have HE := Lib.hid (show allB tightU (.mk k n x s l) = false from by rw [HALL0.out]; simp only [T.l]; rw [HF.out hv, Bool.and_false])
          clear HF HT hv
          go_wp2_with fail
          go_ret
          exact ⟨ret_b (by rw [HE.out]), HBw.out.trans (hb2.mono HBw.out.size)⟩
        | true =>
          have HE := Lib.hid (show (l.take (j + 1)).all (allB tightU) = true from by rw [HT.out, HA.out, hv]; rfl)
          clear HF HT hv
          go_wp2_with fail
          go_roundw
          case rel => exact ⟨j + 1, by omega, by go_num, HE.out, hb.trans (hb2.mono hbs)⟩
          case measure => simp [intOf]; omega
      · have hjj : l.length = j := by omega
        have HJ := Lib.hid (show l.take j = l from by rw [← hjj, List.take_length]); clear hjj
        have HALL := Lib.hid (show allB tightU (.mk k n x s l) = tightU (.mk k n x s l) from by rw [HALL0.out]; simp only [T.l]; rw [show l.all (allB tightU) = true from by rw [← HJ.out]; exact HA.out, Bool.and_true])
        clear HA HJ IH HALL0 hb q1 H0 hs0
        by_cases h10 : k = 10
        · have HD := Lib.hid (HALL.out.trans (tightU_map (t := .mk k n x s l) h10))
          simp only [T.l] at HD
          subst h10
          go_wp2_with fail
          clear r0 r1 r2 r3 r4 hbox
          go_loopw [4] (fun iv w5 => ∃ (p i q : Nat), i = 2 * p ∧ q = i + 2 ∧ 2 * p ≤ l.length + 1 ∧ iv = .int .i64 (q : Int) ∧ Hid (ascU (evN l ((l.length + 1) / 2)) (p + 1) = true) ∧ Below wr.heap.size wr w5) (fun iv _ => l.length + 2 - (intOf iv).toNat)
          case atStart => exact ⟨0, 0, 2, rfl, rfl, by omega, rfl, Lib.hid rfl, Below.refl _ _⟩
          case round =>
            obtain ⟨p, i, q, hip, hqi, hpl, rfl, HP, hb5⟩ := hrel
            rename World => w5
            have hs5 := hb5.size
            have hbox5 := hbox0.below hb5 hlt2
            obtain ⟨y0, y1, y2, y3, y4⟩ := hbox5.cells5
            have hlt5 : w.heap.size < w5.heap.size := by omega
            have HB5 := Lib.hid (HBw.out.trans (hb5.mono (by omega)))
            by_cases hil : q < l.length
            · obtain ⟨b, o, a2, cap2, hba, hbl, d0, d1, d2, d3, d4, hwf1, hq1⟩ := (HR.out.below HB5.out hB).get q hil
              obtain ⟨b', o', a3, cap3, ha, hbl', d0', d1', d2', d3', d4', hwf2, hq2⟩ := (HR.out.below HB5.out hB).get i (by omega)
              subst hba
              injection ha with ha; injection ha with ha ha2; subst ha ha2
              have hlb : b < w5.heap.size := by omega
              have hi1 : (0 : Int) ≤ (q : Int) := by omega
              have hi2 : (q : Int) < (l.length : Int) := by omega
              have hi3 : (0 : Int) ≤ (i : Int) := by omega
              have hi4 : (i : Int) < (l.length : Int) := by omega
              have hwr : IntKind.i64.wrap ((q : Int) - 2) = (i : Int) := by rw [show (q : Int) - 2 = (i : Int) from by omega]; rw [Go.IntWalk.i64_left]; exact Go.IntWalk.wrap64_in _ ⟨by omega, by omega⟩
              have HQ1 := Lib.hid hq1; have HQ2 := Lib.hid hq2; have HW1 := Lib.hid hwf1; have HW2 := Lib.hid hwf2
              have hz1 := T.sz_get l q hil
              have hz2 := T.sz_get l i (by omega)
              have HS := Lib.hid (show ascU (evN l ((l.length + 1) / 2)) (p + 2) = (ascU (evN l ((l.length + 1) / 2)) (p + 1) && lexB (packT (l[i]'(by omega))) (packT l[q])) from by
                subst hqi hip; rw [evAsc_succ l _ p rfl (by omega)])
              clear hq1 hq2 hwf1 hwf2 hbl hbl'
              obtain ⟨u, hu⟩ : ∃ u, l[q] = u := ⟨_, rfl⟩
              obtain ⟨v, hv⟩ : ∃ v, l[i]'(by omega) = v := ⟨_, rfl⟩
              rw [hu] at d0 d1 d2 d3 d4 HQ1 HW1 HS hz1
              rw [hv] at d0' d1' d2' d3' d4' HQ2 HW2 HS hz2
              have HQI := Lib.hid hqi; have HIP := Lib.hid hip
              clear hqi hip hu hv
              go_wp2_with fail
              go_region_held3 (fun w' => (∀ b o, b < w5.heap.size → w'.cell? ⟨b, o, none⟩ = w5.cell? ⟨b, o, none⟩) ∧ Below (w5.heap.size) w5 w') (first | exact ⟨fun _ _ _ => rfl, (Below.refl _ _).drew⟩ | assumption | exact keep_step (by assumption) (Below.drew (Below.refl _ _)) (Nat.le_refl _) | exact keep_step (by assumption) (by assumption) (by first | omega | (simp only [World.size_drew]; omega) | (simp only [size_alloc]; omega) | (simp only [World.size_drew, size_alloc]; omega) | (have := (‹(_ ∧ Below (w5.heap.size) w5 _)›).2.size; first | omega | (simp only [World.size_drew]; omega) | (simp only [size_alloc]; omega) | (simp only [World.size_drew, size_alloc]; omega) | (simp only [World.size_drew] at this; omega) | (simp only [size_alloc] at this; omega) | (simp only [World.size_drew, size_alloc] at this; omega))) | exact keep_step (by assumption) (below1 _ _) (by first | omega | (simp only [World.size_drew]; omega) | (simp only [size_alloc]; omega) | (simp only [World.size_drew, size_alloc]; omega) | (have := (‹(_ ∧ Below (w5.heap.size) w5 _)›).2.size; first | omega | (simp only [World.size_drew]; omega) | (simp only [size_alloc]; omega) | (simp only [World.size_drew, size_alloc]; omega) | (simp only [World.size_drew] at this; omega) | (simp only [size_alloc] at this; omega) | (simp only [World.size_drew, size_alloc] at this; omega)))) (first | (go_at_call 124; refine (spec_LessTight v u a3 a2 cap3 cap2 B _ (HQ2.out.below (‹_ ∧ Below (w5.heap.size) w5 _›).2 (by omega)) (HQ1.out.below (‹_ ∧ Below (w5.heap.size) w5 _›).2 (by omega)) HW2.out HW1.out (by omega) (by omega) (by have := (‹_ ∧ Below (w5.heap.size) w5 _›).2.size; omega)).mono ?_; rintro e w6 ⟨rfl, hb6⟩))
              have hb6 := (‹_ ∧ Below (w5.heap.size) w5 _›).2
              cases hx : lexB (packT v) (packT u) with
              | false =>
                have HF := Lib.hid (show allB tightU (.mk 10 n x s l) = false from by rw [HD.out]; exact ascU_false _ (p + 2) _ (by have := HQI.out; have := HIP.out; omega) (by rw [HS.out, HP.out, hx]; rfl))
                go_wp2_with fail
                go_ret
                exact ⟨ret_b (by rw [HF.out]), HB5.out.trans (hb6.mono (by omega))⟩
              | true =>
                have HP2 := Lib.hid (show ascU (evN l ((l.length + 1) / 2)) (p + 1 + 1) = true from by rw [HS.out, HP.out, hx]; rfl)
                go_wp2_with fail
                go_roundw
                case rel => exact ⟨p + 1, q, q + 2, by have := HQI.out; have := HIP.out; omega, rfl, by have := HQI.out; have := HIP.out; omega, by go_num, HP2, hb5.trans (hb6.mono (by omega))⟩
                case measure => simp [intOf]; omega
            · have HT := Lib.hid (show allB tightU (.mk 10 n x s l) = true from by
                rw [HD.out]
                by_cases h : ascU (evN l ((l.length + 1) / 2)) ((l.length + 1) / 2) = true
                · exact h
                · have h' := ascU_false _ _ (p + 1) (by omega) (Bool.not_eq_true _ ▸ h)
                  rw [HP.out] at h'; cases h')
              go_wp2_with fail
              go_ret
              exact ⟨ret_b (by rw [HT.out]; first | done | rfl | simp), HB5.out⟩
        · have HD := Lib.hid (HALL.out.trans (tightU_not (t := .mk k n x s l) h10))
          simp only [T.k] at HD
          have hz : ¬ k = 10 := h10
          go_wp2_with fail
          go_loopw [4] (fun iv w5 => iv = .int .i64 2 ∧ w5 = wr) (fun _ _ => 0)
          case atStart => exact ⟨rfl, rfl⟩
          case round =>
            obtain ⟨rfl, hw5⟩ := hrel
            subst hw5
            by_cases hl2 : 2 < l.length
            · go_wp2_with fail
              go_ret
              exact ⟨ret_b (by rw [HD.out]; first | done | rfl | (by_cases h6 : k = 6 <;> simp [h6])), HBw.out⟩
            · go_wp2_with fail
              go_ret
              exact ⟨ret_b (by rw [HD.out]; first | done | rfl | (by_cases h6 : k = 6 <;> simp [h6])), HBw.out⟩
set_option maxHeartbeats 1000000 in
theorem spec_FitsTight (t : T) (a : Option Addr) (cap B : Nat) (w : World) (hr : R w B a cap t.l) (hwf : Wf t) (hsz : T.sz t ≤ 1048576) (hB : B ≤ w.heap.size) :
    Calls Tryz.prog 20 #[.agg (cV t a cap)] w fun e w' => e = .returned (.bool (allB ownB t && allB tightU t)) ∧ Below w.heap.size w w' := by
  have HR := Lib.hid hr; clear hr
  have HWF := Lib.hid hwf; clear hwf
  have H0 := Lib.hid (below1 w (.cells (cV t a cap) 26))
  have q0 := Is.new w (cV t a cap) 26
  go_enter Tryz.func20, Tryz.ntmps20
  go_wp2_with fail
  refine (spec_ValOk t a cap B _ (HR.out.below H0.out hB) HWF.out hsz (by simp; omega)).mono ?_
  rintro e w1 ⟨rfl, hb1⟩
  have HB1 := Lib.hid (below_step H0.out hb1 (by simp))
  have p1 := q0.below hb1 (by simp)
  obtain ⟨r0, r1, r2, r3, r4⟩ := p1.cells5
  have l1 : w.heap.size < w1.heap.size := by have := hb1.size; simp at this; omega
  clear hb1
  cases hv : allB ownB t with
  | false =>
    have HV := Lib.hid hv; clear hv
    go_wp2_with fail
    go_ret
    exact ⟨ret_b (by rw [HV.out]; rfl), HB1.out⟩
  | true =>
    have HV := Lib.hid hv; clear hv
    go_wp2_with fail
    refine (spec_l13Fits t a cap B _ (HR.out.below HB1.out hB) HWF.out hsz (by omega)).mono ?_
    rintro e w2 ⟨rfl, hb2⟩
    go_wp2_with fail
    go_ret
    exact ⟨ret_b (by rw [HV.out]; rfl), HB1.out.trans (hb2.mono HB1.out.size)⟩
theorem u8_nat {x : Int} (h : U8 x) : (UInt8.ofNat x.toNat).toNat = x.toNat := by
  unfold U8 at h
  rw [UInt8.toNat_ofNat']; omega
theorem lexB_compare : ∀ (x y : List Int), (∀ a ∈ x, U8 a) → (∀ a ∈ y, U8 a) → lexB x y = decide (Lib.compareBytes (Lib.bytesOf x) (Lib.bytesOf y) < 0)
  | [], [], _, _ => rfl
  | [], _ :: _, _, _ => rfl
  | _ :: _, [], _, _ => rfl
  | a :: x, b :: y, hx, hy => by
    have ih := lexB_compare x y (fun c hc => hx c (List.mem_cons_of_mem _ hc)) (fun c hc => hy c (List.mem_cons_of_mem _ hc))
    have ha := hx a (List.mem_cons_self ..)
    have hb := hy b (List.mem_cons_self ..)
    have e1 := u8_nat ha
    have e2 := u8_nat hb
    have i1 : 0 ≤ a := by unfold U8 at ha; omega
    have i2 : 0 ≤ b := by unfold U8 at hb; omega
    simp only [lexB, Lib.bytesOf, List.map_cons, Lib.compareBytes]
    rw [show List.map (fun n => UInt8.ofNat n.toNat) x = Lib.bytesOf x from rfl, show List.map (fun n => UInt8.ofNat n.toNat) y = Lib.bytesOf y from rfl]
    have l1 : (UInt8.ofNat a.toNat < UInt8.ofNat b.toNat) ↔ a < b := by rw [UInt8.lt_iff_toNat_lt, e1, e2]; omega
    have l2 : (UInt8.ofNat b.toNat < UInt8.ofNat a.toNat) ↔ b < a := by rw [UInt8.lt_iff_toNat_lt, e1, e2]; omega
    simp only [l1, l2]
    by_cases h : a = b
    · subst h
      rw [if_pos rfl, if_neg (by omega), if_neg (by omega)]; exact ih
    · rw [if_neg h]
      by_cases h1 : a < b
      · rw [if_pos h1, decide_eq_true h1]; rfl
      · rw [if_neg h1, if_pos (by omega), decide_eq_false h1]; rfl
theorem run_bytesOfRd {P : Program} (w : World) (x : List Int) (a : Option Addr) (cap B : Nat) (hr : Rd EByte 1 w B a cap x) :
    (Extern.Bytes.bytesOf (.slice a x.length cap)).run P w = .ok ⟨(Lib.bytesOf x).toArray⟩ w := by
  by_cases h : x = []
  · subst h
    cases a <;> simp [Extern.Bytes.bytesOf, Extern.Bytes.loadBytes, Lib.bytesOf] <;> rfl
  · have hp : 0 < x.length := List.length_pos_iff.2 h
    obtain ⟨b, o, ha, _, _, _⟩ := hr.byte 0 hp
    subst ha
    have := Lib.run_loadBytesX (P := P) w x ⟨b, o, none⟩ .empty (fun j v hj => by
      have hjl : j < x.length := by
        rcases Nat.lt_or_ge j x.length with h | h
        · exact h
        · rw [List.getElem?_eq_none h] at hj; cases hj
      obtain ⟨b', o', ha, _, hc, _⟩ := hr.byte j hjl
      injection ha with ha; injection ha with ha ha2; subst ha ha2
      rw [Addr.add_lit, hc]
      rw [List.getElem?_eq_getElem hjl] at hj
      injection hj with hj; rw [hj])
    simp only [Extern.Bytes.bytesOf]
    rw [this]
    exact congrArg (fun z => Result.ok (ByteArray.mk z) w) (by show (#[] : Array UInt8) ++ _ = _; simp)
theorem run_compareSl {P : Program} (w : World) (x y : List Int) (a a' : Option Addr) (cap cap' B : Nat) (hr : Rd EByte 1 w B a cap x) (hr' : Rd EByte 1 w B a' cap' y) :
    (Extern.BytealgCompare.compare #[.slice a x.length cap, .slice a' y.length cap']).run P w = .ok (.int .i64 (Lib.compareBytes (Lib.bytesOf x) (Lib.bytesOf y))) w := by
  change Sem.run P (do pure (goInt (Extern.BytealgCompare.cmp (← Extern.Bytes.bytesOf (.slice a x.length cap)) (← Extern.Bytes.bytesOf (.slice a' y.length cap'))))) w = _
  simp only [Sem.run_bind, Sem.run_pure, run_bytesOfRd w x a cap B hr, run_bytesOfRd w y a' cap' B hr', Result.andThen]
  rw [Lib.cmp_eq]
  rfl
set_option maxHeartbeats 2000000 in
set_option maxRecDepth 100000 in
theorem bytes_Compare (x y : List Int) (a a' : Option Addr) (cap cap' B : Nat) (w : World) (hr : Rd EByte 1 w B a cap x) (hr' : Rd EByte 1 w B a' cap' y) :
    Calls Tryz.prog 187 #[.slice a x.length cap, .slice a' y.length cap'] w fun e w' => e = .returned (.int .i64 (Lib.compareBytes (Lib.bytesOf x) (Lib.bytesOf y))) ∧ w' = w := by
  have HC := Lib.hid (run_compareSl (P := Tryz.prog) w x y a a' cap cap' B hr hr')
  clear hr hr'
  go_enter Tryz.func187, Tryz.ntmps187
  go_wp2
  rw [run_callFunc_extern Tryz.func235 (by kernel_rfl) (by kernel_rfl) (by kernel_rfl) (e := Extern.BytealgCompare.compare) (by kernel_rfl), HC.out]
  simp only [Result.andThen]
  rw [Oper.upon_value]
  go_wp2
  go_ret
  exact ⟨rfl, rfl⟩
theorem impl_LessBytes (x y : List Int) (a a' : Option Addr) (cap cap' B : Nat) (w : World) (hr : Rd EByte 1 w B a cap x) (hr' : Rd EByte 1 w B a' cap' y) (hu : ∀ v ∈ x, U8 v) (hu' : ∀ v ∈ y, U8 v) :
    Calls Tryz.prog 120 #[.slice a x.length cap, .slice a' y.length cap'] w fun e w' => e = .returned (.bool (lexB x y)) ∧ Below w.heap.size w w' := by
  have HC := Lib.hid (bytes_Compare x y a a' cap cap' B w hr hr')
  have HL := Lib.hid (lexB_compare x y hu hu')
  clear hr hr' hu hu'
  go_enter Tryz.func120, Tryz.ntmps120
  go_wp2_with fail
  refine HC.out.mono ?_
  rintro e w2 ⟨rfl, rfl⟩
  go_wp2_with fail
  go_ret
  exact ⟨ret_b (by rw [HL.out]), Below.refl _ _⟩
def Pk (w : World) (g : Nat) (b : List Int) : Prop := ∃ (a : Option Addr) (cap : Nat), Is w g 52 #[.slice a b.length cap, .bool false, .bool false] ∧ AppL EByte 1 5 w (g + 1) a cap b []
theorem Pk.lt {w : World} {g : Nat} {b : List Int} (h : Pk w g b) : g < w.heap.size := by obtain ⟨_, _, h, _⟩ := h; exact h.lt
theorem Pk.below {w w' : World} {g : Nat} {b : List Int} (h : Pk w g b) (hb : Below w.heap.size w w') : Pk w' g b := by
  have hl := h.lt
  obtain ⟨a, cap, h1, h2⟩ := h
  exact ⟨a, cap, h1.below hb hl, h2.agree EByte.elem (fun f hf => hb.block f hf) (by omega)⟩
theorem Pk.stored {w : World} {g : Nat} {b b' : List Int} {a a' : Option Addr} {cap cap' : Nat} (h : Is w g 52 #[.slice a b.length cap, .bool false, .bool false]) (h2 : AppL EByte 1 5 w (g + 1) a' cap' b' []) : Pk (w.setCell ⟨g, 0, none⟩ (.slice a' b'.length cap')) g b' :=
  ⟨a', cap', h.set 0 _, h2.agreeB EByte.elem (fun f hf _ => heap_miss _ _ _ _ (by omega) _)⟩
set_option maxHeartbeats 8000000 in
theorem impl_packHead (b : List Int) (m n k : Int) (g : Nat) (w : World) (hp : Pk w g b) (hn : I64 n) (hz : b.length ≤ 1073741824) :
    Calls Tryz.prog 129 #[.pointer (some ⟨g, 0, none⟩), .agg (cH m n k)] w fun e w' => e = .returned (.tuple #[]) ∧ Pk w' g (b ++ headL m n k) ∧ Below g w w' := by
  have hg := hp.lt
  have q0 := Is.new w (cH m n k) 56
  have HB0 := Lib.hid (below1 w (.cells (cH m n k) 56))
  have HP := Lib.hid hp
  obtain ⟨a, cap, hp1, hp2⟩ := hp
  have p1 := hp1.alloc (.cells (cH m n k) 56)
  obtain ⟨c0, c1, c2⟩ := q0.cells3
  obtain ⟨e0, e1, e2⟩ := p1.cells3
  have lg : w.heap.size < (w.alloc (.cells (cH m n k) 56)).heap.size := by simp
  have lg1 : g < (w.alloc (.cells (cH m n k) 56)).heap.size := by simp; omega
  obtain ⟨bb, hbb⟩ : ∃ r, decide (headOk m n k) = r := ⟨_, rfl⟩
  have HBB := Lib.hid hbb
  have HN := Lib.hid hn
  clear hbb hn
  go_enter Tryz.func129, Tryz.ntmps129
  go_wp2_with fail
  refine (impl_HeadOk m n k _ HN.out).mono ?_
  rintro ee w2 ⟨rfl, hb2⟩
  rw [HBB.out]
  have q2 := q0.below hb2 lg
  have p2 := p1.below hb2 lg1
  obtain ⟨d0, d1, d2⟩ := q2.cells3
  obtain ⟨f0, f1, f2⟩ := p2.cells3
  have ff := fun i => p2.frozen i
  have lg2 : w.heap.size < w2.heap.size := q2.lt
  have lg3 : g < w2.heap.size := by omega
  have HB2 := Lib.hid (HB0.out.trans (hb2.mono (by simp)))
  have HA2 := Lib.hid (hp2.agree EByte.elem (fun f hf => HB2.out.block f hf) (by omega))
  have P2 := Lib.hid p2
  clear c0 c1 c2 e0 e1 e2 hb2 q0 q2 lg lg1 HB0 p1 p2 hp1 hp2
  cases bb with
  | false =>
    have HE := Lib.hid (show b ++ headL m n k = b from by unfold headL; rw [if_neg (of_decide_eq_false HBB.out), List.append_nil])
    go_wp2_with fail
    go_end0
    exact ⟨rfl, by rw [HE.out]; exact HP.out.below HB2.out, HB2.out.mono (by omega)⟩
  | true =>
    have CP := Lib.hid (fun (W : World) (h : Below w2.heap.size w2 W) => impl_PutHead b m n k a cap w2.heap.size W ((HA2.out.rd (by omega)).below EByte.loc h (Nat.le_refl _)) HN.out hz h.size)
    go_wp2_with fail
    go_region_with (go_at_call 191; refine (CP.out _ ?_).mono ?_; (first | exact Below.refl _ _ | exact (Below.refl _ _).drew | exact below_drewN _ _ _); rintro e w3 ⟨a3, c3, rfl, happ3, hb3⟩; have hs3 := hb3.size; have p3 := P2.out.agree (hb3.block g (by first | omega | (simp only [World.size_drew]; omega))); obtain ⟨x0, x1, x2⟩ := p3.cells3; have ff3 := fun i => p3.frozen i; have lg4 := p3.lt; have HX3 := Lib.hid (show Below g w2 w3 from by first | exact hb3.mono (by omega) | exact ((Below.refl _ _).drew).trans (hb3.mono (by simp only [World.size_drew]; omega))); have HA3 := Lib.hid (happ3.less (show g + 1 ≤ _ by first | omega | (simp only [World.size_drew]; omega))); clear happ3 hb3)
    all_goals
      go_wp2_with fail
      go_end0
      have hst := Pk.stored p3 HA3.out
      rw [List.length_append] at hst
      exact ⟨rfl, hst, ((HB2.out.mono (by omega)).trans HX3.out).trans (below1s _ _ _ _)⟩
theorem impl_HeadForOk (m n : Int) (w : World) (hm : 0 ≤ m ∧ m ≤ 7) (hn : 0 ≤ n ∧ n ≤ 1000000000000000) :
    Calls Tryz.prog 190 #[.int .i64 m, .int .i64 n] w fun e w' => (∃ k, e = .returned (.agg (cH m n k)) ∧ hdL m n = headL m n k) ∧ Below w.heap.size w w' := by
  refine (impl_HeadFor m n w ⟨by omega, by omega⟩).mono ?_
  rintro e w' ⟨rfl, hb⟩
  refine ⟨⟨if 23 < n then widthD n else 0, ?_, ?_⟩, hb⟩
  · rw [headForD_ok hm hn]
  · unfold hdL; rw [headForD_ok hm hn]
set_option maxHeartbeats 2000000 in
theorem impl_packNumber (b : List Int) (m n : Int) (g : Nat) (w : World) (hp : Pk w g b) (hm : 0 ≤ m ∧ m ≤ 7) (hn : 0 ≤ n ∧ n ≤ 1000000000000000) (hz : b.length ≤ 1073741824) :
    Calls Tryz.prog 126 #[.pointer (some ⟨g, 0, none⟩), .int .i64 m, .int .i64 n] w fun e w' => e = .returned (.tuple #[]) ∧ Pk w' g (b ++ hdL m n) ∧ Below g w w' := by
  have hg := hp.lt
  have HP := Lib.hid hp; clear hp
  have HM := Lib.hid hm; have HN := Lib.hid hn
  go_enter Tryz.func126, Tryz.ntmps126
  go_wp2_with fail
  refine (impl_HeadForOk m n _ HM.out HN.out).mono ?_
  rintro ee w2 ⟨⟨kk, rfl, hkk⟩, hb2⟩
  have hs2 := hb2.size
  have HB2 := Lib.hid hb2
  have HKK := Lib.hid hkk
  clear hb2 hkk hm hn
  have q3 := Is.new w2 (cH m n kk) 56
  obtain ⟨c0, c1, c2⟩ := q3.cells3
  have lg3 := q3.lt
  have HP3 := Lib.hid ((HP.out.below HB2.out).below (below1 w2 (.cells (cH m n kk) 56)))
  have HB3 := Lib.hid (HB2.out.trans ((below1 w2 (.cells (cH m n kk) 56)).mono hs2))
  go_wp2_with fail
  refine (impl_packHead b m n kk g _ HP3.out ⟨by have := HN.out; omega, by have := HN.out; omega⟩ hz).mono ?_
  rintro ee w4 ⟨rfl, hp4, hb4⟩
  have HP4 := Lib.hid hp4
  have HB4 := Lib.hid ((HB3.out.mono (by omega)).trans hb4)
  clear hp4 hb4
  go_wp2_with fail
  (first | go_end0 | refine bodyPost_ret (results_none rfl _ _ _) rfl ?_)
  exact ⟨rfl, by rw [HKK.out]; exact HP4.out, HB4.out⟩
set_option maxHeartbeats 2000000 in
theorem impl_packText (b : List Int) (m : Int) (s : ByteArray) (g : Nat) (w : World) (hp : Pk w g b) (hm : 0 ≤ m ∧ m ≤ 7) (hbu : ∀ x ∈ b, U8 x) (hz : b.length ≤ 1073741824) (hs : s.size ≤ 1073741824) :
    Calls Tryz.prog 127 #[.pointer (some ⟨g, 0, none⟩), .int .i64 m, .string s] w fun e w' => e = .returned (.tuple #[]) ∧ Pk w' g (b ++ (hdL m s.size ++ byteL s)) ∧ Below g w w' := by
  have hg := hp.lt
  have HP := Lib.hid hp
  have HM := Lib.hid hm
  have HU := Lib.hid hbu
  obtain ⟨a, cap, hp1, hp2⟩ := hp
  obtain ⟨e0, e1, e2⟩ := hp1.cells3
  clear hp1 hp2 hbu hm
  go_enter Tryz.func127, Tryz.ntmps127
  go_wp2_with fail
  refine (impl_packNumber b m s.size g w HP.out HM.out (by omega) hz).mono ?_
  rintro ee w2 ⟨rfl, hp2, hb2⟩
  have hg2 := hp2.lt
  have HB2 := Lib.hid hb2
  clear hb2 e0 e1 e2
  obtain ⟨a2, c2, i2, happ2⟩ := hp2
  obtain ⟨f0, f1, f2⟩ := i2.cells3
  have hrow := happ2.row
  have hl9 := hdL_len m (s.size : Int)
  obtain ⟨a3, c3, w3, hrun, happ3, hb3, hout3, hsz3⟩ := run_appStr (P := Tryz.prog) w2 22 9 22 Tryz.underlying22 Tryz.underlying9 info_Byte2 (g + 1) a2 c2 (b ++ hdL m s.size) (fun x hx => by rcases List.mem_append.1 hx with h | h; exact HU.out x h; exact hdL_u8 _ _ x h) happ2 (by omega) s (by rw [List.length_append]; omega)
  have i3 := i2.agree (hout3 g hg2 (fun k hk => by have := (hrow k hk).1; omega))
  obtain ⟨y0, y1, y2⟩ := i3.cells3
  have ff := fun i => i3.frozen i
  have hg3 : g < w3.heap.size := i3.lt
  have HP3 := Lib.hid (Pk.stored i3 happ3)
  have HB3 := Lib.hid ((HB2.out.trans (hb3.mono (by omega))).trans (below1s w3 g 0 (.slice a3 ((b ++ hdL m s.size) ++ byteL s).length c3)))
  rw [List.append_assoc] at HP3
  simp only [List.length_append] at hrun HP3 HB3
  clear i2 happ2 hrow happ3 hb3 hout3 i3 HP
  go_wp2_with (at_builtin; refine Lib.wpList_append_run _ rfl _ _ _ _ rfl _ _ rfl rfl _ _ hrun ?_)
  (first | go_end0 | refine bodyPost_ret (results_none rfl _ _ _) rfl ?_)
  refine ⟨rfl, ?_, ?_⟩
  · have h := HP3.out
    simp only [Nat.add_assoc] at h ⊢
    exact h
  · have h := HB3.out
    simp only [Nat.add_assoc] at h ⊢
    exact h
def PV (t : T) : Prop := ∀ (b : List Int) (a : Option Addr) (cap B g : Nat) (w : World), R w B a cap t.l → Wf t → T.sz t ≤ 1048576 → B ≤ g → Pk w g b → (∀ x ∈ b, U8 x) → b.length + 10 * T.sz t + 10 ≤ 1073741824 →
    Calls Tryz.prog 72 #[.pointer (some ⟨g, 0, none⟩), .agg (cV t a cap)] w fun e w' => e = .returned (.tuple #[]) ∧ Pk w' g (b ++ packT t) ∧ Below g w w'
theorem packTs_u8 (l : List T) : ∀ x ∈ packTs l, U8 x := by
  induction l with
  | nil => intro x hx; cases hx
  | cons t r ih =>
    intro x hx
    rw [packTs] at hx
    rcases List.mem_append.1 hx with h | h
    · exact packT_u8 t x h
    · exact ih x h
set_option maxHeartbeats 4000000 in
theorem impl_packElems (l : List T) (IH : Hid (∀ t ∈ l, PV t)) (b : List Int) (m n : Int) (a : Option Addr) (cap B g : Nat) (w : World) (hr : R w B a cap l) (hsz : T.szL l ≤ 1048576) (hB : B ≤ g) (hp : Pk w g b) (hm : 0 ≤ m ∧ m ≤ 7) (hn : 0 ≤ n ∧ n ≤ 1000000000000000) (hbu : ∀ x ∈ b, U8 x) (hz : b.length + 9 + 10 * T.szL l ≤ 1073741824) :
    Calls Tryz.prog 128 #[.pointer (some ⟨g, 0, none⟩), .int .i64 m, .int .i64 n, .slice a l.length cap] w fun e w' => e = .returned (.tuple #[]) ∧ Pk w' g (b ++ (hdL m n ++ packTs l)) ∧ Below g w w' := by
  have hg := hp.lt
  obtain ⟨hl1, hl2⟩ := hr.len
  have HP := Lib.hid hp
  have HM := Lib.hid hm; have HN := Lib.hid hn
  have HU := Lib.hid hbu
  have HR := Lib.hid hr
  obtain ⟨a0, cap0, hp1, hp2⟩ := hp
  obtain ⟨e0, e1, e2⟩ := hp1.cells3
  clear hp1 hp2 hbu hm hn hr
  go_enter Tryz.func128, Tryz.ntmps128
  go_wp2_with fail
  refine (impl_packNumber b m n g w HP.out HM.out HN.out (by omega)).mono ?_
  rintro ee w2 ⟨rfl, hp2, hb2⟩
  have HB2 := Lib.hid hb2
  have HP2 := Lib.hid hp2
  have hg2 := hp2.lt
  clear hb2 hp2 HP
  have hl9 := hdL_len m n
  go_wp2_with fail
  go_loopw [30] (fun i wr => ∃ (j : Nat), j ≤ l.length ∧ i = .int .i64 j ∧ Hid (Pk wr g (b ++ (hdL m n ++ packTs (l.take j)))) ∧ Hid (Below g w wr)) (fun i _ => l.length - (intOf i).toNat)
  case atStart => exact ⟨0, Nat.zero_le _, rfl, Lib.hid (by rw [List.take_zero, packTs, List.append_nil]; exact HP2.out), HB2⟩
  case round =>
    obtain ⟨j, hj, rfl, HPj, HBj⟩ := hrel
    have hgr := HPj.out.lt
    by_cases hlt : j < l.length
    · obtain ⟨bb, o, a2, cap2, rfl, hbl2, d0, d1, d2, d3, d4, hwf, hq⟩ := (HR.out.below HBj.out hB).get j hlt
      have hszj := T.sz_get l j hlt
      have h1 := T.szL_take_succ l j hlt
      have h2 := T.szL_take_le l (j + 1)
      have h3 := packTs_len (l.take j)
      have hlb : bb < wr.heap.size := by omega
      have HWF := Lib.hid hwf
      have HQ := Lib.hid hq
      have HS := Lib.hid (show b ++ (hdL m n ++ packTs (l.take (j + 1))) = (b ++ (hdL m n ++ packTs (l.take j))) ++ packT l[j] from by rw [packTs_succ l j hlt]; simp only [List.append_assoc])
      obtain ⟨u, hu⟩ : ∃ u, l[j] = u := ⟨_, rfl⟩
      have HPV : Hid (PV u) := Lib.hid (by rw [← hu]; exact IH.out l[j] (List.getElem_mem hlt))
      rw [hu] at d0 d1 d2 d3 d4 HQ HWF HS hszj h1
      clear hwf hq hu
      go_wp2_with fail
      generalize hW : wr.alloc _ = W1 at *
      have hb1 : Below wr.heap.size wr W1 := by rw [← hW]; exact below1 _ _
      have q1 : Is W1 wr.heap.size 26 (cV u a2 cap2) := by rw [← hW]; exact Is.new _ _ _
      clear hW
      obtain ⟨x0, x1, x2, x3, x4⟩ := q1.cells5
      have lx := q1.lt
      have hs1 := hb1.size
      have HP1 := Lib.hid (HPj.out.below hb1)
      have HB1 := Lib.hid (HBj.out.trans (hb1.mono (by omega)))
      have HQ1 := Lib.hid (HQ.out.below hb1 (by omega))
      clear hb1 q1
      go_wp2_with fail
      refine (HPV.out _ a2 cap2 B g _ HQ1.out HWF.out (by omega) hB HP1.out (fun x hx => by
        rcases List.mem_append.1 hx with h | h
        · exact HU.out x h
        · rcases List.mem_append.1 h with h | h
          · exact hdL_u8 _ _ x h
          · exact packTs_u8 _ x h) (by simp only [List.length_append]; omega)).mono ?_
      rintro ee w4 ⟨rfl, hp4, hb4⟩
      have HP4 : Hid (Pk w4 g (b ++ (hdL m n ++ packTs (l.take (j + 1))))) := Lib.hid (by rw [HS.out]; exact hp4)
      have HB4 := Lib.hid (HB1.out.trans hb4)
      clear hp4 hb4
      go_wp2_with fail
      go_roundw
      case rel => exact ⟨j + 1, by omega, by go_num, HP4, HB4⟩
      case measure => simp [intOf]; omega
    · have hjj : l.length = j := by omega
      have HJ := Lib.hid (show l.take j = l from by rw [← hjj, List.take_length])
      rw [HJ.out] at HPj
      go_wp2_with fail
      (first | go_end0 | refine bodyPost_ret (results_none rfl _ _ _) rfl ?_)
      exact ⟨rfl, HPj.out, HBj.out⟩
end Go.Proofs.YtggdenkmohnijaaGreatDoor
