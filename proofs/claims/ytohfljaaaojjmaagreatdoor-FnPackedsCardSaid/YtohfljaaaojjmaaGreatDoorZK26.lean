/- Texts of this proof, merged: Rdr9. No condition beyond what each theorem states. -/
import Derived.Test.YtohfljaaaojjmaaGreatDoorZK21
set_option linter.unusedSimpArgs false
set_option linter.unnecessarySimpa false
namespace Go.Proofs.YtohfljaaaojjmaaGreatDoor
open Go.ChangeShapes Go.WideShapes Go.ChangeAt Go.RowKit Go.Joins
set_option linter.unusedVariables false
set_option maxRecDepth 100000
set_option maxHeartbeats 16000000 in
theorem pv_9 (A : Nat) (a : Option Addr) (cap : Nat) (bs : List Int) (hlen : bs.length ≤ 1073741824) (d : Nat) (ih : ∀ (deep : Int) (p : Nat) (w : World), deep.toNat = d → I64 deep → p ≤ bs.length → Pr w A a cap bs p 0 → Env A w → Calls Tryz.prog 87 #[.pointer (some ⟨A, 0, none⟩), .int .i64 deep] w fun e w' => RdO A a cap bs p w (rdP d (bs.drop p)) e w') (deep : Int) (p : Nat) (w : World) (hd : deep.toNat = d + 1) (hI : I64 deep) (hpl : p ≤ bs.length) (hp : Pr w A a cap bs p 0) (henv : Env A w) (k n : Int) (u : Nat) (hmr : markR (bs.drop p) = .ok (k, n, u)) (hsel : k = 9) :
    Calls Tryz.prog 87 #[.pointer (some ⟨A, 0, none⟩), .int .i64 deep] w fun e w' => RdO A a cap bs p w (rdP (d + 1) (bs.drop p)) e w' := by
  have HMR := Lib.hid hmr; clear hmr
  have HSEL := Lib.hid hsel; clear hsel
  obtain ⟨hI0, hI1⟩ := hI
  have hlA := hp.lt
  have IH := Lib.hid ih; clear ih
  have HENV := Lib.hid henv; clear henv
  have HP := Lib.hid (hp.below (below1 w (.cells zV 26)) hlA)
  have HI := Lib.hid (Is.new w zV 26)
  have HK := Lib.hid (Kp.alloc (w := w) (Nat.le_of_lt hlA) (.cells zV 26))
  have HBL := Lib.hid (below1 w (.cells zV 26))
  have hdz : ¬ deep < 1 := by omega
  have hd1 : (deep - 1).toNat = d := by omega
  have HD1 := Lib.hid hd1; clear hd1 hd
  have HU := Lib.hid (fun x (hx : x ∈ bs.drop p) => hp.2.u8 x (List.mem_of_mem_drop hx))
  obtain ⟨hlc, hcap⟩ := hp.2.len
  clear hp
  obtain ⟨L, hL⟩ : ∃ L, rdP (d + 1) (bs.drop p) = L := ⟨_, rfl⟩
  rw [hL]
  have HL := Lib.hid hL; clear hL
  have HGM := Lib.hid (getM_markR bs p hpl)
  go_enter Tryz.func87, Tryz.ntmps87
  go_upto_region 3 with (fail)
  have hs1 : (w.alloc (.cells zV 26)).heap.size = w.heap.size + 1 := by simp
  obtain ⟨R, hR⟩ : ∃ R, w.heap.size = R := ⟨_, rfl⟩
  generalize hW1 : w.alloc (.cells zV 26) = w1 at *
  have hRA : A < R := by omega
  have hA1 : A < w1.heap.size := HP.out.lt
  have hR1 : R < w1.heap.size := by omega
  clear hs1
  rw [hR]
  obtain ⟨z0, z1, z2⟩ := HP.out.1.cells3
  obtain ⟨G, hG⟩ : ∃ G, getM bs (p : Int) = G := ⟨_, rfl⟩
  rw [hG] at HGM
  have HG := Lib.hid hG; clear hG hW1
  go_cut [5, 6, 7] (fun mv ev cv wx => ∃ M, mv = .pointer (some ⟨M, 0, none⟩) ∧ ev = .int .i64 G.2.1 ∧ cv = .int .i64 G.2.2 ∧ w1.heap.size ≤ M ∧ Hid (Is wx M 65 (cM G.1.1 G.1.2)) ∧ Hid (Below w1.heap.size w1 wx))
  case first =>
    refine wp_region_held_drew (S := fun w' => (∀ b o, b < w1.heap.size → w'.cell? ⟨b, o, none⟩ = w1.cell? ⟨b, o, none⟩) ∧ Below (w1.heap.size) w1 w') (by kernel_rfl) (by first | exact ⟨fun _ _ _ => rfl, (Below.refl _ _).drew⟩ | exact keep_step (by assumption) (Below.drew (Below.refl _ _)) (Nat.le_refl _) | exact keep_step (by assumption) (by assumption) (by first | omega | ((try simp only [World.size_drew, size_alloc]); omega) | (have := (‹(_ ∧ Below (w1.heap.size) w1 _)›).2.size; (try simp only [World.size_drew, size_alloc] at this ⊢); omega))) (fun hHeld => ?_)
    refine tkH (i := 0) (oi := ⟨some 18, _, _, _, _, _⟩) (v := ?_) rfl ?_ ?_
    rotate_left 1
    · (intro w hSw; (try dsimp only at hSw); go_simp; try (with_reducible rfl))
    try simp only [Act.put, List.setIfInBounds_toArray, List.set_cons_zero, List.set_cons_succ]
    refine tkH (i := 1) (oi := ⟨some 19, _, _, _, _, _⟩) (v := ?_) rfl ?_ ?_
    rotate_left 1
    · (intro w hSw; (try dsimp only at hSw); go_simp; try (with_reducible rfl))
    try simp only [Act.put, List.setIfInBounds_toArray, List.set_cons_zero, List.set_cons_succ]
    refine tkH (i := 2) (oi := ⟨some 20, _, _, _, _, _⟩) (v := ?_) rfl ?_ ?_
    rotate_left 1
    · (intro w hSw; (try dsimp only at hSw); go_simp; try (with_reducible rfl))
    try simp only [Act.put, List.setIfInBounds_toArray, List.set_cons_zero, List.set_cons_succ]
    refine tkH (i := 3) (oi := ⟨some 21, _, _, _, _, _⟩) (v := ?_) rfl ?_ ?_
    rotate_left 1
    · (intro w hSw; (try dsimp only at hSw); go_simp; try (with_reducible rfl))
    try simp only [Act.put, List.setIfInBounds_toArray, List.set_cons_zero, List.set_cons_succ]
    refine tkH (i := 4) (oi := ⟨some 22, _, _, _, _, _⟩) (v := ?_) rfl ?_ ?_
    rotate_left 1
    · (intro w hSw; (try dsimp only at hSw); go_simp; try (with_reducible rfl))
    try simp only [Act.put, List.setIfInBounds_toArray, List.set_cons_zero, List.set_cons_succ]
    refine tkH (i := 5) (oi := ⟨some 23, _, _, _, _, _⟩) (v := ?_) rfl ?_ ?_
    rotate_left 1
    · (intro w hSw; (try dsimp only at hSw); go_simp; try (with_reducible rfl))
    try simp only [Act.put, List.setIfInBounds_toArray, List.set_cons_zero, List.set_cons_succ]
    refine tkH (i := 6) (oi := ⟨some 24, _, _, _, _, _⟩) (v := ?_) rfl ?_ ?_
    rotate_left 1
    · (intro w hSw; (try dsimp only at hSw); go_simp; try (with_reducible rfl))
    try simp only [Act.put, List.setIfInBounds_toArray, List.set_cons_zero, List.set_cons_succ]
    refine tkH (i := 7) (oi := ⟨some 25, _, _, _, _, _⟩) (v := ?_) rfl ?_ ?_
    rotate_left 1
    · (intro w hSw; (try dsimp only at hSw); go_simp; try (with_reducible rfl))
    try simp only [Act.put, List.setIfInBounds_toArray, List.set_cons_zero, List.set_cons_succ]
    refine wpAnyH_ready (rs := [8, 13]) (by kernel_rfl) (by simp) ?_
    refine AllReadyH.cons (o := ⟨some 26, _, _, _, _, _⟩) rfl (fun K hK => ?_) ?_
    focus (go_simp; (first | (go_at_call 129; refine (impl_GetMark bs a cap A (p : Int) _ (HP.out.2.below EByte.loc (‹_ ∧ Below (w1.heap.size) w1 _›).2 (Nat.le_of_lt hA1)) (by have := (‹_ ∧ Below (w1.heap.size) w1 _›).2.size; omega) ⟨by omega, by omega⟩ (by omega)).mono ?_; rintro e w2 ⟨rfl, hb2⟩; have hq0 := (‹_ ∧ Below (w1.heap.size) w1 _›).2.size; have hq1 := hb2.size; (try simp only [World.size_drew, size_alloc] at hq0 hq1); (try (have hm2 : Is w2 w1.heap.size 65 (cM 0 0) := (Is.new w1.drew (cM 0 0) 65).below hb2 (by simp); have fm := (fun i => hm2.frozen i); have lm := hm2.lt; obtain ⟨m0, m1⟩ := hm2.cells2)); rw [HG.out])); go_wp2_with fail; refine hK.out _ _ (by first | exact ⟨fun _ _ _ => rfl, (Below.refl _ _).drew⟩ | exact keep_step (by assumption) (Below.drew (Below.refl _ _)) (Nat.le_refl _) | exact keep_step (by assumption) (by assumption) (by first | omega | ((try simp only [World.size_drew, size_alloc]); omega) | (have := (‹(_ ∧ Below (w1.heap.size) w1 _)›).2.size; (try simp only [World.size_drew, size_alloc] at this ⊢); omega))) (fun hHeld => ?_); clear hK K; try simp only [Act.put, List.setIfInBounds_toArray, List.set_cons_zero, List.set_cons_succ])
    refine tkH (i := 9) (oi := ⟨some 17, _, _, _, _, _⟩) (v := ?_) rfl ?_ ?_
    rotate_left 1
    · (intro w hSw; (try dsimp only at hSw); go_simp; try (with_reducible rfl))
    try simp only [Act.put, List.setIfInBounds_toArray, List.set_cons_zero, List.set_cons_succ]
    refine tkH (i := 10) (oi := ⟨some 27, _, _, _, _, _⟩) (v := ?_) rfl ?_ ?_
    rotate_left 1
    · (intro w hSw; (try dsimp only at hSw); go_simp; try (with_reducible rfl))
    try simp only [Act.put, List.setIfInBounds_toArray, List.set_cons_zero, List.set_cons_succ]
    refine tkH (i := 11) (oi := ⟨some 28, _, _, _, _, _⟩) (v := ?_) rfl ?_ ?_
    rotate_left 1
    · (intro w hSw; (try dsimp only at hSw); go_simp; try (with_reducible rfl))
    try simp only [Act.put, List.setIfInBounds_toArray, List.set_cons_zero, List.set_cons_succ]
    refine tkH (i := 12) (oi := ⟨some 29, _, _, _, _, _⟩) (v := ?_) rfl ?_ ?_
    rotate_left 1
    · (intro w hSw; (try dsimp only at hSw); go_simp; try (with_reducible rfl))
    try simp only [Act.put, List.setIfInBounds_toArray, List.set_cons_zero, List.set_cons_succ]
    refine wpAnyH_ready (rs := [13]) (by kernel_rfl) (by simp) ?_
    refine AllReadyH.cons (o := ⟨some 5, _, _, _, _, _⟩) rfl (fun K hK => ?_) AllReadyH.nil
    focus (go_simp; go_wp2_with fail; refine hK.out _ _ (by first | (with_reducible exact keep_step (by assumption) (below1 _ _) (by first | omega | ((try simp only [World.size_drew, size_alloc]); omega) | (have := (‹(_ ∧ Below (w1.heap.size) w1 _)›).2.size; (try simp only [World.size_drew, size_alloc] at this ⊢); omega))) | (exact keep_step (by assumption) (below1 _ _) (by first | omega | ((try simp only [World.size_drew, size_alloc]); omega) | (have := (‹(_ ∧ Below (w1.heap.size) w1 _)›).2.size; (try simp only [World.size_drew, size_alloc] at this ⊢); omega)))) (fun hHeld => ?_); clear hK K; try simp only [Act.put, List.setIfInBounds_toArray, List.set_cons_zero, List.set_cons_succ])
    refine wpAnyH_ready (rs := [14]) (by kernel_rfl) (by simp) ?_
    refine AllReadyH.cons (o := ⟨none, _, _, _, _, _⟩) rfl (fun K hK => ?_) AllReadyH.nil
    focus (go_simp; go_wp2_with fail; refine hK.out _ _ (by first | exact keep_step (by assumption) (below1 _ _) (by first | omega | ((try simp only [World.size_drew, size_alloc]); omega) | (have := (‹(_ ∧ Below (w1.heap.size) w1 _)›).2.size; (try simp only [World.size_drew, size_alloc] at this ⊢); omega)) | (clear hHeld; exact keep_step (by assumption) (below1 _ _) (by first | omega | ((try simp only [World.size_drew, size_alloc]); omega) | (have := (‹(_ ∧ Below (w1.heap.size) w1 _)›).2.size; (try simp only [World.size_drew, size_alloc] at this ⊢); omega)))) (fun hHeld => ?_); clear hK K; try simp only [Act.put])
    refine tkH (i := 15) (oi := ⟨some 6, _, _, _, _, _⟩) (v := ?_) rfl ?_ ?_
    rotate_left 1
    · (intro w hSw; (try dsimp only at hSw); go_simp; try (with_reducible rfl))
    try simp only [Act.put, List.setIfInBounds_toArray, List.set_cons_zero, List.set_cons_succ]
    refine tkH (i := 16) (oi := ⟨some 7, _, _, _, _, _⟩) (v := ?_) rfl ?_ ?_
    rotate_left 1
    · (intro w hSw; (try dsimp only at hSw); go_simp; try (with_reducible rfl))
    try simp only [Act.put, List.setIfInBounds_toArray, List.set_cons_zero, List.set_cons_succ]
    refine wpAnyH_done (by kernel_rfl) ?_ _
    rotate_left 1
    refine AllReadyH.cons (o := ⟨some 5, _, _, _, _, _⟩) rfl (fun K hK => ?_) AllReadyH.nil
    focus (go_simp; go_wp2_with fail; refine hK.out _ _ (by first | (with_reducible exact keep_step (by assumption) (below1 _ _) (by first | omega | ((try simp only [World.size_drew, size_alloc]); omega) | (have := (‹(_ ∧ Below (w1.heap.size) w1 _)›).2.size; (try simp only [World.size_drew, size_alloc] at this ⊢); omega))) | (exact keep_step (by assumption) (below1 _ _) (by first | omega | ((try simp only [World.size_drew, size_alloc]); omega) | (have := (‹(_ ∧ Below (w1.heap.size) w1 _)›).2.size; (try simp only [World.size_drew, size_alloc] at this ⊢); omega)))) (fun hHeld => ?_); clear hK K; try simp only [Act.put, List.setIfInBounds_toArray, List.set_cons_zero, List.set_cons_succ])
    refine wpAnyH_ready (rs := [8]) (by kernel_rfl) (by simp) ?_
    refine AllReadyH.cons (o := ⟨some 26, _, _, _, _, _⟩) rfl (fun K hK => ?_) AllReadyH.nil
    focus (go_simp; (first | (go_at_call 129; refine (impl_GetMark bs a cap A (p : Int) _ (HP.out.2.below EByte.loc (‹_ ∧ Below (w1.heap.size) w1 _›).2 (Nat.le_of_lt hA1)) (by have := (‹_ ∧ Below (w1.heap.size) w1 _›).2.size; omega) ⟨by omega, by omega⟩ (by omega)).mono ?_; rintro e w2 ⟨rfl, hb2⟩; have hq0 := (‹_ ∧ Below (w1.heap.size) w1 _›).2.size; have hq1 := hb2.size; (try simp only [World.size_drew, size_alloc] at hq0 hq1); (try (have hm2 : Is w2 w1.heap.size 65 (cM 0 0) := (Is.new w1.drew (cM 0 0) 65).below hb2 (by simp); have fm := (fun i => hm2.frozen i); have lm := hm2.lt; obtain ⟨m0, m1⟩ := hm2.cells2)); rw [HG.out])); go_wp2_with fail; refine hK.out _ _ (by first | exact ⟨fun _ _ _ => rfl, (Below.refl _ _).drew⟩ | exact keep_step (by assumption) (Below.drew (Below.refl _ _)) (Nat.le_refl _) | exact keep_step (by assumption) (by assumption) (by first | omega | ((try simp only [World.size_drew, size_alloc]); omega) | (have := (‹(_ ∧ Below (w1.heap.size) w1 _)›).2.size; (try simp only [World.size_drew, size_alloc] at this ⊢); omega))) (fun hHeld => ?_); clear hK K; try simp only [Act.put, List.setIfInBounds_toArray, List.set_cons_zero, List.set_cons_succ])
    refine tkH (i := 9) (oi := ⟨some 17, _, _, _, _, _⟩) (v := ?_) rfl ?_ ?_
    rotate_left 1
    · (intro w hSw; (try dsimp only at hSw); go_simp; try (with_reducible rfl))
    try simp only [Act.put, List.setIfInBounds_toArray, List.set_cons_zero, List.set_cons_succ]
    refine tkH (i := 10) (oi := ⟨some 27, _, _, _, _, _⟩) (v := ?_) rfl ?_ ?_
    rotate_left 1
    · (intro w hSw; (try dsimp only at hSw); go_simp; try (with_reducible rfl))
    try simp only [Act.put, List.setIfInBounds_toArray, List.set_cons_zero, List.set_cons_succ]
    refine tkH (i := 11) (oi := ⟨some 28, _, _, _, _, _⟩) (v := ?_) rfl ?_ ?_
    rotate_left 1
    · (intro w hSw; (try dsimp only at hSw); go_simp; try (with_reducible rfl))
    try simp only [Act.put, List.setIfInBounds_toArray, List.set_cons_zero, List.set_cons_succ]
    refine tkH (i := 12) (oi := ⟨some 29, _, _, _, _, _⟩) (v := ?_) rfl ?_ ?_
    rotate_left 1
    · (intro w hSw; (try dsimp only at hSw); go_simp; try (with_reducible rfl))
    try simp only [Act.put, List.setIfInBounds_toArray, List.set_cons_zero, List.set_cons_succ]
    refine wpAnyH_ready (rs := [14]) (by kernel_rfl) (by simp) ?_
    refine AllReadyH.cons (o := ⟨none, _, _, _, _, _⟩) rfl (fun K hK => ?_) AllReadyH.nil
    focus (go_simp; go_wp2_with fail; refine hK.out _ _ (by exact keep_step (by assumption) (below2s _ _ _ _) (by omega)) (fun hHeld => ?_); clear hK K; try simp only [Act.put])
    refine tkH (i := 15) (oi := ⟨some 6, _, _, _, _, _⟩) (v := ?_) rfl ?_ ?_
    rotate_left 1
    · (intro w hSw; (try dsimp only at hSw); go_simp; try (with_reducible rfl))
    try simp only [Act.put, List.setIfInBounds_toArray, List.set_cons_zero, List.set_cons_succ]
    refine tkH (i := 16) (oi := ⟨some 7, _, _, _, _, _⟩) (v := ?_) rfl ?_ ?_
    rotate_left 1
    · (intro w hSw; (try dsimp only at hSw); go_simp; try (with_reducible rfl))
    try simp only [Act.put, List.setIfInBounds_toArray, List.set_cons_zero, List.set_cons_succ]
    refine wpAnyH_done (by kernel_rfl) ?_ _
    all_goals
      have hcu := (‹_ ∧ Below (w1.heap.size) w1 _›).2
      go_wp2_with fail
      go_meet
      case rel => first | exact ⟨w1.heap.size, rfl, rfl, rfl, Nat.le_refl _, Lib.hid ((hm2.set 0 _).set 1 _), Lib.hid hcu⟩ | exact ⟨w2.heap.size, rfl, rfl, rfl, by omega, Lib.hid (Is.new w2 _ _), Lib.hid hcu⟩
  case rest =>
    clear z0 z1 z2
    obtain ⟨M, rfl, rfl, rfl, hM1, HM, HBX⟩ := hcut
    rename World => wx
    have HPX := Lib.hid (HP.out.below HBX.out hA1)
    have HIX := Lib.hid (show Is wx R 26 zV from hR ▸ (HI.out.below HBX.out (by omega)))
    have HKX := Lib.hid (HK.out.grow (HBX.out.mono (by have := HK.out.size; omega)) (by omega))
    have HEX := Lib.hid ((HENV.out.step (HK.out.1)).step (HBX.out.mono (Nat.le_of_lt hA1)))
    clear HP HI HBL HENV HG
    have hmr := HMR.out
    have hmi := markR_in HU.out hmr
    have hLL := HL.out
    rw [rdP, hmr] at hLL
    dsimp only at hLL
    have HLL := Lib.hid hLL; clear hLL
    obtain rfl : G = ((k, n), (p : Int) + u, 0) := by rw [HGM.out, hmr]
    clear HL HGM hmr HMR
    dsimp only at HM ⊢
    obtain ⟨⟨hu1, hu2⟩, ⟨hn0, hn1⟩, hk⟩ := hmi
    rw [List.length_drop] at hu2
    have HK9 := Lib.hid hk; clear hk
    obtain ⟨q, hq⟩ : ∃ q, p + u = q := ⟨_, rfl⟩
    have hqi : (p : Int) + (u : Int) = (q : Int) := by omega
    have hql : q ≤ bs.length := by omega
    have HQ := Lib.hid hq; clear hq
    rw [hqi]
    have HPQ := Lib.hid (HPX.out.at (q : Int))
    have hMA : A < M := by omega
    have hMR : R < M := by omega
    have HMQ := Lib.hid (HM.out.miss A 1 (by omega) (.int .i64 (q : Int)))
    have HIQ := Lib.hid (HIX.out.miss A 1 (by omega) (.int .i64 (q : Int)))
    have HKQ := Lib.hid (HKX.out.trans (Kp.cell (A := A) (w := wx) 1 (.int .i64 (q : Int))))
    have HEQ := Lib.hid (HEX.out.step (Kp.cell (A := A) (w := wx) 1 (.int .i64 (q : Int))).1)
    have ff := fun i => HPX.out.1.frozen i
    obtain ⟨z0, z1, z2⟩ := HPX.out.1.cells3
    have hAx : A < wx.heap.size := HPX.out.lt
    go_upto_region 7 with (fail)
    have hAq : A < (wx.setCell ⟨A, 1, none⟩ (.int .i64 (q : Int))).heap.size := HPQ.out.lt
    have hMq : M < (wx.setCell ⟨A, 1, none⟩ (.int .i64 (q : Int))).heap.size := HMQ.out.lt
    have hRq : R < (wx.setCell ⟨A, 1, none⟩ (.int .i64 (q : Int))).heap.size := HIQ.out.lt
    clear ff z0 z1 z2 hAx HPX HIX HM HKX HEX
    generalize wx.setCell ⟨A, 1, none⟩ (.int .i64 (q : Int)) = wq at *
    obtain ⟨m0, m1⟩ := HMQ.out.cells2
    refine wp_region_held_drew (S := fun w' => (∀ b o, b < wq.heap.size → w'.cell? ⟨b, o, none⟩ = wq.cell? ⟨b, o, none⟩) ∧ Below (wq.heap.size) wq w') (by kernel_rfl) (by first | exact ⟨fun _ _ _ => rfl, (Below.refl _ _).drew⟩ | exact keep_step (by assumption) (Below.drew (Below.refl _ _)) (Nat.le_refl _) | exact keep_step (by assumption) (by assumption) (by first | omega | ((try simp only [World.size_drew, size_alloc]); omega) | (have := (‹(_ ∧ Below (wq.heap.size) wq _)›).2.size; (try simp only [World.size_drew, size_alloc] at this ⊢); omega))) (fun hHeld => ?_)
    refine tkH (i := 0) (oi := ⟨some 39, _, _, _, _, _⟩) (v := ?_) rfl ?_ ?_
    rotate_left 1
    · (intro w hSw; (try dsimp only at hSw); go_simp; try (with_reducible rfl))
    try simp only [Act.put, List.setIfInBounds_toArray, List.set_cons_zero, List.set_cons_succ]
    refine tkH (i := 1) (oi := ⟨some 40, _, _, _, _, _⟩) (v := ?_) rfl ?_ ?_
    rotate_left 1
    · (intro w hSw; (try dsimp only at hSw); go_simp; try (with_reducible rfl))
    try simp only [Act.put, List.setIfInBounds_toArray, List.set_cons_zero, List.set_cons_succ]
    refine tkH (i := 2) (oi := ⟨some 41, _, _, _, _, _⟩) (v := ?_) rfl ?_ ?_
    rotate_left 1
    · (intro w hSw; (try dsimp only at hSw); go_simp; try (with_reducible rfl))
    try simp only [Act.put, List.setIfInBounds_toArray, List.set_cons_zero, List.set_cons_succ]
    refine tkH (i := 3) (oi := ⟨some 42, _, _, _, _, _⟩) (v := ?_) rfl ?_ ?_
    rotate_left 1
    · (intro w hSw; (try dsimp only at hSw); go_simp; try (with_reducible rfl))
    try simp only [Act.put, List.setIfInBounds_toArray, List.set_cons_zero, List.set_cons_succ]
    refine tkH (i := 4) (oi := ⟨some 43, _, _, _, _, _⟩) (v := ?_) rfl ?_ ?_
    rotate_left 1
    · (intro w hSw; (try dsimp only at hSw); go_simp; try (with_reducible rfl))
    try simp only [Act.put, List.setIfInBounds_toArray, List.set_cons_zero, List.set_cons_succ]
    refine wpAnyH_ready (rs := [5]) (by kernel_rfl) (by simp) ?_
    refine AllReadyH.cons (o := ⟨some 8, _, _, _, _, _⟩) rfl (fun K hK => ?_) AllReadyH.nil
    go_simp
    go_wp2_with fail
    refine hK.out _ _ (by first | (with_reducible exact keep_step (by assumption) (below1 _ _) (by first | omega | ((try simp only [World.size_drew, size_alloc]); omega) | (have := (‹(_ ∧ Below (wq.heap.size) wq _)›).2.size; (try simp only [World.size_drew, size_alloc] at this ⊢); omega))) | (exact keep_step (by assumption) (below1 _ _) (by first | omega | ((try simp only [World.size_drew, size_alloc]); omega) | (have := (‹(_ ∧ Below (wq.heap.size) wq _)›).2.size; (try simp only [World.size_drew, size_alloc] at this ⊢); omega)))) (fun hHeld => ?_)
    clear hK K
    try simp only [Act.put, List.setIfInBounds_toArray, List.set_cons_zero, List.set_cons_succ]
    refine wpAnyH_ready (rs := [6]) (by kernel_rfl) (by simp) ?_
    refine AllReadyH.cons (o := ⟨none, _, _, _, _, _⟩) rfl (fun K hK => ?_) AllReadyH.nil
    focus (go_simp; go_wp2_with fail; refine hK.out _ _ (by first | exact keep_step (by assumption) (below1 _ _) (by first | omega | ((try simp only [World.size_drew, size_alloc]); omega) | (have := (‹(_ ∧ Below (wq.heap.size) wq _)›).2.size; (try simp only [World.size_drew, size_alloc] at this ⊢); omega)) | (clear hHeld; exact keep_step (by assumption) (below1 _ _) (by first | omega | ((try simp only [World.size_drew, size_alloc]); omega) | (have := (‹(_ ∧ Below (wq.heap.size) wq _)›).2.size; (try simp only [World.size_drew, size_alloc] at this ⊢); omega)))) (fun hHeld => ?_); clear hK K; try simp only [Act.put])
    refine tkH (i := 7) (oi := ⟨some 9, _, _, _, _, _⟩) (v := ?_) rfl ?_ ?_
    rotate_left 1
    · (intro w hSw; (try dsimp only at hSw); go_simp; try (with_reducible rfl))
    try simp only [Act.put, List.setIfInBounds_toArray, List.set_cons_zero, List.set_cons_succ]
    refine wpAnyH_done (by kernel_rfl) ?_ _
    clear hHeld
    clear m0 m1
    obtain ⟨V, hV⟩ : ∃ V, wq.heap.size = V := ⟨_, rfl⟩
    have HBV := Lib.hid (show Below wq.heap.size wq (wq.alloc (.cells #[Value.int IntKind.i64 k, Value.int IntKind.i64 0, Value.int IntKind.i64 0, Value.string ⟨#[]⟩, Value.slice none 0 0] 26)).drew from (below1 wq _).drew)
    have HVV := Lib.hid (show Is (wq.alloc (.cells #[Value.int IntKind.i64 k, Value.int IntKind.i64 0, Value.int IntKind.i64 0, Value.string ⟨#[]⟩, Value.slice none 0 0] 26)).drew V 26 #[Value.int IntKind.i64 k, Value.int IntKind.i64 0, Value.int IntKind.i64 0, Value.string ⟨#[]⟩, Value.slice none 0 0] from hV ▸ (Is.new wq #[Value.int IntKind.i64 k, Value.int IntKind.i64 0, Value.int IntKind.i64 0, Value.string ⟨#[]⟩, Value.slice none 0 0] 26).agree rfl)
    have HMV := Lib.hid (HMQ.out.below HBV.out hMq)
    have HPV := Lib.hid (HPQ.out.below HBV.out hAq)
    have HIV := Lib.hid (HIQ.out.below HBV.out hRq)
    have HKV := Lib.hid (Kp.grow HKQ.out (HBV.out.mono (Kp.size HKQ.out)) (Nat.le_of_lt hlA))
    have HEV := Lib.hid (HEQ.out.step (HBV.out.mono (Nat.le_of_lt hAq)))
    have hMV : M < V := by omega
    have hAV : A < V := by omega
    have hRV : R < V := by omega
    have hwR : w.heap.size ≤ R := by omega
    try rw [hV]
    clear HBV
    generalize (wq.alloc (.cells #[Value.int IntKind.i64 k, Value.int IntKind.i64 0, Value.int IntKind.i64 0, Value.string ⟨#[]⟩, Value.slice none 0 0] 26)).drew = wv at *
    clear HMQ HPQ HIQ HKQ HEQ hAq hMq hRq hV hR
    obtain ⟨m0, m1⟩ := HMV.out.cells2
    obtain ⟨v0, v1, v2, v3, v4⟩ := HVV.out.cells5
    obtain ⟨r0, r1, r2, r3, r4⟩ := HIV.out.cells5
    have fv := fun i => HVV.out.frozen i
    have fr := fun i => HIV.out.frozen i
    have lM := HMV.out.lt; have lV := HVV.out.lt; have lR := HIV.out.lt
    have hltA := HPV.out.lt
    by_cases hk4 : k = 4
    · exact absurd hk4 (by have h1 := HSEL.out; omega)
    by_cases hk78 : k = 7 ∨ k = 8
    · exact absurd hk78 (by have h1 := HSEL.out; omega)
    by_cases hk9 : k = 9 ∨ k = 10
    · obtain ⟨m, rfl⟩ : ∃ m : Nat, n = m := ⟨n.toNat, by have := HK9.out; omega⟩
      have hm : m ≤ 65535 := by have := HK9.out; omega
      have c4 : (k == 4) = false := by simpa using hk4
      have c7 : (k == 7) = false := by simp; omega
      have c8 : (k == 8) = false := by simp; omega
      have hLL := HLL.out
      rw [if_neg hk4, if_neg hk78, if_pos hk9, Int.toNat_natCast, List.drop_drop, HQ.out] at hLL
      obtain ⟨N, hN⟩ : ∃ N, (if k = 10 then 2 * m else m) = N := ⟨_, rfl⟩
      rw [hN] at hLL
      have HLN := Lib.hid hLL; clear hLL HLL
      have hN2 : N ≤ 131070 := by rw [← hN]; split <;> omega
      have HWK := Lib.hid (show ∀ ts : List T, Wf (.mk k 0 0 ⟨#[]⟩ ts) from fun ts => ⟨by show I64 k; exact ⟨by omega, by omega⟩, by show I64 0; exact ⟨by decide, by decide⟩, by show I64 0; exact ⟨by decide, by decide⟩, by show (⟨#[]⟩ : ByteArray).size ≤ maxLen; exact Nat.zero_le _⟩)
      have hsV : V < wv.heap.size := lV
      clear hk4 hk78
      have HIHD := Lib.hid (fun (s : Nat) (W : World) (hs : s ≤ bs.length) (hp : Pr W A a cap bs s 0) (he : Env A W) => IH.out (deep - 1) s W HD1.out ⟨by omega, by omega⟩ hs hp he)
      have c10 : (k == 10) = false := by have h1 := HSEL.out; simp; omega
      have c9 : (k == 9) = true := by have h1 := HSEL.out; simpa using h1
      have hNm : N = m := by rw [← hN, if_neg (by have h1 := HSEL.out; omega)]
      have hmi : N = m := hNm
      clear hN hNm
      try (subst hmi)
      go_wp2_with fail
      go_loopw [12, 129] (fun _ iv wr => ∃ (j s : Nat) (ts : List T) (ar : Option Addr) (cr : Nat), j ≤ N ∧ iv = .int .i64 j ∧ ts.length = j ∧ q ≤ s ∧ s ≤ bs.length ∧ Pr wr A a cap bs s 0 ∧ Is wr V 26 #[.int .i64 k, .int .i64 0, .int .i64 0, .string ⟨#[]⟩, .slice ar j cr] ∧ App TV 5 26 True wr (V + 1) wr.heap.size ar cr ts ∧ Is wr R 26 zV ∧ Kp A w wr ∧ Env A wr ∧
        rdMany (rdP d) N (bs.drop q) = (match rdMany (rdP d) (N - j) (bs.drop s) with | .error c => .error c | .ok (ts2, v) => .ok (ts ++ ts2, (s - q) + v))) (fun _ iv _ => N - (intOf iv).toNat)
      case atStart => exact ⟨0, q, [], none, 0, Nat.zero_le _, rfl, rfl, Nat.le_refl _, hql, HPV.out, HVV.out, App.nil _ _ _, HIV.out, HKV.out, HEV.out, by
        rw [Nat.sub_zero]; cases rdMany (rdP d) N (bs.drop q) with
        | error c => rfl
        | ok x => obtain ⟨ts, v⟩ := x; simp⟩
      case round =>
        obtain ⟨j, s, ts, ar, cr, hj, rfl, htl, hqs, hsl, hpr, hvr, happ, hir, hkr, her, hrel2⟩ := hrel
        try clear hmi
        have HP0 := Lib.hid hpr; have HV0 := Lib.hid hvr; have HA0 := Lib.hid happ; have HI0 := Lib.hid hir; have HK0 := Lib.hid hkr; have HE0 := Lib.hid her; have HREL := Lib.hid hrel2; have HTL := Lib.hid htl
        clear hpr hvr happ hir hkr her hrel2 htl v0 v1 v2 v3 v4 r0 r1 r2 r3 r4 m0 m1 fv fr lV lM lR hltA
        have hVr : V < wr.heap.size := HV0.out.lt
        have hRr : R < wr.heap.size := HI0.out.lt
        have hAr : A < wr.heap.size := HP0.out.lt
        by_cases hlt : j < N
        · have hltz : (j : Int) < (N : Int) := by omega
          have hNj : N - j = (N - (j + 1)) + 1 := by omega
          have HNJ := Lib.hid hNj; clear hNj
          go_wp2_with fail
          refine (HIHD.out s wr hsl HP0.out HE0.out).mono ?_
          rintro e w2 (⟨t, u2, a3, cap3, hok, rfl, hwf, hul, hp2, happ2, hk2⟩ | ⟨c, s2, herr, hc, rfl, hp2, hk2⟩)
          · skip
            have hs2 := hk2.size
            have HWT := Lib.hid hwf; clear hwf
            have HRN := Lib.hid (show rdMany (rdP d) N (bs.drop q) = (match rdMany (rdP d) (N - (j + 1)) (bs.drop (s + u2)) with | .error c => .error c | .ok (ts2, v) => .ok ((ts ++ [t]) ++ ts2, ((s + u2) - q) + v)) from by
              rw [HREL.out, HNJ.out, rdMany, hok]
              dsimp only
              rw [List.drop_drop]
              cases rdMany (rdP d) (N - (j + 1)) (bs.drop (s + u2)) with
              | error c => rfl
              | ok x =>
                obtain ⟨ts2, v⟩ := x
                dsimp only
                rw [List.append_assoc, List.singleton_append, show s - q + (u2 + v) = s + u2 - q + v from by omega])
            clear hok
            have HP2 := Lib.hid hp2
            have HV2 := Lib.hid (hk2.is HV0.out (by omega))
            have HI2 := Lib.hid (hk2.is HI0.out (by omega))
            have HA2 := Lib.hid (HA0.out.kp TV.elem hk2 (by omega) (Nat.le_refl _))
            have HK2 := Lib.hid (HK0.out.trans hk2)
            have HE2 := Lib.hid (HE0.out.step hk2.1)
            obtain ⟨G, g1, g2, g3⟩ := Own.ow.2 happ2.own
            clear hp2 hk2 happ2
            have hV2 : V < w2.heap.size := HV2.out.lt
            have hA2 : A < w2.heap.size := HP2.out.lt
            have H2 := Lib.hid (below1 w2 (.cells (cV t a3 cap3) 26))
            have HN := Lib.hid ((HA2.out.below TV.elem H2.out (by omega)).below TV.elem (below1 (w2.alloc (.cells (cV t a3 cap3) 26)) (.cells (cV t a3 cap3) 26)) (by simp; omega))
            have HTV := Lib.hid (TV.box (w := w2.alloc (.cells (cV t a3 cap3) 26)) 26 (g1.agree (fun f hf => H2.out.block f (g3 f hf).2.2.lt)) HWT.out (fun f hf => by have := (g3 f hf).2.2.lt; simp; omega))
            have HG := Lib.hid (show ∀ f ∈ G, wr.heap.size ≤ f ∧ f < ((w2.alloc (.cells (cV t a3 cap3) 26)).alloc (.cells (cV t a3 cap3) 26)).heap.size ∧ Unf ((w2.alloc (.cells (cV t a3 cap3) 26)).alloc (.cells (cV t a3 cap3) 26)) f from fun f hf => ⟨(g3 f hf).1, by have := (g3 f hf).2.1; simp; omega, ((g3 f hf).2.2.alloc _).alloc _⟩)
            have HV4 := Lib.hid ((HV2.out.alloc (.cells (cV t a3 cap3) 26)).alloc (.cells (cV t a3 cap3) 26))
            have HI4 := Lib.hid ((HI2.out.alloc (.cells (cV t a3 cap3) 26)).alloc (.cells (cV t a3 cap3) 26))
            have HB4 := Lib.hid (show Below w2.heap.size w2 ((w2.alloc (.cells (cV t a3 cap3) 26)).alloc (.cells (cV t a3 cap3) 26)) from H2.out.trans ((below1 _ _).mono (by simp)))
            have HND := Lib.hid g2
            have ff := fun i => HV2.out.frozen i
            obtain ⟨v0, v1, v2, v3, v4⟩ := HV2.out.cells5
            obtain ⟨z0, z1, z2⟩ := HP2.out.1.cells3
            have htl2 := HTL.out
            clear g1 g2 g3
            go_wp2_with (at_builtin; refine wpList_app1 TV.elem rfl _ _ 24 rfl (.agg zV) 64 Tryz.underlying24 info_Val rfl (V + 1) wr.heap.size ar cr ts (by first | rfl | (rw [htl2]; rfl)) HN.out (by simp; omega) (by omega) (w2.heap.size + 1) 0 1 t G (by first | rfl | simp) (by first | exact HTV.out | (have := HTV.out; simpa using this)) HND.out HG.out (by rw [htl2]; unfold maxLen; omega) (by rw [htl2]; omega) ?_; intro ar2 cr2 w6 happ6 hb6 _; have hout4 := HV4.out.below hb6 (by omega); have ff4 := (fun i => hout4.frozen i); obtain ⟨p0, p1, p2, p3, p4⟩ := hout4.cells5)
            have hlt6 := hout4.lt
            have hb6' := hb6.mono (show A + 1 ≤ V + 1 from by omega)
            have hP6 := (HP2.out.below HB4.out hA2).below hb6' (by omega)
            have hI6 := HI4.out.below hb6 (by omega)
            have hK6 : Kp A w w6 := Kp.grow (Kp.grow HK2.out (HB4.out.mono (Kp.size HK2.out)) (Nat.le_of_lt hlA)) (hb6.mono (by omega)) (Nat.le_of_lt hlA)
            have hE6 := (HE2.out.step (HB4.out.mono (by omega))).step (hb6.mono (show A ≤ V + 1 from by omega))
            go_roundw
            case rel =>
              refine ⟨j + 1, s + u2, ts ++ [t], ar2, cr2, by omega, by go_num, by rw [List.length_append, htl2]; rfl, by omega, hul, hP6.miss V 4 (by omega) _, ?_, ?_, hI6.miss V 4 (by omega) _, Kp.set (g := V) hK6 (by omega) (by omega) 4 _, hE6.step ((Below.refl A _).setCell (p := ⟨V, 4, none⟩) (Nat.le_of_lt hAV) _), HRN.out⟩
              · have hh := hout4.set 4 (.slice ar2 (j + 1) cr2)
                have hll : (ts ++ [t]).length = j + 1 := by rw [List.length_append, htl2]; rfl
                first | exact hh | (rw [hll]; exact hh) | (simpa [hll] using hh)
              · rw [size_set]
                exact happ6.agree TV.elem (fun f hf _ => heap_miss _ _ _ _ (by omega) _)
            case measure => simp [intOf]; omega
          · skip
            have HLE := Lib.hid (show L = .error c from by rw [← HLN.out, HREL.out, HNJ.out, rdMany, herr])
            have HP2 := Lib.hid hp2
            have HI2 := Lib.hid (hk2.is HI0.out (by omega))
            have HK2 := Lib.hid (HK0.out.trans hk2)
            have HC := Lib.hid hc
            have hcb : (c != 0) = true := by simp; omega
            have hR2 : R < w2.heap.size := HI2.out.lt
            have hA2 : A < w2.heap.size := HP2.out.lt
            clear hp2 hk2 herr hc HREL HNJ HTL HLN HIHD HWK HE0 HA0 HP0 HI0 HK0
            obtain ⟨z0, z1, z2⟩ := HP2.out.1.cells3
            have fr := fun i => HI2.out.frozen i
            obtain ⟨r0, r1, r2, r3, r4⟩ := HI2.out.cells5
            go_wp2_with fail
            have hI := (((((HI2.out.set 0 (.int .i64 0)).set 1 (.int .i64 0)).set 2 (.int .i64 0)).set 3 (.string ⟨#[]⟩)).set 4 (.slice none 0 0)).alloc (.cells zV 26)
            obtain ⟨e0, e1, e2, e3, e4⟩ := hI.cells5
            obtain ⟨_, _, _, _, _, hbel, hold, hsz⟩ := out5 HI2.out.blk (.int .i64 0) (.int .i64 0) (.int .i64 0) (.string ⟨#[]⟩) (.slice none 0 0) R (Nat.le_refl _)
            have hP8 := HP2.out.below hbel hRA
            refine bodyPost_ret (v := .agg zV) (by simp [results, Tryz.results87, go_sem, e0, e1, e2, e3, e4]) rfl (Or.inr ⟨c, s2, HLE.out, HC.out, rfl, hP8.below (below1 _ _) hP8.lt, (Kp.grow HK2.out (hbel.mono (by omega)) (Nat.le_of_lt hlA)).trans (Kp.alloc (Nat.le_of_lt hP8.lt) _)⟩)
        · skip
          obtain rfl : j = N := by omega
          have hltz : ¬ (j : Int) < (j : Int) := by omega
          have HLE := Lib.hid (show L = .ok (.mk k 0 0 ⟨#[]⟩ ts, u + (s - q)) from by
            rw [← HLN.out, HREL.out, Nat.sub_self, rdMany]; simp)
          obtain ⟨v0, v1, v2, v3, v4⟩ := HV0.out.cells5
          obtain ⟨r0, r1, r2, r3, r4⟩ := HI0.out.cells5
          have fr := fun i => HI0.out.frozen i
          clear hlt hj HREL HLN HIHD HE0
          go_wp2_with fail
          obtain ⟨e0, e1, e2, e3, e4, hbel, hold, hsz⟩ := out5 HI0.out.blk (.int .i64 k) (.int .i64 0) (.int .i64 0) (.string ⟨#[]⟩) (.slice ar j cr) R (Nat.le_refl _)
          refine bodyPost_ret (v := .agg #[.int .i64 k, .int .i64 0, .int .i64 0, .string ⟨#[]⟩, .slice ar j cr]) (by simp [results, Tryz.results87, go_sem, e0, e1, e2, e3, e4]) rfl (Or.inl ⟨_, u + (s - q), ar, cr, HLE.out, ?_, HWK.out ts, by have := HQ.out; omega, ?_, ?_, Kp.grow HK0.out (hbel.mono (by omega)) (by omega)⟩)
          · show Ending.returned (.agg #[.int .i64 k, .int .i64 0, .int .i64 0, .string ⟨#[]⟩, .slice ar j cr]) = .returned (.agg #[.int .i64 k, .int .i64 0, .int .i64 0, .string ⟨#[]⟩, .slice ar ts.length cr])
            rw [HTL.out]
          · rw [show p + (u + (s - q)) = s from by have := HQ.out; omega]
            exact HP0.out.below hbel hRA
          · rw [hsz]
            exact (HA0.out.agree TV.elem (fun f h1 h2 => hold f (by omega))).more (by omega) (Nat.le_refl _)
    exact absurd (show k = 9 ∨ k = 10 from by have h1 := HSEL.out; omega) hk9
end Go.Proofs.YtohfljaaaojjmaaGreatDoor
