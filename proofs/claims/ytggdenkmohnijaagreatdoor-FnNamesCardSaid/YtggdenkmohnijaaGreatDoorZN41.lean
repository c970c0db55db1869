/- Texts of this proof, merged: LawNames. No condition beyond what each theorem states. -/
import Derived.Test.YtggdenkmohnijaaGreatDoorZN25
import Derived.Test.YtggdenkmohnijaaGreatDoorZN40
set_option linter.unusedSimpArgs false
set_option linter.unnecessarySimpa false
namespace Go.Proofs.YtggdenkmohnijaaGreatDoor
open Go.ChangeShapes Go.WideShapes Go.ChangeAt Go.RowKit Go.Joins
set_option linter.unusedVariables false
set_option maxRecDepth 100000
theorem impl_NameFor (t : T) (h : allB ownB t = true → NuOk t) (hsz : T.sz t ≤ 1048576) : NameForOk t := impl_nameFor_of t (fun _ ho => ⟨(h ho).top.2, impl_named t ho (h ho)⟩) hsz
theorem spec_NameFor (t : T) (h : allB ownB t = true → NuOk t) (hsz : T.sz t ≤ 1048576) : SNameOk t := spec_nameFor_of t (fun _ ho => ⟨(h ho).top.2, spec_l19Text t ho (h ho)⟩) hsz
theorem namC_ok {t : T} (h : NamC t) : allB ownB t = true → NuOk t := fun ho => nuOk_any ho h.1 h.2.1 h.2.2
theorem nfT_sz {u : T} (h : Dr 4 u) : T.sz (nfT u) ≤ 1048576 := by
  have ho := AllT.own h.1
  have h1 := nuX_size ho
  have h2 := nuT_dr u h.1
  have h3 := dr_sz u 4 h.1 h.2
  have e : drB 4 = 4662 := by decide
  unfold nfT
  split
  · omega
  · rw [sz_of]; simp only [T.szL]; omega
set_option maxHeartbeats 16000000 in
theorem FnNames_walk (x0 : List Int) (a0 : Option Addr) (c0 B0 : Nat) (w : World) (hr0 : Rd EByte 1 w B0 a0 c0 x0) (_ : True) (hB0 : B0 ≤ w.heap.size) (henv : Env w.heap.size w) :
    Calls Tryz.prog 4 #[.slice a0 x0.length c0] w fun e w' => e = .returned (.bool true) ∧ Below w.heap.size w w' := by
  have HENV := Lib.hid henv; clear henv
  have F0 : Hid (Rd EByte 1 w w.heap.size a0 c0 x0) := Lib.hid (hr0.more hB0)
  clear hr0
  obtain ⟨hn0, hm0⟩ := F0.out.len
  go_enter Tryz.func4, Tryz.ntmps4
  go_wp2_with fail
  refine (laws_big a0 c0 x0 w).mono ?_
  rintro e w1 ⟨rfl, hw1⟩
  have hw2 := hw1.symm; subst hw2; clear hw1
  by_cases hbig : 1048576 < x0.length
  · have hbb : decide (1048576 < x0.length) = true := decide_eq_true hbig
    rw [hbb]
    go_wp2_with fail
    go_ret
    exact ⟨rfl, Below.refl _ _⟩
  have hbb : decide (1048576 < x0.length) = false := decide_eq_false hbig
  rw [hbb]
  have hl0 : x0.length ≤ 1048576 := by omega
  clear hbb hbig
  go_wp2_with fail
  refine (spec_DrawNameFor a0 c0 w.heap.size x0 w F0.out (Nat.le_refl _) hl0).mono ?_
  rintro e w1 ⟨tv, av, cv, rfl, htv, hzv, hcv, hrv, hb⟩
  have HS1 := Lib.hid (hb)
  have s1 : w.heap.size ≤ w1.heap.size := HS1.out.size
  have HB1 := HS1
  clear hb
  have RV1 := Lib.hid hrv; clear hrv
  have HTV := Lib.hid htv; clear htv
  have HVI := Lib.hid (impl_NameFor tv (namC_ok hcv) (by omega))
  have HVS := Lib.hid (spec_NameFor tv (namC_ok hcv) (by omega))
  clear hcv
  obtain ⟨tx, htx⟩ : ∃ t, nfT tv = t := ⟨_, rfl⟩
  have HX := Lib.hid htx; clear htx
  go_wp2_with fail
  obtain ⟨gv, gvE⟩ : ∃ g, w1.heap.size = g := ⟨_, rfl⟩
  generalize hW : w1.alloc (.cells (cV tv av cv) 26) = w2
  have hbx : Below w1.heap.size w1 w2 := by subst hW; exact below1 _ _
  have BV2 : Hid (Is w2 gv 26 (cV tv av cv)) := Lib.hid (by subst hW; rw [← gvE]; exact Is.new _ _ _)
  clear hW
  try rw [gvE]
  have HS2 := Lib.hid (hbx)
  have s2 : w1.heap.size ≤ w2.heap.size := HS2.out.size
  have HB2 := Lib.hid (HB1.out.trans (HS2.out.mono (by omega)))
  have RV2 := Lib.hid (R.fwd RV1.out HS2.out)
  clear HS2 HB1 RV1
  clear hbx
  have gvl : gv < w2.heap.size := BV2.out.lt
  obtain ⟨v0, v1, v2, v3, v4⟩ := BV2.out.cells5; have vl := BV2.out.lt
  go_wp2_with fail
  refine (HVI.out av cv w2.heap.size w2 RV2.out HTV.out (envMore (HENV.out.step HB2.out) (by have := HB2.out.size; omega)) (Nat.le_refl _)).mono ?_
  rintro e w3 ⟨ax, cx, rfl, hwx, hox, hb⟩
  rw [HX.out] at hwx hox ⊢
  have hrx := hox.read
  clear hox hwx v0 v1 v2 v3 v4 vl
  have HS3 := Lib.hid (hb)
  have s3 : w2.heap.size ≤ w3.heap.size := HS3.out.size
  have HB3 := Lib.hid (HB2.out.trans (HS3.out.mono (by omega)))
  have RV3 := Lib.hid (R.fwd RV2.out HS3.out)
  have BV3 := Lib.hid (Is.below BV2.out HS3.out (by omega))
  clear HS3 HB2 RV2 BV2
  clear hb
  have RX3 := Lib.hid hrx; clear hrx
  go_wp2_with fail
  obtain ⟨gx, gxE⟩ : ∃ g, w3.heap.size = g := ⟨_, rfl⟩
  generalize hW : w3.alloc (.cells (cV tx ax cx) 26) = w4
  have hbx : Below w3.heap.size w3 w4 := by subst hW; exact below1 _ _
  have BX4 : Hid (Is w4 gx 26 (cV tx ax cx)) := Lib.hid (by subst hW; rw [← gxE]; exact Is.new _ _ _)
  clear hW
  try rw [gxE]
  have HS4 := Lib.hid (hbx)
  have s4 : w3.heap.size ≤ w4.heap.size := HS4.out.size
  have HB4 := Lib.hid (HB3.out.trans (HS4.out.mono (by omega)))
  have RV4 := Lib.hid (R.fwd RV3.out HS4.out)
  have BV4 := Lib.hid (Is.below BV3.out HS4.out (by omega))
  have RX4 := Lib.hid (R.fwd RX3.out HS4.out)
  clear HS4 HB3 RV3 BV3 RX3
  clear hbx
  have gxl : gx < w4.heap.size := BX4.out.lt
  go_wp2_with fail
  refine (spec_DrawVal a0 c0 w4.heap.size x0 w4 ((F0.out.below EByte.loc HB4.out (Nat.le_refl _)).more (by have := HB4.out.size; omega)) (Nat.le_refl _) hl0).mono ?_
  rintro e w5 ⟨tu, au, cu, rfl, htu, hzu, hdu, hru, hb⟩
  have HS5 := Lib.hid (hb)
  have s5 : w4.heap.size ≤ w5.heap.size := HS5.out.size
  have HB5 := Lib.hid (HB4.out.trans (HS5.out.mono (by omega)))
  have RV5 := Lib.hid (R.fwd RV4.out HS5.out)
  have BV5 := Lib.hid (Is.below BV4.out HS5.out (by omega))
  have RX5 := Lib.hid (R.fwd RX4.out HS5.out)
  have BX5 := Lib.hid (Is.below BX4.out HS5.out (by omega))
  clear HS5 HB4 RV4 BV4 RX4 BX4
  clear hb
  have RU5 := Lib.hid hru; clear hru
  have HTU := Lib.hid htu; clear htu
  have hou := AllT.own hdu.1
  have HUI := Lib.hid (impl_NameFor tu (fun _ => nuOk_dr tu 4 (by decide) hdu.1 hdu.2) (by omega))
  have hok := nfT_ok hou
  have hys := nfT_sz hdu
  obtain ⟨ty, hty⟩ : ∃ t, nfT tu = t := ⟨_, rfl⟩
  rw [hty] at hok hys
  obtain ⟨hy7, hyo, hyf, hyu⟩ := hok
  have HYT := Lib.hid hty; have HYO := Lib.hid hyo; have HYF := Lib.hid hyf; have HYU := Lib.hid hyu
  have HYI := Lib.hid (impl_nameFor_of ty (fun h => absurd hy7 h) hys)
  have by7 : (ty.k == 7) = true := by simpa using hy7
  clear hdu hou hty hyo hyf hyu hy7
  go_wp2_with fail
  obtain ⟨gu, guE⟩ : ∃ g, w5.heap.size = g := ⟨_, rfl⟩
  generalize hW : w5.alloc (.cells (cV tu au cu) 26) = w6
  have hbx : Below w5.heap.size w5 w6 := by subst hW; exact below1 _ _
  have BU6 : Hid (Is w6 gu 26 (cV tu au cu)) := Lib.hid (by subst hW; rw [← guE]; exact Is.new _ _ _)
  clear hW
  try rw [guE]
  have HS6 := Lib.hid (hbx)
  have s6 : w5.heap.size ≤ w6.heap.size := HS6.out.size
  have HB6 := Lib.hid (HB5.out.trans (HS6.out.mono (by omega)))
  have RV6 := Lib.hid (R.fwd RV5.out HS6.out)
  have BV6 := Lib.hid (Is.below BV5.out HS6.out (by omega))
  have RX6 := Lib.hid (R.fwd RX5.out HS6.out)
  have BX6 := Lib.hid (Is.below BX5.out HS6.out (by omega))
  have RU6 := Lib.hid (R.fwd RU5.out HS6.out)
  clear HS6 HB5 RV5 BV5 RX5 BX5 RU5
  clear hbx
  have gul : gu < w6.heap.size := BU6.out.lt
  obtain ⟨v0, v1, v2, v3, v4⟩ := BU6.out.cells5; have vl := BU6.out.lt
  go_wp2_with fail
  refine (HUI.out au cu w6.heap.size w6 RU6.out HTU.out (envMore (HENV.out.step HB6.out) (by have := HB6.out.size; omega)) (Nat.le_refl _)).mono ?_
  rintro e w7 ⟨ay, cy, rfl, hwy, hoy, hb⟩
  rw [HYT.out] at hwy hoy ⊢
  have hry := hoy.read
  have HWY := Lib.hid hwy
  clear hoy hwy v0 v1 v2 v3 v4 vl
  have HS7 := Lib.hid (hb)
  have s7 : w6.heap.size ≤ w7.heap.size := HS7.out.size
  have HB7 := Lib.hid (HB6.out.trans (HS7.out.mono (by omega)))
  have RV7 := Lib.hid (R.fwd RV6.out HS7.out)
  have BV7 := Lib.hid (Is.below BV6.out HS7.out (by omega))
  have RX7 := Lib.hid (R.fwd RX6.out HS7.out)
  have BX7 := Lib.hid (Is.below BX6.out HS7.out (by omega))
  have RU7 := Lib.hid (R.fwd RU6.out HS7.out)
  have BU7 := Lib.hid (Is.below BU6.out HS7.out (by omega))
  clear HS7 HB6 RV6 BV6 RX6 BX6 RU6 BU6
  clear hb
  have RY7 := Lib.hid hry; clear hry
  go_wp2_with fail
  obtain ⟨gy, gyE⟩ : ∃ g, w7.heap.size = g := ⟨_, rfl⟩
  generalize hW : w7.alloc (.cells (cV ty ay cy) 26) = w8
  have hbx : Below w7.heap.size w7 w8 := by subst hW; exact below1 _ _
  have BY8 : Hid (Is w8 gy 26 (cV ty ay cy)) := Lib.hid (by subst hW; rw [← gyE]; exact Is.new _ _ _)
  clear hW
  try rw [gyE]
  have HS8 := Lib.hid (hbx)
  have s8 : w7.heap.size ≤ w8.heap.size := HS8.out.size
  have HB8 := Lib.hid (HB7.out.trans (HS8.out.mono (by omega)))
  have RV8 := Lib.hid (R.fwd RV7.out HS8.out)
  have BV8 := Lib.hid (Is.below BV7.out HS8.out (by omega))
  have RX8 := Lib.hid (R.fwd RX7.out HS8.out)
  have BX8 := Lib.hid (Is.below BX7.out HS8.out (by omega))
  have RU8 := Lib.hid (R.fwd RU7.out HS8.out)
  have BU8 := Lib.hid (Is.below BU7.out HS8.out (by omega))
  have RY8 := Lib.hid (R.fwd RY7.out HS8.out)
  clear HS8 HB7 RV7 BV7 RX7 BX7 RU7 BU7 RY7
  clear hbx
  have gyl : gy < w8.heap.size := BY8.out.lt
  obtain ⟨m0, m1, m2, m3, m4⟩ := BV8.out.cells5; have ml := BV8.out.lt
  obtain ⟨k0, k1, k2, k3, k4⟩ := BX8.out.cells5; have kl := BX8.out.lt
  obtain ⟨u0, u1, u2, u3, u4⟩ := BU8.out.cells5; have ul := BU8.out.lt
  obtain ⟨p0, p1, p2, p3, p4⟩ := BY8.out.cells5; have pl := BY8.out.lt
  have HEN := Lib.hid (envMore (HENV.out.step HB8.out) (show w.heap.size ≤ w8.heap.size from by have := HB8.out.size; omega))
  go_upto_region 7 with (fail)
  go_region_held3 (fun w' => (∀ b o, b < w8.heap.size → w'.cell? ⟨b, o, none⟩ = w8.cell? ⟨b, o, none⟩) ∧ Below (w8.heap.size) w8 w') (first | exact ⟨fun _ _ _ => rfl, (Below.refl _ _).drew⟩ | assumption | exact keep_step (by assumption) (Below.drew (Below.refl _ _)) (Nat.le_refl _) | exact keep_step (by assumption) (by assumption) (by first | omega | (simp only [World.size_drew]; omega) | (simp only [size_alloc]; omega) | (simp only [World.size_drew, size_alloc]; omega) | (have := (‹(_ ∧ Below (w8.heap.size) w8 _)›).2.size; first | omega | (simp only [World.size_drew]; omega) | (simp only [size_alloc]; omega) | (simp only [World.size_drew, size_alloc]; omega) | (simp only [World.size_drew] at this; omega) | (simp only [size_alloc] at this; omega) | (simp only [World.size_drew, size_alloc] at this; omega))) | exact keep_step (by assumption) (below1 _ _) (by first | omega | (simp only [World.size_drew]; omega) | (simp only [size_alloc]; omega) | (simp only [World.size_drew, size_alloc]; omega) | (have := (‹(_ ∧ Below (w8.heap.size) w8 _)›).2.size; first | omega | (simp only [World.size_drew]; omega) | (simp only [size_alloc]; omega) | (simp only [World.size_drew, size_alloc]; omega) | (simp only [World.size_drew] at this; omega) | (simp only [size_alloc] at this; omega) | (simp only [World.size_drew, size_alloc] at this; omega)))) (first | (go_at_call 24; have hguard := HS1; clear hguard; refine (laws_sameVal tx tx ax a1 cx c1 v1.heap.size v1 (R.more HRX1.out (by omega)) HS1.out (Nat.le_refl _)).mono ?_; rintro e v2 ⟨rfl, hb⟩; rw [sameT_true rfl]) | (go_at_call 29; refine (HVS.out av cv w8.heap.size _ (R.below RV8.out (‹_ ∧ Below (w8.heap.size) w8 _›).2 (Nat.le_refl _)) HTV.out (‹_ ∧ Below (w8.heap.size) w8 _›).2.size).mono ?_; rintro e v1 ⟨a1, c1, rfl, hw1, ho1, hb⟩; rw [HX.out] at ho1 ⊢; have hsv1 := Nat.le_trans ((‹_ ∧ Below (w8.heap.size) w8 _›).2).size hb.size; have HS1 := Lib.hid ho1.read; have HRX1 := Lib.hid (show Rr v1 w8.heap.size ax cx tx.l from R.below (R.below RX8.out (‹_ ∧ Below (w8.heap.size) w8 _›).2 (Nat.le_refl _)) hb (‹_ ∧ Below (w8.heap.size) w8 _›).2.size); clear ho1 hw1))
  all_goals
    have hcu := (‹_ ∧ Below (w8.heap.size) w8 _›).2
    have sE := hcu.size
    have RUz := Lib.hid (R.fwd RU8.out hcu); have RYz := Lib.hid (R.fwd RY8.out hcu)
    have HEz := Lib.hid (envMore (HEN.out.step hcu) sE)
    have BUz := Lib.hid (BU8.out.below hcu (by omega)); have BYz := Lib.hid (BY8.out.below hcu (by omega))
    have HBz := Lib.hid (HB8.out.trans (hcu.mono (by omega)))
    clear hcu HS1 HRX1
    clear m0 m1 m2 m3 m4 ml k0 k1 k2 k3 k4 kl
    obtain ⟨q0, q1, q2, q3, q4⟩ := BUz.out.cells5; have ql := BUz.out.lt
    obtain ⟨s0, s1, s2, s3, s4⟩ := BYz.out.cells5; have sl := BYz.out.lt
    rename _ ∧ Below (w8.heap.size) w8 v2 => hH7
    clear hH7 hb u0 u1 u2 u3 u4 ul p0 p1 p2 p3 p4 pl
    go_upto_region 9 with (fail)
    have HZ := Lib.hid (show True from trivial)
    by_cases hu7 : tu.k = 7
    case neg =>
      have bu7 : (tu.k != 7) = true := by simpa using hu7
      clear hu7
      refine wp_region_held_drew (S := fun w' => (∀ b o, b < v2.heap.size → w'.cell? ⟨b, o, none⟩ = v2.cell? ⟨b, o, none⟩) ∧ Below (v2.heap.size) v2 w') (by kernel_rfl) (by first | exact ⟨fun _ _ _ => rfl, (Below.refl _ _).drew⟩ | exact keep_step (by assumption) (Below.drew (Below.refl _ _)) (Nat.le_refl _) | exact keep_step (by assumption) (by assumption) (by first | omega | ((try simp only [World.size_drew, size_alloc]); omega) | (have := (‹(_ ∧ Below (v2.heap.size) v2 _)›).2.size; (try simp only [World.size_drew, size_alloc] at this ⊢); omega))) (fun hHeld => ?_)
      refine wpAnyH_take (i := 0) (oi := ⟨some 22, _, _, _, _, _⟩) (v := ?_) rfl (by kernel_rfl) (by kernel_rfl) (by kernel_rfl) (fun _ _ _ h => h) (Or.inl ⟨by rfl, ?_⟩) (by assumption) ?_
      rotate_left 1
      · (intro w hSw; (try dsimp only at hSw); go_simp; (try simp only [bu7, by7]); try (with_reducible rfl))
      try simp only [Act.put, List.setIfInBounds_toArray, List.set_cons_zero, List.set_cons_succ]
      refine wpAnyH_take (i := 1) (oi := ⟨some 23, _, _, _, _, _⟩) (v := ?_) rfl (by kernel_rfl) (by kernel_rfl) (by kernel_rfl) (fun _ _ _ h => h) (Or.inl ⟨by rfl, ?_⟩) (by assumption) ?_
      rotate_left 1
      · (intro w hSw; (try dsimp only at hSw); go_simp; (try simp only [bu7, by7]); try (with_reducible rfl))
      try simp only [Act.put, List.setIfInBounds_toArray, List.set_cons_zero, List.set_cons_succ]
      refine wpAnyH_take (i := 2) (oi := ⟨some 24, _, _, _, _, _⟩) (v := ?_) rfl (by kernel_rfl) (by kernel_rfl) (by kernel_rfl) (fun _ _ _ h => h) (Or.inl ⟨by rfl, ?_⟩) (by assumption) ?_
      rotate_left 1
      · (intro w hSw; (try dsimp only at hSw); go_simp; (try simp only [bu7, by7]); try (with_reducible rfl))
      try simp only [Act.put, List.setIfInBounds_toArray, List.set_cons_zero, List.set_cons_succ]
      refine wpAnyH_take (i := 3) (oi := ⟨some 25, _, _, _, _, _⟩) (v := ?_) rfl (by kernel_rfl) (by kernel_rfl) (by kernel_rfl) (fun _ _ _ h => h) (Or.inl ⟨by rfl, ?_⟩) (by assumption) ?_
      rotate_left 1
      · (intro w hSw; (try dsimp only at hSw); go_simp; (try simp only [bu7, by7]); try (with_reducible rfl))
      try simp only [Act.put, List.setIfInBounds_toArray, List.set_cons_zero, List.set_cons_succ]
      refine wpAnyH_take (i := 4) (oi := ⟨some 26, _, _, _, _, _⟩) (v := ?_) rfl (by kernel_rfl) (by kernel_rfl) (by kernel_rfl) (fun _ _ _ h => h) (Or.inl ⟨by first | rfl | (simp only [bu7, by7]; rfl), ?_⟩) (by assumption) ?_
      rotate_left 1
      · (intro w hSw; (try dsimp only at hSw); go_simp; (try simp only [bu7, by7]); try (with_reducible rfl))
      try simp only [Act.put, List.setIfInBounds_toArray, List.set_cons_zero, List.set_cons_succ]
      refine wpAnyH_ready (rs := [5]) (by kernel_rfl) (by simp) ?_
      refine AllReadyH.cons (o := ⟨some 27, _, _, _, _, _⟩) rfl (fun K hK => ?_) AllReadyH.nil
      go_simp
      (first | (go_at_call 30; refine (impl_ValOk ty ay cy v2.heap.size _ (R.below RYz.out (‹_ ∧ Below (v2.heap.size) v2 _›).2 (Nat.le_refl _)) HWY.out hys (HEz.out.step (‹_ ∧ Below (v2.heap.size) v2 _›).2) (‹_ ∧ Below (v2.heap.size) v2 _›).2.size).mono ?_; rintro e y1 ⟨rfl, hb⟩; rw [HYO.out]) | (go_at_call 27; refine (HYI.out ay cy v2.heap.size _ (R.below RYz.out (‹_ ∧ Below (v2.heap.size) v2 _›).2 (Nat.le_refl _)) HWY.out (HEz.out.step (‹_ ∧ Below (v2.heap.size) v2 _›).2) (‹_ ∧ Below (v2.heap.size) v2 _›).2.size).mono ?_; rintro e y2 ⟨a2, c2, rfl, hw2, ho2, hb⟩; rw [HYF.out] at ho2 ⊢; have hsy2 := Nat.le_trans ((‹_ ∧ Below (v2.heap.size) v2 _›).2).size hb.size; have HS2 := Lib.hid ho2.read; have HRY2 := Lib.hid (show Rr y2 v2.heap.size ay cy ty.l from R.below (R.below RYz.out (‹_ ∧ Below (v2.heap.size) v2 _›).2 (Nat.le_refl _)) hb (‹_ ∧ Below (v2.heap.size) v2 _›).2.size); clear ho2 hw2) | (go_at_call 24; have hguard := HS2; clear hguard; refine (laws_sameVal ty ty a2 ay c2 cy y2.heap.size y2 HS2.out (R.more HRY2.out hsy2) (Nat.le_refl _)).mono ?_; rintro e y3 ⟨rfl, hb⟩; rw [sameT_true rfl]; have HS3 := Lib.hid (show True from trivial)))
      go_wp2_with fail
      refine hK.out _ _ (by first | exact ⟨fun _ _ _ => rfl, (Below.refl _ _).drew⟩ | exact keep_step (by assumption) (Below.drew (Below.refl _ _)) (Nat.le_refl _) | exact keep_step (by assumption) (by assumption) (by first | omega | ((try simp only [World.size_drew, size_alloc]); omega) | (have := (‹(_ ∧ Below (v2.heap.size) v2 _)›).2.size; (try simp only [World.size_drew, size_alloc] at this ⊢); omega))) (fun hHeld => ?_)
      clear hK K
      try simp only [Act.put, List.setIfInBounds_toArray, List.set_cons_zero, List.set_cons_succ]
      refine wpAnyH_take (i := 6) (oi := ⟨some 28, _, _, _, _, _⟩) (v := ?_) rfl (by kernel_rfl) (by kernel_rfl) (by kernel_rfl) (fun _ _ _ h => h) (Or.inl ⟨by rfl, ?_⟩) (by assumption) ?_
      rotate_left 1
      · (intro w hSw; (try dsimp only at hSw); go_simp; (try simp only [bu7, by7]); try (with_reducible rfl))
      try simp only [Act.put, List.setIfInBounds_toArray, List.set_cons_zero, List.set_cons_succ]
      refine wpAnyH_take (i := 7) (oi := ⟨some 29, _, _, _, _, _⟩) (v := ?_) rfl (by kernel_rfl) (by kernel_rfl) (by kernel_rfl) (fun _ _ _ h => h) (Or.inl ⟨by rfl, ?_⟩) (by assumption) ?_
      rotate_left 1
      · (intro w hSw; (try dsimp only at hSw); go_simp; (try simp only [bu7, by7]); try (with_reducible rfl))
      try simp only [Act.put, List.setIfInBounds_toArray, List.set_cons_zero, List.set_cons_succ]
      refine wpAnyH_take (i := 8) (oi := ⟨some 30, _, _, _, _, _⟩) (v := ?_) rfl (by kernel_rfl) (by kernel_rfl) (by kernel_rfl) (fun _ _ _ h => h) (Or.inl ⟨by first | rfl | (simp only [bu7, by7]; rfl), ?_⟩) (by assumption) ?_
      rotate_left 1
      · (intro w hSw; (try dsimp only at hSw); go_simp; (try simp only [bu7, by7]); try (with_reducible rfl))
      try simp only [Act.put, List.setIfInBounds_toArray, List.set_cons_zero, List.set_cons_succ]
      refine wpAnyH_take (i := 10) (oi := ⟨some 32, _, _, _, _, _⟩) (v := ?_) rfl (by kernel_rfl) (by kernel_rfl) (by kernel_rfl) (fun _ _ _ h => h) (Or.inl ⟨by first | rfl | (simp only [bu7, by7]; rfl), ?_⟩) (by assumption) ?_
      rotate_left 1
      · (intro w hSw; (try dsimp only at hSw); go_simp; (try simp only [bu7, by7]); try (with_reducible rfl))
      try simp only [Act.put, List.setIfInBounds_toArray, List.set_cons_zero, List.set_cons_succ]
      refine wpAnyH_ready (rs := [9]) (by kernel_rfl) (by simp) ?_
      refine AllReadyH.cons (o := ⟨some 31, _, _, _, _, _⟩) rfl (fun K hK => ?_) AllReadyH.nil
      focus (go_simp; (first | (go_at_call 30; refine (impl_ValOk ty ay cy v2.heap.size _ (R.below RYz.out (‹_ ∧ Below (v2.heap.size) v2 _›).2 (Nat.le_refl _)) HWY.out hys (HEz.out.step (‹_ ∧ Below (v2.heap.size) v2 _›).2) (‹_ ∧ Below (v2.heap.size) v2 _›).2.size).mono ?_; rintro e y1 ⟨rfl, hb⟩; rw [HYO.out]) | (go_at_call 27; refine (HYI.out ay cy v2.heap.size _ (R.below RYz.out (‹_ ∧ Below (v2.heap.size) v2 _›).2 (Nat.le_refl _)) HWY.out (HEz.out.step (‹_ ∧ Below (v2.heap.size) v2 _›).2) (‹_ ∧ Below (v2.heap.size) v2 _›).2.size).mono ?_; rintro e y2 ⟨a2, c2, rfl, hw2, ho2, hb⟩; rw [HYF.out] at ho2 ⊢; have hsy2 := Nat.le_trans ((‹_ ∧ Below (v2.heap.size) v2 _›).2).size hb.size; have HS2 := Lib.hid ho2.read; have HRY2 := Lib.hid (show Rr y2 v2.heap.size ay cy ty.l from R.below (R.below RYz.out (‹_ ∧ Below (v2.heap.size) v2 _›).2 (Nat.le_refl _)) hb (‹_ ∧ Below (v2.heap.size) v2 _›).2.size); clear ho2 hw2) | (go_at_call 24; have hguard := HS2; clear hguard; refine (laws_sameVal ty ty a2 ay c2 cy y2.heap.size y2 HS2.out (R.more HRY2.out hsy2) (Nat.le_refl _)).mono ?_; rintro e y3 ⟨rfl, hb⟩; rw [sameT_true rfl]; have HS3 := Lib.hid (show True from trivial))); go_wp2_with fail; refine hK.out _ _ (by first | exact ⟨fun _ _ _ => rfl, (Below.refl _ _).drew⟩ | exact keep_step (by assumption) (Below.drew (Below.refl _ _)) (Nat.le_refl _) | exact keep_step (by assumption) (by assumption) (by first | omega | ((try simp only [World.size_drew, size_alloc]); omega) | (have := (‹(_ ∧ Below (v2.heap.size) v2 _)›).2.size; (try simp only [World.size_drew, size_alloc] at this ⊢); omega))) (fun hHeld => ?_); clear hK K; try simp only [Act.put, List.setIfInBounds_toArray, List.set_cons_zero, List.set_cons_succ])
      refine wpAnyH_ready (rs := [11]) (by kernel_rfl) (by simp) ?_
      refine AllReadyH.cons (o := ⟨some 33, _, _, _, _, _⟩) rfl (fun K hK => ?_) AllReadyH.nil
      focus (go_simp; (first | (go_at_call 30; refine (impl_ValOk ty ay cy v2.heap.size _ (R.below RYz.out (‹_ ∧ Below (v2.heap.size) v2 _›).2 (Nat.le_refl _)) HWY.out hys (HEz.out.step (‹_ ∧ Below (v2.heap.size) v2 _›).2) (‹_ ∧ Below (v2.heap.size) v2 _›).2.size).mono ?_; rintro e y1 ⟨rfl, hb⟩; rw [HYO.out]) | (go_at_call 27; refine (HYI.out ay cy v2.heap.size _ (R.below RYz.out (‹_ ∧ Below (v2.heap.size) v2 _›).2 (Nat.le_refl _)) HWY.out (HEz.out.step (‹_ ∧ Below (v2.heap.size) v2 _›).2) (‹_ ∧ Below (v2.heap.size) v2 _›).2.size).mono ?_; rintro e y2 ⟨a2, c2, rfl, hw2, ho2, hb⟩; rw [HYF.out] at ho2 ⊢; have hsy2 := Nat.le_trans ((‹_ ∧ Below (v2.heap.size) v2 _›).2).size hb.size; have HS2 := Lib.hid ho2.read; have HRY2 := Lib.hid (show Rr y2 v2.heap.size ay cy ty.l from R.below (R.below RYz.out (‹_ ∧ Below (v2.heap.size) v2 _›).2 (Nat.le_refl _)) hb (‹_ ∧ Below (v2.heap.size) v2 _›).2.size); clear ho2 hw2) | (go_at_call 24; have hguard := HS2; clear hguard; refine (laws_sameVal ty ty a2 ay c2 cy y2.heap.size y2 HS2.out (R.more HRY2.out hsy2) (Nat.le_refl _)).mono ?_; rintro e y3 ⟨rfl, hb⟩; rw [sameT_true rfl]; have HS3 := Lib.hid (show True from trivial))); go_wp2_with fail; refine hK.out _ _ (by first | exact ⟨fun _ _ _ => rfl, (Below.refl _ _).drew⟩ | exact keep_step (by assumption) (Below.drew (Below.refl _ _)) (Nat.le_refl _) | exact keep_step (by assumption) (by assumption) (by first | omega | ((try simp only [World.size_drew, size_alloc]); omega) | (have := (‹(_ ∧ Below (v2.heap.size) v2 _)›).2.size; (try simp only [World.size_drew, size_alloc] at this ⊢); omega))) (fun hHeld => ?_); clear hK K; try simp only [Act.put, List.setIfInBounds_toArray, List.set_cons_zero, List.set_cons_succ])
      refine wpAnyH_take (i := 12) (oi := ⟨some 34, _, _, _, _, _⟩) (v := ?_) rfl (by kernel_rfl) (by kernel_rfl) (by kernel_rfl) (fun _ _ _ h => h) (Or.inl ⟨by rfl, ?_⟩) (by assumption) ?_
      rotate_left 1
      · (intro w hSw; (try dsimp only at hSw); go_simp; (try simp only [bu7, by7]); try (with_reducible rfl))
      try simp only [Act.put, List.setIfInBounds_toArray, List.set_cons_zero, List.set_cons_succ]
      refine wpAnyH_take (i := 13) (oi := ⟨some 35, _, _, _, _, _⟩) (v := ?_) rfl (by kernel_rfl) (by kernel_rfl) (by kernel_rfl) (fun _ _ _ h => h) (Or.inl ⟨by rfl, ?_⟩) (by assumption) ?_
      rotate_left 1
      · (intro w hSw; (try dsimp only at hSw); go_simp; (try simp only [bu7, by7]); try (with_reducible rfl))
      try simp only [Act.put, List.setIfInBounds_toArray, List.set_cons_zero, List.set_cons_succ]
      refine wpAnyH_take (i := 14) (oi := ⟨some 36, _, _, _, _, _⟩) (v := ?_) rfl (by kernel_rfl) (by kernel_rfl) (by kernel_rfl) (fun _ _ _ h => h) (Or.inl ⟨by first | rfl | (simp only [bu7, by7]; rfl), ?_⟩) (by assumption) ?_
      rotate_left 1
      · (intro w hSw; (try dsimp only at hSw); go_simp; (try simp only [bu7, by7]); try (with_reducible rfl))
      try simp only [Act.put, List.setIfInBounds_toArray, List.set_cons_zero, List.set_cons_succ]
      refine wpAnyH_take (i := 15) (oi := ⟨some 37, _, _, _, _, _⟩) (v := ?_) rfl (by kernel_rfl) (by kernel_rfl) (by kernel_rfl) (fun _ _ _ h => h) (Or.inl ⟨by first | rfl | (simp only [bu7, by7]; rfl), ?_⟩) (by assumption) ?_
      rotate_left 1
      · (intro w hSw; (try dsimp only at hSw); go_simp; (try simp only [bu7, by7]); try (with_reducible rfl))
      try simp only [Act.put, List.setIfInBounds_toArray, List.set_cons_zero, List.set_cons_succ]
      refine wpAnyH_take (i := 16) (oi := ⟨some 38, _, _, _, _, _⟩) (v := ?_) rfl (by kernel_rfl) (by kernel_rfl) (by kernel_rfl) (fun _ _ _ h => h) (Or.inl ⟨by first | rfl | (simp only [bu7, by7]; rfl), ?_⟩) (by assumption) ?_
      rotate_left 1
      · (intro w hSw; (try dsimp only at hSw); go_simp; (try simp only [bu7, by7]); try (with_reducible rfl))
      try simp only [Act.put, List.setIfInBounds_toArray, List.set_cons_zero, List.set_cons_succ]
      refine wpAnyH_take (i := 17) (oi := ⟨some 39, _, _, _, _, _⟩) (v := ?_) rfl (by kernel_rfl) (by kernel_rfl) (by kernel_rfl) (fun _ _ _ h => h) (Or.inl ⟨by first | rfl | (simp only [bu7, by7]; rfl), ?_⟩) (by assumption) ?_
      rotate_left 1
      · (intro w hSw; (try dsimp only at hSw); go_simp; (try simp only [bu7, by7]); try (with_reducible rfl))
      try simp only [Act.put, List.setIfInBounds_toArray, List.set_cons_zero, List.set_cons_succ]
      refine wpAnyH_take (i := 18) (oi := ⟨some 40, _, _, _, _, _⟩) (v := undef) rfl (by kernel_rfl) (by kernel_rfl) (by kernel_rfl) (fun _ _ _ h => h) (Or.inr ⟨by (simp only [bu7, by7]; rfl), rfl⟩) (by assumption) ?_
      try simp only [Act.put, List.setIfInBounds_toArray, List.set_cons_zero, List.set_cons_succ]
      refine wpAnyH_take (i := 19) (oi := ⟨some 41, _, _, _, _, _⟩) (v := undef) rfl (by kernel_rfl) (by kernel_rfl) (by kernel_rfl) (fun _ _ _ h => h) (Or.inr ⟨by (simp only [bu7, by7]; rfl), rfl⟩) (by assumption) ?_
      try simp only [Act.put, List.setIfInBounds_toArray, List.set_cons_zero, List.set_cons_succ]
      refine wpAnyH_take (i := 20) (oi := ⟨some 42, _, _, _, _, _⟩) (v := undef) rfl (by kernel_rfl) (by kernel_rfl) (by kernel_rfl) (fun _ _ _ h => h) (Or.inr ⟨by (simp only [bu7, by7]; rfl), rfl⟩) (by assumption) ?_
      try simp only [Act.put, List.setIfInBounds_toArray, List.set_cons_zero, List.set_cons_succ]
      refine wpAnyH_take (i := 21) (oi := ⟨some 43, _, _, _, _, _⟩) (v := ?_) rfl (by kernel_rfl) (by kernel_rfl) (by kernel_rfl) (fun _ _ _ h => h) (Or.inl ⟨by first | rfl | (simp only [bu7, by7]; rfl), ?_⟩) (by assumption) ?_
      rotate_left 1
      · (intro w hSw; (try dsimp only at hSw); go_simp; (try simp only [bu7, by7]); try (with_reducible rfl))
      try simp only [Act.put, List.setIfInBounds_toArray, List.set_cons_zero, List.set_cons_succ]
      refine wpAnyH_take (i := 22) (oi := ⟨some 44, _, _, _, _, _⟩) (v := ?_) rfl (by kernel_rfl) (by kernel_rfl) (by kernel_rfl) (fun _ _ _ h => h) (Or.inl ⟨by rfl, ?_⟩) (by assumption) ?_
      rotate_left 1
      · (intro w hSw; (try dsimp only at hSw); go_simp; (try simp only [bu7, by7]); try (with_reducible rfl))
      try simp only [Act.put, List.setIfInBounds_toArray, List.set_cons_zero, List.set_cons_succ]
      refine wpAnyH_take (i := 23) (oi := ⟨some 2, _, _, _, _, _⟩) (v := ?_) rfl (by kernel_rfl) (by kernel_rfl) (by kernel_rfl) (fun _ _ _ h => h) (Or.inl ⟨by rfl, ?_⟩) (by assumption) ?_
      rotate_left 1
      · (intro w hSw; (try dsimp only at hSw); go_simp; (try simp only [bu7, by7]); try (with_reducible rfl))
      try simp only [Act.put, List.setIfInBounds_toArray, List.set_cons_zero, List.set_cons_succ]
      refine wpAnyH_done (by kernel_rfl) ?_ _
      all_goals
        have hcv := (‹_ ∧ Below (v2.heap.size) v2 _›).2
        have HCV := Lib.hid (HBz.out.trans (hcv.mono (by omega)))
        clear hcv
        go_wp2_with fail
        go_ret
        exact ⟨rfl, HCV.out⟩
    case pos =>
      have bu7 : (tu.k != 7) = false := by simpa using hu7
      have HYE := Lib.hid (HYU.out hu7)
      clear hu7
      refine wp_region_held_drew (S := fun w' => (∀ b o, b < v2.heap.size → w'.cell? ⟨b, o, none⟩ = v2.cell? ⟨b, o, none⟩) ∧ Below (v2.heap.size) v2 w') (by kernel_rfl) (by first | exact ⟨fun _ _ _ => rfl, (Below.refl _ _).drew⟩ | exact keep_step (by assumption) (Below.drew (Below.refl _ _)) (Nat.le_refl _) | exact keep_step (by assumption) (by assumption) (by first | omega | ((try simp only [World.size_drew, size_alloc]); omega) | (have := (‹(_ ∧ Below (v2.heap.size) v2 _)›).2.size; (try simp only [World.size_drew, size_alloc] at this ⊢); omega))) (fun hHeld => ?_)
      refine wpAnyH_take (i := 0) (oi := ⟨some 22, _, _, _, _, _⟩) (v := ?_) rfl (by kernel_rfl) (by kernel_rfl) (by kernel_rfl) (fun _ _ _ h => h) (Or.inl ⟨by rfl, ?_⟩) (by assumption) ?_
      rotate_left 1
      · (intro w hSw; (try dsimp only at hSw); go_simp; (try simp only [bu7, by7]); try (with_reducible rfl))
      try simp only [Act.put, List.setIfInBounds_toArray, List.set_cons_zero, List.set_cons_succ]
      refine wpAnyH_take (i := 1) (oi := ⟨some 23, _, _, _, _, _⟩) (v := ?_) rfl (by kernel_rfl) (by kernel_rfl) (by kernel_rfl) (fun _ _ _ h => h) (Or.inl ⟨by rfl, ?_⟩) (by assumption) ?_
      rotate_left 1
      · (intro w hSw; (try dsimp only at hSw); go_simp; (try simp only [bu7, by7]); try (with_reducible rfl))
      try simp only [Act.put, List.setIfInBounds_toArray, List.set_cons_zero, List.set_cons_succ]
      refine wpAnyH_take (i := 2) (oi := ⟨some 24, _, _, _, _, _⟩) (v := ?_) rfl (by kernel_rfl) (by kernel_rfl) (by kernel_rfl) (fun _ _ _ h => h) (Or.inl ⟨by rfl, ?_⟩) (by assumption) ?_
      rotate_left 1
      · (intro w hSw; (try dsimp only at hSw); go_simp; (try simp only [bu7, by7]); try (with_reducible rfl))
      try simp only [Act.put, List.setIfInBounds_toArray, List.set_cons_zero, List.set_cons_succ]
      refine wpAnyH_take (i := 3) (oi := ⟨some 25, _, _, _, _, _⟩) (v := ?_) rfl (by kernel_rfl) (by kernel_rfl) (by kernel_rfl) (fun _ _ _ h => h) (Or.inl ⟨by rfl, ?_⟩) (by assumption) ?_
      rotate_left 1
      · (intro w hSw; (try dsimp only at hSw); go_simp; (try simp only [bu7, by7]); try (with_reducible rfl))
      try simp only [Act.put, List.setIfInBounds_toArray, List.set_cons_zero, List.set_cons_succ]
      refine wpAnyH_take (i := 4) (oi := ⟨some 26, _, _, _, _, _⟩) (v := ?_) rfl (by kernel_rfl) (by kernel_rfl) (by kernel_rfl) (fun _ _ _ h => h) (Or.inl ⟨by first | rfl | (simp only [bu7, by7]; rfl), ?_⟩) (by assumption) ?_
      rotate_left 1
      · (intro w hSw; (try dsimp only at hSw); go_simp; (try simp only [bu7, by7]); try (with_reducible rfl))
      try simp only [Act.put, List.setIfInBounds_toArray, List.set_cons_zero, List.set_cons_succ]
      refine wpAnyH_ready (rs := [5]) (by kernel_rfl) (by simp) ?_
      refine AllReadyH.cons (o := ⟨some 27, _, _, _, _, _⟩) rfl (fun K hK => ?_) AllReadyH.nil
      go_simp
      (first | (go_at_call 24; have hguard := HS3; clear hguard; refine (laws_sameVal ty tu ay au cy cu v2.heap.size _ (R.below RYz.out (‹_ ∧ Below (v2.heap.size) v2 _›).2 (Nat.le_refl _)) (R.below RUz.out (‹_ ∧ Below (v2.heap.size) v2 _›).2 (Nat.le_refl _)) (‹_ ∧ Below (v2.heap.size) v2 _›).2.size).mono ?_; rintro e y4 ⟨rfl, hb⟩; rw [sameT_true HYE.out]) | (go_at_call 24; have hguard := HS2; clear hguard; refine (laws_sameVal ty ty a2 ay c2 cy y2.heap.size y2 HS2.out (R.more HRY2.out hsy2) (Nat.le_refl _)).mono ?_; rintro e y3 ⟨rfl, hb⟩; rw [sameT_true rfl]; have HS3 := Lib.hid (show True from trivial)) | (go_at_call 27; refine (HYI.out ay cy v2.heap.size _ (R.below RYz.out (‹_ ∧ Below (v2.heap.size) v2 _›).2 (Nat.le_refl _)) HWY.out (HEz.out.step (‹_ ∧ Below (v2.heap.size) v2 _›).2) (‹_ ∧ Below (v2.heap.size) v2 _›).2.size).mono ?_; rintro e y2 ⟨a2, c2, rfl, hw2, ho2, hb⟩; rw [HYF.out] at ho2 ⊢; have hsy2 := Nat.le_trans ((‹_ ∧ Below (v2.heap.size) v2 _›).2).size hb.size; have HS2 := Lib.hid ho2.read; have HRY2 := Lib.hid (show Rr y2 v2.heap.size ay cy ty.l from R.below (R.below RYz.out (‹_ ∧ Below (v2.heap.size) v2 _›).2 (Nat.le_refl _)) hb (‹_ ∧ Below (v2.heap.size) v2 _›).2.size); clear ho2 hw2) | (go_at_call 30; refine (impl_ValOk ty ay cy v2.heap.size _ (R.below RYz.out (‹_ ∧ Below (v2.heap.size) v2 _›).2 (Nat.le_refl _)) HWY.out hys (HEz.out.step (‹_ ∧ Below (v2.heap.size) v2 _›).2) (‹_ ∧ Below (v2.heap.size) v2 _›).2.size).mono ?_; rintro e y1 ⟨rfl, hb⟩; rw [HYO.out]))
      go_wp2_with fail
      refine hK.out _ _ (by first | exact ⟨fun _ _ _ => rfl, (Below.refl _ _).drew⟩ | exact keep_step (by assumption) (Below.drew (Below.refl _ _)) (Nat.le_refl _) | exact keep_step (by assumption) (by assumption) (by first | omega | ((try simp only [World.size_drew, size_alloc]); omega) | (have := (‹(_ ∧ Below (v2.heap.size) v2 _)›).2.size; (try simp only [World.size_drew, size_alloc] at this ⊢); omega))) (fun hHeld => ?_)
      clear hK K
      try simp only [Act.put, List.setIfInBounds_toArray, List.set_cons_zero, List.set_cons_succ]
      refine wpAnyH_take (i := 6) (oi := ⟨some 28, _, _, _, _, _⟩) (v := ?_) rfl (by kernel_rfl) (by kernel_rfl) (by kernel_rfl) (fun _ _ _ h => h) (Or.inl ⟨by rfl, ?_⟩) (by assumption) ?_
      rotate_left 1
      · (intro w hSw; (try dsimp only at hSw); go_simp; (try simp only [bu7, by7]); try (with_reducible rfl))
      try simp only [Act.put, List.setIfInBounds_toArray, List.set_cons_zero, List.set_cons_succ]
      refine wpAnyH_take (i := 7) (oi := ⟨some 29, _, _, _, _, _⟩) (v := ?_) rfl (by kernel_rfl) (by kernel_rfl) (by kernel_rfl) (fun _ _ _ h => h) (Or.inl ⟨by rfl, ?_⟩) (by assumption) ?_
      rotate_left 1
      · (intro w hSw; (try dsimp only at hSw); go_simp; (try simp only [bu7, by7]); try (with_reducible rfl))
      try simp only [Act.put, List.setIfInBounds_toArray, List.set_cons_zero, List.set_cons_succ]
      refine wpAnyH_take (i := 8) (oi := ⟨some 30, _, _, _, _, _⟩) (v := ?_) rfl (by kernel_rfl) (by kernel_rfl) (by kernel_rfl) (fun _ _ _ h => h) (Or.inl ⟨by first | rfl | (simp only [bu7, by7]; rfl), ?_⟩) (by assumption) ?_
      rotate_left 1
      · (intro w hSw; (try dsimp only at hSw); go_simp; (try simp only [bu7, by7]); try (with_reducible rfl))
      try simp only [Act.put, List.setIfInBounds_toArray, List.set_cons_zero, List.set_cons_succ]
      refine wpAnyH_take (i := 10) (oi := ⟨some 32, _, _, _, _, _⟩) (v := ?_) rfl (by kernel_rfl) (by kernel_rfl) (by kernel_rfl) (fun _ _ _ h => h) (Or.inl ⟨by first | rfl | (simp only [bu7, by7]; rfl), ?_⟩) (by assumption) ?_
      rotate_left 1
      · (intro w hSw; (try dsimp only at hSw); go_simp; (try simp only [bu7, by7]); try (with_reducible rfl))
      try simp only [Act.put, List.setIfInBounds_toArray, List.set_cons_zero, List.set_cons_succ]
      refine wpAnyH_ready (rs := [9]) (by kernel_rfl) (by simp) ?_
      refine AllReadyH.cons (o := ⟨some 31, _, _, _, _, _⟩) rfl (fun K hK => ?_) AllReadyH.nil
      focus (go_simp; (first | (go_at_call 24; have hguard := HS3; clear hguard; refine (laws_sameVal ty tu ay au cy cu v2.heap.size _ (R.below RYz.out (‹_ ∧ Below (v2.heap.size) v2 _›).2 (Nat.le_refl _)) (R.below RUz.out (‹_ ∧ Below (v2.heap.size) v2 _›).2 (Nat.le_refl _)) (‹_ ∧ Below (v2.heap.size) v2 _›).2.size).mono ?_; rintro e y4 ⟨rfl, hb⟩; rw [sameT_true HYE.out]) | (go_at_call 24; have hguard := HS2; clear hguard; refine (laws_sameVal ty ty a2 ay c2 cy y2.heap.size y2 HS2.out (R.more HRY2.out hsy2) (Nat.le_refl _)).mono ?_; rintro e y3 ⟨rfl, hb⟩; rw [sameT_true rfl]; have HS3 := Lib.hid (show True from trivial)) | (go_at_call 27; refine (HYI.out ay cy v2.heap.size _ (R.below RYz.out (‹_ ∧ Below (v2.heap.size) v2 _›).2 (Nat.le_refl _)) HWY.out (HEz.out.step (‹_ ∧ Below (v2.heap.size) v2 _›).2) (‹_ ∧ Below (v2.heap.size) v2 _›).2.size).mono ?_; rintro e y2 ⟨a2, c2, rfl, hw2, ho2, hb⟩; rw [HYF.out] at ho2 ⊢; have hsy2 := Nat.le_trans ((‹_ ∧ Below (v2.heap.size) v2 _›).2).size hb.size; have HS2 := Lib.hid ho2.read; have HRY2 := Lib.hid (show Rr y2 v2.heap.size ay cy ty.l from R.below (R.below RYz.out (‹_ ∧ Below (v2.heap.size) v2 _›).2 (Nat.le_refl _)) hb (‹_ ∧ Below (v2.heap.size) v2 _›).2.size); clear ho2 hw2) | (go_at_call 30; refine (impl_ValOk ty ay cy v2.heap.size _ (R.below RYz.out (‹_ ∧ Below (v2.heap.size) v2 _›).2 (Nat.le_refl _)) HWY.out hys (HEz.out.step (‹_ ∧ Below (v2.heap.size) v2 _›).2) (‹_ ∧ Below (v2.heap.size) v2 _›).2.size).mono ?_; rintro e y1 ⟨rfl, hb⟩; rw [HYO.out])); go_wp2_with fail; refine hK.out _ _ (by first | exact ⟨fun _ _ _ => rfl, (Below.refl _ _).drew⟩ | exact keep_step (by assumption) (Below.drew (Below.refl _ _)) (Nat.le_refl _) | exact keep_step (by assumption) (by assumption) (by first | omega | ((try simp only [World.size_drew, size_alloc]); omega) | (have := (‹(_ ∧ Below (v2.heap.size) v2 _)›).2.size; (try simp only [World.size_drew, size_alloc] at this ⊢); omega))) (fun hHeld => ?_); clear hK K; try simp only [Act.put, List.setIfInBounds_toArray, List.set_cons_zero, List.set_cons_succ])
      refine wpAnyH_ready (rs := [11]) (by kernel_rfl) (by simp) ?_
      refine AllReadyH.cons (o := ⟨some 33, _, _, _, _, _⟩) rfl (fun K hK => ?_) AllReadyH.nil
      focus (go_simp; (first | (go_at_call 24; have hguard := HS3; clear hguard; refine (laws_sameVal ty tu ay au cy cu v2.heap.size _ (R.below RYz.out (‹_ ∧ Below (v2.heap.size) v2 _›).2 (Nat.le_refl _)) (R.below RUz.out (‹_ ∧ Below (v2.heap.size) v2 _›).2 (Nat.le_refl _)) (‹_ ∧ Below (v2.heap.size) v2 _›).2.size).mono ?_; rintro e y4 ⟨rfl, hb⟩; rw [sameT_true HYE.out]) | (go_at_call 24; have hguard := HS2; clear hguard; refine (laws_sameVal ty ty a2 ay c2 cy y2.heap.size y2 HS2.out (R.more HRY2.out hsy2) (Nat.le_refl _)).mono ?_; rintro e y3 ⟨rfl, hb⟩; rw [sameT_true rfl]; have HS3 := Lib.hid (show True from trivial)) | (go_at_call 27; refine (HYI.out ay cy v2.heap.size _ (R.below RYz.out (‹_ ∧ Below (v2.heap.size) v2 _›).2 (Nat.le_refl _)) HWY.out (HEz.out.step (‹_ ∧ Below (v2.heap.size) v2 _›).2) (‹_ ∧ Below (v2.heap.size) v2 _›).2.size).mono ?_; rintro e y2 ⟨a2, c2, rfl, hw2, ho2, hb⟩; rw [HYF.out] at ho2 ⊢; have hsy2 := Nat.le_trans ((‹_ ∧ Below (v2.heap.size) v2 _›).2).size hb.size; have HS2 := Lib.hid ho2.read; have HRY2 := Lib.hid (show Rr y2 v2.heap.size ay cy ty.l from R.below (R.below RYz.out (‹_ ∧ Below (v2.heap.size) v2 _›).2 (Nat.le_refl _)) hb (‹_ ∧ Below (v2.heap.size) v2 _›).2.size); clear ho2 hw2) | (go_at_call 30; refine (impl_ValOk ty ay cy v2.heap.size _ (R.below RYz.out (‹_ ∧ Below (v2.heap.size) v2 _›).2 (Nat.le_refl _)) HWY.out hys (HEz.out.step (‹_ ∧ Below (v2.heap.size) v2 _›).2) (‹_ ∧ Below (v2.heap.size) v2 _›).2.size).mono ?_; rintro e y1 ⟨rfl, hb⟩; rw [HYO.out])); go_wp2_with fail; refine hK.out _ _ (by first | exact ⟨fun _ _ _ => rfl, (Below.refl _ _).drew⟩ | exact keep_step (by assumption) (Below.drew (Below.refl _ _)) (Nat.le_refl _) | exact keep_step (by assumption) (by assumption) (by first | omega | ((try simp only [World.size_drew, size_alloc]); omega) | (have := (‹(_ ∧ Below (v2.heap.size) v2 _)›).2.size; (try simp only [World.size_drew, size_alloc] at this ⊢); omega))) (fun hHeld => ?_); clear hK K; try simp only [Act.put, List.setIfInBounds_toArray, List.set_cons_zero, List.set_cons_succ])
      refine wpAnyH_take (i := 12) (oi := ⟨some 34, _, _, _, _, _⟩) (v := ?_) rfl (by kernel_rfl) (by kernel_rfl) (by kernel_rfl) (fun _ _ _ h => h) (Or.inl ⟨by rfl, ?_⟩) (by assumption) ?_
      rotate_left 1
      · (intro w hSw; (try dsimp only at hSw); go_simp; (try simp only [bu7, by7]); try (with_reducible rfl))
      try simp only [Act.put, List.setIfInBounds_toArray, List.set_cons_zero, List.set_cons_succ]
      refine wpAnyH_take (i := 13) (oi := ⟨some 35, _, _, _, _, _⟩) (v := ?_) rfl (by kernel_rfl) (by kernel_rfl) (by kernel_rfl) (fun _ _ _ h => h) (Or.inl ⟨by rfl, ?_⟩) (by assumption) ?_
      rotate_left 1
      · (intro w hSw; (try dsimp only at hSw); go_simp; (try simp only [bu7, by7]); try (with_reducible rfl))
      try simp only [Act.put, List.setIfInBounds_toArray, List.set_cons_zero, List.set_cons_succ]
      refine wpAnyH_take (i := 14) (oi := ⟨some 36, _, _, _, _, _⟩) (v := ?_) rfl (by kernel_rfl) (by kernel_rfl) (by kernel_rfl) (fun _ _ _ h => h) (Or.inl ⟨by first | rfl | (simp only [bu7, by7]; rfl), ?_⟩) (by assumption) ?_
      rotate_left 1
      · (intro w hSw; (try dsimp only at hSw); go_simp; (try simp only [bu7, by7]); try (with_reducible rfl))
      try simp only [Act.put, List.setIfInBounds_toArray, List.set_cons_zero, List.set_cons_succ]
      refine wpAnyH_take (i := 15) (oi := ⟨some 37, _, _, _, _, _⟩) (v := ?_) rfl (by kernel_rfl) (by kernel_rfl) (by kernel_rfl) (fun _ _ _ h => h) (Or.inl ⟨by first | rfl | (simp only [bu7, by7]; rfl), ?_⟩) (by assumption) ?_
      rotate_left 1
      · (intro w hSw; (try dsimp only at hSw); go_simp; (try simp only [bu7, by7]); try (with_reducible rfl))
      try simp only [Act.put, List.setIfInBounds_toArray, List.set_cons_zero, List.set_cons_succ]
      refine wpAnyH_take (i := 16) (oi := ⟨some 38, _, _, _, _, _⟩) (v := ?_) rfl (by kernel_rfl) (by kernel_rfl) (by kernel_rfl) (fun _ _ _ h => h) (Or.inl ⟨by first | rfl | (simp only [bu7, by7]; rfl), ?_⟩) (by assumption) ?_
      rotate_left 1
      · (intro w hSw; (try dsimp only at hSw); go_simp; (try simp only [bu7, by7]); try (with_reducible rfl))
      try simp only [Act.put, List.setIfInBounds_toArray, List.set_cons_zero, List.set_cons_succ]
      refine wpAnyH_take (i := 17) (oi := ⟨some 39, _, _, _, _, _⟩) (v := ?_) rfl (by kernel_rfl) (by kernel_rfl) (by kernel_rfl) (fun _ _ _ h => h) (Or.inl ⟨by first | rfl | (simp only [bu7, by7]; rfl), ?_⟩) (by assumption) ?_
      rotate_left 1
      · (intro w hSw; (try dsimp only at hSw); go_simp; (try simp only [bu7, by7]); try (with_reducible rfl))
      try simp only [Act.put, List.setIfInBounds_toArray, List.set_cons_zero, List.set_cons_succ]
      refine wpAnyH_take (i := 18) (oi := ⟨some 40, _, _, _, _, _⟩) (v := ?_) rfl (by kernel_rfl) (by kernel_rfl) (by kernel_rfl) (fun _ _ _ h => h) (Or.inl ⟨by first | rfl | (simp only [bu7, by7]; rfl), ?_⟩) (by assumption) ?_
      rotate_left 1
      · (intro w hSw; (try dsimp only at hSw); go_simp; (try simp only [bu7, by7]); try (with_reducible rfl))
      try simp only [Act.put, List.setIfInBounds_toArray, List.set_cons_zero, List.set_cons_succ]
      refine wpAnyH_take (i := 19) (oi := ⟨some 41, _, _, _, _, _⟩) (v := ?_) rfl (by kernel_rfl) (by kernel_rfl) (by kernel_rfl) (fun _ _ _ h => h) (Or.inl ⟨by first | rfl | (simp only [bu7, by7]; rfl), ?_⟩) (by assumption) ?_
      rotate_left 1
      · (intro w hSw; (try dsimp only at hSw); go_simp; (try simp only [bu7, by7]); try (with_reducible rfl))
      try simp only [Act.put, List.setIfInBounds_toArray, List.set_cons_zero, List.set_cons_succ]
      refine wpAnyH_ready (rs := [20]) (by kernel_rfl) (by simp) ?_
      refine AllReadyH.cons (o := ⟨some 42, _, _, _, _, _⟩) rfl (fun K hK => ?_) AllReadyH.nil
      focus (go_simp; (first | (go_at_call 24; have hguard := HS3; clear hguard; refine (laws_sameVal ty tu ay au cy cu v2.heap.size _ (R.below RYz.out (‹_ ∧ Below (v2.heap.size) v2 _›).2 (Nat.le_refl _)) (R.below RUz.out (‹_ ∧ Below (v2.heap.size) v2 _›).2 (Nat.le_refl _)) (‹_ ∧ Below (v2.heap.size) v2 _›).2.size).mono ?_; rintro e y4 ⟨rfl, hb⟩; rw [sameT_true HYE.out]) | (go_at_call 24; have hguard := HS2; clear hguard; refine (laws_sameVal ty ty a2 ay c2 cy y2.heap.size y2 HS2.out (R.more HRY2.out hsy2) (Nat.le_refl _)).mono ?_; rintro e y3 ⟨rfl, hb⟩; rw [sameT_true rfl]; have HS3 := Lib.hid (show True from trivial)) | (go_at_call 27; refine (HYI.out ay cy v2.heap.size _ (R.below RYz.out (‹_ ∧ Below (v2.heap.size) v2 _›).2 (Nat.le_refl _)) HWY.out (HEz.out.step (‹_ ∧ Below (v2.heap.size) v2 _›).2) (‹_ ∧ Below (v2.heap.size) v2 _›).2.size).mono ?_; rintro e y2 ⟨a2, c2, rfl, hw2, ho2, hb⟩; rw [HYF.out] at ho2 ⊢; have hsy2 := Nat.le_trans ((‹_ ∧ Below (v2.heap.size) v2 _›).2).size hb.size; have HS2 := Lib.hid ho2.read; have HRY2 := Lib.hid (show Rr y2 v2.heap.size ay cy ty.l from R.below (R.below RYz.out (‹_ ∧ Below (v2.heap.size) v2 _›).2 (Nat.le_refl _)) hb (‹_ ∧ Below (v2.heap.size) v2 _›).2.size); clear ho2 hw2) | (go_at_call 30; refine (impl_ValOk ty ay cy v2.heap.size _ (R.below RYz.out (‹_ ∧ Below (v2.heap.size) v2 _›).2 (Nat.le_refl _)) HWY.out hys (HEz.out.step (‹_ ∧ Below (v2.heap.size) v2 _›).2) (‹_ ∧ Below (v2.heap.size) v2 _›).2.size).mono ?_; rintro e y1 ⟨rfl, hb⟩; rw [HYO.out])); go_wp2_with fail; refine hK.out _ _ (by first | exact ⟨fun _ _ _ => rfl, (Below.refl _ _).drew⟩ | exact keep_step (by assumption) (Below.drew (Below.refl _ _)) (Nat.le_refl _) | exact keep_step (by assumption) (by assumption) (by first | omega | ((try simp only [World.size_drew, size_alloc]); omega) | (have := (‹(_ ∧ Below (v2.heap.size) v2 _)›).2.size; (try simp only [World.size_drew, size_alloc] at this ⊢); omega))) (fun hHeld => ?_); clear hK K; try simp only [Act.put, List.setIfInBounds_toArray, List.set_cons_zero, List.set_cons_succ])
      refine wpAnyH_take (i := 21) (oi := ⟨some 43, _, _, _, _, _⟩) (v := ?_) rfl (by kernel_rfl) (by kernel_rfl) (by kernel_rfl) (fun _ _ _ h => h) (Or.inl ⟨by first | rfl | (simp only [bu7, by7]; rfl), ?_⟩) (by assumption) ?_
      rotate_left 1
      · (intro w hSw; (try dsimp only at hSw); go_simp; (try simp only [bu7, by7]); try (with_reducible rfl))
      try simp only [Act.put, List.setIfInBounds_toArray, List.set_cons_zero, List.set_cons_succ]
      refine wpAnyH_take (i := 22) (oi := ⟨some 44, _, _, _, _, _⟩) (v := ?_) rfl (by kernel_rfl) (by kernel_rfl) (by kernel_rfl) (fun _ _ _ h => h) (Or.inl ⟨by rfl, ?_⟩) (by assumption) ?_
      rotate_left 1
      · (intro w hSw; (try dsimp only at hSw); go_simp; (try simp only [bu7, by7]); try (with_reducible rfl))
      try simp only [Act.put, List.setIfInBounds_toArray, List.set_cons_zero, List.set_cons_succ]
      refine wpAnyH_take (i := 23) (oi := ⟨some 2, _, _, _, _, _⟩) (v := ?_) rfl (by kernel_rfl) (by kernel_rfl) (by kernel_rfl) (fun _ _ _ h => h) (Or.inl ⟨by rfl, ?_⟩) (by assumption) ?_
      rotate_left 1
      · (intro w hSw; (try dsimp only at hSw); go_simp; (try simp only [bu7, by7]); try (with_reducible rfl))
      try simp only [Act.put, List.setIfInBounds_toArray, List.set_cons_zero, List.set_cons_succ]
      refine wpAnyH_done (by kernel_rfl) ?_ _
      all_goals
        have hcv := (‹_ ∧ Below (v2.heap.size) v2 _›).2
        have HCV := Lib.hid (HBz.out.trans (hcv.mono (by omega)))
        clear hcv
        go_wp2_with fail
        go_ret
        exact ⟨rfl, HCV.out⟩
end Go.Proofs.YtggdenkmohnijaaGreatDoor
