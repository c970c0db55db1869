/- Texts of this proof, merged: DrwN. No condition beyond what each theorem states. -/
import Derived.Test.YtggdenkmohnijaaGreatDoorZN24
set_option linter.unusedSimpArgs false
set_option linter.unnecessarySimpa false
namespace Go.Proofs.YtggdenkmohnijaaGreatDoor
open Go.ChangeShapes Go.WideShapes Go.ChangeAt Go.RowKit Go.Joins
set_option linter.unusedVariables false
set_option maxRecDepth 100000
def KidN (t : T) : Prop := t.l.length ≤ 7 ∧ ∀ u ∈ t.l, AllT drQ u ∧ T.depth u ≤ 3
def NamC (t : T) : Prop := t.s.size ≤ 12 ∧ KidN t
theorem nam_kids {t : T} (h : Dr 4 t) : t.l.length ≤ 6 ∧ ∀ u ∈ t.l, AllT drQ u ∧ T.depth u ≤ 3 := by
  obtain ⟨h1, h2⟩ := h
  rw [AllT_iff] at h1
  refine ⟨h1.1.2.2.1, fun u hu => ⟨h1.2 u hu, ?_⟩⟩
  rw [T.depth_eta] at h2
  obtain ⟨i, hi, he⟩ := List.getElem_of_mem hu
  have := T.depth_get t.l i hi
  rw [he] at this
  omega
theorem nam_more {t t5 : T} {k n x : Int} {s : ByteArray} (h : t.l.length ≤ 6 ∧ ∀ u ∈ t.l, AllT drQ u ∧ T.depth u ≤ 3) (h5 : Dr 1 t5) : KidN (.mk k n x s (t.l ++ [t5])) := by
  refine ⟨by show (t.l ++ [t5]).length ≤ 7; rw [List.length_append, List.length_singleton]; omega, fun u hu => ?_⟩
  rcases List.mem_append.1 (show u ∈ t.l ++ [t5] from hu) with hu | hu
  · exact h.2 u hu
  · rw [List.mem_singleton.1 hu]; exact ⟨h5.1, by have := h5.2; omega⟩
theorem rn_r {w : World} {lo cap : Nat} {a : Option Addr} {l : List T} (h : Rn TV 5 w lo a cap l) : R w w.heap.size a cap l := by
  obtain ⟨F, h1, h2⟩ := h
  exact R.rd.2 ⟨F, h1, fun f hf => (h2 f hf).2⟩
def DrewN (A : Nat) (w : World) (e : Ending) (w' : World) : Prop := ∃ (t : T) (a : Option Addr) (cap : Nat), e = .returned (.agg (cV t a cap)) ∧ Wf t ∧ t.s.size ≤ 12 ∧ T.sz t ≤ 2000 ∧ KidN t ∧ Rn TV 5 w' w.heap.size a cap t.l ∧ Cur w' A ∧ Kp A w w'
def DrawnV (Q : T → Prop) (w : World) (e : Ending) (w' : World) : Prop := ∃ (t : T) (a' : Option Addr) (cap' : Nat), e = .returned (.agg (cV t a' cap')) ∧ Wf t ∧ T.sz t ≤ 60000 ∧ Q t ∧ R w' w'.heap.size a' cap' t.l ∧ Below w.heap.size w w'
set_option maxHeartbeats 8000000 in
theorem spec_l6AnyN (A : Nat) (w : World) (hc : Cur w A) : Calls Tryz.prog 65 #[.pointer (some ⟨A, 0, none⟩)] w fun e w' => DrewN A w e w' := by
  have hlA := hc.lt
  have HC0 := Lib.hid (hc.below (below1 w (.cells zV 26)) hlA)
  have HK0 := Lib.hid (Kp.alloc (w := w) (Nat.le_of_lt hlA) (.cells zV 26))
  have HI0 := Lib.hid (Is.new w zV 26)
  clear hc
  go_enter Tryz.func65, Tryz.ntmps65
  go_wp2_with fail
  refine (spec_l6Val A _ HC0.out).mono ?_
  rintro e w2 ⟨t, a, c, rfl, htw, hts, htz, htd, happ, hc2, hk2⟩
  have HTD := Lib.hid (nam_kids htd); clear htd
  rw [size_alloc] at happ
  have hl2 : w.heap.size < w2.heap.size := (hk2.is HI0.out (by omega)).lt
  have hVV := Is.new w2 (cV t a c) 26
  have HC3 := Lib.hid (hc2.below (below1 w2 (.cells (cV t a c) 26)) hc2.lt)
  have HI3 := Lib.hid ((hk2.is HI0.out (by omega)).alloc (.cells (cV t a c) 26))
  have HK3 := Lib.hid ((HK0.out.trans hk2).trans (Kp.alloc (Nat.le_of_lt hc2.lt) (.cells (cV t a c) 26)))
  have hA3 := happ.below TV.elem (below1 w2 (.cells (cV t a c) 26)) (Nat.le_refl _)
  obtain ⟨X, hXe⟩ : ∃ X, w2.heap.size = X := ⟨_, rfl⟩
  rw [hXe] at hVV hl2 hA3
  clear hc2 hk2 HI0 HK0 HC0 happ
  go_wp2_with fail
  try rw [hXe]
  generalize w2.alloc (.cells (cV t a c) 26) = W3 at *
  clear hXe
  have HV3 := Lib.hid hVV; have HA3 := Lib.hid hA3; clear hVV hA3
  have hX3 := HV3.out.lt
  refine (spec_l1Below A 12 W3 HC3.out ⟨by decide, by decide⟩).mono ?_
  rintro e w4 ⟨k, rfl, hk, _, hc4, hk4⟩
  have HC4 := Lib.hid hc4; have HI4 := Lib.hid (hk4.is HI3.out (by omega)); have HV4 := Lib.hid (hk4.is HV3.out (by omega)); have HK4 := Lib.hid (show Kp A w w4 from HK3.out.trans hk4)
  have HA4 := Lib.hid (HA3.out.kp TV.elem hk4 (by omega) (by omega)); clear hc4 hk4 HC3 HI3 HV3 HK3 HA3
  have hX4 := HV4.out.lt
  have HR4 := Lib.hid ((HA4.out.ex (X := X) (Nat.le_refl _)).rq (fun k hk => by have := (HA4.out.row k hk).2; omega) (by omega))
  have hsz := T.sz_eta t
  by_cases h5 : 5 ≤ k
  · have hne : ∀ j : Int, j < 5 → ((k : Int) == j) = false := fun j hj => by simp; omega
    have n0 := hne 0 (by decide); have n1 := hne 1 (by decide); have n2 := hne 2 (by decide); have n3 := hne 3 (by decide); have n4 := hne 4 (by decide)
    clear hne
    have ff := fun i => HV4.out.frozen i; have lg := HV4.out.lt; obtain ⟨z0, z1, z2, z3, z4⟩ := HV4.out.cells5
    have fg := fun i => HI4.out.frozen i; have lh := HI4.out.lt; obtain ⟨y0, y1, y2, y3, y4⟩ := HI4.out.cells5
    go_wp2_with fail
    obtain ⟨e0, e1, e2, e3, e4, hcf, hkf, hof, hsf⟩ := fin5 (.int .i64 t.k) (.int .i64 t.n) (.int .i64 t.x) (.string t.s) (.slice a t.l.length c) (HI4.out).blk (HK4.out) (Nat.le_refl _) (HC4.out) hlA
    refine bodyPost_ret (v := .agg #[.int .i64 t.k, .int .i64 t.n, .int .i64 t.x, .string t.s, .slice a t.l.length c]) (by simp [results, Tryz.results65, go_sem, e0, e1, e2, e3, e4]) rfl ⟨t, a, c, rfl, htw, hts, (by omega), ⟨Nat.le_succ_of_le HTD.out.1, HTD.out.2⟩, ?_, hcf, hkf⟩
    exact ((HR4.out).agree TV.elem.loc (fun f h1 _ _ => hof f (by omega)) (by rw [hsf]; omega)).rn.less (by omega)
  have HH := Lib.hid (fun (w5 : World) (hk5 : Kp A w4 w5) => HR4.out.agree TV.elem.loc (fun f h1 h2 h3 => hk5.heap f (by omega) h3) hk5.size)
  have HS := Lib.hid (fun (w5 : World) (h : Rq TV 5 w5 (w.heap.size + 1) X a c t.l) (j : Nat) (v : Value) => h.agree (w' := w5.setCell ⟨X, j, none⟩ v) TV.elem.loc (fun f h1 h2 h3 => heap_miss _ _ _ _ h2 _) (by rw [size_set]; omega))
  rcases (show k = 0 ∨ k = 1 ∨ k = 2 ∨ k = 3 ∨ k = 4 by omega) with rfl | rfl | rfl | rfl | rfl
  · go_wp2_with fail
    refine (spec_l1Below A 14 w4 HC4.out ⟨by decide, by decide⟩).mono ?_
    rintro e w5 ⟨x, rfl, hx, _, hc5, hk5⟩
    have HC5 := Lib.hid hc5; have HI5 := Lib.hid (hk5.is HI4.out (by omega)); have HV5 := Lib.hid (hk5.is HV4.out (by omega)); have HK5 := Lib.hid (show Kp A w w5 from HK4.out.trans hk5); have HR5 := Lib.hid (HH.out w5 hk5); clear hc5 hk5
    have ff := fun i => HV5.out.frozen i; have lg := HV5.out.lt; obtain ⟨z0, z1, z2, z3, z4⟩ := HV5.out.cells5
    have fg := fun i => HI5.out.frozen i; have lh := HI5.out.lt; obtain ⟨y0, y1, y2, y3, y4⟩ := HI5.out.cells5
    go_wp2_with fail
    obtain ⟨e0, e1, e2, e3, e4, hcf, hkf, hof, hsf⟩ := fin5 (.int .i64 ((x : Int) - 1)) (.int .i64 t.n) (.int .i64 t.x) (.string t.s) (.slice a t.l.length c) (HI5.out.miss X 0 (by omega) (.int .i64 ((x : Int) - 1))).blk (Kp.set HK5.out (by omega) (by omega) 0 (.int .i64 ((x : Int) - 1))) (Nat.le_refl _) (HC5.out.set (by omega) 0 (.int .i64 ((x : Int) - 1))) hlA
    refine bodyPost_ret (v := .agg #[.int .i64 ((x : Int) - 1), .int .i64 t.n, .int .i64 t.x, .string t.s, .slice a t.l.length c]) (by simp [results, Tryz.results65, go_sem, e0, e1, e2, e3, e4]) rfl ⟨.mk ((x : Int) - 1) t.n t.x t.s t.l, a, c, rfl, wf_mk ⟨by omega, by omega⟩ htw.2.1 htw.2.2.1 (by omega), hts, (by rw [T.sz_eta]; show t.s.size + T.szL t.l ≤ _; omega), ⟨Nat.le_succ_of_le HTD.out.1, HTD.out.2⟩, ?_, hcf, hkf⟩
    exact ((HS.out w5 HR5.out 0 (.int .i64 ((x : Int) - 1))).agree TV.elem.loc (fun f h1 _ _ => hof f (by omega)) (by rw [hsf]; omega)).rn.less (by omega)
  · go_wp2_with fail
    refine (spec_l1Raw A w4 HC4.out).mono ?_
    rintro e w5 ⟨n, hn, rfl, hc5, hk5⟩
    have HN := Lib.hid hn; clear hn
    have HC5 := Lib.hid hc5; have HI5 := Lib.hid (hk5.is HI4.out (by omega)); have HV5 := Lib.hid (hk5.is HV4.out (by omega)); have HK5 := Lib.hid (show Kp A w w5 from HK4.out.trans hk5); have HR5 := Lib.hid (HH.out w5 hk5); clear hc5 hk5
    have ff := fun i => HV5.out.frozen i; have lg := HV5.out.lt; obtain ⟨z0, z1, z2, z3, z4⟩ := HV5.out.cells5
    have fg := fun i => HI5.out.frozen i; have lh := HI5.out.lt; obtain ⟨y0, y1, y2, y3, y4⟩ := HI5.out.cells5
    go_wp2_with fail
    obtain ⟨e0, e1, e2, e3, e4, hcf, hkf, hof, hsf⟩ := fin5 (.int .i64 t.k) (.int .i64 n) (.int .i64 t.x) (.string t.s) (.slice a t.l.length c) (HI5.out.miss X 1 (by omega) (.int .i64 n)).blk (Kp.set HK5.out (by omega) (by omega) 1 (.int .i64 n)) (Nat.le_refl _) (HC5.out.set (by omega) 1 (.int .i64 n)) hlA
    refine bodyPost_ret (v := .agg #[.int .i64 t.k, .int .i64 n, .int .i64 t.x, .string t.s, .slice a t.l.length c]) (by simp [results, Tryz.results65, go_sem, e0, e1, e2, e3, e4]) rfl ⟨.mk t.k n t.x t.s t.l, a, c, rfl, wf_mk htw.1 HN.out htw.2.2.1 (by omega), hts, (by rw [T.sz_eta]; show t.s.size + T.szL t.l ≤ _; omega), ⟨Nat.le_succ_of_le HTD.out.1, HTD.out.2⟩, ?_, hcf, hkf⟩
    exact ((HS.out w5 HR5.out 1 (.int .i64 n)).agree TV.elem.loc (fun f h1 _ _ => hof f (by omega)) (by rw [hsf]; omega)).rn.less (by omega)
  · go_wp2_with fail
    refine (spec_l1IntL A [1, -17, -1] _ w4 HC4.out (by decide) (by decide) (by decide)).mono ?_
    rintro e w5 ⟨x, _, hx, rfl, hc5, hk5⟩
    have HN := Lib.hid hx; clear hx
    have HC5 := Lib.hid hc5; have HI5 := Lib.hid (hk5.is HI4.out (by omega)); have HV5 := Lib.hid (hk5.is HV4.out (by omega)); have HK5 := Lib.hid (show Kp A w w5 from HK4.out.trans hk5); have HR5 := Lib.hid (HH.out w5 hk5); clear hc5 hk5
    have ff := fun i => HV5.out.frozen i; have lg := HV5.out.lt; obtain ⟨z0, z1, z2, z3, z4⟩ := HV5.out.cells5
    have fg := fun i => HI5.out.frozen i; have lh := HI5.out.lt; obtain ⟨y0, y1, y2, y3, y4⟩ := HI5.out.cells5
    go_wp2_with fail
    obtain ⟨e0, e1, e2, e3, e4, hcf, hkf, hof, hsf⟩ := fin5 (.int .i64 t.k) (.int .i64 t.n) (.int .i64 x) (.string t.s) (.slice a t.l.length c) (HI5.out.miss X 2 (by omega) (.int .i64 x)).blk (Kp.set HK5.out (by omega) (by omega) 2 (.int .i64 x)) (Nat.le_refl _) (HC5.out.set (by omega) 2 (.int .i64 x)) hlA
    refine bodyPost_ret (v := .agg #[.int .i64 t.k, .int .i64 t.n, .int .i64 x, .string t.s, .slice a t.l.length c]) (by simp [results, Tryz.results65, go_sem, e0, e1, e2, e3, e4]) rfl ⟨.mk t.k t.n x t.s t.l, a, c, rfl, wf_mk htw.1 htw.2.1 HN.out (by omega), hts, (by rw [T.sz_eta]; show t.s.size + T.szL t.l ≤ _; omega), ⟨Nat.le_succ_of_le HTD.out.1, HTD.out.2⟩, ?_, hcf, hkf⟩
    exact ((HS.out w5 HR5.out 2 (.int .i64 x)).agree TV.elem.loc (fun f h1 _ _ => hof f (by omega)) (by rw [hsf]; omega)).rn.less (by omega)
  · go_wp2_with fail
    refine (spec_l1StrL A [⟨#[128]⟩, ⟨#[120]⟩, ⟨#[255]⟩] _ w4 HC4.out (by decide) (by decide)).mono ?_
    rintro e w5 ⟨s, hm, rfl, hc5, hk5⟩
    have hss : s.size ≤ 1 := by (simp only [List.mem_cons, List.not_mem_nil, or_false] at hm; rcases hm with rfl | rfl | rfl <;> decide)
    clear hm
    have HC5 := Lib.hid hc5; have HI5 := Lib.hid (hk5.is HI4.out (by omega)); have HV5 := Lib.hid (hk5.is HV4.out (by omega)); have HK5 := Lib.hid (show Kp A w w5 from HK4.out.trans hk5); have HR5 := Lib.hid (HH.out w5 hk5); clear hc5 hk5
    have ff := fun i => HV5.out.frozen i; have lg := HV5.out.lt; obtain ⟨z0, z1, z2, z3, z4⟩ := HV5.out.cells5
    have fg := fun i => HI5.out.frozen i; have lh := HI5.out.lt; obtain ⟨y0, y1, y2, y3, y4⟩ := HI5.out.cells5
    go_wp2_with fail
    obtain ⟨e0, e1, e2, e3, e4, hcf, hkf, hof, hsf⟩ := fin5 (.int .i64 t.k) (.int .i64 t.n) (.int .i64 t.x) (.string s) (.slice a t.l.length c) (HI5.out.miss X 3 (by omega) (.string s)).blk (Kp.set HK5.out (by omega) (by omega) 3 (.string s)) (Nat.le_refl _) (HC5.out.set (by omega) 3 (.string s)) hlA
    refine bodyPost_ret (v := .agg #[.int .i64 t.k, .int .i64 t.n, .int .i64 t.x, .string s, .slice a t.l.length c]) (by simp [results, Tryz.results65, go_sem, e0, e1, e2, e3, e4]) rfl ⟨.mk t.k t.n t.x s t.l, a, c, rfl, wf_mk htw.1 htw.2.1 htw.2.2.1 (by omega), (show s.size ≤ 12 by omega), (by rw [T.sz_eta]; show s.size + T.szL t.l ≤ _; omega), ⟨Nat.le_succ_of_le HTD.out.1, HTD.out.2⟩, ?_, hcf, hkf⟩
    exact ((HS.out w5 HR5.out 3 (.string s)).agree TV.elem.loc (fun f h1 _ _ => hof f (by omega)) (by rw [hsf]; omega)).rn.less (by omega)
  · have HCD := Lib.hid (HC4.out.below (Below.refl (A + 1) w4).drew (by omega))
    have HKD := Lib.hid (show Kp A w4 w4.drew from ⟨(Below.refl _ _).drew, fun _ _ _ => rfl⟩)
    have ff := fun i => HV4.out.frozen i; have lg := HV4.out.lt; obtain ⟨z0, z1, z2, z3, z4⟩ := HV4.out.cells5
    have hlen : t.l.length ≤ 1920 := by have := T.length_le_szL t.l; omega
    go_upto_region 12 with (fail)
    refine wp_region_held_drew (S := fun _ => True) (by kernel_rfl) trivial (fun hHeld => ?_)
    refine wpAnyH_take (i := 0) (oi := ⟨some 33, _, _, _, _, _⟩) (v := ?_) rfl (by kernel_rfl) (by kernel_rfl) (by kernel_rfl) (fun _ _ _ h => h) (Or.inl ⟨by rfl, ?_⟩) (by assumption) ?_
    rotate_left 1
    · (intro w hSw; (try dsimp only at hSw); go_simp; try (with_reducible rfl))
    try simp only [Act.put, List.setIfInBounds_toArray, List.set_cons_zero, List.set_cons_succ]
    refine wpAnyH_take (i := 2) (oi := ⟨some 35, _, _, _, _, _⟩) (v := ?_) rfl (by kernel_rfl) (by kernel_rfl) (by kernel_rfl) (fun _ _ _ h => h) (Or.inl ⟨by rfl, ?_⟩) (by assumption) ?_
    rotate_left 1
    · (intro w hSw; (try dsimp only at hSw); go_simp; try (with_reducible rfl))
    try simp only [Act.put, List.setIfInBounds_toArray, List.set_cons_zero, List.set_cons_succ]
    refine wpAnyH_ready (rs := [1, 3]) (by kernel_rfl) (by simp) ?_
    refine AllReadyH.cons (o := ⟨some 34, _, _, _, _, _⟩) rfl (fun K hK => ?_) ?_
    focus (go_simp; go_wp2_with fail; refine hK.out _ _ trivial (fun hHeld => ?_); clear hK K; try simp only [Act.put, List.setIfInBounds_toArray, List.set_cons_zero, List.set_cons_succ])
    refine wpAnyH_ready (rs := [3]) (by kernel_rfl) (by simp) ?_
    refine AllReadyH.cons (o := ⟨some 36, _, _, _, _, _⟩) rfl (fun K hK => ?_) AllReadyH.nil
    focus (go_simp; (first | (go_at_call 115; refine (spec_l6Draw A 0 (by omega) _ HCD.out).mono ?_; rintro e w5 ⟨t5, a5, c5, rfl, htw5, hts5, htz5, htd5, happ5, hc5, hk5⟩; have HTD5 := Lib.hid htd5; clear htd5; have HK5 := Lib.hid (show Kp A w4 w5 from HKD.out.trans hk5); have hx5 := Kp.is HK5.out HV4.out (by omega); have hi5 := Kp.is HK5.out HI4.out (by omega); have ff5 := (fun i => hx5.frozen i); have lg5 := hx5.lt; obtain ⟨v0, v1, v2, v3, v4⟩ := hx5.cells5; obtain ⟨G, g1, g2, g3⟩ := Own.ow.2 happ5.own; simp only [World.size_drew] at g3) | (obtain ⟨a6, c6, w6, hrun, happ6, hb6, hout6, hsz6, hrow6⟩ := run_app3 (P := Tryz.prog) (w5.alloc (.cells (cV t5 a5 c5) 26)) (EX.elem X TV.elem) 24 24 (.agg zV) 64 Tryz.underlying24 info_Val rfl (w.heap.size + 1) X a c t.l (((HA4.out.ex (Nat.le_refl _)).kp (EX.elem X TV.elem) HK5.out (by omega) (by omega)).below (EX.elem X TV.elem) (below1 w5 _) (by omega)) (by simp; omega) (by omega) w5.heap.size 0 1 t5 G ⟨TV.box 26 g1 htw5 (fun f hf => (g3 f hf).2.2.lt), fun hm => by have := (g3 X hm).1; omega⟩ g2 (fun f hf => ⟨by have := (g3 f hf).1; omega, by have := (g3 f hf).2.1; simp; omega, (g3 f hf).2.2.alloc _⟩) (by unfold maxLen; omega) (by omega); refine step_append_run _ rfl _ _ _ _ rfl _ _ rfl rfl _ _ hrun ?_; have hx6 := (hx5.alloc (.cells (cV t5 a5 c5) 26)).agree (hout6 X (by simp; omega) (fun k hk e => by have := (HA4.out.row k hk).2; omega)); have ff6 := (fun i => hx6.frozen i); have lg6 := hx6.lt; obtain ⟨y0, y1, y2, y3, y4⟩ := hx6.cells5)); go_wp2_with fail; refine hK.out _ _ trivial (fun hHeld => ?_); clear hK K; try simp only [Act.put, List.setIfInBounds_toArray, List.set_cons_zero, List.set_cons_succ])
    refine wpAnyH_ready (rs := [4]) (by kernel_rfl) (by simp) ?_
    refine AllReadyH.cons (o := ⟨some 37, _, _, _, _, _⟩) rfl (fun K hK => ?_) AllReadyH.nil
    focus (go_simp; go_wp2_with fail; refine hK.out _ _ trivial (fun hHeld => ?_); clear hK K; try simp only [Act.put, List.setIfInBounds_toArray, List.set_cons_zero, List.set_cons_succ])
    refine wpAnyH_ready (rs := [5]) (by kernel_rfl) (by simp) ?_
    refine AllReadyH.cons (o := ⟨some 38, _, _, _, _, _⟩) rfl (fun K hK => ?_) AllReadyH.nil
    focus ((first | (go_at_call 115; refine (spec_l6Draw A 0 (by omega) _ HCD.out).mono ?_; rintro e w5 ⟨t5, a5, c5, rfl, htw5, hts5, htz5, htd5, happ5, hc5, hk5⟩; have HTD5 := Lib.hid htd5; clear htd5; have HK5 := Lib.hid (show Kp A w4 w5 from HKD.out.trans hk5); have hx5 := Kp.is HK5.out HV4.out (by omega); have hi5 := Kp.is HK5.out HI4.out (by omega); have ff5 := (fun i => hx5.frozen i); have lg5 := hx5.lt; obtain ⟨v0, v1, v2, v3, v4⟩ := hx5.cells5; obtain ⟨G, g1, g2, g3⟩ := Own.ow.2 happ5.own; simp only [World.size_drew] at g3) | (obtain ⟨a6, c6, w6, hrun, happ6, hb6, hout6, hsz6, hrow6⟩ := run_app3 (P := Tryz.prog) (w5.alloc (.cells (cV t5 a5 c5) 26)) (EX.elem X TV.elem) 24 24 (.agg zV) 64 Tryz.underlying24 info_Val rfl (w.heap.size + 1) X a c t.l (((HA4.out.ex (Nat.le_refl _)).kp (EX.elem X TV.elem) HK5.out (by omega) (by omega)).below (EX.elem X TV.elem) (below1 w5 _) (by omega)) (by simp; omega) (by omega) w5.heap.size 0 1 t5 G ⟨TV.box 26 g1 htw5 (fun f hf => (g3 f hf).2.2.lt), fun hm => by have := (g3 X hm).1; omega⟩ g2 (fun f hf => ⟨by have := (g3 f hf).1; omega, by have := (g3 f hf).2.1; simp; omega, (g3 f hf).2.2.alloc _⟩) (by unfold maxLen; omega) (by omega); refine step_append_run _ rfl _ _ _ _ rfl _ _ rfl rfl _ _ hrun ?_; have hx6 := (hx5.alloc (.cells (cV t5 a5 c5) 26)).agree (hout6 X (by simp; omega) (fun k hk e => by have := (HA4.out.row k hk).2; omega)); have ff6 := (fun i => hx6.frozen i); have lg6 := hx6.lt; obtain ⟨y0, y1, y2, y3, y4⟩ := hx6.cells5)); refine hK.out _ _ trivial (fun hHeld => ?_); clear hK K; try simp only [Act.put, List.setIfInBounds_toArray, List.set_cons_zero, List.set_cons_succ])
    refine wpAnyH_take (i := 6) (oi := ⟨some 39, _, _, _, _, _⟩) (v := ?_) rfl (by kernel_rfl) (by kernel_rfl) (by kernel_rfl) (fun _ _ _ h => h) (Or.inl ⟨by rfl, ?_⟩) (by assumption) ?_
    rotate_left 1
    · (intro w hSw; (try dsimp only at hSw); go_simp; try (with_reducible rfl))
    try simp only [Act.put, List.setIfInBounds_toArray, List.set_cons_zero, List.set_cons_succ]
    refine wpAnyH_ready (rs := [7]) (by kernel_rfl) (by simp) ?_
    refine AllReadyH.cons (o := ⟨none, _, _, _, _, _⟩) rfl (fun K hK => ?_) AllReadyH.nil
    focus (go_simp; go_wp2_with fail; refine hK.out _ _ trivial (fun hHeld => ?_); clear hK K; try simp only [Act.put])
    refine wpAnyH_done (by kernel_rfl) ?_ _
    rotate_left 1
    refine AllReadyH.cons (o := ⟨some 36, _, _, _, _, _⟩) rfl (fun K hK => ?_) AllReadyH.nil
    focus (go_simp; (first | (go_at_call 115; refine (spec_l6Draw A 0 (by omega) _ HCD.out).mono ?_; rintro e w5 ⟨t5, a5, c5, rfl, htw5, hts5, htz5, htd5, happ5, hc5, hk5⟩; have HTD5 := Lib.hid htd5; clear htd5; have HK5 := Lib.hid (show Kp A w4 w5 from HKD.out.trans hk5); have hx5 := Kp.is HK5.out HV4.out (by omega); have hi5 := Kp.is HK5.out HI4.out (by omega); have ff5 := (fun i => hx5.frozen i); have lg5 := hx5.lt; obtain ⟨v0, v1, v2, v3, v4⟩ := hx5.cells5; obtain ⟨G, g1, g2, g3⟩ := Own.ow.2 happ5.own; simp only [World.size_drew] at g3) | (obtain ⟨a6, c6, w6, hrun, happ6, hb6, hout6, hsz6, hrow6⟩ := run_app3 (P := Tryz.prog) (w5.alloc (.cells (cV t5 a5 c5) 26)) (EX.elem X TV.elem) 24 24 (.agg zV) 64 Tryz.underlying24 info_Val rfl (w.heap.size + 1) X a c t.l (((HA4.out.ex (Nat.le_refl _)).kp (EX.elem X TV.elem) HK5.out (by omega) (by omega)).below (EX.elem X TV.elem) (below1 w5 _) (by omega)) (by simp; omega) (by omega) w5.heap.size 0 1 t5 G ⟨TV.box 26 g1 htw5 (fun f hf => (g3 f hf).2.2.lt), fun hm => by have := (g3 X hm).1; omega⟩ g2 (fun f hf => ⟨by have := (g3 f hf).1; omega, by have := (g3 f hf).2.1; simp; omega, (g3 f hf).2.2.alloc _⟩) (by unfold maxLen; omega) (by omega); refine step_append_run _ rfl _ _ _ _ rfl _ _ rfl rfl _ _ hrun ?_; have hx6 := (hx5.alloc (.cells (cV t5 a5 c5) 26)).agree (hout6 X (by simp; omega) (fun k hk e => by have := (HA4.out.row k hk).2; omega)); have ff6 := (fun i => hx6.frozen i); have lg6 := hx6.lt; obtain ⟨y0, y1, y2, y3, y4⟩ := hx6.cells5)); go_wp2_with fail; refine hK.out _ _ trivial (fun hHeld => ?_); clear hK K; try simp only [Act.put, List.setIfInBounds_toArray, List.set_cons_zero, List.set_cons_succ])
    refine wpAnyH_ready (rs := [1, 4]) (by kernel_rfl) (by simp) ?_
    refine AllReadyH.cons (o := ⟨some 34, _, _, _, _, _⟩) rfl (fun K hK => ?_) ?_
    focus (go_simp; go_wp2_with fail; refine hK.out _ _ trivial (fun hHeld => ?_); clear hK K; try simp only [Act.put, List.setIfInBounds_toArray, List.set_cons_zero, List.set_cons_succ])
    refine wpAnyH_ready (rs := [4]) (by kernel_rfl) (by simp) ?_
    refine AllReadyH.cons (o := ⟨some 37, _, _, _, _, _⟩) rfl (fun K hK => ?_) AllReadyH.nil
    focus (go_simp; go_wp2_with fail; refine hK.out _ _ trivial (fun hHeld => ?_); clear hK K; try simp only [Act.put, List.setIfInBounds_toArray, List.set_cons_zero, List.set_cons_succ])
    refine wpAnyH_ready (rs := [5]) (by kernel_rfl) (by simp) ?_
    refine AllReadyH.cons (o := ⟨some 38, _, _, _, _, _⟩) rfl (fun K hK => ?_) AllReadyH.nil
    focus ((first | (go_at_call 115; refine (spec_l6Draw A 0 (by omega) _ HCD.out).mono ?_; rintro e w5 ⟨t5, a5, c5, rfl, htw5, hts5, htz5, htd5, happ5, hc5, hk5⟩; have HTD5 := Lib.hid htd5; clear htd5; have HK5 := Lib.hid (show Kp A w4 w5 from HKD.out.trans hk5); have hx5 := Kp.is HK5.out HV4.out (by omega); have hi5 := Kp.is HK5.out HI4.out (by omega); have ff5 := (fun i => hx5.frozen i); have lg5 := hx5.lt; obtain ⟨v0, v1, v2, v3, v4⟩ := hx5.cells5; obtain ⟨G, g1, g2, g3⟩ := Own.ow.2 happ5.own; simp only [World.size_drew] at g3) | (obtain ⟨a6, c6, w6, hrun, happ6, hb6, hout6, hsz6, hrow6⟩ := run_app3 (P := Tryz.prog) (w5.alloc (.cells (cV t5 a5 c5) 26)) (EX.elem X TV.elem) 24 24 (.agg zV) 64 Tryz.underlying24 info_Val rfl (w.heap.size + 1) X a c t.l (((HA4.out.ex (Nat.le_refl _)).kp (EX.elem X TV.elem) HK5.out (by omega) (by omega)).below (EX.elem X TV.elem) (below1 w5 _) (by omega)) (by simp; omega) (by omega) w5.heap.size 0 1 t5 G ⟨TV.box 26 g1 htw5 (fun f hf => (g3 f hf).2.2.lt), fun hm => by have := (g3 X hm).1; omega⟩ g2 (fun f hf => ⟨by have := (g3 f hf).1; omega, by have := (g3 f hf).2.1; simp; omega, (g3 f hf).2.2.alloc _⟩) (by unfold maxLen; omega) (by omega); refine step_append_run _ rfl _ _ _ _ rfl _ _ rfl rfl _ _ hrun ?_; have hx6 := (hx5.alloc (.cells (cV t5 a5 c5) 26)).agree (hout6 X (by simp; omega) (fun k hk e => by have := (HA4.out.row k hk).2; omega)); have ff6 := (fun i => hx6.frozen i); have lg6 := hx6.lt; obtain ⟨y0, y1, y2, y3, y4⟩ := hx6.cells5)); refine hK.out _ _ trivial (fun hHeld => ?_); clear hK K; try simp only [Act.put, List.setIfInBounds_toArray, List.set_cons_zero, List.set_cons_succ])
    refine wpAnyH_take (i := 6) (oi := ⟨some 39, _, _, _, _, _⟩) (v := ?_) rfl (by kernel_rfl) (by kernel_rfl) (by kernel_rfl) (fun _ _ _ h => h) (Or.inl ⟨by rfl, ?_⟩) (by assumption) ?_
    rotate_left 1
    · (intro w hSw; (try dsimp only at hSw); go_simp; try (with_reducible rfl))
    try simp only [Act.put, List.setIfInBounds_toArray, List.set_cons_zero, List.set_cons_succ]
    refine wpAnyH_ready (rs := [7]) (by kernel_rfl) (by simp) ?_
    refine AllReadyH.cons (o := ⟨none, _, _, _, _, _⟩) rfl (fun K hK => ?_) AllReadyH.nil
    focus (go_simp; go_wp2_with fail; refine hK.out _ _ trivial (fun hHeld => ?_); clear hK K; try simp only [Act.put])
    refine wpAnyH_done (by kernel_rfl) ?_ _
    rotate_left 1
    refine AllReadyH.cons (o := ⟨some 37, _, _, _, _, _⟩) rfl (fun K hK => ?_) AllReadyH.nil
    focus (go_simp; go_wp2_with fail; refine hK.out _ _ trivial (fun hHeld => ?_); clear hK K; try simp only [Act.put, List.setIfInBounds_toArray, List.set_cons_zero, List.set_cons_succ])
    refine wpAnyH_ready (rs := [1]) (by kernel_rfl) (by simp) ?_
    refine AllReadyH.cons (o := ⟨some 34, _, _, _, _, _⟩) rfl (fun K hK => ?_) AllReadyH.nil
    focus (go_simp; go_wp2_with fail; refine hK.out _ _ trivial (fun hHeld => ?_); clear hK K; try simp only [Act.put, List.setIfInBounds_toArray, List.set_cons_zero, List.set_cons_succ])
    refine wpAnyH_ready (rs := [5]) (by kernel_rfl) (by simp) ?_
    refine AllReadyH.cons (o := ⟨some 38, _, _, _, _, _⟩) rfl (fun K hK => ?_) AllReadyH.nil
    focus ((first | (go_at_call 115; refine (spec_l6Draw A 0 (by omega) _ HCD.out).mono ?_; rintro e w5 ⟨t5, a5, c5, rfl, htw5, hts5, htz5, htd5, happ5, hc5, hk5⟩; have HTD5 := Lib.hid htd5; clear htd5; have HK5 := Lib.hid (show Kp A w4 w5 from HKD.out.trans hk5); have hx5 := Kp.is HK5.out HV4.out (by omega); have hi5 := Kp.is HK5.out HI4.out (by omega); have ff5 := (fun i => hx5.frozen i); have lg5 := hx5.lt; obtain ⟨v0, v1, v2, v3, v4⟩ := hx5.cells5; obtain ⟨G, g1, g2, g3⟩ := Own.ow.2 happ5.own; simp only [World.size_drew] at g3) | (obtain ⟨a6, c6, w6, hrun, happ6, hb6, hout6, hsz6, hrow6⟩ := run_app3 (P := Tryz.prog) (w5.alloc (.cells (cV t5 a5 c5) 26)) (EX.elem X TV.elem) 24 24 (.agg zV) 64 Tryz.underlying24 info_Val rfl (w.heap.size + 1) X a c t.l (((HA4.out.ex (Nat.le_refl _)).kp (EX.elem X TV.elem) HK5.out (by omega) (by omega)).below (EX.elem X TV.elem) (below1 w5 _) (by omega)) (by simp; omega) (by omega) w5.heap.size 0 1 t5 G ⟨TV.box 26 g1 htw5 (fun f hf => (g3 f hf).2.2.lt), fun hm => by have := (g3 X hm).1; omega⟩ g2 (fun f hf => ⟨by have := (g3 f hf).1; omega, by have := (g3 f hf).2.1; simp; omega, (g3 f hf).2.2.alloc _⟩) (by unfold maxLen; omega) (by omega); refine step_append_run _ rfl _ _ _ _ rfl _ _ rfl rfl _ _ hrun ?_; have hx6 := (hx5.alloc (.cells (cV t5 a5 c5) 26)).agree (hout6 X (by simp; omega) (fun k hk e => by have := (HA4.out.row k hk).2; omega)); have ff6 := (fun i => hx6.frozen i); have lg6 := hx6.lt; obtain ⟨y0, y1, y2, y3, y4⟩ := hx6.cells5)); refine hK.out _ _ trivial (fun hHeld => ?_); clear hK K; try simp only [Act.put, List.setIfInBounds_toArray, List.set_cons_zero, List.set_cons_succ])
    refine wpAnyH_take (i := 6) (oi := ⟨some 39, _, _, _, _, _⟩) (v := ?_) rfl (by kernel_rfl) (by kernel_rfl) (by kernel_rfl) (fun _ _ _ h => h) (Or.inl ⟨by rfl, ?_⟩) (by assumption) ?_
    rotate_left 1
    · (intro w hSw; (try dsimp only at hSw); go_simp; try (with_reducible rfl))
    try simp only [Act.put, List.setIfInBounds_toArray, List.set_cons_zero, List.set_cons_succ]
    refine wpAnyH_ready (rs := [7]) (by kernel_rfl) (by simp) ?_
    refine AllReadyH.cons (o := ⟨none, _, _, _, _, _⟩) rfl (fun K hK => ?_) AllReadyH.nil
    focus (go_simp; go_wp2_with fail; refine hK.out _ _ trivial (fun hHeld => ?_); clear hK K; try simp only [Act.put])
    refine wpAnyH_done (by kernel_rfl) ?_ _
    all_goals
      have hi6 := (hi5.alloc (.cells (cV t5 a5 c5) 26)).below hb6 (by omega)
      have fg := fun i => hi6.frozen i; have lh := hi6.lt; obtain ⟨x0, x1, x2, x3, x4⟩ := hi6.cells5
      have hc6 := ((hc5.below (below1 w5 (.cells (cV t5 a5 c5) 26)) hc5.lt)).below hb6 (by omega)
      have hkp6 : Kp A w w6 := Kp.grow (HK4.out.trans (HK5.out.trans (Kp.alloc (Nat.le_of_lt hc5.lt) _))) (hb6.mono (by omega)) (by omega)
      have hr6 := happ6.rq (fun k hk => by rcases hrow6 k hk with h | h; (have := (HA4.out.row k h).2; omega); (rw [h]; simp only [size_alloc]; omega)) (Nat.le_refl _)
      have hle : (t.l ++ [t5]).length = t.l.length + 1 := by rw [List.length_append]; rfl
      go_wp2_with fail
      obtain ⟨e0, e1, e2, e3, e4, hcf, hkf, hof, hsf⟩ := fin5 (.int .i64 t.k) (.int .i64 t.n) (.int .i64 t.x) (.string t.s) (.slice a6 (t.l.length + 1) c6) (hi6.miss X 4 (by omega) (.slice a6 (t.l.length + 1) c6)).blk (Kp.set hkp6 (by omega) (by omega) 4 (.slice a6 (t.l.length + 1) c6)) (Nat.le_refl _) (hc6.set (by omega) 4 (.slice a6 (t.l.length + 1) c6)) hlA
      refine bodyPost_ret (v := .agg #[.int .i64 t.k, .int .i64 t.n, .int .i64 t.x, .string t.s, .slice a6 (t.l.length + 1) c6]) (by simp [results, Tryz.results65, go_sem, e0, e1, e2, e3, e4]) rfl ⟨.mk t.k t.n t.x t.s (t.l ++ [t5]), a6, c6, by simp [T.l, T.k, T.n, T.x, T.s], htw, hts, (by rw [T.sz_eta]; show t.s.size + T.szL (t.l ++ [t5]) ≤ _; rw [T.szL_append]; show _ + (_ + (1 + T.sz t5 + 0)) ≤ _; omega), (nam_more HTD.out HTD5.out), ?_, hcf, hkf⟩
      exact ((hr6.agree (w' := w6.setCell ⟨X, 4, none⟩ (.slice a6 (t.l.length + 1) c6)) TV.elem.loc (fun f h1 h2 h3 => heap_miss _ _ _ _ h2 _) (by rw [size_set]; omega)).agree TV.elem.loc (fun f h1 _ _ => hof f (by omega)) (by rw [hsf]; omega)).rn.less (by omega)
set_option maxHeartbeats 4000000 in
theorem spec_DrawNameFor (a : Option Addr) (cap B : Nat) (l : List Int) (w : World) (hr : Rd EByte 1 w B a cap l) (hB : B ≤ w.heap.size) (hl : l.length ≤ 1048576) :
    Calls Tryz.prog 26 #[.slice a l.length cap] w fun e w' => DrawnV NamC w e w' := by
  have HR0 := Lib.hid (hr.below EByte.loc (below1 w (.cells zV 26)) hB)
  have HI0 := Lib.hid (Is.new w zV 26)
  clear hr
  go_enter Tryz.func26, Tryz.ntmps26
  go_wp2_with fail
  refine (spec_l1New a cap B l _ HR0.out (by simp; omega) hl).mono ?_
  rintro e w1 ⟨A, rfl, hA, hc1, hb1⟩
  rw [size_alloc] at hA hb1
  have HC1 := Lib.hid hc1; have HI1 := Lib.hid (HI0.out.below hb1 (by omega)); have HB1 := Lib.hid ((below1 w (.cells zV 26)).trans (hb1.mono (by omega)))
  clear hc1 hb1 HI0
  have hs1 : w.heap.size ≤ w1.heap.size := HB1.out.size
  have hi1 := HI1.out.lt
  go_wp2_with fail
  refine (spec_l6AnyN A w1 HC1.out).mono ?_
  rintro e w2 ⟨t, a3, c3, rfl, htw, hts, htz, hch, hrn, hc2, hk2⟩
  have HCH := Lib.hid (show NamC t from ⟨hts, hch⟩); clear hch
  have htz : T.sz t ≤ 60000 := by omega
  have HI2 := Lib.hid (hk2.is HI1.out (by omega)); have HK2 := Lib.hid hk2; have HR2 := Lib.hid hrn; have HC2 := Lib.hid hc2; clear hk2 hrn hc2
  have ff := fun i => HI2.out.frozen i; have lg := HI2.out.lt; obtain ⟨z0, z1, z2, z3, z4⟩ := HI2.out.cells5
  have hs2 := Kp.size HK2.out
  go_wp2_with fail
  obtain ⟨e0, e1, e2, e3, e4, hbel, hof, hsf⟩ := out5 HI2.out.blk (.int .i64 t.k) (.int .i64 t.n) (.int .i64 t.x) (.string t.s) (.slice a3 t.l.length c3) w.heap.size (Nat.le_refl _)
  refine bodyPost_ret (v := .agg (cV t a3 c3)) (by simp [results, Tryz.results26, go_sem, e0, e1, e2, e3, e4]) rfl ⟨t, a3, c3, rfl, htw, htz, HCH.out, ?_, (HB1.out.trans (HK2.out.1.mono (by omega))).trans hbel⟩
  exact rn_r (HR2.out.agree TV.elem.loc (fun f h1 _ => hof f (by omega)) (by rw [hsf]; omega))
set_option maxHeartbeats 4000000 in
theorem spec_DrawVal (a : Option Addr) (cap B : Nat) (l : List Int) (w : World) (hr : Rd EByte 1 w B a cap l) (hB : B ≤ w.heap.size) (hl : l.length ≤ 1048576) :
    Calls Tryz.prog 28 #[.slice a l.length cap] w fun e w' => DrawnV (Dr 4) w e w' := by
  have HR0 := Lib.hid (hr.below EByte.loc (below1 w (.cells zV 26)) hB)
  have HI0 := Lib.hid (Is.new w zV 26)
  clear hr
  go_enter Tryz.func28, Tryz.ntmps28
  go_wp2_with fail
  refine (spec_l1New a cap B l _ HR0.out (by simp; omega) hl).mono ?_
  rintro e w1 ⟨A, rfl, hA, hc1, hb1⟩
  rw [size_alloc] at hA hb1
  have HC1 := Lib.hid hc1; have HI1 := Lib.hid (HI0.out.below hb1 (by omega)); have HB1 := Lib.hid ((below1 w (.cells zV 26)).trans (hb1.mono (by omega)))
  clear hc1 hb1 HI0
  have hs1 : w.heap.size ≤ w1.heap.size := HB1.out.size
  have hi1 := HI1.out.lt
  go_wp2_with fail
  refine (spec_l6Val A w1 HC1.out).mono ?_
  rintro e w2 ⟨t, a3, c3, rfl, htw, hts, htz, hch, happ, hc2, hk2⟩
  have hrn := happ.rn (Nat.le_refl _)
  clear happ
  have HCH := Lib.hid hch; clear hch
  have htz : T.sz t ≤ 60000 := by omega
  have HI2 := Lib.hid (hk2.is HI1.out (by omega)); have HK2 := Lib.hid hk2; have HR2 := Lib.hid hrn; have HC2 := Lib.hid hc2; clear hk2 hrn hc2
  have ff := fun i => HI2.out.frozen i; have lg := HI2.out.lt; obtain ⟨z0, z1, z2, z3, z4⟩ := HI2.out.cells5
  have hs2 := Kp.size HK2.out
  go_wp2_with fail
  obtain ⟨e0, e1, e2, e3, e4, hbel, hof, hsf⟩ := out5 HI2.out.blk (.int .i64 t.k) (.int .i64 t.n) (.int .i64 t.x) (.string t.s) (.slice a3 t.l.length c3) w.heap.size (Nat.le_refl _)
  refine bodyPost_ret (v := .agg (cV t a3 c3)) (by simp [results, Tryz.results28, go_sem, e0, e1, e2, e3, e4]) rfl ⟨t, a3, c3, rfl, htw, htz, HCH.out, ?_, (HB1.out.trans (HK2.out.1.mono (by omega))).trans hbel⟩
  exact rn_r (HR2.out.agree TV.elem.loc (fun f h1 _ => hof f (by omega)) (by rw [hsf]; omega))
end Go.Proofs.YtggdenkmohnijaaGreatDoor
