/- Texts of this proof, merged: PathAt2, OnceA, Once, Names. No condition beyond what each theorem states. -/
import Derived.Test.YtfbodhfdomdkpaaGreatDoorRows
import Derived.WalkKit
import Derived.ProofKit
import Derived.OpenShut
import Derived.Handy
import Derived.Lib.Hide
import Derived.Lib.SmallJoins
import Derived.Deep.RegionHeld3
import Derived.Deep.AppendLies
import Derived.Deep.QuietTactic
import Derived.BigQuiet
import Derived.Test.YtfbodhfdomdkpaaGreatDoorZG1
import Derived.Test.YtfbodhfdomdkpaaGreatDoorZG2
import Derived.Test.YtfbodhfdomdkpaaGreatDoorZG3
set_option linter.unusedSimpArgs false
set_option linter.unnecessarySimpa false
namespace Go.Proofs.YtfbodhfdomdkpaaGreatDoor
open Go.ChangeShapes Go.WideShapes Go.ChangeAt Go.RowKit Go.Joins
set_option linter.unusedVariables false
set_option maxRecDepth 100000
def elT (t : T) (s : St) : T := if okI t s then t.l.getD (rawI t s).toNat zT else zT
theorem okI_nat {t : T} {s : St} (h : okI t s) : ∃ i : Nat, i < t.l.length ∧ rawI t s = i ∧ ∀ hi : i < t.l.length, elT t s = t.l[i] := by
  have h0 := rawI_nonneg h
  refine ⟨(rawI t s).toNat, by have := h.2.2; omega, by omega, fun hi => ?_⟩
  unfold elT; rw [if_pos h, List.getD_eq_getElem?_getD, List.getElem?_eq_getElem hi]; rfl
theorem elT_no {t : T} {s : St} (h : ¬ okI t s) : elT t s = zT := if_neg h
theorem zT_own (w : World) (lo hi : Nat) : Own w lo hi none 0 zT.l := Own.nil _ _ _ _ _ (by simp [maxLen])
theorem zT_rd (w : World) (B : Nat) : R w B none 0 zT.l := R.nil _ _
theorem zT_wf : Wf zT := by
  have h : (⟨#[]⟩ : ByteArray).size = 0 := rfl
  refine ⟨?_, ?_, ?_, ?_⟩ <;> simp [I64, zT, T.k, T.n, T.x, T.s, maxLen, h]
theorem Is.drew {w : World} {g : Nat} {e : TypeId} {cs : Array Value} (h : Is w g e cs) : Is w.drew g e cs := h
theorem Is.set5 {w : World} {g : Nat} {e : TypeId} {z0 z1 z2 z3 z4 : Value} (h : Is w g e #[z0, z1, z2, z3, z4]) (v0 v1 v2 v3 v4 : Value) :
    Is (((((w.setCell ⟨g, 0, none⟩ v0).setCell ⟨g, 1, none⟩ v1).setCell ⟨g, 2, none⟩ v2).setCell ⟨g, 3, none⟩ v3).setCell ⟨g, 4, none⟩ v4) g e #[v0, v1, v2, v3, v4] := ((((h.set 0 v0).set 1 v1).set 2 v2).set 3 v3).set 4 v4
theorem elT_wf {w : World} {B cap : Nat} {a : Option Addr} {x : T} (h : R w B a cap x.l) (s : St) : Wf (elT x s) := by
  by_cases hok : okI x s
  · obtain ⟨i, hil, _, hel⟩ := okI_nat hok
    rw [hel hil]
    obtain ⟨_, _, _, _, _, _, _, _, _, _, _, hwf, _⟩ := h.get i hil
    exact hwf
  · rw [elT_no hok]; exact zT_wf
theorem elT_count {x : T} (s : St) (hc : T.count x ≤ 1073741824) : T.count (elT x s) ≤ 1073741824 := by
  by_cases hok : okI x s
  · obtain ⟨i, hil, _, hel⟩ := okI_nat hok
    rw [hel hil]
    have := T.count_get x.l i hil
    cases x; simp only [T.count, T.l] at *; omega
  · rw [elT_no hok]; simp [zT, T.count, T.countL]
theorem atT_step {x : T} {p : List St} {j : Nat} (hj : j < p.length) (h : okI x p[j]) : atT x (p.drop j) = atT (elT x p[j]) (p.drop (j + 1)) := by
  rw [atT_drop_ok hj h]; unfold elT; rw [if_pos h]
theorem ret_t {v : Value} {x y : Bool} (h : x = y) : Ending.returned (.tuple #[v, .bool x]) = .returned (.tuple #[v, .bool y]) := by rw [h]
set_option maxHeartbeats 1000000 in
theorem spec_StepVal (t : T) (s : St) (a : Option Addr) (cap B : Nat) (w : World) (hr : R w B a cap t.l) (hwf : Wf t) (hi : I64 s.1) (hct : T.count t ≤ 1073741824) (hB : B ≤ w.heap.size) :
    Calls Tryz.prog 141 #[.agg (cV t a cap), .agg #[.int .i64 s.1, .bool s.2]] w fun e w' => ∃ a' cap', e = .returned (.tuple #[.agg (cV (elT t s) a' cap'), .bool (decide (okI t s))]) ∧ Own w' w.heap.size w'.heap.size a' cap' (elT t s).l ∧ Below w.heap.size w w' := by
  obtain ⟨hl1, hl2⟩ := hr.len
  have hlc : t.l.length ≤ 1073741824 := by have := T.length_le_countL t.l; cases t; simp only [T.count, T.l] at *; omega
  have HR := Lib.hid hr; clear hr
  go_enter Tryz.func141, Tryz.ntmps141
  go_wp2_with fail
  generalize hW : ((w.alloc (Obj.cells (cV t a cap) 36)).alloc (Obj.cells #[.int .i64 s.1, .bool s.2] 79)).alloc (Obj.cells zV 36) = W0
  have q1 : Is W0 w.heap.size 36 (cV t a cap) := by subst hW; exact ((Is.new _ _ _).alloc _).alloc _
  have q2 : Is W0 (w.heap.size + 1 + 1) 36 zV := by subst hW; exact Is.new3 _ _ _ _ _
  have H0 := Lib.hid (show Below w.heap.size w W0 from by subst hW; exact below3 _ _ _ _)
  have hs0 : W0.heap.size = w.heap.size + 3 := by subst hW; simp
  clear hW
  refine (spec_l8Place t s a cap W0 hi hlc).mono ?_
  rintro e w2 ⟨rfl, hb2⟩
  have hs2 := hb2.size
  have H2 := Lib.hid hb2
  have p1 := q1.below hb2 (by omega)
  have p2 := q2.below hb2 (by omega)
  have f2 := fun i => p2.frozen i
  obtain ⟨r0, r1, r2, r3, r4⟩ := p1.cells5
  obtain ⟨o0, o1, o2, o3, o4⟩ := p2.cells5
  have l1 : w.heap.size < w2.heap.size := by omega
  have l2 : w.heap.size + 1 + 1 < w2.heap.size := by omega
  clear hb2
  by_cases hok : okI t s
  · obtain ⟨i, hil, hie, hel⟩ := okI_nat hok
    rw [idxT_ok hok, hie]
    have HEL := Lib.hid (hel hil)
    have HOK := Lib.hid (show decide (okI t s) = true from decide_eq_true hok)
    clear hok hie hel
    obtain ⟨b, o, a2, cap2, ha, hbl, d0, d1, d2, d3, d4, hwf2, hq⟩ := ((HR.out.below H0.out hB).below H2.out (by omega)).get i hil
    have hcj := T.count_get t.l i hil
    have hctl : T.countL t.l ≤ 1073741824 := by cases t; simp only [T.count, T.l] at *; omega
    subst ha
    have HWF := Lib.hid hwf2; clear hwf2
    go_wp2_with fail
    refine (spec_l6Copy t.l[i] a2 cap2 B w2 hq HWF.out (by omega) (by omega)).mono ?_
    rintro e w3 ⟨a3, cap3, rfl, hown, hb3⟩
    have p3 := p2.below hb3 (by omega)
    have f3 := fun i => p3.frozen i
    obtain ⟨u0, u1, u2, u3, u4⟩ := p3.cells5
    have hs3 := hb3.size
    have H3 := Lib.hid hb3; clear hb3
    go_wp2_with fail
    obtain ⟨e0, e1, e2, e3, e4, hbel, hold, hsz⟩ := out5 p3.blk (.int .i64 t.l[i].k) (.int .i64 t.l[i].n) (.int .i64 t.l[i].x) (.string t.l[i].s) (.slice a3 t.l[i].l.length cap3) w.heap.size (by omega)
    refine bodyPost_ret (v := .tuple #[.agg (cV t.l[i] a3 cap3), .bool true]) (by simp [results, Tryz.results141, go_sem, e0, e1, e2, e3, e4]) rfl ⟨a3, cap3, by rw [HEL.out, HOK.out], ?_, ?_⟩
    · rw [hsz, HEL.out]
      exact (hown.agree (fun f h1 h2 => hold f (by omega))).more (by omega) (Nat.le_refl _)
    · exact ((H0.out.trans (H2.out.mono (by omega))).trans (H3.out.mono (by omega))).trans hbel
  · rw [idxT_no hok]
    have HEL := Lib.hid (elT_no hok)
    have HOK := Lib.hid (show decide (okI t s) = false from decide_eq_false hok)
    clear hok
    go_wp2_with fail
    obtain ⟨e0, e1, e2, e3, e4, hbel, hold, hsz⟩ := out5 p2.blk (.int .i64 0) (.int .i64 0) (.int .i64 0) (.string ⟨#[]⟩) (.slice none 0 0) w.heap.size (by omega)
    refine bodyPost_ret (v := .tuple #[.agg zV, .bool false]) (by simp [results, Tryz.results141, go_sem, e0, e1, e2, e3, e4]) rfl ⟨none, 0, by rw [HEL.out, HOK.out]; rfl, by rw [HEL.out]; exact zT_own _ _ _, ?_⟩
    exact (H0.out.trans (H2.out.mono (by omega))).trans hbel
theorem count_getD (t : T) (i : Nat) (h : i < t.l.length) (hc : T.count t ≤ 1073741824) : T.count t.l[i] ≤ 1073741824 := by
  have := T.count_get t.l i h
  cases t; simp only [T.count, T.l] at *; omega
set_option maxHeartbeats 1000000 in
theorem spec_AtPath (t : T) (p : List St) (a a' : Option Addr) (cap cap' B : Nat) (w : World) (hr : R w B a cap t.l) (hr' : Rd EStep 2 w B a' cap' p) (hwf : Wf t) (hct : T.count t ≤ 1073741824) (hB : B ≤ w.heap.size) :
    Calls Tryz.prog 87 #[.agg (cV t a cap), .slice a' p.length cap'] w fun e w' => ∃ u au cu, e = .returned (.tuple #[.agg (cV u au cu), .bool (atT t p).isSome]) ∧ (u = (atT t p).getD zT) ∧ Own w' w.heap.size w'.heap.size au cu u.l ∧ Below w.heap.size w w' := by
  obtain ⟨hl1, hl2⟩ := hr.len
  obtain ⟨hm1, hm2⟩ := hr'.len
  have HR := Lib.hid hr; clear hr
  have HR' := Lib.hid hr'; clear hr'
  go_enter Tryz.func87, Tryz.ntmps87
  go_wp2_with fail
  generalize hW : (w.alloc (Obj.cells (cV t a cap) 36)).alloc (Obj.cells zV 36) = W0
  have q1 : Is W0 w.heap.size 36 (cV t a cap) := by subst hW; exact (Is.new _ _ _).alloc _
  have q2 : Is W0 (w.heap.size + 1) 36 zV := by subst hW; exact Is.new2 _ _ _ _
  have H0 := Lib.hid (show Below w.heap.size w W0 from by subst hW; exact below2 _ _ _)
  have hs0 : W0.heap.size = w.heap.size + 2 := by subst hW; simp
  clear hW
  refine (spec_l6Copy t a cap B W0 (HR.out.below H0.out hB) hwf (by omega) hct).mono ?_
  rintro e w2 ⟨a2, cap2, rfl, hown2, hb2⟩
  have hs2 := hb2.size
  have HO2 := Lib.hid hown2; clear hown2
  have p2 := Lib.hid ((q2.below hb2 (by omega)))
  have H2 := Lib.hid hb2; clear hb2 q1 q2
  have HCT := Lib.hid hct; clear hct
  have HWF := Lib.hid hwf; clear hwf
  go_wp2_with fail
  generalize hW : w2.alloc (Obj.cells (cV t a2 cap2) 36) = W1
  have g1 : Is W1 w2.heap.size 36 (cV t a2 cap2) := by subst hW; exact Is.new _ _ _
  have g2 : Is W1 (w.heap.size + 1) 36 zV := by subst hW; exact p2.out.alloc _
  have H1 := Lib.hid (show Below w2.heap.size w2 W1 from by subst hW; exact below1 _ _)
  have hs1 : W1.heap.size = w2.heap.size + 1 := by subst hW; simp
  clear hW
  have HO := Lib.hid ((HO2.out.below H1.out (Nat.le_refl _)).more (Nat.le_refl _) (by omega : _ ≤ W1.heap.size)); clear HO2
  have HB1 := Lib.hid ((H0.out.trans (H2.out.mono (by omega))).trans (H1.out.mono (by omega)))
  go_loopw [7, 8, 9] (fun i _ _ wr => ∃ (j : Nat) (x : T) (ax : Option Addr) (cx : Nat), j ≤ p.length ∧ i = .int .i64 j ∧ Is wr w2.heap.size 36 (cV x ax cx) ∧ Own wr W0.heap.size wr.heap.size ax cx x.l ∧ Wf x ∧ T.count x ≤ 1073741824 ∧ Hid (atT t p = atT x (p.drop j)) ∧ Is wr (w.heap.size + 1) 36 zV ∧ Below w.heap.size w wr ∧ w2.heap.size < wr.heap.size) (fun i _ _ _ => p.length - (intOf i).toNat)
  case atStart => exact ⟨0, t, a2, cap2, Nat.zero_le _, rfl, g1, HO.out, HWF.out, HCT.out, rfl, g2, HB1.out, by omega⟩
  case round =>
    obtain ⟨j, x, ax, cx, hj, rfl, hbox, hown, hwx, hcx, HP, hz, hb, hws⟩ := hrel
    have hbs := hb.size
    have hfz := fun i => hz.frozen i
    obtain ⟨z0, z1, z2, z3, z4⟩ := hz.cells5
    obtain ⟨x0, x1, x2, x3, x4⟩ := hbox.cells5
    have l1 : w.heap.size + 1 < wr.heap.size := by omega
    by_cases hlt : j < p.length
    · obtain ⟨b, o, ha, hbl, d0, d1, hi⟩ := (HR'.out.below EStep.loc hb hB).step j hlt
      subst ha
      have hlb : b < wr.heap.size := by omega
      have HW := Lib.hid hwx; clear hwx
      have HC := Lib.hid hcx; clear hcx
      have HX := Lib.hid hown; clear hown
      have HI := Lib.hid hi; clear hi
      go_wp2_with fail
      refine wp_region_held_drew (S := fun w' => (∀ b o, b < wr.heap.size → w'.cell? ⟨b, o, none⟩ = wr.cell? ⟨b, o, none⟩) ∧ Below (wr.heap.size) wr w') (by kernel_rfl) (by first | exact ⟨fun _ _ _ => rfl, (Below.refl _ _).drew⟩ | exact keep_step (by assumption) (Below.drew (Below.refl _ _)) (Nat.le_refl _) | exact keep_step (by assumption) (by assumption) (by first | omega | ((try simp only [World.size_drew, size_alloc]); omega) | (have := (‹(_ ∧ Below (wr.heap.size) wr _)›).2.size; (try simp only [World.size_drew, size_alloc] at this ⊢); omega))) (fun hHeld => ?_)
      refine wpAnyH_take (i := 0) (oi := ⟨some 19, _, _, _, _, _⟩) (v := ?_) rfl (by kernel_rfl) (by kernel_rfl) (by kernel_rfl) (fun _ _ _ h => h) (Or.inl ⟨by rfl, ?_⟩) (by assumption) ?_
      rotate_left 1
      · (intro w hSw; (try dsimp only at hSw); go_simp; try (with_reducible rfl))
      try simp only [Act.put, List.setIfInBounds_toArray, List.set_cons_zero, List.set_cons_succ]
      refine wpAnyH_take (i := 1) (oi := ⟨some 20, _, _, _, _, _⟩) (v := ?_) rfl (by kernel_rfl) (by kernel_rfl) (by kernel_rfl) (fun _ _ _ h => h) (Or.inl ⟨by rfl, ?_⟩) (by assumption) ?_
      rotate_left 1
      · (intro w hSw; (try dsimp only at hSw); go_simp; try (with_reducible rfl))
      try simp only [Act.put, List.setIfInBounds_toArray, List.set_cons_zero, List.set_cons_succ]
      refine wpAnyH_take (i := 2) (oi := ⟨some 21, _, _, _, _, _⟩) (v := ?_) rfl (by kernel_rfl) (by kernel_rfl) (by kernel_rfl) (fun _ _ _ h => h) (Or.inl ⟨by rfl, ?_⟩) (by assumption) ?_
      rotate_left 1
      · (intro w hSw; (try dsimp only at hSw); go_simp; try (with_reducible rfl))
      try simp only [Act.put, List.setIfInBounds_toArray, List.set_cons_zero, List.set_cons_succ]
      refine wpAnyH_take (i := 3) (oi := ⟨some 22, _, _, _, _, _⟩) (v := ?_) rfl (by kernel_rfl) (by kernel_rfl) (by kernel_rfl) (fun _ _ _ h => h) (Or.inl ⟨by rfl, ?_⟩) (by assumption) ?_
      rotate_left 1
      · (intro w hSw; (try dsimp only at hSw); go_simp; try (with_reducible rfl))
      try simp only [Act.put, List.setIfInBounds_toArray, List.set_cons_zero, List.set_cons_succ]
      refine wpAnyH_take (i := 4) (oi := ⟨some 23, _, _, _, _, _⟩) (v := ?_) rfl (by kernel_rfl) (by kernel_rfl) (by kernel_rfl) (fun _ _ _ h => h) (Or.inl ⟨by rfl, ?_⟩) (by assumption) ?_
      rotate_left 1
      · (intro w hSw; (try dsimp only at hSw); go_simp; try (with_reducible rfl))
      try simp only [Act.put, List.setIfInBounds_toArray, List.set_cons_zero, List.set_cons_succ]
      refine wpAnyH_ready (rs := [5, 9]) (by kernel_rfl) (by simp) ?_
      refine AllReadyH.cons (o := ⟨some 24, _, _, _, _, _⟩) rfl (fun K hK => ?_) ?_
      focus (go_simp; (first | (go_at_call 141; refine (spec_StepVal x p[j] ax cx _ _ (HX.out.read.below (‹_ ∧ Below (wr.heap.size) wr _›).2 (Nat.le_refl _)) HW.out HI.out HC.out (‹_ ∧ Below (wr.heap.size) wr _›).2.size).mono ?_; rintro e w3 ⟨a3, cap3, rfl, ho3, hb3⟩; first | (have p8 := (Is.drew (Is.new wr zV 36)).below hb3 (by simp); have f8 := (fun i => p8.frozen i); obtain ⟨y0, y1, y2, y3, y4⟩ := p8.cells5) | skip; have hsz3 : wr.heap.size ≤ w3.heap.size := (by have := hb3.size; simp only [World.size_drew, size_alloc] at this; omega))); go_wp2_with fail; refine hK.out _ _ (by first | exact ⟨fun _ _ _ => rfl, (Below.refl _ _).drew⟩ | exact keep_step (by assumption) (Below.drew (Below.refl _ _)) (Nat.le_refl _) | exact keep_step (by assumption) (by assumption) (by first | omega | ((try simp only [World.size_drew, size_alloc]); omega) | (have := (‹(_ ∧ Below (wr.heap.size) wr _)›).2.size; (try simp only [World.size_drew, size_alloc] at this ⊢); omega))) (fun hHeld => ?_); clear hK K; try simp only [Act.put, List.setIfInBounds_toArray, List.set_cons_zero, List.set_cons_succ])
      refine wpAnyH_take (i := 6) (oi := ⟨some 18, _, _, _, _, _⟩) (v := ?_) rfl (by kernel_rfl) (by kernel_rfl) (by kernel_rfl) (fun _ _ _ h => h) (Or.inl ⟨by rfl, ?_⟩) (by assumption) ?_
      rotate_left 1
      · (intro w hSw; (try dsimp only at hSw); go_simp; try (with_reducible rfl))
      try simp only [Act.put, List.setIfInBounds_toArray, List.set_cons_zero, List.set_cons_succ]
      refine wpAnyH_take (i := 7) (oi := ⟨some 25, _, _, _, _, _⟩) (v := ?_) rfl (by kernel_rfl) (by kernel_rfl) (by kernel_rfl) (fun _ _ _ h => h) (Or.inl ⟨by rfl, ?_⟩) (by assumption) ?_
      rotate_left 1
      · (intro w hSw; (try dsimp only at hSw); go_simp; try (with_reducible rfl))
      try simp only [Act.put, List.setIfInBounds_toArray, List.set_cons_zero, List.set_cons_succ]
      refine wpAnyH_take (i := 8) (oi := ⟨some 26, _, _, _, _, _⟩) (v := ?_) rfl (by kernel_rfl) (by kernel_rfl) (by kernel_rfl) (fun _ _ _ h => h) (Or.inl ⟨by rfl, ?_⟩) (by assumption) ?_
      rotate_left 1
      · (intro w hSw; (try dsimp only at hSw); go_simp; try (with_reducible rfl))
      try simp only [Act.put, List.setIfInBounds_toArray, List.set_cons_zero, List.set_cons_succ]
      refine wpAnyH_ready (rs := [9]) (by kernel_rfl) (by simp) ?_
      refine AllReadyH.cons (o := ⟨some 8, _, _, _, _, _⟩) rfl (fun K hK => ?_) AllReadyH.nil
      focus (go_simp; go_wp2_with fail; refine hK.out _ _ (by first | (with_reducible exact keep_step (by assumption) (below1 _ _) (by first | omega | ((try simp only [World.size_drew, size_alloc]); omega) | (have := (‹(_ ∧ Below (wr.heap.size) wr _)›).2.size; (try simp only [World.size_drew, size_alloc] at this ⊢); omega))) | (exact keep_step (by assumption) (below1 _ _) (by first | omega | ((try simp only [World.size_drew, size_alloc]); omega) | (have := (‹(_ ∧ Below (wr.heap.size) wr _)›).2.size; (try simp only [World.size_drew, size_alloc] at this ⊢); omega)))) (fun hHeld => ?_); clear hK K; try simp only [Act.put, List.setIfInBounds_toArray, List.set_cons_zero, List.set_cons_succ])
      refine wpAnyH_ready (rs := [10]) (by kernel_rfl) (by simp) ?_
      refine AllReadyH.cons (o := ⟨none, _, _, _, _, _⟩) rfl (fun K hK => ?_) AllReadyH.nil
      focus (go_simp; go_wp2_with fail; refine hK.out _ _ (by exact keep_step (by assumption) (below1 _ _) (by first | omega | ((try simp only [World.size_drew, size_alloc]); omega) | (have := (‹(_ ∧ Below (wr.heap.size) wr _)›).2.size; (try simp only [World.size_drew, size_alloc] at this ⊢); omega))) (fun hHeld => ?_); clear hK K; try simp only [Act.put])
      refine wpAnyH_take (i := 11) (oi := ⟨some 9, _, _, _, _, _⟩) (v := ?_) rfl (by kernel_rfl) (by kernel_rfl) (by kernel_rfl) (fun _ _ _ h => h) (Or.inl ⟨by rfl, ?_⟩) (by assumption) ?_
      rotate_left 1
      · (intro w hSw; (try dsimp only at hSw); go_simp; try (with_reducible rfl))
      try simp only [Act.put, List.setIfInBounds_toArray, List.set_cons_zero, List.set_cons_succ]
      refine wpAnyH_done (by kernel_rfl) ?_ _
      rotate_left 1
      refine AllReadyH.cons (o := ⟨some 8, _, _, _, _, _⟩) rfl (fun K hK => ?_) AllReadyH.nil
      focus (go_simp; go_wp2_with fail; refine hK.out _ _ (by first | (with_reducible exact keep_step (by assumption) (below1 _ _) (by first | omega | ((try simp only [World.size_drew, size_alloc]); omega) | (have := (‹(_ ∧ Below (wr.heap.size) wr _)›).2.size; (try simp only [World.size_drew, size_alloc] at this ⊢); omega))) | (exact keep_step (by assumption) (below1 _ _) (by first | omega | ((try simp only [World.size_drew, size_alloc]); omega) | (have := (‹(_ ∧ Below (wr.heap.size) wr _)›).2.size; (try simp only [World.size_drew, size_alloc] at this ⊢); omega)))) (fun hHeld => ?_); clear hK K; try simp only [Act.put, List.setIfInBounds_toArray, List.set_cons_zero, List.set_cons_succ])
      refine wpAnyH_ready (rs := [5]) (by kernel_rfl) (by simp) ?_
      refine AllReadyH.cons (o := ⟨some 24, _, _, _, _, _⟩) rfl (fun K hK => ?_) AllReadyH.nil
      focus (go_simp; (first | (go_at_call 141; refine (spec_StepVal x p[j] ax cx _ _ (HX.out.read.below (‹_ ∧ Below (wr.heap.size) wr _›).2 (Nat.le_refl _)) HW.out HI.out HC.out (‹_ ∧ Below (wr.heap.size) wr _›).2.size).mono ?_; rintro e w3 ⟨a3, cap3, rfl, ho3, hb3⟩; first | (have p8 := (Is.drew (Is.new wr zV 36)).below hb3 (by simp); have f8 := (fun i => p8.frozen i); obtain ⟨y0, y1, y2, y3, y4⟩ := p8.cells5) | skip; have hsz3 : wr.heap.size ≤ w3.heap.size := (by have := hb3.size; simp only [World.size_drew, size_alloc] at this; omega))); go_wp2_with fail; refine hK.out _ _ (by first | exact ⟨fun _ _ _ => rfl, (Below.refl _ _).drew⟩ | exact keep_step (by assumption) (Below.drew (Below.refl _ _)) (Nat.le_refl _) | exact keep_step (by assumption) (by assumption) (by first | omega | ((try simp only [World.size_drew, size_alloc]); omega) | (have := (‹(_ ∧ Below (wr.heap.size) wr _)›).2.size; (try simp only [World.size_drew, size_alloc] at this ⊢); omega))) (fun hHeld => ?_); clear hK K; try simp only [Act.put, List.setIfInBounds_toArray, List.set_cons_zero, List.set_cons_succ])
      refine wpAnyH_take (i := 6) (oi := ⟨some 18, _, _, _, _, _⟩) (v := ?_) rfl (by kernel_rfl) (by kernel_rfl) (by kernel_rfl) (fun _ _ _ h => h) (Or.inl ⟨by rfl, ?_⟩) (by assumption) ?_
      rotate_left 1
      · (intro w hSw; (try dsimp only at hSw); go_simp; try (with_reducible rfl))
      try simp only [Act.put, List.setIfInBounds_toArray, List.set_cons_zero, List.set_cons_succ]
      refine wpAnyH_take (i := 7) (oi := ⟨some 25, _, _, _, _, _⟩) (v := ?_) rfl (by kernel_rfl) (by kernel_rfl) (by kernel_rfl) (fun _ _ _ h => h) (Or.inl ⟨by rfl, ?_⟩) (by assumption) ?_
      rotate_left 1
      · (intro w hSw; (try dsimp only at hSw); go_simp; try (with_reducible rfl))
      try simp only [Act.put, List.setIfInBounds_toArray, List.set_cons_zero, List.set_cons_succ]
      refine wpAnyH_take (i := 8) (oi := ⟨some 26, _, _, _, _, _⟩) (v := ?_) rfl (by kernel_rfl) (by kernel_rfl) (by kernel_rfl) (fun _ _ _ h => h) (Or.inl ⟨by rfl, ?_⟩) (by assumption) ?_
      rotate_left 1
      · (intro w hSw; (try dsimp only at hSw); go_simp; try (with_reducible rfl))
      try simp only [Act.put, List.setIfInBounds_toArray, List.set_cons_zero, List.set_cons_succ]
      refine wpAnyH_ready (rs := [10]) (by kernel_rfl) (by simp) ?_
      refine AllReadyH.cons (o := ⟨none, _, _, _, _, _⟩) rfl (fun K hK => ?_) AllReadyH.nil
      focus (go_simp; go_wp2_with fail; refine hK.out _ _ (by exact keep_step (by assumption) (below5 _ _ _ _ _ _ _) (by omega)) (fun hHeld => ?_); clear hK K; try simp only [Act.put])
      refine wpAnyH_take (i := 11) (oi := ⟨some 9, _, _, _, _, _⟩) (v := ?_) rfl (by kernel_rfl) (by kernel_rfl) (by kernel_rfl) (fun _ _ _ h => h) (Or.inl ⟨by rfl, ?_⟩) (by assumption) ?_
      rotate_left 1
      · (intro w hSw; (try dsimp only at hSw); go_simp; try (with_reducible rfl))
      try simp only [Act.put, List.setIfInBounds_toArray, List.set_cons_zero, List.set_cons_succ]
      refine wpAnyH_done (by kernel_rfl) ?_ _
      focus
        have hI8 := p8.set5 (.int .i64 (elT x p[j]).k) (.int .i64 (elT x p[j]).n) (.int .i64 (elT x p[j]).x) (.string (elT x p[j]).s) (.slice a3 (elT x p[j]).l.length cap3)
        obtain ⟨_, _, _, _, _, hbel, hold, hsz⟩ := out5 p8.blk (.int .i64 (elT x p[j]).k) (.int .i64 (elT x p[j]).n) (.int .i64 (elT x p[j]).x) (.string (elT x p[j]).s) (.slice a3 (elT x p[j]).l.length cap3) wr.heap.size (Nat.le_refl _)
        have hO8 := ho3.agree (fun f h1 _ => hold f (by simp only [World.size_drew, size_alloc] at h1; omega))
        have hB8 : Below wr.heap.size wr _ := (((below1 wr (.cells zV 36)).drew).trans (hb3.mono (by simp only [World.size_drew, size_alloc]; omega))).trans hbel
        have hge8 : wr.heap.size ≤ wr.heap.size := Nat.le_refl _
        rw [← hsz] at hO8
        have hO8 := hO8.more (lo' := wr.heap.size) (by simp only [World.size_drew, size_alloc]; omega) (Nat.le_refl _)
        have hlt8 := hI8.lt
        generalize (((((w3.setCell ⟨wr.heap.size, 0, none⟩ (.int .i64 (elT x p[j]).k)).setCell ⟨wr.heap.size, 1, none⟩ (.int .i64 (elT x p[j]).n)).setCell ⟨wr.heap.size, 2, none⟩ (.int .i64 (elT x p[j]).x)).setCell ⟨wr.heap.size, 3, none⟩ (.string (elT x p[j]).s)).setCell ⟨wr.heap.size, 4, none⟩ (.slice a3 (elT x p[j]).l.length cap3)) = W8 at *
        clear hbel hold hsz ho3 hb3 p8 f8 y0 y1 y2 y3 y4
      rotate_left 1
      focus
        have hI8 := Is.new w3 (cV (elT x p[j]) a3 cap3) 36
        have hO8 := (ho3.below (below1 w3 (.cells (cV (elT x p[j]) a3 cap3) 36)) (Nat.le_refl _)).more (lo' := wr.heap.size) (hi' := (w3.alloc (.cells (cV (elT x p[j]) a3 cap3) 36)).heap.size) (by simp only [World.size_drew]; omega) (by simp)
        have hB8 : Below wr.heap.size wr _ := (((Below.refl wr.heap.size wr).drew.trans hb3)).trans ((below1 w3 (.cells (cV (elT x p[j]) a3 cap3) 36)).mono hsz3)
        have hge8 : wr.heap.size ≤ w3.heap.size := hsz3
        have hlt8 := hI8.lt
        generalize w3.alloc (.cells (cV (elT x p[j]) a3 cap3) 36) = W8 at *
        clear ho3 hb3 hsz3
      rotate_left 1
      all_goals
        have hI8c := hI8.cells5
        obtain ⟨n0, n1, n2, n3, n4⟩ := hI8c
        have hbox8 := hbox.below hB8 hws
        have hz8 := hz.below hB8 (by omega)
        have fb8 := fun i => hbox8.frozen i
        have fz8 := fun i => hz8.frozen i
        obtain ⟨m0, m1, m2, m3, m4⟩ := hbox8.cells5
        obtain ⟨o0, o1, o2, o3, o4⟩ := hz8.cells5
        have hs8 := hB8.size
        have hwfe := Lib.hid (elT_wf HX.out.read p[j])
        have hcte := Lib.hid (elT_count p[j] HC.out)
        have HB8 := Lib.hid (hb.trans (hB8.mono hbs))
        have HO8 := Lib.hid hO8
        clear hB8 hO8
        by_cases hok : okI x p[j]
        · have HST := Lib.hid (HP.out.trans (atT_step hlt hok))
          have hd : decide (okI x p[j]) = true := decide_eq_true hok
          rw [hd]
          clear hok hd
          go_wp2_with fail
          go_roundw
          case rel =>
            obtain ⟨_, _, _, _, _, hbel, hold, hsz⟩ := out5 hbox8.blk (.int .i64 (elT x p[j]).k) (.int .i64 (elT x p[j]).n) (.int .i64 (elT x p[j]).x) (.string (elT x p[j]).s) (.slice a3 (elT x p[j]).l.length cap3) w2.heap.size (Nat.le_refl _)
            refine ⟨j + 1, elT x p[j], a3, cap3, by omega, by go_num, hbox8.set5 _ _ _ _ _, ?_, hwfe.out, hcte.out, HST.out, (hold (w.heap.size + 1) (by omega)).trans hz8, HB8.out.trans (hbel.mono (by omega)), by rw [hsz]; omega⟩
            rw [hsz]
            exact (HO8.out.agree (fun f h1 _ => hold f (by omega))).more (by omega) (Nat.le_refl _)
          case measure => simp [intOf]; omega
        · have HST := Lib.hid (HP.out.trans (atT_drop_no hlt hok))
          have hd : decide (okI x p[j]) = false := decide_eq_false hok
          rw [hd]
          clear hok hd
          go_wp2_with fail
          obtain ⟨e0, e1, e2, e3, e4, hbel, hold, hsz⟩ := out5 hz8.blk (.int .i64 0) (.int .i64 0) (.int .i64 0) (.string ⟨#[]⟩) (.slice none 0 0) w.heap.size (by omega)
          refine bodyPost_ret (v := .tuple #[.agg zV, .bool false]) (by simp [results, Tryz.results87, go_sem, e0, e1, e2, e3, e4]) rfl ⟨zT, none, 0, by rw [HST.out]; rfl, by rw [HST.out]; rfl, zT_own _ _ _, ?_⟩
          exact HB8.out.trans hbel
    · have hjj : p.length = j := by omega
      have HJ := Lib.hid (show atT t p = some x from HP.out.trans (by rw [← hjj]; exact atT_end x p)); clear hjj
      have HX := Lib.hid hown; clear hown
      go_wp2_with fail
      obtain ⟨e0, e1, e2, e3, e4, hbel, hold, hsz⟩ := out5 hz.blk (.int .i64 x.k) (.int .i64 x.n) (.int .i64 x.x) (.string x.s) (.slice ax x.l.length cx) w.heap.size (by omega)
      refine bodyPost_ret (v := .tuple #[.agg (cV x ax cx), .bool true]) (by simp [results, Tryz.results87, go_sem, e0, e1, e2, e3, e4]) rfl ⟨x, ax, cx, by rw [HJ.out]; rfl, by rw [HJ.out]; rfl, ?_, hb.trans hbel⟩
      rw [hsz]
      exact (HX.out.agree (fun f h1 _ => hold f (by omega))).more (by omega) (Nat.le_refl _)
set_option maxHeartbeats 1000000 in
theorem impl_AtPath (t : T) (p : List St) (a a' : Option Addr) (cap cap' B : Nat) (w : World) (hr : R w B a cap t.l) (hr' : Rd EStep 2 w B a' cap' p) (hwf : Wf t) (hct : T.count t ≤ 1073741824) (hB : B ≤ w.heap.size) :
    Calls Tryz.prog 85 #[.agg (cV t a cap), .slice a' p.length cap'] w fun e w' => ∃ u au cu, e = .returned (.tuple #[.agg (cV u au cu), .bool (atT t p).isSome]) ∧ (u = (atT t p).getD zT) ∧ Own w' w.heap.size w'.heap.size au cu u.l ∧ Below w.heap.size w w' := by
  obtain ⟨hl1, hl2⟩ := hr.len
  obtain ⟨hm1, hm2⟩ := hr'.len
  have HR := Lib.hid hr; clear hr
  have HR' := Lib.hid hr'; clear hr'
  have HWF := Lib.hid hwf; clear hwf
  have HCT := Lib.hid hct; clear hct
  go_enter Tryz.func85, Tryz.ntmps85
  go_wp2_with fail
  generalize hW : (w.alloc (Obj.cells (cV t a cap) 36)).alloc (Obj.cells zV 36) = W0
  have q1 : Is W0 w.heap.size 36 (cV t a cap) := by subst hW; exact (Is.new _ _ _).alloc _
  have q2 : Is W0 (w.heap.size + 1) 36 zV := by subst hW; exact Is.new2 _ _ _ _
  have H0 := Lib.hid (show Below w.heap.size w W0 from by subst hW; exact below2 _ _ _)
  have hs0 : W0.heap.size = w.heap.size + 2 := by subst hW; simp
  clear hW
  go_loopw [11, 7, 8] (fun i _ _ wr => ∃ (j : Nat) (x : T) (ax : Option Addr) (cx : Nat), j ≤ p.length ∧ i = .int .i64 j ∧ Is wr w.heap.size 36 (cV x ax cx) ∧ R wr B ax cx x.l ∧ Wf x ∧ T.count x ≤ 1073741824 ∧ Hid (atT t p = atT x (p.drop j)) ∧ Is wr (w.heap.size + 1) 36 zV ∧ Below w.heap.size w wr ∧ w.heap.size + 2 ≤ wr.heap.size) (fun i _ _ _ => p.length - (intOf i).toNat)
  case atStart => exact ⟨0, t, a, cap, Nat.zero_le _, rfl, q1, HR.out.below H0.out hB, HWF.out, HCT.out, rfl, q2, H0.out, by omega⟩
  case round =>
    obtain ⟨j, x, ax, cx, hj, rfl, hbox, hrd, hwx, hcx, HP, hz, hb, hws⟩ := hrel
    have hbs := hb.size
    have hfz := fun i => hz.frozen i
    have hfb := fun i => hbox.frozen i
    obtain ⟨z0, z1, z2, z3, z4⟩ := hz.cells5
    obtain ⟨x0, x1, x2, x3, x4⟩ := hbox.cells5
    have l1 : w.heap.size + 1 < wr.heap.size := by omega
    have l2 : w.heap.size < wr.heap.size := by omega
    by_cases hlt : j < p.length
    · obtain ⟨b, o, ha, hbl, d0, d1, hi⟩ := (HR'.out.below EStep.loc hb hB).step j hlt
      subst ha
      have hlb : b < wr.heap.size := by omega
      have hlx : x.l.length ≤ 1073741824 := by have := T.length_le_countL x.l; cases x; simp only [T.count, T.l] at *; omega
      have HW := Lib.hid hwx; clear hwx
      have HC := Lib.hid hcx; clear hcx
      have HX := Lib.hid hrd; clear hrd
      have H1 := Lib.hid (below1 wr (.cells #[.int .i64 p[j].1, .bool p[j].2] 79))
      go_wp2_with fail
      refine (impl_index x p[j] ax cx _ hi hlx).mono ?_
      rintro e w3 ⟨rfl, hb3⟩
      have HB3 := Lib.hid (H1.out.trans (hb3.mono (by simp))); clear hb3
      have hs3 := HB3.out.size
      have hbox3 := hbox.below HB3.out l2
      have hz3 := hz.below HB3.out l1
      have fz3 := fun i => hz3.frozen i
      have fb3 := fun i => hbox3.frozen i
      obtain ⟨y0, y1, y2, y3, y4⟩ := hz3.cells5
      obtain ⟨t0, t1, t2, t3, t4⟩ := hbox3.cells5
      by_cases hok : okI x p[j]
      · obtain ⟨i, hil, hie, hel⟩ := okI_nat hok
        have HST := Lib.hid (show atT t p = atT x.l[i] (p.drop (j + 1)) from by rw [← hel hil]; exact HP.out.trans (atT_step hlt hok))
        have HWE := Lib.hid (show Wf x.l[i] from by rw [← hel hil]; exact elT_wf HX.out p[j])
        have HCE := Lib.hid (show T.count x.l[i] ≤ 1073741824 from by rw [← hel hil]; exact elT_count p[j] HC.out)
        rw [idxT_ok hok, hie]
        clear hok hie hel
        have hXr := HX.out.below HB3.out (by omega)
        obtain ⟨b2, o2, a3, cap3, ha, hbl2, g0, g1, g2, g3, g4, _, hq⟩ := hXr.get i hil
        subst ha
        have HQ := Lib.hid hq; clear hq hXr
        go_wp2_with fail
        go_roundw
        case rel =>
          obtain ⟨_, _, _, _, _, hbel, hold, hsz⟩ := out5 hbox3.blk (.int .i64 x.l[i].k) (.int .i64 x.l[i].n) (.int .i64 x.l[i].x) (.string x.l[i].s) (.slice a3 x.l[i].l.length cap3) w.heap.size (Nat.le_refl _)
          exact ⟨j + 1, x.l[i], a3, cap3, by omega, by go_num, hbox3.set5 _ _ _ _ _, HQ.out.below hbel hB, HWE.out, HCE.out, HST.out, (hold (w.heap.size + 1) (by omega)).trans hz3, (hb.trans (HB3.out.mono hbs)).trans hbel, by rw [hsz]; omega⟩
        case measure => simp [intOf]; omega
      · have HST := Lib.hid (HP.out.trans (atT_drop_no hlt hok))
        rw [idxT_no hok]
        clear hok
        go_wp2_with fail
        obtain ⟨e0, e1, e2, e3, e4, hbel, hold, hsz⟩ := out5 hz3.blk (.int .i64 0) (.int .i64 0) (.int .i64 0) (.string ⟨#[]⟩) (.slice none 0 0) w.heap.size (by omega)
        refine bodyPost_ret (v := .tuple #[.agg zV, .bool false]) (by simp [results, Tryz.results85, go_sem, e0, e1, e2, e3, e4]) rfl ⟨zT, none, 0, by rw [HST.out]; rfl, by rw [HST.out]; rfl, zT_own _ _ _, ?_⟩
        exact (hb.trans (HB3.out.mono hbs)).trans hbel
    · have hjj : p.length = j := by omega
      have HJ := Lib.hid (show atT t p = some x from HP.out.trans (by rw [← hjj]; exact atT_end x p)); clear hjj
      have HX := Lib.hid hrd; clear hrd
      go_wp2_with fail
      refine (impl_copyVal x ax cx B wr HX.out hwx (by omega) hcx).mono ?_
      rintro e w3 ⟨a3, cap3, rfl, hown, hb3⟩
      have hz3 := hz.below hb3 l1
      have fz3 := fun i => hz3.frozen i
      obtain ⟨y0, y1, y2, y3, y4⟩ := hz3.cells5
      have H3 := Lib.hid hb3; clear hb3
      have hs3 := H3.out.size
      go_wp2_with fail
      obtain ⟨e0, e1, e2, e3, e4, hbel, hold, hsz⟩ := out5 hz3.blk (.int .i64 x.k) (.int .i64 x.n) (.int .i64 x.x) (.string x.s) (.slice a3 x.l.length cap3) w.heap.size (by omega)
      refine bodyPost_ret (v := .tuple #[.agg (cV x a3 cap3), .bool true]) (by simp [results, Tryz.results85, go_sem, e0, e1, e2, e3, e4]) rfl ⟨x, a3, cap3, by rw [HJ.out]; rfl, by rw [HJ.out]; rfl, ?_, (hb.trans (H3.out.mono hbs)).trans hbel⟩
      rw [hsz]
      exact (hown.agree (fun f h1 _ => hold f (by omega))).more (by omega) (Nat.le_refl _)
end Go.Proofs.YtfbodhfdomdkpaaGreatDoor
namespace Go.Proofs.YtfbodhfdomdkpaaGreatDoor
open Go.ChangeShapes Go.WideShapes Go.ChangeAt Go.RowKit Go.Joins
set_option linter.unusedVariables false
set_option maxRecDepth 100000
/-! ### A list that grows by elements whose own blocks lie below rlo -/
section
variable {α : Type} {E : World → Nat → Nat → α → List Nat → Prop} {n : Nat} {e : TypeId}
def AppL (E : World → Nat → Nat → α → List Nat → Prop) (n : Nat) (e : TypeId) (w : World) (rlo : Nat) (a : Option Addr) (cap : Nat) (l : List α) (F : List Nat) : Prop :=
  (a = none ∧ cap = 0 ∧ l = [] ∧ F = []) ∨ ∃ g cur, a = some ⟨g, 0, none⟩ ∧ rlo ≤ g ∧ w.heap[g]? = some (.cells cur e (0, 0)) ∧ l.length ≤ cap ∧ cap ≤ maxLen ∧ cur.size = cap * n ∧ Row E n w g 0 l F ∧ ∀ f ∈ F, f < rlo
theorem AppL.empty (w : World) (rlo : Nat) (hl : rlo ≤ w.heap.size) : AppL E n e (w.alloc (.cells #[] e)) rlo (some ⟨w.heap.size, 0, none⟩) 0 [] [] :=
  Or.inr ⟨w.heap.size, #[], rfl, hl, heap_alloc_new w _, Nat.le_refl _, by simp [maxLen], by simp, rfl, by simp⟩
theorem AppL.agree (hE : Elem E n) {w w' : World} {rlo cap : Nat} {a : Option Addr} {l : List α} {F : List Nat} (h : AppL E n e w rlo a cap l F) (hw : ∀ f, f < w.heap.size → w'.heap[f]? = w.heap[f]?) (hr : rlo ≤ w.heap.size) : AppL E n e w' rlo a cap l F := by
  rcases h with h | ⟨g, cur, ha, h1, h3, h4, h5, h6, h7, h8⟩
  · exact Or.inl h
  · have hg : g < w.heap.size := (Array.getElem?_eq_some_iff.1 h3).1
    exact Or.inr ⟨g, cur, ha, h1, (hw g hg).trans h3, h4, h5, h6, h7.agree hE.loc l (Cells.of_block (hw g hg) _ _) (fun f hf => hw f (by have := h8 f hf; omega)), h8⟩
theorem AppL.lt {w : World} {rlo cap : Nat} {a : Option Addr} {l : List α} {F : List Nat} (h : AppL E n e w rlo a cap l F) : ∀ f ∈ F, f < rlo := by
  rcases h with ⟨_, _, _, rfl⟩ | ⟨g, cur, ha, h1, h3, h4, h5, h6, h7, h8⟩
  · simp
  · exact h8
theorem AppL.own {w : World} {rlo lo cap : Nat} {a : Option Addr} {l : List α} {F : List Nat} (h : AppL E n e w rlo a cap l F) (hn : F.Nodup) (hlo : lo ≤ rlo) (hF : ∀ f ∈ F, lo ≤ f ∧ Unf w f) : Ow E n w lo w.heap.size a cap l := by
  rcases h with ⟨rfl, rfl, rfl, rfl⟩ | ⟨g, cur, rfl, h1, h3, h4, h5, h6, h7, h8⟩
  · exact Ow.nil _ _ _ _ _ (by simp [maxLen])
  · have hg : g < w.heap.size := (Array.getElem?_eq_some_iff.1 h3).1
    by_cases hl : l = []
    · subst hl; exact Ow.nil _ _ _ _ _ h5
    · refine ⟨g :: F, ⟨h4, h5, fun h => absurd h hl, fun _ => ⟨g, 0, F, rfl, rfl, h7⟩⟩, List.nodup_cons.2 ⟨fun hm => by have := h8 g hm; omega, hn⟩, ?_⟩
      intro f hf
      rcases List.mem_cons.1 hf with rfl | hf
      · exact ⟨by omega, hg, ⟨_, _, h3⟩⟩
      · exact ⟨(hF f hf).1, (hF f hf).2.lt, (hF f hf).2⟩
theorem AppL.owns {w : World} {rlo cap : Nat} {a : Option Addr} {l : List α} {F : List Nat} (h : AppL E n e w rlo a cap l F) :
    ∃ xs : List Value, w.ownsRow rlo e n (.slice a l.length cap) l.length xs ∧ xs.length = l.length * n ∧ ∀ g, a = some ⟨g, 0, none⟩ → ∀ i, i < l.length * n → w.cell? ⟨g, 0 + i, none⟩ = xs[i]? := by
  rcases h with ⟨rfl, rfl, rfl, rfl⟩ | ⟨g, cur, rfl, h1, h3, h4, h5, h6, h7, h8⟩
  · exact ⟨[], World.ownsRow_nil _ _ _ _, by simp, by simp⟩
  · have hle : l.length * n ≤ cur.size := by rw [h6]; exact Nat.mul_le_mul_right _ h4
    have hl : (cur.toList.take (l.length * n)).length = l.length * n := by simp; omega
    refine ⟨cur.toList.take (l.length * n), ⟨hl, Or.inr ⟨g, cap, cur, rfl, h1, h3, h4, h5, h6, rfl⟩⟩, hl, ?_⟩
    intro g2 hg2 i hi
    injection hg2 with hg2
    injection hg2 with hg2
    subst hg2
    rw [Nat.zero_add, List.getElem?_take, if_pos hi]
    simp [World.cell?, h3]
theorem AppL.grown (hE : Elem E n) {w w' : World} {rlo cap cap' : Nat} {a : Option Addr} {l ys : List α} {F G : List Nat} {b o g' : Nat} {news xs : List Value}
    (h : AppL E n e w rlo a cap l F) (hys : Row E n w b o ys G) (hG : ∀ f ∈ G, f < rlo) (hr : rlo ≤ w.heap.size)
    (hnl : news.length = ys.length * n) (hnc : ∀ i, i < ys.length * n → w.cell? ⟨b, o + i, none⟩ = news[i]?) (hxs : ∀ g, a = some ⟨g, 0, none⟩ → ∀ i, i < l.length * n → w.cell? ⟨g, 0 + i, none⟩ = xs[i]?) (hxl : xs.length = l.length * n)
    (hown : w'.ownsRow rlo e n (.slice (some ⟨g', 0, none⟩) (l.length + ys.length) cap') (l.length + ys.length) (xs ++ news)) (hgr : w.grownBy w' (Value.slice a l.length cap).ownBlock) :
    AppL E n e w' rlo (some ⟨g', 0, none⟩) cap' (l ++ ys) (F ++ G) ∧ Below rlo w w' := by
  have hrow : ∃ cur, w'.heap[g']? = some (.cells cur e (0, 0)) ∧ l.length + ys.length ≤ cap' ∧ cap' ≤ maxLen ∧ cur.size = cap' * n ∧ cur.toList.take ((l.length + ys.length) * n) = xs ++ news ∧ rlo ≤ g' := by
    rcases hown.2 with ⟨h0, _⟩ | ⟨g, cap2, cur, hv, hb, hg, h1, h2, h3, h4⟩
    · cases h0
    · injection hv with hv1 hv2 hv3
      injection hv1 with hv1
      injection hv1 with hv1
      subst hv1 hv3
      exact ⟨cur, hg, h1, h2, h3, h4, hb⟩
  obtain ⟨cur, r1, r2, r3, r4, r5, r6⟩ := hrow
  have hcell : ∀ i, i < (l.length + ys.length) * n → w'.cell? ⟨g', i, none⟩ = (xs ++ news)[i]? := by
    intro i hi
    rw [← r5, List.getElem?_take, if_pos hi]
    simp [World.cell?, r1]
  have hmul : (l.length + ys.length) * n = l.length * n + ys.length * n := Nat.add_mul _ _ _
  have hold : ∀ k, (Value.slice a l.length cap).ownBlock = some k → rlo ≤ k := by
    intro k hk
    rcases h with ⟨rfl, rfl, rfl, _⟩ | ⟨g, cur0, rfl, k1, _⟩
    · simp [Value.ownBlock] at hk
    · simp [Value.ownBlock] at hk; omega
  have hlow : ∀ f, f < rlo → w'.heap[f]? = w.heap[f]? := fun f hf => hgr.block f (by omega) (fun e => by have := hold f e.symm; omega)
  refine ⟨?_, hgr.os, hgr.tape, hgr.output, hgr.size, hlow⟩
  have hyr : Row E n w' g' (0 + l.length * n) ys G := by
    refine hys.mov hE ys (fun i hi => ?_) (fun f hf => hlow f (hG f hf))
    rw [Nat.zero_add, hcell _ (by omega), List.getElem?_append_right (by omega), hnc i hi, hxl]
    congr 1; omega
  rcases h with ⟨rfl, rfl, rfl, rfl⟩ | ⟨g, cur0, rfl, k1, h3, h4, h5, h6, h7, h8⟩
  · exact Or.inr ⟨g', cur, rfl, r6, r1, by simpa using r2, r3, r4, by simpa using hyr, by simpa using hG⟩
  · have hlr : Row E n w' g' 0 l F := by
      refine h7.mov hE l (fun i hi => ?_) (fun f hf => hlow f (h8 f hf))
      rw [Nat.zero_add, hcell _ (by omega), List.getElem?_append_left (by omega)]
      have := hxs g rfl i hi
      rw [Nat.zero_add] at this
      exact this.symm
    refine Or.inr ⟨g', cur, rfl, r6, r1, by simpa using r2, r3, r4, hlr.append hyr, fun f hf => ?_⟩
    rcases List.mem_append.1 hf with hf | hf
    · exact h8 f hf
    · exact hG f hf
theorem wpList_appL {P : Program} {w : World} (hE : Elem E n) {ops : Array Oper} {rest : List Oper} {o : Oper} {act : Act} {Q : Exit → Act → World → Prop} (hgd : o.guard = none) (s x : Operand) (t : TypeId)
    (ho : o.op = .call { callee := .builtin .append, args := #[s, x], argTypes := #[t, t] }) (z : Value) (bytes : Nat) (ht : P.underlying t = some (.slice e)) (hinfo : (P.info? e).map (fun i => (i.zero, i.size, i.bytes)) = some (some z, n, bytes)) (hzs : z.cells.size = n)
    (rlo : Nat) (a : Option Addr) (cap : Nat) (l : List α) (F : List Nat) (hs : act.eval s = .slice a l.length cap) (happ : AppL E n e w rlo a cap l F) (hlo : rlo ≤ w.heap.size)
    (b off m c : Nat) (ys : List α) (G : List Nat) (hx : act.eval x = .slice (some ⟨b, off, none⟩) m c) (hm : ys.length = m) (hys : Row E n w b off ys G) (hG : ∀ f ∈ G, f < rlo)
    (hpos : 0 < m) (h63 : l.length + m ≤ maxLen) (hbytes : (l.length + m) * bytes ≤ 140737488355328)
    (h : ∀ a' cap' w', AppL E n e w' rlo a' cap' (l ++ ys) (F ++ G) → Below rlo w w' → wpList P ops Q rest (act.put o.dst (.slice a' (l ++ ys).length cap')) w') : wpList P ops Q (o :: rest) act w := by
  obtain ⟨i, hi', hz0, hz1, hz2⟩ := info_parts hinfo
  obtain ⟨xs, q1, q2, q3⟩ := happ.owns
  subst hm
  obtain ⟨news, n1, n2, n3⟩ := cells_list (hys.cel hE ys)
  refine wpList_append_lies w hgd s x t ho rlo e i z n bytes ht hi' hz0 hz1 hz2 hzs hE.pos (.slice a l.length cap) l.length xs hs q1 ⟨b, off, none⟩ ys.length c news hx n1 (fun j u hj => ?_) n3 hpos h63 hbytes hlo w.heap.size rfl (fun g' cap' w' hown hgr hat hlt => ?_)
  · have hj2 : j < ys.length * n := by
      rcases Nat.lt_or_ge j (ys.length * n) with h | h
      · exact h
      · rw [List.getElem?_eq_none (by omega)] at hj; cases hj
    rw [← hj, ← n2 j hj2, Addr.add_lit]
  · obtain ⟨r1, r2⟩ := AppL.grown hE happ hys hG hlo n1 n2 q3 q2 hown hgr
    have := h _ _ w' r1 r2
    rwa [List.length_append] at this
/-- The same at a step of a region that draws. -/
theorem step_appL {P : Program} {w : World} (hE : Elem E n) {ops : Array Oper} {o : Oper} {act : Act} {K : Act → World → Prop} {Q : Exit → Act → World → Prop} {X : Prop} (hgd : o.guard = none) (s x : Operand) (t : TypeId)
    (ho : o.op = .call { callee := .builtin .append, args := #[s, x], argTypes := #[t, t] }) (z : Value) (bytes : Nat) (ht : P.underlying t = some (.slice e)) (hinfo : (P.info? e).map (fun i => (i.zero, i.size, i.bytes)) = some (some z, n, bytes)) (hzs : z.cells.size = n)
    (rlo : Nat) (a : Option Addr) (cap : Nat) (l : List α) (F : List Nat) (hs : act.eval s = .slice a l.length cap) (happ : AppL E n e w rlo a cap l F) (hlo : rlo ≤ w.heap.size)
    (b off m c : Nat) (ys : List α) (G : List Nat) (hx : act.eval x = .slice (some ⟨b, off, none⟩) m c) (hm : ys.length = m) (hys : Row E n w b off ys G) (hG : ∀ f ∈ G, f < rlo)
    (hpos : 0 < m) (h63 : l.length + m ≤ maxLen) (hbytes : (l.length + m) * bytes ≤ 140737488355328)
    (h : ∀ a' cap' w', AppL E n e w' rlo a' cap' (l ++ ys) (F ++ G) → Below rlo w w' → K (act.put o.dst (.slice a' (l ++ ys).length cap')) w') : if Region.wanted o (yielded ops act.tmps) = true then Oper.wp P o act w K Q else X := by
  obtain ⟨i, hi', hz0, hz1, hz2⟩ := info_parts hinfo
  obtain ⟨xs, q1, q2, q3⟩ := happ.owns
  subst hm
  obtain ⟨news, n1, n2, n3⟩ := cells_list (hys.cel hE ys)
  refine step_append_lies w hgd s x t ho rlo e i z n bytes ht hi' hz0 hz1 hz2 hzs hE.pos (.slice a l.length cap) l.length xs hs q1 ⟨b, off, none⟩ ys.length c news hx n1 (fun j u hj => ?_) n3 hpos h63 hbytes hlo w.heap.size rfl (fun g' cap' w' hown hgr hat hlt => ?_)
  · have hj2 : j < ys.length * n := by
      rcases Nat.lt_or_ge j (ys.length * n) with h | h
      · exact h
      · rw [List.getElem?_eq_none (by omega)] at hj; cases hj
    rw [← hj, ← n2 j hj2, Addr.add_lit]
  · obtain ⟨r1, r2⟩ := AppL.grown hE happ hys hG hlo n1 n2 q3 q2 hown hgr
    have := h _ _ w' r1 r2
    rwa [List.length_append] at this
end
end Go.Proofs.YtfbodhfdomdkpaaGreatDoor
namespace Go.Proofs.YtfbodhfdomdkpaaGreatDoor
open Go.ChangeShapes Go.WideShapes Go.ChangeAt Go.RowKit Go.Joins
set_option linter.unusedVariables false
set_option maxRecDepth 100000
/-- Has a later pair this name? -/
def hasNm (a : T) : List T → Bool
  | [] => false
  | [x] => sameT a x
  | x :: _ :: r => sameT a x || hasNm a r
def keepN (l : List T) : Nat → List T
  | 0 => []
  | p + 1 => keepN l p ++ (if hasNm (l.getD (2 * p) zT) (l.drop (2 * p + 2)) then [] else [l.getD (2 * p) zT, l.getD (2 * p + 1) zT])
def lastP (l : List T) : List T := keepN l (l.length / 2)
mutual
def onceT : T → T | .mk k n x s l => .mk k n x s (if k = 10 ∧ l.length % 2 = 0 then lastP (onceTs l) else onceTs l)
def onceTs : List T → List T
  | [] => []
  | t :: r => onceT t :: onceTs r
end
theorem onceTs_map (l : List T) : onceTs l = l.map onceT := by
  induction l with
  | nil => simp [onceTs]
  | cons t r ih => simp [onceTs, ih]
theorem onceTs_length (l : List T) : (onceTs l).length = l.length := by rw [onceTs_map]; simp
theorem keepN_len (l : List T) (p : Nat) : (keepN l p).length ≤ 2 * p := by
  induction p with
  | zero => simp [keepN]
  | succ p ih =>
    rw [keepN, List.length_append]
    split
    · simp; omega
    · simp; omega
theorem onceTs_take_succ (l : List T) (j : Nat) (h : j < l.length) : onceTs (l.take (j + 1)) = onceTs (l.take j) ++ [onceT l[j]] := by
  rw [take_snoc l j h, onceTs_map, onceTs_map, List.map_append]; rfl
theorem hasNm_odd (a : T) (l : List T) (k : Nat) (h : k + 1 < l.length) : hasNm a (l.drop k) = (sameT a l[k] || hasNm a (l.drop (k + 2))) := by
  rw [List.drop_eq_getElem_cons (by omega : k < l.length), List.drop_eq_getElem_cons (by omega : k + 1 < l.length), hasNm]
theorem hasNm_end (a : T) (l : List T) (k : Nat) (h : l.length ≤ k) : hasNm a (l.drop k) = false := by
  rw [List.drop_of_length_le h, hasNm]
end Go.Proofs.YtfbodhfdomdkpaaGreatDoor
namespace Go.Proofs.YtfbodhfdomdkpaaGreatDoor
open Go.ChangeShapes Go.WideShapes Go.ChangeAt Go.RowKit Go.Joins
set_option linter.unusedVariables false
set_option maxRecDepth 100000
/-- The name of number n. -/
def wayNm (n : Int) : ByteArray := if n = 1 then ⟨#[116, 101, 120, 116]⟩ else if n = 2 then ⟨#[116, 105, 103, 104, 116]⟩ else if n = 3 then ⟨#[112, 97, 99, 107, 101, 100]⟩ else if n = 4 then ⟨#[112, 108, 97, 105, 110]⟩ else ⟨#[]⟩
theorem wayNm_out (n : Int) (h : n < 1 ∨ 4 < n) : wayNm n = ⟨#[]⟩ := by unfold wayNm; rw [if_neg (by omega), if_neg (by omega), if_neg (by omega), if_neg (by omega)]
/-- The name of number n. -/
def lossNm (n : Int) : ByteArray := if n = 1 then ⟨#[107, 105, 110, 100]⟩ else if n = 2 then ⟨#[114, 111, 117, 110, 100]⟩ else if n = 3 then ⟨#[114, 97, 110, 103, 101]⟩ else if n = 4 then ⟨#[111, 100, 100]⟩ else if n = 5 then ⟨#[98, 121, 116, 101, 115]⟩ else if n = 6 then ⟨#[116, 97, 103]⟩ else if n = 7 then ⟨#[110, 97, 109, 101]⟩ else if n = 8 then ⟨#[116, 119, 105, 99, 101]⟩ else if n = 9 then ⟨#[111, 114, 100, 101, 114]⟩ else ⟨#[]⟩
theorem lossNm_out (n : Int) (h : n < 1 ∨ 9 < n) : lossNm n = ⟨#[]⟩ := by unfold lossNm; rw [if_neg (by omega), if_neg (by omega), if_neg (by omega), if_neg (by omega), if_neg (by omega), if_neg (by omega), if_neg (by omega), if_neg (by omega), if_neg (by omega)]
set_option maxHeartbeats 1600000 in
theorem spec_LossName (n : Int) (w : World) (hi : I64 n) : Calls Tryz.prog 28 #[.int .i64 n] w fun e w' => e = .returned (.string (lossNm n)) ∧ Below w.heap.size w w' := by
  by_cases h0 : n < 0
  · have H := Lib.hid (lossNm_out n (by omega))
    go_enter Tryz.func28, Tryz.ntmps28
    go_wp2
    go_ret
    exact ⟨ret_s H.out.symm, by go_grown⟩
  by_cases h1 : 9 < n
  · have hd1 : decide (n ≤ 9) = false := by simp; omega
    have H := Lib.hid (lossNm_out n (by omega))
    go_enter Tryz.func28, Tryz.ntmps28
    go_wp2
    go_ret
    exact ⟨ret_s H.out.symm, by go_grown⟩
  obtain rfl | rfl | rfl | rfl | rfl | rfl | rfl | rfl | rfl | rfl : n = 0 ∨ n = 1 ∨ n = 2 ∨ n = 3 ∨ n = 4 ∨ n = 5 ∨ n = 6 ∨ n = 7 ∨ n = 8 ∨ n = 9 := by omega
  all_goals
    go_enter Tryz.func28, Tryz.ntmps28
    go_wp2
    go_ret
    exact ⟨rfl, by go_grown⟩
set_option maxHeartbeats 1600000 in
theorem impl_LossName (n : Int) (w : World) (hi : I64 n) : Calls Tryz.prog 27 #[.int .i64 n] w fun e w' => e = .returned (.string (lossNm n)) ∧ Below w.heap.size w w' := by
  have x0 : ∀ w : World, (Instr.index 87 (.agg #[.string ⟨#[107, 105, 110, 100]⟩, .string ⟨#[114, 111, 117, 110, 100]⟩, .string ⟨#[114, 97, 110, 103, 101]⟩, .string ⟨#[111, 100, 100]⟩, .string ⟨#[98, 121, 116, 101, 115]⟩, .string ⟨#[116, 97, 103]⟩, .string ⟨#[110, 97, 109, 101]⟩, .string ⟨#[116, 119, 105, 99, 101]⟩, .string ⟨#[111, 114, 100, 101, 114]⟩]) (.int .i64 0)).run Tryz.prog w = .ok (.string ⟨#[107, 105, 110, 100]⟩) w := fun _ => by kernel_rfl
  have x1 : ∀ w : World, (Instr.index 87 (.agg #[.string ⟨#[107, 105, 110, 100]⟩, .string ⟨#[114, 111, 117, 110, 100]⟩, .string ⟨#[114, 97, 110, 103, 101]⟩, .string ⟨#[111, 100, 100]⟩, .string ⟨#[98, 121, 116, 101, 115]⟩, .string ⟨#[116, 97, 103]⟩, .string ⟨#[110, 97, 109, 101]⟩, .string ⟨#[116, 119, 105, 99, 101]⟩, .string ⟨#[111, 114, 100, 101, 114]⟩]) (.int .i64 1)).run Tryz.prog w = .ok (.string ⟨#[114, 111, 117, 110, 100]⟩) w := fun _ => by kernel_rfl
  have x2 : ∀ w : World, (Instr.index 87 (.agg #[.string ⟨#[107, 105, 110, 100]⟩, .string ⟨#[114, 111, 117, 110, 100]⟩, .string ⟨#[114, 97, 110, 103, 101]⟩, .string ⟨#[111, 100, 100]⟩, .string ⟨#[98, 121, 116, 101, 115]⟩, .string ⟨#[116, 97, 103]⟩, .string ⟨#[110, 97, 109, 101]⟩, .string ⟨#[116, 119, 105, 99, 101]⟩, .string ⟨#[111, 114, 100, 101, 114]⟩]) (.int .i64 2)).run Tryz.prog w = .ok (.string ⟨#[114, 97, 110, 103, 101]⟩) w := fun _ => by kernel_rfl
  have x3 : ∀ w : World, (Instr.index 87 (.agg #[.string ⟨#[107, 105, 110, 100]⟩, .string ⟨#[114, 111, 117, 110, 100]⟩, .string ⟨#[114, 97, 110, 103, 101]⟩, .string ⟨#[111, 100, 100]⟩, .string ⟨#[98, 121, 116, 101, 115]⟩, .string ⟨#[116, 97, 103]⟩, .string ⟨#[110, 97, 109, 101]⟩, .string ⟨#[116, 119, 105, 99, 101]⟩, .string ⟨#[111, 114, 100, 101, 114]⟩]) (.int .i64 3)).run Tryz.prog w = .ok (.string ⟨#[111, 100, 100]⟩) w := fun _ => by kernel_rfl
  have x4 : ∀ w : World, (Instr.index 87 (.agg #[.string ⟨#[107, 105, 110, 100]⟩, .string ⟨#[114, 111, 117, 110, 100]⟩, .string ⟨#[114, 97, 110, 103, 101]⟩, .string ⟨#[111, 100, 100]⟩, .string ⟨#[98, 121, 116, 101, 115]⟩, .string ⟨#[116, 97, 103]⟩, .string ⟨#[110, 97, 109, 101]⟩, .string ⟨#[116, 119, 105, 99, 101]⟩, .string ⟨#[111, 114, 100, 101, 114]⟩]) (.int .i64 4)).run Tryz.prog w = .ok (.string ⟨#[98, 121, 116, 101, 115]⟩) w := fun _ => by kernel_rfl
  have x5 : ∀ w : World, (Instr.index 87 (.agg #[.string ⟨#[107, 105, 110, 100]⟩, .string ⟨#[114, 111, 117, 110, 100]⟩, .string ⟨#[114, 97, 110, 103, 101]⟩, .string ⟨#[111, 100, 100]⟩, .string ⟨#[98, 121, 116, 101, 115]⟩, .string ⟨#[116, 97, 103]⟩, .string ⟨#[110, 97, 109, 101]⟩, .string ⟨#[116, 119, 105, 99, 101]⟩, .string ⟨#[111, 114, 100, 101, 114]⟩]) (.int .i64 5)).run Tryz.prog w = .ok (.string ⟨#[116, 97, 103]⟩) w := fun _ => by kernel_rfl
  have x6 : ∀ w : World, (Instr.index 87 (.agg #[.string ⟨#[107, 105, 110, 100]⟩, .string ⟨#[114, 111, 117, 110, 100]⟩, .string ⟨#[114, 97, 110, 103, 101]⟩, .string ⟨#[111, 100, 100]⟩, .string ⟨#[98, 121, 116, 101, 115]⟩, .string ⟨#[116, 97, 103]⟩, .string ⟨#[110, 97, 109, 101]⟩, .string ⟨#[116, 119, 105, 99, 101]⟩, .string ⟨#[111, 114, 100, 101, 114]⟩]) (.int .i64 6)).run Tryz.prog w = .ok (.string ⟨#[110, 97, 109, 101]⟩) w := fun _ => by kernel_rfl
  have x7 : ∀ w : World, (Instr.index 87 (.agg #[.string ⟨#[107, 105, 110, 100]⟩, .string ⟨#[114, 111, 117, 110, 100]⟩, .string ⟨#[114, 97, 110, 103, 101]⟩, .string ⟨#[111, 100, 100]⟩, .string ⟨#[98, 121, 116, 101, 115]⟩, .string ⟨#[116, 97, 103]⟩, .string ⟨#[110, 97, 109, 101]⟩, .string ⟨#[116, 119, 105, 99, 101]⟩, .string ⟨#[111, 114, 100, 101, 114]⟩]) (.int .i64 7)).run Tryz.prog w = .ok (.string ⟨#[116, 119, 105, 99, 101]⟩) w := fun _ => by kernel_rfl
  have x8 : ∀ w : World, (Instr.index 87 (.agg #[.string ⟨#[107, 105, 110, 100]⟩, .string ⟨#[114, 111, 117, 110, 100]⟩, .string ⟨#[114, 97, 110, 103, 101]⟩, .string ⟨#[111, 100, 100]⟩, .string ⟨#[98, 121, 116, 101, 115]⟩, .string ⟨#[116, 97, 103]⟩, .string ⟨#[110, 97, 109, 101]⟩, .string ⟨#[116, 119, 105, 99, 101]⟩, .string ⟨#[111, 114, 100, 101, 114]⟩]) (.int .i64 8)).run Tryz.prog w = .ok (.string ⟨#[111, 114, 100, 101, 114]⟩) w := fun _ => by kernel_rfl
  by_cases h0 : n < 1
  · have H := Lib.hid (lossNm_out n (by omega))
    go_enter Tryz.func27, Tryz.ntmps27
    go_wp2
    go_ret
    exact ⟨ret_s H.out.symm, by go_grown⟩
  by_cases h1 : 9 < n
  · have hd1 : decide (n ≤ 9) = false := by simp; omega
    have H := Lib.hid (lossNm_out n (by omega))
    go_enter Tryz.func27, Tryz.ntmps27
    go_wp2
    go_ret
    exact ⟨ret_s H.out.symm, by go_grown⟩
  obtain rfl | rfl | rfl | rfl | rfl | rfl | rfl | rfl | rfl : n = 1 ∨ n = 2 ∨ n = 3 ∨ n = 4 ∨ n = 5 ∨ n = 6 ∨ n = 7 ∨ n = 8 ∨ n = 9 := by omega
  all_goals
    go_enter Tryz.func27, Tryz.ntmps27
    go_wp2
    go_ret
    exact ⟨rfl, by go_grown⟩
end Go.Proofs.YtfbodhfdomdkpaaGreatDoor
