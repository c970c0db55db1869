/- Contracts and lemmas for the proofs of this seat: PathAt2. No condition beyond those stated. -/
import Derived.Test.YtfbgmhjjdgglnaaRows
import Derived.WalkKit
import Derived.ProofKit
import Derived.OpenShut
import Derived.Handy
import Derived.Lib.Hide
import Derived.Lib.SmallJoins
import Derived.Deep.RegionHeld3
import Derived.Deep.AppendLies
import Derived.Deep.QuietTactic
import Derived.BigQuiet
import Derived.Test.YtfbgmhjjdgglnaaBase
import Derived.Test.YtfbgmhjjdgglnaaGen
import Derived.Test.YtfbgmhjjdgglnaaKit
import Derived.Test.YtfbgmhjjdgglnaaMark
import Derived.Test.YtfbgmhjjdgglnaaApp
import Derived.Test.YtfbgmhjjdgglnaaMarkV
import Derived.Test.YtfbgmhjjdgglnaaLawVal
import Derived.Test.YtfbgmhjjdgglnaaCopy
import Derived.Test.YtfbgmhjjdgglnaaPathAt
namespace Go.Proofs.Ytfbgmhjjdgglnaa
open Go.ChangeShapes Go.WideShapes Go.ChangeAt Go.RowKit Go.Joins
set_option linter.unusedVariables false
set_option maxRecDepth 100000
def elT (t : T) (s : St) : T := if okI t s then t.l.getD (rawI t s).toNat zT else zT
theorem okI_nat {t : T} {s : St} (h : okI t s) : ∃ i : Nat, i < t.l.length ∧ rawI t s = i ∧ ∀ hi : i < t.l.length, elT t s = t.l[i] := by
  have h0 := rawI_nonneg h
  refine ⟨(rawI t s).toNat, by have := h.2.2; omega, by omega, fun hi => ?_⟩
  unfold elT; rw [if_pos h, List.getD_eq_getElem?_getD, List.getElem?_eq_getElem hi]; rfl
theorem elT_no {t : T} {s : St} (h : ¬ okI t s) : elT t s = zT := if_neg h
theorem zT_own (w : World) (lo hi : Nat) : Own w lo hi none 0 zT.l := Own.nil _ _ _ _ _ (by simp [maxLen])
theorem zT_rd (w : World) (B : Nat) : R w B none 0 zT.l := R.nil _ _
theorem zT_wf : Wf zT := by
  have h : (⟨#[]⟩ : ByteArray).size = 0 := rfl
  refine ⟨?_, ?_, ?_, ?_⟩ <;> simp [I64, zT, T.k, T.n, T.x, T.s, maxLen, h]
theorem Is.drew {w : World} {g : Nat} {e : TypeId} {cs : Array Value} (h : Is w g e cs) : Is w.drew g e cs := h
theorem Is.set5 {w : World} {g : Nat} {e : TypeId} {z0 z1 z2 z3 z4 : Value} (h : Is w g e #[z0, z1, z2, z3, z4]) (v0 v1 v2 v3 v4 : Value) :
    Is (((((w.setCell ⟨g, 0, none⟩ v0).setCell ⟨g, 1, none⟩ v1).setCell ⟨g, 2, none⟩ v2).setCell ⟨g, 3, none⟩ v3).setCell ⟨g, 4, none⟩ v4) g e #[v0, v1, v2, v3, v4] := ((((h.set 0 v0).set 1 v1).set 2 v2).set 3 v3).set 4 v4
theorem elT_wf {w : World} {B cap : Nat} {a : Option Addr} {x : T} (h : R w B a cap x.l) (s : St) : Wf (elT x s) := by
  by_cases hok : okI x s
  · obtain ⟨i, hil, _, hel⟩ := okI_nat hok
    rw [hel hil]
    obtain ⟨_, _, _, _, _, _, _, _, _, _, _, hwf, _⟩ := h.get i hil
    exact hwf
  · rw [elT_no hok]; exact zT_wf
theorem elT_count {x : T} (s : St) (hc : T.count x ≤ 1073741824) : T.count (elT x s) ≤ 1073741824 := by
  by_cases hok : okI x s
  · obtain ⟨i, hil, _, hel⟩ := okI_nat hok
    rw [hel hil]
    have := T.count_get x.l i hil
    cases x; simp only [T.count, T.l] at *; omega
  · rw [elT_no hok]; simp [zT, T.count, T.countL]
theorem atT_step {x : T} {p : List St} {j : Nat} (hj : j < p.length) (h : okI x p[j]) : atT x (p.drop j) = atT (elT x p[j]) (p.drop (j + 1)) := by
  rw [atT_drop_ok hj h]; unfold elT; rw [if_pos h]
theorem ret_t {v : Value} {x y : Bool} (h : x = y) : Ending.returned (.tuple #[v, .bool x]) = .returned (.tuple #[v, .bool y]) := by rw [h]
set_option maxHeartbeats 1000000 in
theorem spec_StepVal (t : T) (s : St) (a : Option Addr) (cap B : Nat) (w : World) (hr : R w B a cap t.l) (hwf : Wf t) (hi : I64 s.1) (hct : T.count t ≤ 1073741824) (hB : B ≤ w.heap.size) :
    Calls Try.prog 83 #[.agg (cV t a cap), .agg #[.int .i64 s.1, .bool s.2]] w fun e w' => ∃ a' cap', e = .returned (.tuple #[.agg (cV (elT t s) a' cap'), .bool (decide (okI t s))]) ∧ Own w' w.heap.size w'.heap.size a' cap' (elT t s).l ∧ Below w.heap.size w w' := by
  obtain ⟨hl1, hl2⟩ := hr.len
  have hlc : t.l.length ≤ 1073741824 := by have := T.length_le_countL t.l; cases t; simp only [T.count, T.l] at *; omega
  have HR := Lib.hid hr; clear hr
  go_enter Try.func83, Try.ntmps83
  go_wp2_with fail
  generalize hW : ((w.alloc (Obj.cells (cV t a cap) 32)).alloc (Obj.cells #[.int .i64 s.1, .bool s.2] 79)).alloc (Obj.cells zV 32) = W0
  have q1 : Is W0 w.heap.size 32 (cV t a cap) := by subst hW; exact ((Is.new _ _ _).alloc _).alloc _
  have q2 : Is W0 (w.heap.size + 1 + 1) 32 zV := by subst hW; exact Is.new3 _ _ _ _ _
  have H0 := Lib.hid (show Below w.heap.size w W0 from by subst hW; exact below3 _ _ _ _)
  have hs0 : W0.heap.size = w.heap.size + 3 := by subst hW; simp
  clear hW
  refine (spec_l8Place t s a cap W0 hi hlc).mono ?_
  rintro e w2 ⟨rfl, hb2⟩
  have hs2 := hb2.size
  have H2 := Lib.hid hb2
  have p1 := q1.below hb2 (by omega)
  have p2 := q2.below hb2 (by omega)
  have f2 := fun i => p2.frozen i
  obtain ⟨r0, r1, r2, r3, r4⟩ := p1.cells5
  obtain ⟨o0, o1, o2, o3, o4⟩ := p2.cells5
  have l1 : w.heap.size < w2.heap.size := by omega
  have l2 : w.heap.size + 1 + 1 < w2.heap.size := by omega
  clear hb2
  by_cases hok : okI t s
  · obtain ⟨i, hil, hie, hel⟩ := okI_nat hok
    rw [idxT_ok hok, hie]
    have HEL := Lib.hid (hel hil)
    have HOK := Lib.hid (show decide (okI t s) = true from decide_eq_true hok)
    clear hok hie hel
    obtain ⟨b, o, a2, cap2, ha, hbl, d0, d1, d2, d3, d4, hwf2, hq⟩ := ((HR.out.below H0.out hB).below H2.out (by omega)).get i hil
    have hcj := T.count_get t.l i hil
    have hctl : T.countL t.l ≤ 1073741824 := by cases t; simp only [T.count, T.l] at *; omega
    subst ha
    have HWF := Lib.hid hwf2; clear hwf2
    go_wp2_with fail
    refine (spec_l6Copy t.l[i] a2 cap2 B w2 hq HWF.out (by omega) (by omega)).mono ?_
    rintro e w3 ⟨a3, cap3, rfl, hown, hb3⟩
    have p3 := p2.below hb3 (by omega)
    have f3 := fun i => p3.frozen i
    obtain ⟨u0, u1, u2, u3, u4⟩ := p3.cells5
    have hs3 := hb3.size
    have H3 := Lib.hid hb3; clear hb3
    go_wp2_with fail
    obtain ⟨e0, e1, e2, e3, e4, hbel, hold, hsz⟩ := out5 p3.blk (.int .i64 t.l[i].k) (.int .i64 t.l[i].n) (.int .i64 t.l[i].x) (.string t.l[i].s) (.slice a3 t.l[i].l.length cap3) w.heap.size (by omega)
    refine bodyPost_ret (v := .tuple #[.agg (cV t.l[i] a3 cap3), .bool true]) (by simp [results, Try.results83, go_sem, e0, e1, e2, e3, e4]) rfl ⟨a3, cap3, by rw [HEL.out, HOK.out], ?_, ?_⟩
    · rw [hsz, HEL.out]
      exact (hown.agree (fun f h1 h2 => hold f (by omega))).more (by omega) (Nat.le_refl _)
    · exact ((H0.out.trans (H2.out.mono (by omega))).trans (H3.out.mono (by omega))).trans hbel
  · rw [idxT_no hok]
    have HEL := Lib.hid (elT_no hok)
    have HOK := Lib.hid (show decide (okI t s) = false from decide_eq_false hok)
    clear hok
    go_wp2_with fail
    obtain ⟨e0, e1, e2, e3, e4, hbel, hold, hsz⟩ := out5 p2.blk (.int .i64 0) (.int .i64 0) (.int .i64 0) (.string ⟨#[]⟩) (.slice none 0 0) w.heap.size (by omega)
    refine bodyPost_ret (v := .tuple #[.agg zV, .bool false]) (by simp [results, Try.results83, go_sem, e0, e1, e2, e3, e4]) rfl ⟨none, 0, by rw [HEL.out, HOK.out]; rfl, by rw [HEL.out]; exact zT_own _ _ _, ?_⟩
    exact (H0.out.trans (H2.out.mono (by omega))).trans hbel
theorem count_getD (t : T) (i : Nat) (h : i < t.l.length) (hc : T.count t ≤ 1073741824) : T.count t.l[i] ≤ 1073741824 := by
  have := T.count_get t.l i h
  cases t; simp only [T.count, T.l] at *; omega
set_option maxHeartbeats 1000000 in
theorem spec_AtPath (t : T) (p : List St) (a a' : Option Addr) (cap cap' B : Nat) (w : World) (hr : R w B a cap t.l) (hr' : Rd EStep 2 w B a' cap' p) (hwf : Wf t) (hct : T.count t ≤ 1073741824) (hB : B ≤ w.heap.size) :
    Calls Try.prog 67 #[.agg (cV t a cap), .slice a' p.length cap'] w fun e w' => ∃ u au cu, e = .returned (.tuple #[.agg (cV u au cu), .bool (atT t p).isSome]) ∧ (u = (atT t p).getD zT) ∧ Own w' w.heap.size w'.heap.size au cu u.l ∧ Below w.heap.size w w' := by
  obtain ⟨hl1, hl2⟩ := hr.len
  obtain ⟨hm1, hm2⟩ := hr'.len
  have HR := Lib.hid hr; clear hr
  have HR' := Lib.hid hr'; clear hr'
  go_enter Try.func67, Try.ntmps67
  go_wp2_with fail
  generalize hW : (w.alloc (Obj.cells (cV t a cap) 32)).alloc (Obj.cells zV 32) = W0
  have q1 : Is W0 w.heap.size 32 (cV t a cap) := by subst hW; exact (Is.new _ _ _).alloc _
  have q2 : Is W0 (w.heap.size + 1) 32 zV := by subst hW; exact Is.new2 _ _ _ _
  have H0 := Lib.hid (show Below w.heap.size w W0 from by subst hW; exact below2 _ _ _)
  have hs0 : W0.heap.size = w.heap.size + 2 := by subst hW; simp
  clear hW
  refine (spec_l6Copy t a cap B W0 (HR.out.below H0.out hB) hwf (by omega) hct).mono ?_
  rintro e w2 ⟨a2, cap2, rfl, hown2, hb2⟩
  have hs2 := hb2.size
  have HO2 := Lib.hid hown2; clear hown2
  have p2 := Lib.hid ((q2.below hb2 (by omega)))
  have H2 := Lib.hid hb2; clear hb2 q1 q2
  have HCT := Lib.hid hct; clear hct
  have HWF := Lib.hid hwf; clear hwf
  go_wp2_with fail
  generalize hW : w2.alloc (Obj.cells (cV t a2 cap2) 32) = W1
  have g1 : Is W1 w2.heap.size 32 (cV t a2 cap2) := by subst hW; exact Is.new _ _ _
  have g2 : Is W1 (w.heap.size + 1) 32 zV := by subst hW; exact p2.out.alloc _
  have H1 := Lib.hid (show Below w2.heap.size w2 W1 from by subst hW; exact below1 _ _)
  have hs1 : W1.heap.size = w2.heap.size + 1 := by subst hW; simp
  clear hW
  have HO := Lib.hid ((HO2.out.below H1.out (Nat.le_refl _)).more (Nat.le_refl _) (by omega : _ ≤ W1.heap.size)); clear HO2
  have HB1 := Lib.hid ((H0.out.trans (H2.out.mono (by omega))).trans (H1.out.mono (by omega)))
  go_loopw [7, 8, 9] (fun i _ _ wr => ∃ (j : Nat) (x : T) (ax : Option Addr) (cx : Nat), j ≤ p.length ∧ i = .int .i64 j ∧ Is wr w2.heap.size 32 (cV x ax cx) ∧ Own wr W0.heap.size wr.heap.size ax cx x.l ∧ Wf x ∧ T.count x ≤ 1073741824 ∧ Hid (atT t p = atT x (p.drop j)) ∧ Is wr (w.heap.size + 1) 32 zV ∧ Below w.heap.size w wr ∧ w2.heap.size < wr.heap.size) (fun i _ _ _ => p.length - (intOf i).toNat)
  case atStart => exact ⟨0, t, a2, cap2, Nat.zero_le _, rfl, g1, HO.out, HWF.out, HCT.out, rfl, g2, HB1.out, by omega⟩
  case round =>
    obtain ⟨j, x, ax, cx, hj, rfl, hbox, hown, hwx, hcx, HP, hz, hb, hws⟩ := hrel
    have hbs := hb.size
    have hfz := fun i => hz.frozen i
    obtain ⟨z0, z1, z2, z3, z4⟩ := hz.cells5
    obtain ⟨x0, x1, x2, x3, x4⟩ := hbox.cells5
    have l1 : w.heap.size + 1 < wr.heap.size := by omega
    by_cases hlt : j < p.length
    · obtain ⟨b, o, ha, hbl, d0, d1, hi⟩ := (HR'.out.below EStep.loc hb hB).step j hlt
      subst ha
      have hlb : b < wr.heap.size := by omega
      have HW := Lib.hid hwx; clear hwx
      have HC := Lib.hid hcx; clear hcx
      have HX := Lib.hid hown; clear hown
      have HI := Lib.hid hi; clear hi
      go_wp2_with fail
      refine wp_region_held_drew (S := fun w' => (∀ b o, b < wr.heap.size → w'.cell? ⟨b, o, none⟩ = wr.cell? ⟨b, o, none⟩) ∧ Below (wr.heap.size) wr w') (by kernel_rfl) (by first | exact ⟨fun _ _ _ => rfl, (Below.refl _ _).drew⟩ | exact keep_step (by assumption) (Below.drew (Below.refl _ _)) (Nat.le_refl _) | exact keep_step (by assumption) (by assumption) (by first | omega | (simp only [World.size_drew, size_alloc]; omega) | (have := (‹(_ ∧ Below (wr.heap.size) wr _)›).2.size; first | omega | (simp only [World.size_drew, size_alloc]; omega) | (simp only [World.size_drew, size_alloc] at this; omega)))) (fun hHeld => ?_)
      refine wpAnyH_take (i := 0) (oi := ⟨some 19, _, _, _, _, _⟩) (v := ?_) rfl (by kernel_rfl) (by kernel_rfl) (by kernel_rfl) (fun _ _ _ h => h) (Or.inl ⟨by rfl, ?_⟩) (by assumption) ?_
      rotate_left 1
      · (intro w hSw; (try dsimp only at hSw); go_simp; try (with_reducible rfl))
      try simp only [Act.put, List.setIfInBounds_toArray, List.set_cons_zero, List.set_cons_succ]
      refine wpAnyH_take (i := 1) (oi := ⟨some 20, _, _, _, _, _⟩) (v := ?_) rfl (by kernel_rfl) (by kernel_rfl) (by kernel_rfl) (fun _ _ _ h => h) (Or.inl ⟨by rfl, ?_⟩) (by assumption) ?_
      rotate_left 1
      · (intro w hSw; (try dsimp only at hSw); go_simp; try (with_reducible rfl))
      try simp only [Act.put, List.setIfInBounds_toArray, List.set_cons_zero, List.set_cons_succ]
      refine wpAnyH_take (i := 2) (oi := ⟨some 21, _, _, _, _, _⟩) (v := ?_) rfl (by kernel_rfl) (by kernel_rfl) (by kernel_rfl) (fun _ _ _ h => h) (Or.inl ⟨by rfl, ?_⟩) (by assumption) ?_
      rotate_left 1
      · (intro w hSw; (try dsimp only at hSw); go_simp; try (with_reducible rfl))
      try simp only [Act.put, List.setIfInBounds_toArray, List.set_cons_zero, List.set_cons_succ]
      refine wpAnyH_take (i := 3) (oi := ⟨some 22, _, _, _, _, _⟩) (v := ?_) rfl (by kernel_rfl) (by kernel_rfl) (by kernel_rfl) (fun _ _ _ h => h) (Or.inl ⟨by rfl, ?_⟩) (by assumption) ?_
      rotate_left 1
      · (intro w hSw; (try dsimp only at hSw); go_simp; try (with_reducible rfl))
      try simp only [Act.put, List.setIfInBounds_toArray, List.set_cons_zero, List.set_cons_succ]
      refine wpAnyH_take (i := 4) (oi := ⟨some 23, _, _, _, _, _⟩) (v := ?_) rfl (by kernel_rfl) (by kernel_rfl) (by kernel_rfl) (fun _ _ _ h => h) (Or.inl ⟨by rfl, ?_⟩) (by assumption) ?_
      rotate_left 1
      · (intro w hSw; (try dsimp only at hSw); go_simp; try (with_reducible rfl))
      try simp only [Act.put, List.setIfInBounds_toArray, List.set_cons_zero, List.set_cons_succ]
      refine wpAnyH_ready (rs := [5, 9]) (by kernel_rfl) (by simp) ?_
      refine AllReadyH.cons (o := ⟨some 24, _, _, _, _, _⟩) rfl (fun K hK => ?_) ?_
      focus (go_simp; (first | (go_at_call 83; refine (spec_StepVal x p[j] ax cx _ _ (HX.out.read.below (‹_ ∧ Below (wr.heap.size) wr _›).2 (Nat.le_refl _)) HW.out HI.out HC.out (‹_ ∧ Below (wr.heap.size) wr _›).2.size).mono ?_; rintro e w3 ⟨a3, cap3, rfl, ho3, hb3⟩; first | (have p8 := (Is.drew (Is.new wr zV 32)).below hb3 (by simp); have f8 := (fun i => p8.frozen i); obtain ⟨y0, y1, y2, y3, y4⟩ := p8.cells5) | skip; have hsz3 : wr.heap.size ≤ w3.heap.size := (by have := hb3.size; simp only [World.size_drew, size_alloc] at this; omega))); go_wp2_with fail; refine hK.out _ _ (by first | exact ⟨fun _ _ _ => rfl, (Below.refl _ _).drew⟩ | exact keep_step (by assumption) (Below.drew (Below.refl _ _)) (Nat.le_refl _) | exact keep_step (by assumption) (by assumption) (by first | omega | (simp only [World.size_drew, size_alloc]; omega) | (have := (‹(_ ∧ Below (wr.heap.size) wr _)›).2.size; first | omega | (simp only [World.size_drew, size_alloc]; omega) | (simp only [World.size_drew, size_alloc] at this; omega)))) (fun hHeld => ?_); clear hK K; try simp only [Act.put, List.setIfInBounds_toArray, List.set_cons_zero, List.set_cons_succ])
      refine wpAnyH_take (i := 6) (oi := ⟨some 18, _, _, _, _, _⟩) (v := ?_) rfl (by kernel_rfl) (by kernel_rfl) (by kernel_rfl) (fun _ _ _ h => h) (Or.inl ⟨by rfl, ?_⟩) (by assumption) ?_
      rotate_left 1
      · (intro w hSw; (try dsimp only at hSw); go_simp; try (with_reducible rfl))
      try simp only [Act.put, List.setIfInBounds_toArray, List.set_cons_zero, List.set_cons_succ]
      refine wpAnyH_take (i := 7) (oi := ⟨some 25, _, _, _, _, _⟩) (v := ?_) rfl (by kernel_rfl) (by kernel_rfl) (by kernel_rfl) (fun _ _ _ h => h) (Or.inl ⟨by rfl, ?_⟩) (by assumption) ?_
      rotate_left 1
      · (intro w hSw; (try dsimp only at hSw); go_simp; try (with_reducible rfl))
      try simp only [Act.put, List.setIfInBounds_toArray, List.set_cons_zero, List.set_cons_succ]
      refine wpAnyH_take (i := 8) (oi := ⟨some 26, _, _, _, _, _⟩) (v := ?_) rfl (by kernel_rfl) (by kernel_rfl) (by kernel_rfl) (fun _ _ _ h => h) (Or.inl ⟨by rfl, ?_⟩) (by assumption) ?_
      rotate_left 1
      · (intro w hSw; (try dsimp only at hSw); go_simp; try (with_reducible rfl))
      try simp only [Act.put, List.setIfInBounds_toArray, List.set_cons_zero, List.set_cons_succ]
      refine wpAnyH_ready (rs := [9]) (by kernel_rfl) (by simp) ?_
      refine AllReadyH.cons (o := ⟨some 8, _, _, _, _, _⟩) rfl (fun K hK => ?_) AllReadyH.nil
      focus (go_simp; go_wp2_with fail; refine hK.out _ _ (by first | (with_reducible exact keep_step (by assumption) (below1 _ _) (by first | omega | (simp only [World.size_drew, size_alloc]; omega) | (have := (‹(_ ∧ Below (wr.heap.size) wr _)›).2.size; first | omega | (simp only [World.size_drew, size_alloc]; omega) | (simp only [World.size_drew, size_alloc] at this; omega)))) | (exact keep_step (by assumption) (below1 _ _) (by first | omega | (simp only [World.size_drew, size_alloc]; omega) | (have := (‹(_ ∧ Below (wr.heap.size) wr _)›).2.size; first | omega | (simp only [World.size_drew, size_alloc]; omega) | (simp only [World.size_drew, size_alloc] at this; omega))))) (fun hHeld => ?_); clear hK K; try simp only [Act.put, List.setIfInBounds_toArray, List.set_cons_zero, List.set_cons_succ])
      refine wpAnyH_ready (rs := [10]) (by kernel_rfl) (by simp) ?_
      refine AllReadyH.cons (o := ⟨none, _, _, _, _, _⟩) rfl (fun K hK => ?_) AllReadyH.nil
      focus (go_simp; go_wp2_with fail; refine hK.out _ _ (by exact keep_step (by assumption) (below1 _ _) (by first | omega | (simp only [World.size_drew, size_alloc]; omega) | (have := (‹(_ ∧ Below (wr.heap.size) wr _)›).2.size; first | omega | (simp only [World.size_drew, size_alloc]; omega) | (simp only [World.size_drew, size_alloc] at this; omega)))) (fun hHeld => ?_); clear hK K; try simp only [Act.put])
      refine wpAnyH_take (i := 11) (oi := ⟨some 9, _, _, _, _, _⟩) (v := ?_) rfl (by kernel_rfl) (by kernel_rfl) (by kernel_rfl) (fun _ _ _ h => h) (Or.inl ⟨by rfl, ?_⟩) (by assumption) ?_
      rotate_left 1
      · (intro w hSw; (try dsimp only at hSw); go_simp; try (with_reducible rfl))
      try simp only [Act.put, List.setIfInBounds_toArray, List.set_cons_zero, List.set_cons_succ]
      refine wpAnyH_done (by kernel_rfl) ?_ _
      rotate_left 1
      refine AllReadyH.cons (o := ⟨some 8, _, _, _, _, _⟩) rfl (fun K hK => ?_) AllReadyH.nil
      focus (go_simp; go_wp2_with fail; refine hK.out _ _ (by first | (with_reducible exact keep_step (by assumption) (below1 _ _) (by first | omega | (simp only [World.size_drew, size_alloc]; omega) | (have := (‹(_ ∧ Below (wr.heap.size) wr _)›).2.size; first | omega | (simp only [World.size_drew, size_alloc]; omega) | (simp only [World.size_drew, size_alloc] at this; omega)))) | (exact keep_step (by assumption) (below1 _ _) (by first | omega | (simp only [World.size_drew, size_alloc]; omega) | (have := (‹(_ ∧ Below (wr.heap.size) wr _)›).2.size; first | omega | (simp only [World.size_drew, size_alloc]; omega) | (simp only [World.size_drew, size_alloc] at this; omega))))) (fun hHeld => ?_); clear hK K; try simp only [Act.put, List.setIfInBounds_toArray, List.set_cons_zero, List.set_cons_succ])
      refine wpAnyH_ready (rs := [5]) (by kernel_rfl) (by simp) ?_
      refine AllReadyH.cons (o := ⟨some 24, _, _, _, _, _⟩) rfl (fun K hK => ?_) AllReadyH.nil
      focus (go_simp; (first | (go_at_call 83; refine (spec_StepVal x p[j] ax cx _ _ (HX.out.read.below (‹_ ∧ Below (wr.heap.size) wr _›).2 (Nat.le_refl _)) HW.out HI.out HC.out (‹_ ∧ Below (wr.heap.size) wr _›).2.size).mono ?_; rintro e w3 ⟨a3, cap3, rfl, ho3, hb3⟩; first | (have p8 := (Is.drew (Is.new wr zV 32)).below hb3 (by simp); have f8 := (fun i => p8.frozen i); obtain ⟨y0, y1, y2, y3, y4⟩ := p8.cells5) | skip; have hsz3 : wr.heap.size ≤ w3.heap.size := (by have := hb3.size; simp only [World.size_drew, size_alloc] at this; omega))); go_wp2_with fail; refine hK.out _ _ (by first | exact ⟨fun _ _ _ => rfl, (Below.refl _ _).drew⟩ | exact keep_step (by assumption) (Below.drew (Below.refl _ _)) (Nat.le_refl _) | exact keep_step (by assumption) (by assumption) (by first | omega | (simp only [World.size_drew, size_alloc]; omega) | (have := (‹(_ ∧ Below (wr.heap.size) wr _)›).2.size; first | omega | (simp only [World.size_drew, size_alloc]; omega) | (simp only [World.size_drew, size_alloc] at this; omega)))) (fun hHeld => ?_); clear hK K; try simp only [Act.put, List.setIfInBounds_toArray, List.set_cons_zero, List.set_cons_succ])
      refine wpAnyH_take (i := 6) (oi := ⟨some 18, _, _, _, _, _⟩) (v := ?_) rfl (by kernel_rfl) (by kernel_rfl) (by kernel_rfl) (fun _ _ _ h => h) (Or.inl ⟨by rfl, ?_⟩) (by assumption) ?_
      rotate_left 1
      · (intro w hSw; (try dsimp only at hSw); go_simp; try (with_reducible rfl))
      try simp only [Act.put, List.setIfInBounds_toArray, List.set_cons_zero, List.set_cons_succ]
      refine wpAnyH_take (i := 7) (oi := ⟨some 25, _, _, _, _, _⟩) (v := ?_) rfl (by kernel_rfl) (by kernel_rfl) (by kernel_rfl) (fun _ _ _ h => h) (Or.inl ⟨by rfl, ?_⟩) (by assumption) ?_
      rotate_left 1
      · (intro w hSw; (try dsimp only at hSw); go_simp; try (with_reducible rfl))
      try simp only [Act.put, List.setIfInBounds_toArray, List.set_cons_zero, List.set_cons_succ]
      refine wpAnyH_take (i := 8) (oi := ⟨some 26, _, _, _, _, _⟩) (v := ?_) rfl (by kernel_rfl) (by kernel_rfl) (by kernel_rfl) (fun _ _ _ h => h) (Or.inl ⟨by rfl, ?_⟩) (by assumption) ?_
      rotate_left 1
      · (intro w hSw; (try dsimp only at hSw); go_simp; try (with_reducible rfl))
      try simp only [Act.put, List.setIfInBounds_toArray, List.set_cons_zero, List.set_cons_succ]
      refine wpAnyH_ready (rs := [10]) (by kernel_rfl) (by simp) ?_
      refine AllReadyH.cons (o := ⟨none, _, _, _, _, _⟩) rfl (fun K hK => ?_) AllReadyH.nil
      focus (go_simp; go_wp2_with fail; refine hK.out _ _ (by exact keep_step (by assumption) (below5 _ _ _ _ _ _ _) (by omega)) (fun hHeld => ?_); clear hK K; try simp only [Act.put])
      refine wpAnyH_take (i := 11) (oi := ⟨some 9, _, _, _, _, _⟩) (v := ?_) rfl (by kernel_rfl) (by kernel_rfl) (by kernel_rfl) (fun _ _ _ h => h) (Or.inl ⟨by rfl, ?_⟩) (by assumption) ?_
      rotate_left 1
      · (intro w hSw; (try dsimp only at hSw); go_simp; try (with_reducible rfl))
      try simp only [Act.put, List.setIfInBounds_toArray, List.set_cons_zero, List.set_cons_succ]
      refine wpAnyH_done (by kernel_rfl) ?_ _
      focus
        have hI8 := p8.set5 (.int .i64 (elT x p[j]).k) (.int .i64 (elT x p[j]).n) (.int .i64 (elT x p[j]).x) (.string (elT x p[j]).s) (.slice a3 (elT x p[j]).l.length cap3)
        obtain ⟨_, _, _, _, _, hbel, hold, hsz⟩ := out5 p8.blk (.int .i64 (elT x p[j]).k) (.int .i64 (elT x p[j]).n) (.int .i64 (elT x p[j]).x) (.string (elT x p[j]).s) (.slice a3 (elT x p[j]).l.length cap3) wr.heap.size (Nat.le_refl _)
        have hO8 := ho3.agree (fun f h1 _ => hold f (by simp only [World.size_drew, size_alloc] at h1; omega))
        have hB8 : Below wr.heap.size wr _ := (((below1 wr (.cells zV 32)).drew).trans (hb3.mono (by simp only [World.size_drew, size_alloc]; omega))).trans hbel
        have hge8 : wr.heap.size ≤ wr.heap.size := Nat.le_refl _
        rw [← hsz] at hO8
        have hO8 := hO8.more (lo' := wr.heap.size) (by simp only [World.size_drew, size_alloc]; omega) (Nat.le_refl _)
        have hlt8 := hI8.lt
        generalize (((((w3.setCell ⟨wr.heap.size, 0, none⟩ (.int .i64 (elT x p[j]).k)).setCell ⟨wr.heap.size, 1, none⟩ (.int .i64 (elT x p[j]).n)).setCell ⟨wr.heap.size, 2, none⟩ (.int .i64 (elT x p[j]).x)).setCell ⟨wr.heap.size, 3, none⟩ (.string (elT x p[j]).s)).setCell ⟨wr.heap.size, 4, none⟩ (.slice a3 (elT x p[j]).l.length cap3)) = W8 at *
        clear hbel hold hsz ho3 hb3 p8 f8 y0 y1 y2 y3 y4
      rotate_left 1
      focus
        have hI8 := Is.new w3 (cV (elT x p[j]) a3 cap3) 32
        have hO8 := (ho3.below (below1 w3 (.cells (cV (elT x p[j]) a3 cap3) 32)) (Nat.le_refl _)).more (lo' := wr.heap.size) (hi' := (w3.alloc (.cells (cV (elT x p[j]) a3 cap3) 32)).heap.size) (by simp only [World.size_drew]; omega) (by simp)
        have hB8 : Below wr.heap.size wr _ := (((Below.refl wr.heap.size wr).drew.trans hb3)).trans ((below1 w3 (.cells (cV (elT x p[j]) a3 cap3) 32)).mono hsz3)
        have hge8 : wr.heap.size ≤ w3.heap.size := hsz3
        have hlt8 := hI8.lt
        generalize w3.alloc (.cells (cV (elT x p[j]) a3 cap3) 32) = W8 at *
        clear ho3 hb3 hsz3
      rotate_left 1
      all_goals
        have hI8c := hI8.cells5
        obtain ⟨n0, n1, n2, n3, n4⟩ := hI8c
        have hbox8 := hbox.below hB8 hws
        have hz8 := hz.below hB8 (by omega)
        have fb8 := fun i => hbox8.frozen i
        have fz8 := fun i => hz8.frozen i
        obtain ⟨m0, m1, m2, m3, m4⟩ := hbox8.cells5
        obtain ⟨o0, o1, o2, o3, o4⟩ := hz8.cells5
        have hs8 := hB8.size
        have hwfe := Lib.hid (elT_wf HX.out.read p[j])
        have hcte := Lib.hid (elT_count p[j] HC.out)
        have HB8 := Lib.hid (hb.trans (hB8.mono hbs))
        have HO8 := Lib.hid hO8
        clear hB8 hO8
        by_cases hok : okI x p[j]
        · have HST := Lib.hid (HP.out.trans (atT_step hlt hok))
          have hd : decide (okI x p[j]) = true := decide_eq_true hok
          rw [hd]
          clear hok hd
          go_wp2_with fail
          go_roundw
          case rel =>
            obtain ⟨_, _, _, _, _, hbel, hold, hsz⟩ := out5 hbox8.blk (.int .i64 (elT x p[j]).k) (.int .i64 (elT x p[j]).n) (.int .i64 (elT x p[j]).x) (.string (elT x p[j]).s) (.slice a3 (elT x p[j]).l.length cap3) w2.heap.size (Nat.le_refl _)
            refine ⟨j + 1, elT x p[j], a3, cap3, by omega, by go_num, hbox8.set5 _ _ _ _ _, ?_, hwfe.out, hcte.out, HST.out, (hold (w.heap.size + 1) (by omega)).trans hz8, HB8.out.trans (hbel.mono (by omega)), by rw [hsz]; omega⟩
            rw [hsz]
            exact (HO8.out.agree (fun f h1 _ => hold f (by omega))).more (by omega) (Nat.le_refl _)
          case measure => simp [intOf]; omega
        · have HST := Lib.hid (HP.out.trans (atT_drop_no hlt hok))
          have hd : decide (okI x p[j]) = false := decide_eq_false hok
          rw [hd]
          clear hok hd
          go_wp2_with fail
          obtain ⟨e0, e1, e2, e3, e4, hbel, hold, hsz⟩ := out5 hz8.blk (.int .i64 0) (.int .i64 0) (.int .i64 0) (.string ⟨#[]⟩) (.slice none 0 0) w.heap.size (by omega)
          refine bodyPost_ret (v := .tuple #[.agg zV, .bool false]) (by simp [results, Try.results67, go_sem, e0, e1, e2, e3, e4]) rfl ⟨zT, none, 0, by rw [HST.out]; rfl, by rw [HST.out]; rfl, zT_own _ _ _, ?_⟩
          exact HB8.out.trans hbel
    · have hjj : p.length = j := by omega
      have HJ := Lib.hid (show atT t p = some x from HP.out.trans (by rw [← hjj]; exact atT_end x p)); clear hjj
      have HX := Lib.hid hown; clear hown
      go_wp2_with fail
      obtain ⟨e0, e1, e2, e3, e4, hbel, hold, hsz⟩ := out5 hz.blk (.int .i64 x.k) (.int .i64 x.n) (.int .i64 x.x) (.string x.s) (.slice ax x.l.length cx) w.heap.size (by omega)
      refine bodyPost_ret (v := .tuple #[.agg (cV x ax cx), .bool true]) (by simp [results, Try.results67, go_sem, e0, e1, e2, e3, e4]) rfl ⟨x, ax, cx, by rw [HJ.out]; rfl, by rw [HJ.out]; rfl, ?_, hb.trans hbel⟩
      rw [hsz]
      exact (HX.out.agree (fun f h1 _ => hold f (by omega))).more (by omega) (Nat.le_refl _)
set_option maxHeartbeats 1000000 in
theorem impl_AtPath (t : T) (p : List St) (a a' : Option Addr) (cap cap' B : Nat) (w : World) (hr : R w B a cap t.l) (hr' : Rd EStep 2 w B a' cap' p) (hwf : Wf t) (hct : T.count t ≤ 1073741824) (hB : B ≤ w.heap.size) :
    Calls Try.prog 69 #[.agg (cV t a cap), .slice a' p.length cap'] w fun e w' => ∃ u au cu, e = .returned (.tuple #[.agg (cV u au cu), .bool (atT t p).isSome]) ∧ (u = (atT t p).getD zT) ∧ Own w' w.heap.size w'.heap.size au cu u.l ∧ Below w.heap.size w w' := by
  obtain ⟨hl1, hl2⟩ := hr.len
  obtain ⟨hm1, hm2⟩ := hr'.len
  have HR := Lib.hid hr; clear hr
  have HR' := Lib.hid hr'; clear hr'
  have HWF := Lib.hid hwf; clear hwf
  have HCT := Lib.hid hct; clear hct
  go_enter Try.func69, Try.ntmps69
  go_wp2_with fail
  generalize hW : (w.alloc (Obj.cells (cV t a cap) 32)).alloc (Obj.cells zV 32) = W0
  have q1 : Is W0 w.heap.size 32 (cV t a cap) := by subst hW; exact (Is.new _ _ _).alloc _
  have q2 : Is W0 (w.heap.size + 1) 32 zV := by subst hW; exact Is.new2 _ _ _ _
  have H0 := Lib.hid (show Below w.heap.size w W0 from by subst hW; exact below2 _ _ _)
  have hs0 : W0.heap.size = w.heap.size + 2 := by subst hW; simp
  clear hW
  go_loopw [11, 7, 8] (fun i _ _ wr => ∃ (j : Nat) (x : T) (ax : Option Addr) (cx : Nat), j ≤ p.length ∧ i = .int .i64 j ∧ Is wr w.heap.size 32 (cV x ax cx) ∧ R wr B ax cx x.l ∧ Wf x ∧ T.count x ≤ 1073741824 ∧ Hid (atT t p = atT x (p.drop j)) ∧ Is wr (w.heap.size + 1) 32 zV ∧ Below w.heap.size w wr ∧ w.heap.size + 2 ≤ wr.heap.size) (fun i _ _ _ => p.length - (intOf i).toNat)
  case atStart => exact ⟨0, t, a, cap, Nat.zero_le _, rfl, q1, HR.out.below H0.out hB, HWF.out, HCT.out, rfl, q2, H0.out, by omega⟩
  case round =>
    obtain ⟨j, x, ax, cx, hj, rfl, hbox, hrd, hwx, hcx, HP, hz, hb, hws⟩ := hrel
    have hbs := hb.size
    have hfz := fun i => hz.frozen i
    have hfb := fun i => hbox.frozen i
    obtain ⟨z0, z1, z2, z3, z4⟩ := hz.cells5
    obtain ⟨x0, x1, x2, x3, x4⟩ := hbox.cells5
    have l1 : w.heap.size + 1 < wr.heap.size := by omega
    have l2 : w.heap.size < wr.heap.size := by omega
    by_cases hlt : j < p.length
    · obtain ⟨b, o, ha, hbl, d0, d1, hi⟩ := (HR'.out.below EStep.loc hb hB).step j hlt
      subst ha
      have hlb : b < wr.heap.size := by omega
      have hlx : x.l.length ≤ 1073741824 := by have := T.length_le_countL x.l; cases x; simp only [T.count, T.l] at *; omega
      have HW := Lib.hid hwx; clear hwx
      have HC := Lib.hid hcx; clear hcx
      have HX := Lib.hid hrd; clear hrd
      have H1 := Lib.hid (below1 wr (.cells #[.int .i64 p[j].1, .bool p[j].2] 79))
      go_wp2_with fail
      refine (impl_index x p[j] ax cx _ hi hlx).mono ?_
      rintro e w3 ⟨rfl, hb3⟩
      have HB3 := Lib.hid (H1.out.trans (hb3.mono (by simp))); clear hb3
      have hs3 := HB3.out.size
      have hbox3 := hbox.below HB3.out l2
      have hz3 := hz.below HB3.out l1
      have fz3 := fun i => hz3.frozen i
      have fb3 := fun i => hbox3.frozen i
      obtain ⟨y0, y1, y2, y3, y4⟩ := hz3.cells5
      obtain ⟨t0, t1, t2, t3, t4⟩ := hbox3.cells5
      by_cases hok : okI x p[j]
      · obtain ⟨i, hil, hie, hel⟩ := okI_nat hok
        have HST := Lib.hid (show atT t p = atT x.l[i] (p.drop (j + 1)) from by rw [← hel hil]; exact HP.out.trans (atT_step hlt hok))
        have HWE := Lib.hid (show Wf x.l[i] from by rw [← hel hil]; exact elT_wf HX.out p[j])
        have HCE := Lib.hid (show T.count x.l[i] ≤ 1073741824 from by rw [← hel hil]; exact elT_count p[j] HC.out)
        rw [idxT_ok hok, hie]
        clear hok hie hel
        have hXr := HX.out.below HB3.out (by omega)
        obtain ⟨b2, o2, a3, cap3, ha, hbl2, g0, g1, g2, g3, g4, _, hq⟩ := hXr.get i hil
        subst ha
        have HQ := Lib.hid hq; clear hq hXr
        go_wp2_with fail
        go_roundw
        case rel =>
          obtain ⟨_, _, _, _, _, hbel, hold, hsz⟩ := out5 hbox3.blk (.int .i64 x.l[i].k) (.int .i64 x.l[i].n) (.int .i64 x.l[i].x) (.string x.l[i].s) (.slice a3 x.l[i].l.length cap3) w.heap.size (Nat.le_refl _)
          exact ⟨j + 1, x.l[i], a3, cap3, by omega, by go_num, hbox3.set5 _ _ _ _ _, HQ.out.below hbel hB, HWE.out, HCE.out, HST.out, (hold (w.heap.size + 1) (by omega)).trans hz3, (hb.trans (HB3.out.mono hbs)).trans hbel, by rw [hsz]; omega⟩
        case measure => simp [intOf]; omega
      · have HST := Lib.hid (HP.out.trans (atT_drop_no hlt hok))
        rw [idxT_no hok]
        clear hok
        go_wp2_with fail
        obtain ⟨e0, e1, e2, e3, e4, hbel, hold, hsz⟩ := out5 hz3.blk (.int .i64 0) (.int .i64 0) (.int .i64 0) (.string ⟨#[]⟩) (.slice none 0 0) w.heap.size (by omega)
        refine bodyPost_ret (v := .tuple #[.agg zV, .bool false]) (by simp [results, Try.results69, go_sem, e0, e1, e2, e3, e4]) rfl ⟨zT, none, 0, by rw [HST.out]; rfl, by rw [HST.out]; rfl, zT_own _ _ _, ?_⟩
        exact (hb.trans (HB3.out.mono hbs)).trans hbel
    · have hjj : p.length = j := by omega
      have HJ := Lib.hid (show atT t p = some x from HP.out.trans (by rw [← hjj]; exact atT_end x p)); clear hjj
      have HX := Lib.hid hrd; clear hrd
      go_wp2_with fail
      refine (impl_copyVal x ax cx B wr HX.out hwx (by omega) hcx).mono ?_
      rintro e w3 ⟨a3, cap3, rfl, hown, hb3⟩
      have hz3 := hz.below hb3 l1
      have fz3 := fun i => hz3.frozen i
      obtain ⟨y0, y1, y2, y3, y4⟩ := hz3.cells5
      have H3 := Lib.hid hb3; clear hb3
      have hs3 := H3.out.size
      go_wp2_with fail
      obtain ⟨e0, e1, e2, e3, e4, hbel, hold, hsz⟩ := out5 hz3.blk (.int .i64 x.k) (.int .i64 x.n) (.int .i64 x.x) (.string x.s) (.slice a3 x.l.length cap3) w.heap.size (by omega)
      refine bodyPost_ret (v := .tuple #[.agg (cV x a3 cap3), .bool true]) (by simp [results, Try.results69, go_sem, e0, e1, e2, e3, e4]) rfl ⟨x, a3, cap3, by rw [HJ.out]; rfl, by rw [HJ.out]; rfl, ?_, (hb.trans (H3.out.mono hbs)).trans hbel⟩
      rw [hsz]
      exact (hown.agree (fun f h1 _ => hold f (by omega))).more (by omega) (Nat.le_refl _)
end Go.Proofs.Ytfbgmhjjdgglnaa
