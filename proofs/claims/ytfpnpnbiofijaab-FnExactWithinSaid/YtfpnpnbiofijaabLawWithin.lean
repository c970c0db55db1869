/- Contracts and lemmas for the proofs of this seat: LawWithin. No condition beyond those stated. -/
import Derived.Test.YtfpnpnbiofijaabRows
import Derived.WalkKit
import Derived.ProofKit
import Derived.OpenShut
import Derived.Handy
import Derived.Lib.Hide
import Derived.Lib.SmallJoins
import Derived.Deep.RegionHeld3
import Derived.Test.YtfpnpnbiofijaabBase
import Derived.Test.YtfpnpnbiofijaabTree1
import Derived.Test.YtfpnpnbiofijaabLawVal
namespace Go.Proofs.Ytfpnpnbiofijaab
open Go.ChangeShapes Go.WideShapes Go.ChangeAt Go.RowKit Go.Joins
set_option linter.unusedVariables false
theorem FnExactWithin_walk (t : T) (a : Option Addr) (cap B : Nat) (d b c : Int) (w : World) (hr : R w B a cap t.l) (hwf : Wf t) (hBw : B ≤ w.heap.size) (_ : I64 d) (_ : I64 b) (_ : I64 c) :
    Calls Try.prog 6 #[.agg #[.int .i64 t.k, .int .i64 t.n, .int .i64 t.x, .string t.s, .slice a t.l.length cap], .agg #[.int .i64 d, .int .i64 b, .int .i64 c]] w fun e w' => e = .returned (.bool true) ∧ Below w.heap.size w w' := by
  have H3 := Lib.hid (below2 w (.cells (cV t a cap) 28) (.cells (cI3 d b c) 30))
  have q1 : Is ((w.alloc (.cells (cV t a cap) 28)).alloc (.cells (cI3 d b c) 30)) w.heap.size 28 (cV t a cap) := (Is.new _ _ _).alloc _
  have q2 := Is.new2 w (.cells (cV t a cap) 28) (cI3 d b c) 30
  have hs : w.heap.size + 2 ≤ ((w.alloc (.cells (cV t a cap) 28)).alloc (.cells (cI3 d b c) 30)).heap.size := by simp
  have HR := Lib.hid hr; clear hr
  go_enter Try.func6, Try.ntmps6
  go_wp2_with fail
  generalize hW : (w.alloc (.cells (cV t a cap) 28)).alloc (.cells (cI3 d b c) 30) = W0 at q1 q2 H3 hs ⊢
  clear hW
  refine (szVal_calls t a cap 1048576 B W0 (HR.out.below H3.out hBw) hwf (by omega) (by omega) (by omega)).mono ?_
  rintro e w1 ⟨r, rfl, g1, g2, g3, hb1⟩
  have r1 := q1.below hb1 (by omega)
  have r2 := q2.below hb1 (by omega)
  obtain ⟨c0, c1, c2, c3, c4⟩ := r1.cells5
  obtain ⟨l0, l1, l2⟩ := r2.cells3
  have H1 := Lib.hid hb1; clear hb1
  have hs1 := H1.out.size
  by_cases hneg : r < 0
  · go_wp2_with fail
    go_ret
    exact ⟨rfl, below_step H3.out H1.out (by omega)⟩
  have hz := g3 (by omega)
  have hsz : T.sz t ≤ 1048576 := by omega
  have hct : T.count t ≤ 4611686018427387904 := by have := T.countL_le_szL t; omega
  have G := Lib.hid hsz; clear g3 hz hsz
  have hR1 := Lib.hid ((HR.out.below H3.out hBw).below H1.out (by omega))
  go_wp2_with fail
  go_region_held3 (fun w' => (∀ b o, b < w.heap.size + 2 → w'.cell? ⟨b, o, none⟩ = w1.cell? ⟨b, o, none⟩) ∧ Below (w.heap.size + 2) w1 w') (first | exact ⟨fun _ _ _ => rfl, (Below.refl _ _).drew⟩ | exact keep_step (by assumption) (Below.drew (Below.refl _ _)) (Nat.le_refl _) | exact keep_step (by assumption) (by assumption) (by first | omega | (simp only [World.size_drew]; omega) | (have := (‹(_ ∧ Below (w.heap.size + 2) w1 _)›).2.size; first | omega | (simp only [World.size_drew]; omega) | (simp only [World.size_drew] at this; omega)))) (first
    | (go_at_call 16; refine (toVal_calls t a cap B _ (hR1.out.below (‹_ ∧ Below (w.heap.size + 2) w1 _›).2 (by omega)) hwf (by have := (‹_ ∧ Below (w.heap.size + 2) w1 _›).2.size; omega) G.out).mono ?_; rintro e v2 ⟨a2, rfl, ho2, hb2⟩)
    | (go_at_call 17; refine (toLimits_calls _ _ _ _).mono ?_; rintro e v3 ⟨rfl, hb3⟩)
    | (go_at_call 15; refine (spec_Within t hct a2 _ _ d b c _ (ho2.read.below hb3 (Nat.le_refl _)) hb3.size).mono ?_; rintro e v4 ⟨rfl, hb4⟩))
  have k4 := Lib.hid (‹_ ∧ Below (w.heap.size + 2) w1 _›).2
  clear ho2 hb2 hb3 hb4
  have s4 := k4.out.size
  have m1 := r1.below k4.out (by omega)
  obtain ⟨d0, d1, d2, d3, d4⟩ := m1.cells5
  go_wp2_with fail
  refine (toVal_calls t a cap B _ (hR1.out.below k4.out (by omega)) hwf (by omega) G.out).mono ?_
  rintro e v5 ⟨x5, rfl, ho5, hb5⟩
  have s5 := hb5.size
  have m5 := m1.below hb5 (by omega)
  have n5 := (r2.below k4.out (by omega)).below hb5 (by omega)
  have H5 := Lib.hid hb5; clear hb5
  go_wp2_with fail
  generalize hW : v5.alloc (.cells (cV t x5 t.l.length) 35) = W1
  have y0 : Is W1 v5.heap.size 35 (cV t x5 t.l.length) := by subst hW; exact Is.new _ _ _
  have y1 : Is W1 w.heap.size 28 (cV t a cap) := by subst hW; exact m5.alloc _
  have y2 : Is W1 (w.heap.size + 1) 30 (cI3 d b c) := by subst hW; exact n5.alloc _
  have sW : W1.heap.size = v5.heap.size + 1 := by subst hW; simp
  have hW1 := Lib.hid (below1 v5 (.cells (cV t x5 t.l.length) 35)); rw [hW] at hW1
  clear hW
  obtain ⟨e0, e1, e2, e3, e4⟩ := y0.cells5
  obtain ⟨f0, f1, f2, f3, f4⟩ := y1.cells5
  obtain ⟨h0, h1, h2⟩ := y2.cells3
  clear r1 r2 m1 m5 n5 c0 c1 c2 c3 c4 l0 l1 l2 d0 d1 d2 d3 d4 q1 q2
  have HO := Lib.hid ((ho5.below hW1.out (Nat.le_refl _)).read); clear ho5
  have HB := Lib.hid (((hR1.out.below k4.out (by omega)).below H5.out (by omega)).below hW1.out (by omega))
  have SW := Lib.hid sW
  have lt1 : w.heap.size < v5.heap.size := by omega
  have lt2 : w.heap.size < v5.heap.size + 1 := by omega
  go_region_held3 (fun w' => (∀ b o, b < v5.heap.size + 1 → w'.cell? ⟨b, o, none⟩ = W1.cell? ⟨b, o, none⟩) ∧ Below (v5.heap.size + 1) W1 w') (first | exact ⟨fun _ _ _ => rfl, (Below.refl _ _).drew⟩ | exact keep_step (by assumption) (Below.drew (Below.refl _ _)) (Nat.le_refl _) | exact keep_step (by assumption) (by assumption) (by first | omega | (simp only [World.size_drew]; omega) | (have := (‹(_ ∧ Below (v5.heap.size + 1) W1 _)›).2.size; first | omega | (simp only [World.size_drew]; omega) | (simp only [World.size_drew] at this; omega)))) (first
    | (go_at_call 17; refine (toLimits_calls _ _ _ _).mono ?_; rintro e v6 ⟨rfl, hb6⟩)
    | (go_at_call 18; refine (impl_Within t hct x5 _ _ d b c _ ((HO.out.below (‹_ ∧ Below (v5.heap.size + 1) W1 _›).2 (by omega))) (by have := (‹_ ∧ Below (v5.heap.size + 1) W1 _›).2.size; have := SW.out; omega)).mono ?_; rintro e v7 ⟨rfl, hb7⟩))
  have k7 := Lib.hid (‹_ ∧ Below (v5.heap.size + 1) W1 _›).2
  clear hb6 hb7
  go_wp2_with fail
  go_region_held3 (fun w' => (∀ b o, b < v5.heap.size + 1 → w'.cell? ⟨b, o, none⟩ = W1.cell? ⟨b, o, none⟩) ∧ Below (v5.heap.size + 1) W1 w') (first | exact ⟨fun _ _ _ => rfl, (Below.refl _ _).drew⟩ | exact keep_step (by assumption) (Below.drew (Below.refl _ _)) (Nat.le_refl _) | exact keep_step (by assumption) (by assumption) (by first | omega | (simp only [World.size_drew]; omega) | (have := (‹(_ ∧ Below (v5.heap.size + 1) W1 _)›).2.size; first | omega | (simp only [World.size_drew]; omega) | (simp only [World.size_drew] at this; omega)))) (first
    | (go_at_call 16; refine (toVal_calls t a cap B _ (HB.out.below (‹_ ∧ Below (v5.heap.size + 1) W1 _›).2 (by omega)) hwf (by have := (‹_ ∧ Below (v5.heap.size + 1) W1 _›).2.size; omega) G.out).mono ?_; rintro e v8 ⟨a8, rfl, ho8, hb8⟩)
    | (go_at_call 19; refine (eqVal_calls t x5 a8 _ _ _ _ ((HO.out.below (‹_ ∧ Below (v5.heap.size + 1) W1 _›).2 (by omega)).more (by have := (‹_ ∧ Below (v5.heap.size + 1) W1 _›).2.size; have := SW.out; omega)) ho8.read hwf (Nat.le_refl _)).mono ?_; rintro e v9 ⟨rfl, hb9⟩))
  have k9 := Lib.hid (‹_ ∧ Below (v5.heap.size + 1) W1 _›).2
  go_wp2_with fail
  go_ret
  exact ⟨rfl, ((((H3.out.trans (H1.out.mono (by omega))).trans (k4.out.mono (by omega))).trans (H5.out.mono (by omega))).trans (hW1.out.mono (by omega))).trans (k9.out.mono (by omega))⟩
end Go.Proofs.Ytfpnpnbiofijaab
