/- Texts of this proof, merged: LssD. No condition beyond what each theorem states. -/
import Derived.Test.YtfbodhfdomdkpaaGreatDoorRows
import Derived.WalkKit
import Derived.ProofKit
import Derived.OpenShut
import Derived.Handy
import Derived.Lib.Hide
import Derived.Lib.SmallJoins
import Derived.Deep.AppendLies
import Derived.Deep.AppendSrc
import Derived.Deep.Upon
import Derived.Lib.AppendZeros
import Derived.Deep.RegionHeld3
import Derived.Deep.QuietTactic
import Derived.BigQuiet
import Derived.Deep.DeepCutAuto
import Derived.Test.YtfbodhfdomdkpaaGreatDoorZG1
import Derived.Test.YtfbodhfdomdkpaaGreatDoorZG2
import Derived.Test.YtfbodhfdomdkpaaGreatDoorZG8
import Derived.Test.YtfbodhfdomdkpaaGreatDoorZG3
import Derived.Test.YtfbodhfdomdkpaaGreatDoorZG4
import Derived.Test.YtfbodhfdomdkpaaGreatDoorZG7
import Derived.Test.YtfbodhfdomdkpaaGreatDoorZG15
import Derived.Test.YtfbodhfdomdkpaaGreatDoorZG17
import Derived.Test.YtfbodhfdomdkpaaGreatDoorZG18
import Derived.Test.YtfbodhfdomdkpaaGreatDoorZG22
import Derived.Test.YtfbodhfdomdkpaaGreatDoorZG23
import Derived.Test.YtfbodhfdomdkpaaGreatDoorZG24
import Derived.Test.YtfbodhfdomdkpaaGreatDoorZG25
set_option linter.unusedSimpArgs false
set_option linter.unnecessarySimpa false
namespace Go.Proofs.YtfbodhfdomdkpaaGreatDoor
open Go.ChangeShapes Go.WideShapes Go.ChangeAt Go.RowKit Go.Joins
set_option linter.unusedVariables false
set_option maxRecDepth 100000
/-! ### The draws of losses -/
theorem szLo_le (m : Nat) : ∀ L : List Lo, (∀ x ∈ L, x.2.length ≤ m) → szLo L ≤ L.length * (m + 1) := by
  intro L
  induction L with
  | nil => intro _; simp [szLo]
  | cons x r ih =>
    intro h
    have h1 := ih (fun y hy => h y (by simp [hy]))
    have h2 := h x (by simp)
    have h3 : szLo (x :: r) = (1 + x.2.length) + szLo r := by unfold szLo; simp; omega
    rw [h3, List.length_cons, Nat.succ_mul]; omega
/-- A list of losses, drawn: small, in blocks that stand. -/
def SmL (w : World) (a : Option Addr) (c : Nat) (L : List Lo) : Prop := L.length ≤ 4 ∧ szLo L ≤ 100000 ∧ (∀ x ∈ L, x.2.length ≤ 5000) ∧ Rd ELoss 2 w w.heap.size a c L
theorem SmL.fwd {w w' : World} {a : Option Addr} {c : Nat} {L : List Lo} (h : SmL w a c L) (hb : Below w.heap.size w w') : SmL w' a c L := ⟨h.1, h.2.1, h.2.2.1, h.2.2.2.fwd ELoss.loc hb⟩
theorem SmL.of {w : World} {lo : Nat} {a : Option Addr} {c m : Nat} {L : List Lo} (h1 : L.length ≤ 4) (h2 : ∀ x ∈ L, x.2.length ≤ m) (hm : m ≤ 4999) (h3 : Rn ELoss 2 w lo a c L) : SmL w a c L := by
  have := szLo_le m L h2
  have h5 : L.length * (m + 1) ≤ 4 * (m + 1) := Nat.mul_le_mul_right _ h1
  exact ⟨h1, by omega, fun x hx => by have := h2 x hx; omega, h3.rd⟩
/-- A drawn tree, in blocks that stand. -/
def SmT (w : World) (a : Option Addr) (c : Nat) (t : T) : Prop := Wf t ∧ T.sz t ≤ 2000 ∧ R w w.heap.size a c t.l
theorem SmT.fwd {w w' : World} {a : Option Addr} {c : Nat} {t : T} (h : SmT w a c t) (hb : Below w.heap.size w w') : SmT w' a c t := ⟨h.1, h.2.1, R.fwd h.2.2 hb⟩
section
variable {α : Type} {E : World → Nat → Nat → α → List Nat → Prop} {n : Nat} {e : TypeId}
theorem Rd.srcs' {w : World} {B cap : Nat} {a : Option Addr} {l : List α} (h : Rd E n w B a cap l) : ∃ G, Srcs E n w a l G ∧ ∀ f ∈ G, f < B := by
  obtain ⟨F, ⟨h1, h2, h3, h4⟩, h6⟩ := h
  by_cases hl : l = []
  · exact ⟨[], ⟨fun _ => rfl, fun h => absurd hl h⟩, by simp⟩
  · obtain ⟨b, o, F', rfl, rfl, hr⟩ := h4 hl
    exact ⟨F', ⟨fun h => absurd h hl, fun _ => ⟨b, o, rfl, hr⟩⟩, fun f hf => h6 f (by simp [hf])⟩
end
theorem copyLo (w : World) (L : List Lo) (a : Option Addr) (cap B : Nat) (hr : Rd ELoss 2 w B a cap L) (hB : B ≤ w.heap.size) (hz : L.length ≤ 1000) :
    ∃ a' cap' w', (Builtin.append_ #[24, 24] 24 #[.slice (some ⟨w.heap.size, 0, none⟩) 0 0, .slice a L.length cap]).run Tryz.prog (w.alloc (.cells #[] 29)) = .ok (.slice a' L.length cap') w' ∧
      Rd ELoss 2 w' w'.heap.size a' cap' L ∧ Below w.heap.size w w' := by
  obtain ⟨G, hs, hG⟩ := (hr.below ELoss.loc (below1 w (.cells #[] 29)) hB).srcs'
  obtain ⟨a', cap', w', hrun, happ, hbel, _, _, hsz⟩ := run_appL (P := Tryz.prog) (w.alloc (.cells #[] 29)) ELoss.elem 24 24 (.agg #[.int .i64 0, .slice none 0 0]) 32 Tryz.underlying24 info_Loss rfl w.heap.size (some ⟨w.heap.size, 0, none⟩) 0 [] [] (AppL.empty w w.heap.size (Nat.le_refl _)) (by simp) (by simp) a cap L G hs (fun f hf => by have := hG f hf; omega) (by simp [maxLen]; omega) (by simp; omega)
  exact ⟨a', cap', w', hrun, happ.rd (by rw [size_alloc] at hsz; omega), (below1 w _).trans hbel⟩
set_option maxHeartbeats 8000000 in
theorem spec_DrawSortLosses (a : Option Addr) (cap B : Nat) (l : List Int) (w : World) (hr : Rd EByte 1 w B a cap l) (hB : B ≤ w.heap.size) (hl : l.length ≤ 1048576) :
    Calls Tryz.prog 9 #[.slice a l.length cap] w fun e w' => ∃ (L : List Lo) (aL : Option Addr) (cL : Nat), e = .returned (.slice aL L.length cL) ∧ SmL w' aL cL L ∧ Below w.heap.size w w' := by
  have HR0 := Lib.hid hr; clear hr
  have hb0 := Below.refl w.heap.size w
  have hs0 : w.heap.size ≤ w.heap.size := Nat.le_refl _
  go_enter Tryz.func9, Tryz.ntmps9
  go_wp2_with fail
  refine (spec_l1New a cap B l w HR0.out (by omega) hl).mono ?_
  rintro e w1 ⟨A, rfl, hA, hc1, hb1⟩
  have HC1 := Lib.hid hc1; have HB1 := Lib.hid (show Below w.heap.size w w1 from hb0.trans (hb1.mono (by omega)))
  clear hc1 hb1 hb0 HR0
  have hA1 := HC1.out.lt
  go_wp2_with fail
  refine (spec_l6Val A w1 HC1.out).mono ?_
  rintro e w2 ⟨t, aT, cT, rfl, htw, hts, htz, happ, hc2, hk2⟩
  have HC2 := Lib.hid hc2; have HB2 := Lib.hid (show Below w.heap.size w w2 from HB1.out.trans (hk2.1.mono (by omega)))
  have HRN2 := Lib.hid ((happ.rn (Nat.le_refl _)).less (lo' := A + 1) (by omega))
  have HTW := Lib.hid htw
  have hct : T.count t ≤ 1921 := by have := T.countL_le_szL t; omega
  have hdp : T.depth t ≤ 1921 := by have := T.depth_le_count t; omega
  clear hc2 hk2 happ htw HC1 HB1
  have hA2 := HC2.out.lt
  go_wp2_with fail
  refine (spec_l18List A t aT cT w2 HC2.out HRN2.out HTW.out (by omega)).mono ?_
  rintro e w3 ⟨L, a3, c3, rfl, h1, h2, h3, hc3, hk3⟩
  have HS := Lib.hid (SmL.of h1 h2 (by omega) h3)
  go_wp2_with fail
  go_ret
  exact ⟨L, a3, c3, rfl, HS.out, HB2.out.trans (hk3.1.mono (by omega))⟩
set_option maxHeartbeats 8000000 in
theorem spec_DrawCountLoss (a : Option Addr) (cap B : Nat) (l : List Int) (w : World) (hr : Rd EByte 1 w B a cap l) (hB : B ≤ w.heap.size) (hl : l.length ≤ 1048576) :
    Calls Tryz.prog 17 #[.slice a l.length cap] w fun e w' => ∃ (L : List Lo) (aL : Option Addr) (cL : Nat) (n : Nat), n ≤ 10 ∧ e = .returned (.tuple #[.slice aL L.length cL, .int .i64 (n : Int)]) ∧ SmL w' aL cL L ∧ Below w.heap.size w w' := by
  have HR0 := Lib.hid hr; clear hr
  have hb0 := Below.refl w.heap.size w
  have hs0 : w.heap.size ≤ w.heap.size := Nat.le_refl _
  go_enter Tryz.func17, Tryz.ntmps17
  go_wp2_with fail
  refine (spec_l1New a cap B l w HR0.out (by omega) hl).mono ?_
  rintro e w1 ⟨A, rfl, hA, hc1, hb1⟩
  have HC1 := Lib.hid hc1; have HB1 := Lib.hid (show Below w.heap.size w w1 from hb0.trans (hb1.mono (by omega)))
  clear hc1 hb1 hb0 HR0
  have hA1 := HC1.out.lt
  go_wp2_with fail
  refine (spec_l6Val A w1 HC1.out).mono ?_
  rintro e w2 ⟨t, aT, cT, rfl, htw, hts, htz, happ, hc2, hk2⟩
  have HC2 := Lib.hid hc2; have HB2 := Lib.hid (show Below w.heap.size w w2 from HB1.out.trans (hk2.1.mono (by omega)))
  have HRN2 := Lib.hid ((happ.rn (Nat.le_refl _)).less (lo' := A + 1) (by omega))
  have HTW := Lib.hid htw
  have hct : T.count t ≤ 1921 := by have := T.countL_le_szL t; omega
  have hdp : T.depth t ≤ 1921 := by have := T.depth_le_count t; omega
  clear hc2 hk2 happ htw HC1 HB1
  have hA2 := HC2.out.lt
  go_wp2_with fail
  refine (spec_l18List A t aT cT w2 HC2.out HRN2.out HTW.out (by omega)).mono ?_
  rintro e w3 ⟨L, a3, c3, rfl, h1, h2, h3, hc3, hk3⟩
  have HC3 := Lib.hid hc3; have HK3 := Lib.hid hk3
  have H2 := Lib.hid h2; clear h2 hc3 hk3
  go_wp2_with fail
  refine (spec_l1Below A 11 w3 HC3.out ⟨by decide, by decide⟩).mono ?_
  rintro e w4 ⟨n, rfl, hn, _, hc4, hk4⟩
  have HS := Lib.hid (SmL.of h1 H2.out (by omega) (h3.kp ELoss.elem.loc hk4 (by omega)))
  have hn10 : n ≤ 10 := by omega
  go_wp2_with fail
  go_ret2
  exact ⟨L, a3, c3, n, hn10, rfl, HS.out, (HB2.out.trans (HK3.out.1.mono (by omega))).trans (hk4.1.mono (by omega))⟩
set_option maxHeartbeats 8000000 in
theorem spec_DrawLossName (a : Option Addr) (cap B : Nat) (l : List Int) (w : World) (hr : Rd EByte 1 w B a cap l) (hB : B ≤ w.heap.size) (hl : l.length ≤ 1048576) :
    Calls Tryz.prog 15 #[.slice a l.length cap] w fun e w' => ∃ n : Int, -1 ≤ n ∧ n ≤ 10 ∧ e = .returned (.int .i64 n) ∧ Below w.heap.size w w' := by
  have HR0 := Lib.hid hr; clear hr
  go_enter Tryz.func15, Tryz.ntmps15
  go_wp2_with fail
  refine (spec_l1New a cap B l _ HR0.out hB hl).mono ?_
  rintro e w1 ⟨A, rfl, hA, hc1, hb1⟩
  have HC1 := Lib.hid hc1; have HB1 := Lib.hid hb1; clear hc1 hb1
  go_wp2_with fail
  refine (spec_l1Below A 12 w1 HC1.out ⟨by decide, by decide⟩).mono ?_
  rintro e w2 ⟨n, rfl, hn, _, hc2, hk2⟩
  go_wp2_with fail
  go_ret
  exact ⟨(n : Int) - 1, by omega, by omega, rfl, HB1.out.trans (hk2.1.mono hA)⟩
set_option maxHeartbeats 8000000 in
theorem spec_DrawLossText (a : Option Addr) (cap B : Nat) (l : List Int) (w : World) (hr : Rd EByte 1 w B a cap l) (hB : B ≤ w.heap.size) (hl : l.length ≤ 1048576) :
    Calls Tryz.prog 14 #[.slice a l.length cap] w fun e w' => ∃ (t : T) (aT : Option Addr) (cT : Nat) (L : List Lo) (aL : Option Addr) (cL : Nat), e = .returned (.tuple #[.agg (cV t aT cT), .slice aL L.length cL]) ∧ SmT w' aT cT t ∧ SmL w' aL cL L ∧ Below w.heap.size w w' := by
  have hb0 : Below w.heap.size w (w.alloc (.cells zV 36)) := below1 _ _
  have hI0 : Is (w.alloc (.cells zV 36)) w.heap.size 36 zV := Is.new _ _ _
  have HR0 := Lib.hid (hr.below EByte.loc hb0 hB)
  clear hr
  go_enter Tryz.func14, Tryz.ntmps14
  go_wp2_with fail
  generalize hW : (w.alloc (.cells zV 36)) = w0 at *
  have hs0 : w.heap.size + 1 ≤ w0.heap.size := by rw [← hW]; simp
  clear hW
  refine (spec_l1New a cap B l w0 HR0.out (by omega) hl).mono ?_
  rintro e w1 ⟨A, rfl, hA, hc1, hb1⟩
  have HC1 := Lib.hid hc1; have HB1 := Lib.hid (show Below w.heap.size w w1 from hb0.trans (hb1.mono (by omega)))
  have HI01 := Lib.hid (hI0.below hb1 (by omega))
  clear hc1 hb1 hb0 HR0 hI0
  have hA1 := HC1.out.lt
  go_wp2_with fail
  refine (spec_l6Val A w1 HC1.out).mono ?_
  rintro e w2 ⟨t, aT, cT, rfl, htw, hts, htz, happ, hc2, hk2⟩
  have HC2 := Lib.hid hc2; have HB2 := Lib.hid (show Below w.heap.size w w2 from HB1.out.trans (hk2.1.mono (by omega)))
  have HI02 := Lib.hid (hk2.is HI01.out (by omega))
  have HRN2 := Lib.hid ((happ.rn (Nat.le_refl _)).less (lo' := A + 1) (by omega))
  have HTW := Lib.hid htw
  have hct : T.count t ≤ 1921 := by have := T.countL_le_szL t; omega
  have hdp : T.depth t ≤ 1921 := by have := T.depth_le_count t; omega
  clear hc2 hk2 happ htw HC1 HB1 HI01
  have hA2 := HC2.out.lt
  have HC3 := Lib.hid (HC2.out.below (below1 w2 (.cells (cV t aT cT) 36)) hA2)
  have HB3 := Lib.hid (HB2.out.trans ((below1 w2 (.cells (cV t aT cT) 36)).mono (HB2.out.size)))
  have HRN3 := Lib.hid (HRN2.out.below TV.elem.loc (below1 w2 (.cells (cV t aT cT) 36)) (Nat.le_refl _))
  have HX3 := Lib.hid (Is.new w2 (cV t aT cT) 36)
  have HI03 := Lib.hid (HI02.out.alloc (.cells (cV t aT cT) 36))
  obtain ⟨X, hXe⟩ : ∃ X, w2.heap.size = X := ⟨_, rfl⟩
  rw [hXe] at HX3
  have hXA : A < X := by omega
  have hXw : w.heap.size + 1 ≤ X := by have := HB2.out.size; omega
  have HXE := Lib.hid hXe; clear hXe
  go_upto_region 3 with (fail)
  try rw [HXE.out]
  have hs3 : X + 1 ≤ (w2.alloc (.cells (cV t aT cT) 36)).heap.size := by rw [size_alloc, HXE.out]; exact Nat.le_refl _
  generalize w2.alloc (.cells (cV t aT cT) 36) = W3 at *
  obtain ⟨z0, z1, z2, z3, z4⟩ := HX3.out.cells5
  have ff := fun i => HX3.out.frozen i; have lg := HX3.out.lt
  have HCD := Lib.hid (HC3.out.below (Below.refl (A + 1) W3).drew (by omega))
  have HKD := Lib.hid (show Kp A W3 W3.drew from ⟨(Below.refl _ _).drew, fun _ _ _ => rfl⟩)
  have HRND := Lib.hid (HRN3.out.kp TV.elem.loc HKD.out (by omega))
  refine wp_region_held_drew (S := fun _ => True) (by kernel_rfl) trivial (fun hHeld => ?_)
  refine wpAnyH_take (i := 1) (oi := ⟨some 11, _, _, _, _, _⟩) (v := ?_) rfl (by kernel_rfl) (by kernel_rfl) (by kernel_rfl) (fun _ _ _ h => h) (Or.inl ⟨by rfl, ?_⟩) (by assumption) ?_
  rotate_left 1
  · (intro w hSw; (try dsimp only at hSw); go_simp; try (with_reducible rfl))
  try simp only [Act.put, List.setIfInBounds_toArray, List.set_cons_zero, List.set_cons_succ]
  refine wpAnyH_ready (rs := [0, 2]) (by kernel_rfl) (by simp) ?_
  refine AllReadyH.cons (o := ⟨some 10, _, _, _, _, _⟩) rfl (fun K hK => ?_) ?_
  focus (go_simp; go_wp2_with fail; refine hK.out _ _ trivial (fun hHeld => ?_); clear hK K; try simp only [Act.put, List.setIfInBounds_toArray, List.set_cons_zero, List.set_cons_succ])
  refine wpAnyH_ready (rs := [2]) (by kernel_rfl) (by simp) ?_
  refine AllReadyH.cons (o := ⟨some 12, _, _, _, _, _⟩) rfl (fun K hK => ?_) AllReadyH.nil
  focus (go_simp; go_wp2_with fail; refine hK.out _ _ trivial (fun hHeld => ?_); clear hK K; try simp only [Act.put, List.setIfInBounds_toArray, List.set_cons_zero, List.set_cons_succ])
  refine wpAnyH_ready (rs := [3]) (by kernel_rfl) (by simp) ?_
  refine AllReadyH.cons (o := ⟨some 13, _, _, _, _, _⟩) rfl (fun K hK => ?_) AllReadyH.nil
  focus (go_simp; (first | (go_at_call 70; refine (spec_l18List A t aT cT _ HCD.out HRND.out HTW.out (by omega)).mono ?_; rintro e w4 ⟨L, a4, c4, rfl, h1, h2, h3, hc4, hk4⟩; have HK4 := Lib.hid (show Kp A W3 w4 from HKD.out.trans hk4); have hx4 := Kp.is HK4.out HX3.out (by omega); have HI4 := Lib.hid (Kp.is HK4.out HI03.out (by omega)); have HRN4 := Lib.hid (HRN3.out.kp TV.elem.loc HK4.out (by omega)); have H2 := Lib.hid h2; have H3 := Lib.hid h3; obtain ⟨v0, v1, v2, v3, v4⟩ := hx4.cells5; have fv := (fun i => hx4.frozen i); have lv := hx4.lt; obtain ⟨u0, u1, u2, u3, u4⟩ := HI4.out.cells5; have fu := (fun i => HI4.out.frozen i); have lu := HI4.out.lt; clear h2 h3 hc4 hk4)); go_wp2_with fail; refine hK.out _ _ trivial (fun hHeld => ?_); clear hK K; try simp only [Act.put, List.setIfInBounds_toArray, List.set_cons_zero, List.set_cons_succ])
  refine wpAnyH_ready (rs := [4]) (by kernel_rfl) (by simp) ?_
  refine AllReadyH.cons (o := ⟨none, _, _, _, _, _⟩) rfl (fun K hK => ?_) AllReadyH.nil
  focus (go_simp; go_wp2_with fail; refine hK.out _ _ trivial (fun hHeld => ?_); clear hK K; try simp only [Act.put])
  refine wpAnyH_take (i := 5) (oi := ⟨some 3, _, _, _, _, _⟩) (v := ?_) rfl (by kernel_rfl) (by kernel_rfl) (by kernel_rfl) (fun _ _ _ h => h) (Or.inl ⟨by rfl, ?_⟩) (by assumption) ?_
  rotate_left 1
  · (intro w hSw; (try dsimp only at hSw); go_simp; try (with_reducible rfl))
  try simp only [Act.put, List.setIfInBounds_toArray, List.set_cons_zero, List.set_cons_succ]
  refine wpAnyH_done (by kernel_rfl) ?_ _
  rotate_left 1
  refine AllReadyH.cons (o := ⟨some 12, _, _, _, _, _⟩) rfl (fun K hK => ?_) AllReadyH.nil
  focus (go_simp; go_wp2_with fail; refine hK.out _ _ trivial (fun hHeld => ?_); clear hK K; try simp only [Act.put, List.setIfInBounds_toArray, List.set_cons_zero, List.set_cons_succ])
  refine wpAnyH_ready (rs := [0, 3]) (by kernel_rfl) (by simp) ?_
  refine AllReadyH.cons (o := ⟨some 10, _, _, _, _, _⟩) rfl (fun K hK => ?_) ?_
  focus (go_simp; go_wp2_with fail; refine hK.out _ _ trivial (fun hHeld => ?_); clear hK K; try simp only [Act.put, List.setIfInBounds_toArray, List.set_cons_zero, List.set_cons_succ])
  refine wpAnyH_ready (rs := [3]) (by kernel_rfl) (by simp) ?_
  refine AllReadyH.cons (o := ⟨some 13, _, _, _, _, _⟩) rfl (fun K hK => ?_) AllReadyH.nil
  focus (go_simp; (first | (go_at_call 70; refine (spec_l18List A t aT cT _ HCD.out HRND.out HTW.out (by omega)).mono ?_; rintro e w4 ⟨L, a4, c4, rfl, h1, h2, h3, hc4, hk4⟩; have HK4 := Lib.hid (show Kp A W3 w4 from HKD.out.trans hk4); have hx4 := Kp.is HK4.out HX3.out (by omega); have HI4 := Lib.hid (Kp.is HK4.out HI03.out (by omega)); have HRN4 := Lib.hid (HRN3.out.kp TV.elem.loc HK4.out (by omega)); have H2 := Lib.hid h2; have H3 := Lib.hid h3; obtain ⟨v0, v1, v2, v3, v4⟩ := hx4.cells5; have fv := (fun i => hx4.frozen i); have lv := hx4.lt; obtain ⟨u0, u1, u2, u3, u4⟩ := HI4.out.cells5; have fu := (fun i => HI4.out.frozen i); have lu := HI4.out.lt; clear h2 h3 hc4 hk4)); go_wp2_with fail; refine hK.out _ _ trivial (fun hHeld => ?_); clear hK K; try simp only [Act.put, List.setIfInBounds_toArray, List.set_cons_zero, List.set_cons_succ])
  refine wpAnyH_ready (rs := [4]) (by kernel_rfl) (by simp) ?_
  refine AllReadyH.cons (o := ⟨none, _, _, _, _, _⟩) rfl (fun K hK => ?_) AllReadyH.nil
  focus (go_simp; go_wp2_with fail; refine hK.out _ _ trivial (fun hHeld => ?_); clear hK K; try simp only [Act.put])
  refine wpAnyH_take (i := 5) (oi := ⟨some 3, _, _, _, _, _⟩) (v := ?_) rfl (by kernel_rfl) (by kernel_rfl) (by kernel_rfl) (fun _ _ _ h => h) (Or.inl ⟨by rfl, ?_⟩) (by assumption) ?_
  rotate_left 1
  · (intro w hSw; (try dsimp only at hSw); go_simp; try (with_reducible rfl))
  try simp only [Act.put, List.setIfInBounds_toArray, List.set_cons_zero, List.set_cons_succ]
  refine wpAnyH_done (by kernel_rfl) ?_ _
  rotate_left 1
  refine AllReadyH.cons (o := ⟨some 13, _, _, _, _, _⟩) rfl (fun K hK => ?_) AllReadyH.nil
  focus (go_simp; (first | (go_at_call 70; refine (spec_l18List A t aT cT _ HCD.out HRND.out HTW.out (by omega)).mono ?_; rintro e w4 ⟨L, a4, c4, rfl, h1, h2, h3, hc4, hk4⟩; have HK4 := Lib.hid (show Kp A W3 w4 from HKD.out.trans hk4); have hx4 := Kp.is HK4.out HX3.out (by omega); have HI4 := Lib.hid (Kp.is HK4.out HI03.out (by omega)); have HRN4 := Lib.hid (HRN3.out.kp TV.elem.loc HK4.out (by omega)); have H2 := Lib.hid h2; have H3 := Lib.hid h3; obtain ⟨v0, v1, v2, v3, v4⟩ := hx4.cells5; have fv := (fun i => hx4.frozen i); have lv := hx4.lt; obtain ⟨u0, u1, u2, u3, u4⟩ := HI4.out.cells5; have fu := (fun i => HI4.out.frozen i); have lu := HI4.out.lt; clear h2 h3 hc4 hk4)); go_wp2_with fail; refine hK.out _ _ trivial (fun hHeld => ?_); clear hK K; try simp only [Act.put, List.setIfInBounds_toArray, List.set_cons_zero, List.set_cons_succ])
  refine wpAnyH_ready (rs := [0]) (by kernel_rfl) (by simp) ?_
  refine AllReadyH.cons (o := ⟨some 10, _, _, _, _, _⟩) rfl (fun K hK => ?_) AllReadyH.nil
  focus (go_simp; go_wp2_with fail; refine hK.out _ _ trivial (fun hHeld => ?_); clear hK K; try simp only [Act.put, List.setIfInBounds_toArray, List.set_cons_zero, List.set_cons_succ])
  refine wpAnyH_ready (rs := [4]) (by kernel_rfl) (by simp) ?_
  refine AllReadyH.cons (o := ⟨none, _, _, _, _, _⟩) rfl (fun K hK => ?_) AllReadyH.nil
  focus (go_simp; go_wp2_with fail; refine hK.out _ _ trivial (fun hHeld => ?_); clear hK K; try simp only [Act.put])
  refine wpAnyH_take (i := 5) (oi := ⟨some 3, _, _, _, _, _⟩) (v := ?_) rfl (by kernel_rfl) (by kernel_rfl) (by kernel_rfl) (fun _ _ _ h => h) (Or.inl ⟨by rfl, ?_⟩) (by assumption) ?_
  rotate_left 1
  · (intro w hSw; (try dsimp only at hSw); go_simp; try (with_reducible rfl))
  try simp only [Act.put, List.setIfInBounds_toArray, List.set_cons_zero, List.set_cons_succ]
  refine wpAnyH_done (by kernel_rfl) ?_ _
  all_goals
    go_wp2_with fail
    obtain ⟨e0, e1, e2, e3, e4, hb, hof, hsf⟩ := out5 HI4.out.blk (.int .i64 t.k) (.int .i64 t.n) (.int .i64 t.x) (.string t.s) (.slice aT t.l.length cT) w.heap.size (by omega)
    refine bodyPost_ret (v := .tuple #[.agg (cV t aT cT), .slice a4 L.length c4]) (by simp [results, Tryz.results14, go_sem, e0, e1, e2, e3, e4]) rfl ⟨t, aT, cT, L, a4, c4, rfl, ⟨HTW.out, by omega, R.rd.2 (HRN4.out.agree TV.elem.loc (fun f h1 _ => hof f (by omega)) (by rw [hsf]; exact Nat.le_refl _)).rd⟩, SmL.of h1 H2.out (by omega) (H3.out.agree ELoss.elem.loc (fun f h1 _ => hof f (by (try simp only [World.size_drew] at h1); omega)) (by rw [hsf]; exact Nat.le_refl _)), ((HB3.out.trans (HK4.out.1.mono (by omega)))).trans hb⟩
set_option maxHeartbeats 8000000 in
theorem spec_DrawLossOk (a : Option Addr) (cap B : Nat) (l : List Int) (w : World) (hr : Rd EByte 1 w B a cap l) (hB : B ≤ w.heap.size) (hl : l.length ≤ 1048576) :
    Calls Tryz.prog 13 #[.slice a l.length cap] w fun e w' => ∃ (t : T) (aT : Option Addr) (cT : Nat) (x : Lo) (aL : Option Addr) (cL' : Nat), e = .returned (.tuple #[.agg (cV t aT cT), .agg (cL x aL cL')]) ∧ SmT w' aT cT t ∧ I64 x.1 ∧ x.2.length ≤ 5000 ∧ Rd EStep 2 w' w'.heap.size aL cL' x.2 ∧ Below w.heap.size w w' := by
  have hb0 : Below w.heap.size w ((w.alloc (.cells zV 36)).alloc (.cells #[.int .i64 0, .slice none 0 0] 29)) := below2 _ _ _
  have hI0 : Is ((w.alloc (.cells zV 36)).alloc (.cells #[.int .i64 0, .slice none 0 0] 29)) w.heap.size 36 zV := (Is.new _ _ _).alloc _
  have hI1 : Is ((w.alloc (.cells zV 36)).alloc (.cells #[.int .i64 0, .slice none 0 0] 29)) (w.heap.size + 1) 29 #[.int .i64 0, .slice none 0 0] := Is.new2 _ _ _ _
  have HR0 := Lib.hid (hr.below EByte.loc hb0 hB)
  clear hr
  go_enter Tryz.func13, Tryz.ntmps13
  go_wp2_with fail
  generalize hW : ((w.alloc (.cells zV 36)).alloc (.cells #[.int .i64 0, .slice none 0 0] 29)) = w0 at *
  have hs0 : w.heap.size + 2 ≤ w0.heap.size := by rw [← hW]; simp
  clear hW
  refine (spec_l1New a cap B l w0 HR0.out (by omega) hl).mono ?_
  rintro e w1 ⟨A, rfl, hA, hc1, hb1⟩
  have HC1 := Lib.hid hc1; have HB1 := Lib.hid (show Below w.heap.size w w1 from hb0.trans (hb1.mono (by omega)))
  have HI01 := Lib.hid (hI0.below hb1 (by omega))
  have HI11 := Lib.hid (hI1.below hb1 (by omega))
  clear hc1 hb1 hb0 HR0 hI0 hI1
  have hA1 := HC1.out.lt
  go_wp2_with fail
  refine (spec_l6Val A w1 HC1.out).mono ?_
  rintro e w2 ⟨t, aT, cT, rfl, htw, hts, htz, happ, hc2, hk2⟩
  have HC2 := Lib.hid hc2; have HB2 := Lib.hid (show Below w.heap.size w w2 from HB1.out.trans (hk2.1.mono (by omega)))
  have HI02 := Lib.hid (hk2.is HI01.out (by omega))
  have HI12 := Lib.hid (hk2.is HI11.out (by omega))
  have HRN2 := Lib.hid ((happ.rn (Nat.le_refl _)).less (lo' := A + 1) (by omega))
  have HTW := Lib.hid htw
  have hct : T.count t ≤ 1921 := by have := T.countL_le_szL t; omega
  have hdp : T.depth t ≤ 1921 := by have := T.depth_le_count t; omega
  clear hc2 hk2 happ htw HC1 HB1 HI01 HI11
  have hA2 := HC2.out.lt
  have HC3 := Lib.hid (HC2.out.below (below1 w2 (.cells (cV t aT cT) 36)) hA2)
  have HB3 := Lib.hid (HB2.out.trans ((below1 w2 (.cells (cV t aT cT) 36)).mono (HB2.out.size)))
  have HRN3 := Lib.hid (HRN2.out.below TV.elem.loc (below1 w2 (.cells (cV t aT cT) 36)) (Nat.le_refl _))
  have HX3 := Lib.hid (Is.new w2 (cV t aT cT) 36)
  have HI03 := Lib.hid (HI02.out.alloc (.cells (cV t aT cT) 36))
  have HI13 := Lib.hid (HI12.out.alloc (.cells (cV t aT cT) 36))
  obtain ⟨X, hXe⟩ : ∃ X, w2.heap.size = X := ⟨_, rfl⟩
  rw [hXe] at HX3
  have hXA : A < X := by omega
  have hXw : w.heap.size + 2 ≤ X := by have := HB2.out.size; omega
  have HXE := Lib.hid hXe; clear hXe
  go_upto_region 3 with (fail)
  try rw [HXE.out]
  have hs3 : X + 1 ≤ (w2.alloc (.cells (cV t aT cT) 36)).heap.size := by rw [size_alloc, HXE.out]; exact Nat.le_refl _
  generalize w2.alloc (.cells (cV t aT cT) 36) = W3 at *
  obtain ⟨z0, z1, z2, z3, z4⟩ := HX3.out.cells5
  have ff := fun i => HX3.out.frozen i; have lg := HX3.out.lt
  have HCD := Lib.hid (HC3.out.below (Below.refl (A + 1) W3).drew (by omega))
  have HKD := Lib.hid (show Kp A W3 W3.drew from ⟨(Below.refl _ _).drew, fun _ _ _ => rfl⟩)
  have HRND := Lib.hid (HRN3.out.kp TV.elem.loc HKD.out (by omega))
  refine wp_region_held_drew (S := fun _ => True) (by kernel_rfl) trivial (fun hHeld => ?_)
  refine wpAnyH_take (i := 1) (oi := ⟨some 11, _, _, _, _, _⟩) (v := ?_) rfl (by kernel_rfl) (by kernel_rfl) (by kernel_rfl) (fun _ _ _ h => h) (Or.inl ⟨by rfl, ?_⟩) (by assumption) ?_
  rotate_left 1
  · (intro w hSw; (try dsimp only at hSw); go_simp; try (with_reducible rfl))
  try simp only [Act.put, List.setIfInBounds_toArray, List.set_cons_zero, List.set_cons_succ]
  refine wpAnyH_ready (rs := [0, 2]) (by kernel_rfl) (by simp) ?_
  refine AllReadyH.cons (o := ⟨some 10, _, _, _, _, _⟩) rfl (fun K hK => ?_) ?_
  focus (go_simp; go_wp2_with fail; refine hK.out _ _ trivial (fun hHeld => ?_); clear hK K; try simp only [Act.put, List.setIfInBounds_toArray, List.set_cons_zero, List.set_cons_succ])
  refine wpAnyH_ready (rs := [2]) (by kernel_rfl) (by simp) ?_
  refine AllReadyH.cons (o := ⟨some 12, _, _, _, _, _⟩) rfl (fun K hK => ?_) AllReadyH.nil
  focus (go_simp; go_wp2_with fail; refine hK.out _ _ trivial (fun hHeld => ?_); clear hK K; try simp only [Act.put, List.setIfInBounds_toArray, List.set_cons_zero, List.set_cons_succ])
  refine wpAnyH_ready (rs := [3]) (by kernel_rfl) (by simp) ?_
  refine AllReadyH.cons (o := ⟨some 13, _, _, _, _, _⟩) rfl (fun K hK => ?_) AllReadyH.nil
  focus (go_simp; (first | (go_at_call 75; refine (spec_l18Loss A t aT cT _ HCD.out HRND.out HTW.out (by omega)).mono ?_; rintro e w4 ⟨x, a4, c4, rfl, hx1, hx2, happ4, hc4, hk4⟩; have HK4 := Lib.hid (show Kp A W3 w4 from HKD.out.trans hk4); have hx4 := Kp.is HK4.out HX3.out (by omega); have HI4 := Lib.hid (Kp.is HK4.out HI03.out (by omega)); have HJ4 := Lib.hid (Kp.is HK4.out HI13.out (by omega)); have HRN4 := Lib.hid (HRN3.out.kp TV.elem.loc HK4.out (by omega)); have HX1 := Lib.hid hx1; have HA4 := Lib.hid happ4; obtain ⟨v0, v1, v2, v3, v4⟩ := hx4.cells5; have fv := (fun i => hx4.frozen i); have lv := hx4.lt; obtain ⟨u0, u1, u2, u3, u4⟩ := HI4.out.cells5; have fu := (fun i => HI4.out.frozen i); have lu := HI4.out.lt; obtain ⟨y0, y1⟩ := HJ4.out.cells2; have fy := (fun i => HJ4.out.frozen i); have ly := HJ4.out.lt; clear hx1 happ4 hc4 hk4)); go_wp2_with fail; refine hK.out _ _ trivial (fun hHeld => ?_); clear hK K; try simp only [Act.put, List.setIfInBounds_toArray, List.set_cons_zero, List.set_cons_succ])
  refine wpAnyH_ready (rs := [4]) (by kernel_rfl) (by simp) ?_
  refine AllReadyH.cons (o := ⟨none, _, _, _, _, _⟩) rfl (fun K hK => ?_) AllReadyH.nil
  focus (go_simp; go_wp2_with fail; refine hK.out _ _ trivial (fun hHeld => ?_); clear hK K; try simp only [Act.put])
  refine wpAnyH_ready (rs := [5]) (by kernel_rfl) (by simp) ?_
  refine AllReadyH.cons (o := ⟨none, _, _, _, _, _⟩) rfl (fun K hK => ?_) AllReadyH.nil
  focus (go_simp; go_wp2_with fail; refine hK.out _ _ trivial (fun hHeld => ?_); clear hK K; try simp only [Act.put])
  refine wpAnyH_done (by kernel_rfl) ?_ _
  rotate_left 1
  refine AllReadyH.cons (o := ⟨some 12, _, _, _, _, _⟩) rfl (fun K hK => ?_) AllReadyH.nil
  focus (go_simp; go_wp2_with fail; refine hK.out _ _ trivial (fun hHeld => ?_); clear hK K; try simp only [Act.put, List.setIfInBounds_toArray, List.set_cons_zero, List.set_cons_succ])
  refine wpAnyH_ready (rs := [0, 3]) (by kernel_rfl) (by simp) ?_
  refine AllReadyH.cons (o := ⟨some 10, _, _, _, _, _⟩) rfl (fun K hK => ?_) ?_
  focus (go_simp; go_wp2_with fail; refine hK.out _ _ trivial (fun hHeld => ?_); clear hK K; try simp only [Act.put, List.setIfInBounds_toArray, List.set_cons_zero, List.set_cons_succ])
  refine wpAnyH_ready (rs := [3]) (by kernel_rfl) (by simp) ?_
  refine AllReadyH.cons (o := ⟨some 13, _, _, _, _, _⟩) rfl (fun K hK => ?_) AllReadyH.nil
  focus (go_simp; (first | (go_at_call 75; refine (spec_l18Loss A t aT cT _ HCD.out HRND.out HTW.out (by omega)).mono ?_; rintro e w4 ⟨x, a4, c4, rfl, hx1, hx2, happ4, hc4, hk4⟩; have HK4 := Lib.hid (show Kp A W3 w4 from HKD.out.trans hk4); have hx4 := Kp.is HK4.out HX3.out (by omega); have HI4 := Lib.hid (Kp.is HK4.out HI03.out (by omega)); have HJ4 := Lib.hid (Kp.is HK4.out HI13.out (by omega)); have HRN4 := Lib.hid (HRN3.out.kp TV.elem.loc HK4.out (by omega)); have HX1 := Lib.hid hx1; have HA4 := Lib.hid happ4; obtain ⟨v0, v1, v2, v3, v4⟩ := hx4.cells5; have fv := (fun i => hx4.frozen i); have lv := hx4.lt; obtain ⟨u0, u1, u2, u3, u4⟩ := HI4.out.cells5; have fu := (fun i => HI4.out.frozen i); have lu := HI4.out.lt; obtain ⟨y0, y1⟩ := HJ4.out.cells2; have fy := (fun i => HJ4.out.frozen i); have ly := HJ4.out.lt; clear hx1 happ4 hc4 hk4)); go_wp2_with fail; refine hK.out _ _ trivial (fun hHeld => ?_); clear hK K; try simp only [Act.put, List.setIfInBounds_toArray, List.set_cons_zero, List.set_cons_succ])
  refine wpAnyH_ready (rs := [4]) (by kernel_rfl) (by simp) ?_
  refine AllReadyH.cons (o := ⟨none, _, _, _, _, _⟩) rfl (fun K hK => ?_) AllReadyH.nil
  focus (go_simp; go_wp2_with fail; refine hK.out _ _ trivial (fun hHeld => ?_); clear hK K; try simp only [Act.put])
  refine wpAnyH_ready (rs := [5]) (by kernel_rfl) (by simp) ?_
  refine AllReadyH.cons (o := ⟨none, _, _, _, _, _⟩) rfl (fun K hK => ?_) AllReadyH.nil
  focus (go_simp; go_wp2_with fail; refine hK.out _ _ trivial (fun hHeld => ?_); clear hK K; try simp only [Act.put])
  refine wpAnyH_done (by kernel_rfl) ?_ _
  rotate_left 1
  refine AllReadyH.cons (o := ⟨some 13, _, _, _, _, _⟩) rfl (fun K hK => ?_) AllReadyH.nil
  focus (go_simp; (first | (go_at_call 75; refine (spec_l18Loss A t aT cT _ HCD.out HRND.out HTW.out (by omega)).mono ?_; rintro e w4 ⟨x, a4, c4, rfl, hx1, hx2, happ4, hc4, hk4⟩; have HK4 := Lib.hid (show Kp A W3 w4 from HKD.out.trans hk4); have hx4 := Kp.is HK4.out HX3.out (by omega); have HI4 := Lib.hid (Kp.is HK4.out HI03.out (by omega)); have HJ4 := Lib.hid (Kp.is HK4.out HI13.out (by omega)); have HRN4 := Lib.hid (HRN3.out.kp TV.elem.loc HK4.out (by omega)); have HX1 := Lib.hid hx1; have HA4 := Lib.hid happ4; obtain ⟨v0, v1, v2, v3, v4⟩ := hx4.cells5; have fv := (fun i => hx4.frozen i); have lv := hx4.lt; obtain ⟨u0, u1, u2, u3, u4⟩ := HI4.out.cells5; have fu := (fun i => HI4.out.frozen i); have lu := HI4.out.lt; obtain ⟨y0, y1⟩ := HJ4.out.cells2; have fy := (fun i => HJ4.out.frozen i); have ly := HJ4.out.lt; clear hx1 happ4 hc4 hk4)); go_wp2_with fail; refine hK.out _ _ trivial (fun hHeld => ?_); clear hK K; try simp only [Act.put, List.setIfInBounds_toArray, List.set_cons_zero, List.set_cons_succ])
  refine wpAnyH_ready (rs := [0]) (by kernel_rfl) (by simp) ?_
  refine AllReadyH.cons (o := ⟨some 10, _, _, _, _, _⟩) rfl (fun K hK => ?_) AllReadyH.nil
  focus (go_simp; go_wp2_with fail; refine hK.out _ _ trivial (fun hHeld => ?_); clear hK K; try simp only [Act.put, List.setIfInBounds_toArray, List.set_cons_zero, List.set_cons_succ])
  refine wpAnyH_ready (rs := [4]) (by kernel_rfl) (by simp) ?_
  refine AllReadyH.cons (o := ⟨none, _, _, _, _, _⟩) rfl (fun K hK => ?_) AllReadyH.nil
  focus (go_simp; go_wp2_with fail; refine hK.out _ _ trivial (fun hHeld => ?_); clear hK K; try simp only [Act.put])
  refine wpAnyH_ready (rs := [5]) (by kernel_rfl) (by simp) ?_
  refine AllReadyH.cons (o := ⟨none, _, _, _, _, _⟩) rfl (fun K hK => ?_) AllReadyH.nil
  focus (go_simp; go_wp2_with fail; refine hK.out _ _ trivial (fun hHeld => ?_); clear hK K; try simp only [Act.put])
  refine wpAnyH_done (by kernel_rfl) ?_ _
  all_goals
    go_wp2_with fail
    have Q0 := ((((((HI4.out.set 0 (.int .i64 t.k)).set 1 (.int .i64 t.n)).set 2 (.int .i64 t.x)).set 3 (.string t.s)).set 4 (.slice aT t.l.length cT)).miss (w.heap.size + 1) 0 (by omega) (.int .i64 x.1)).miss (w.heap.size + 1) 1 (by omega) (.slice a4 x.2.length c4)
    have Q1 := (((((((HJ4.out.miss w.heap.size 0 (by omega) (.int .i64 t.k)).miss w.heap.size 1 (by omega) (.int .i64 t.n)).miss w.heap.size 2 (by omega) (.int .i64 t.x)).miss w.heap.size 3 (by omega) (.string t.s)).miss w.heap.size 4 (by omega) (.slice aT t.l.length cT)).set 0 (.int .i64 x.1)).set 1 (.slice a4 x.2.length c4))
    obtain ⟨e0, e1, e2, e3, e4⟩ := Is.cells5 (v0 := .int .i64 t.k) (v1 := .int .i64 t.n) (v2 := .int .i64 t.x) (v3 := .string t.s) (v4 := .slice aT t.l.length cT) Q0
    obtain ⟨f0, f1⟩ := Is.cells2 (v0 := .int .i64 x.1) (v1 := .slice a4 x.2.length c4) Q1
    refine bodyPost_ret (v := .tuple #[.agg (cV t aT cT), .agg (cL x a4 c4)]) (by simp [results, Tryz.results13, go_sem, e0, e1, e2, e3, e4, f0, f1]) rfl ⟨t, aT, cT, x, a4, c4, rfl, ⟨HTW.out, by omega, R.rd.2 (HRN4.out.agree TV.elem.loc (fun f h1 _ => by rw [heap_miss _ _ _ _ (by omega), heap_miss _ _ _ _ (by omega), heap_miss _ _ _ _ (by omega), heap_miss _ _ _ _ (by omega), heap_miss _ _ _ _ (by omega), heap_miss _ _ _ _ (by omega), heap_miss _ _ _ _ (by omega)]) (by simp only [size_set]; exact Nat.le_refl _)).rd⟩, HX1.out, by omega, ((HA4.out.out0 EStep.elem (fun f h1 _ => by (try simp only [World.size_drew] at h1); rw [heap_miss _ _ _ _ (by omega), heap_miss _ _ _ _ (by omega), heap_miss _ _ _ _ (by omega), heap_miss _ _ _ _ (by omega), heap_miss _ _ _ _ (by omega), heap_miss _ _ _ _ (by omega), heap_miss _ _ _ _ (by omega)])).rd (by simp only [size_set, World.size_drew]; have := HK4.out.1.size; omega)), ?_⟩
    exact (HB3.out.trans (HK4.out.1.mono (by omega))).trans (((((((((Below.refl w.heap.size _).setCell (p := ⟨w.heap.size, 0, none⟩) (Nat.le_refl _) _).setCell (p := ⟨w.heap.size, 1, none⟩) (Nat.le_refl _) _).setCell (p := ⟨w.heap.size, 2, none⟩) (Nat.le_refl _) _).setCell (p := ⟨w.heap.size, 3, none⟩) (Nat.le_refl _) _).setCell (p := ⟨w.heap.size, 4, none⟩) (Nat.le_refl _) _).setCell (p := ⟨w.heap.size + 1, 0, none⟩) (by simp) _).setCell (p := ⟨w.heap.size + 1, 1, none⟩) (by simp) _))
set_option maxHeartbeats 8000000 in
theorem spec_DrawSameLosses (a : Option Addr) (cap B : Nat) (l : List Int) (w : World) (hr : Rd EByte 1 w B a cap l) (hB : B ≤ w.heap.size) (hl : l.length ≤ 1048576) :
    Calls Tryz.prog 12 #[.slice a l.length cap] w fun e w' => ∃ (L : List Lo) (aL : Option Addr) (cL : Nat) (M : List Lo) (aM : Option Addr) (cM : Nat), e = .returned (.tuple #[.slice aL L.length cL, .slice aM M.length cM]) ∧ SmL w' aL cL L ∧ SmL w' aM cM M ∧ Below w.heap.size w w' := by
  have HR0 := Lib.hid hr; clear hr
  have hb0 := Below.refl w.heap.size w
  have hs0 : w.heap.size ≤ w.heap.size := Nat.le_refl _
  go_enter Tryz.func12, Tryz.ntmps12
  go_wp2_with fail
  refine (spec_l1New a cap B l w HR0.out (by omega) hl).mono ?_
  rintro e w1 ⟨A, rfl, hA, hc1, hb1⟩
  have HC1 := Lib.hid hc1; have HB1 := Lib.hid (show Below w.heap.size w w1 from hb0.trans (hb1.mono (by omega)))
  clear hc1 hb1 hb0 HR0
  have hA1 := HC1.out.lt
  go_wp2_with fail
  refine (spec_l6Val A w1 HC1.out).mono ?_
  rintro e w2 ⟨t, aT, cT, rfl, htw, hts, htz, happ, hc2, hk2⟩
  have HC2 := Lib.hid hc2; have HB2 := Lib.hid (show Below w.heap.size w w2 from HB1.out.trans (hk2.1.mono (by omega)))
  have HRN2 := Lib.hid ((happ.rn (Nat.le_refl _)).less (lo' := A + 1) (by omega))
  have HTW := Lib.hid htw
  have hct : T.count t ≤ 1921 := by have := T.countL_le_szL t; omega
  have hdp : T.depth t ≤ 1921 := by have := T.depth_le_count t; omega
  clear hc2 hk2 happ htw HC1 HB1
  have hA2 := HC2.out.lt
  have HC3 := Lib.hid (HC2.out.below (below1 w2 (.cells (cV t aT cT) 36)) hA2)
  have HB3 := Lib.hid (HB2.out.trans ((below1 w2 (.cells (cV t aT cT) 36)).mono (HB2.out.size)))
  have HRN3 := Lib.hid (HRN2.out.below TV.elem.loc (below1 w2 (.cells (cV t aT cT) 36)) (Nat.le_refl _))
  have HX3 := Lib.hid (Is.new w2 (cV t aT cT) 36)
  go_wp2_with fail
  refine (spec_l18List A t aT cT _ HC3.out HRN3.out HTW.out (by omega)).mono ?_
  rintro e w4 ⟨L, a4, c4, rfl, h1, h2, h3, hc4, hk4⟩
  have H2 := Lib.hid h2; have H3 := Lib.hid h3; have HC4 := Lib.hid hc4; have HB4 := Lib.hid (HB3.out.trans (hk4.1.mono (by omega)))
  have HX4 := Lib.hid (hk4.is HX3.out (by omega)); have HRN4 := Lib.hid (HRN3.out.kp TV.elem.loc hk4 (by omega))
  have hl4 : A < w4.heap.size := hc4.lt
  have hs4 : w2.heap.size + 1 ≤ w4.heap.size := by have := hk4.size; rw [size_alloc] at this; exact this
  rw [size_alloc] at H3
  clear h2 h3 hc4 hk4
  go_wp2_with fail
  refine (spec_l1Once A 2 w4 HC4.out ⟨by decide, by decide⟩).mono ?_
  rintro e w5 ⟨bb, rfl, hc5, hk5⟩
  have HC5 := Lib.hid hc5; have HB5 := Lib.hid (HB4.out.trans (hk5.1.mono (by omega))); have HX5 := Lib.hid (hk5.is HX4.out (by omega)); have HRN5 := Lib.hid (HRN4.out.kp TV.elem.loc hk5 (by omega)); have HL5 := Lib.hid (H3.out.kp ELoss.elem.loc hk5 (by omega))
  have hl5 := hc5.lt
  have hs5 := hk5.size
  clear hc5 hk5
  cases bb with
  | true =>
    obtain ⟨a7, c7, w7, hrun, hr7, hb7⟩ := copyLo w5 L a4 c4 w5.heap.size HL5.out.rd (Nat.le_refl _) (by omega)
    go_wp2_with (at_builtin; refine Lib.wpList_append_run _ rfl _ _ _ _ rfl _ _ rfl rfl _ _ hrun ?_)
    go_ret2
    have hz := szLo_le 1922 L (fun x hx => by have := H2.out x hx; omega)
    have hz2 : L.length * (1922 + 1) ≤ 4 * (1922 + 1) := Nat.mul_le_mul_right _ h1
    exact ⟨L, a4, c4, L, a7, c7, rfl, (SmL.of h1 H2.out (by omega) HL5.out).fwd hb7, ⟨h1, by omega, fun x hx => by have := H2.out x hx; omega, hr7⟩, HB5.out.trans (hb7.mono (by have := HB5.out.size; omega))⟩
  | false =>
    obtain ⟨v0, v1, v2, v3, v4⟩ := HX5.out.cells5
    have fv := fun i => HX5.out.frozen i; have lv := HX5.out.lt
    go_wp2_with fail
    refine (spec_l18List A t aT cT w5 HC5.out HRN5.out HTW.out (by omega)).mono ?_
    rintro e w6 ⟨M, a6, c6, rfl, m1, m2, m3, hc6, hk6⟩
    have HM := Lib.hid (SmL.of m1 m2 (by omega) m3); clear m2 m3
    have HK6 := Lib.hid hk6; clear hc6 hk6
    go_wp2_with fail
    go_ret2
    exact ⟨L, a4, c4, M, a6, c6, rfl, SmL.of h1 H2.out (by omega) (HL5.out.kp ELoss.elem.loc HK6.out (by omega)), HM.out, HB5.out.trans (HK6.out.1.mono (by omega))⟩
set_option maxHeartbeats 8000000 in
theorem spec_DrawLossesAt (a : Option Addr) (cap B : Nat) (l : List Int) (w : World) (hr : Rd EByte 1 w B a cap l) (hB : B ≤ w.heap.size) (hl : l.length ≤ 1048576) :
    Calls Tryz.prog 16 #[.slice a l.length cap] w fun e w' => ∃ (L : List Lo) (aL : Option Addr) (cL : Nat) (q : List St) (aq : Option Addr) (cq : Nat), e = .returned (.tuple #[.slice aL L.length cL, .slice aq q.length cq]) ∧ SmL w' aL cL L ∧ q.length ≤ 5000 ∧ Rd EStep 2 w' w'.heap.size aq cq q ∧ Below w.heap.size w w' := by
  have HR0 := Lib.hid hr; clear hr
  have hb0 := Below.refl w.heap.size w
  have hs0 : w.heap.size ≤ w.heap.size := Nat.le_refl _
  go_enter Tryz.func16, Tryz.ntmps16
  go_wp2_with fail
  refine (spec_l1New a cap B l w HR0.out (by omega) hl).mono ?_
  rintro e w1 ⟨A, rfl, hA, hc1, hb1⟩
  have HC1 := Lib.hid hc1; have HB1 := Lib.hid (show Below w.heap.size w w1 from hb0.trans (hb1.mono (by omega)))
  clear hc1 hb1 hb0 HR0
  have hA1 := HC1.out.lt
  go_wp2_with fail
  refine (spec_l6Val A w1 HC1.out).mono ?_
  rintro e w2 ⟨t, aT, cT, rfl, htw, hts, htz, happ, hc2, hk2⟩
  have HC2 := Lib.hid hc2; have HB2 := Lib.hid (show Below w.heap.size w w2 from HB1.out.trans (hk2.1.mono (by omega)))
  have HRN2 := Lib.hid ((happ.rn (Nat.le_refl _)).less (lo' := A + 1) (by omega))
  have HTW := Lib.hid htw
  have hct : T.count t ≤ 1921 := by have := T.countL_le_szL t; omega
  have hdp : T.depth t ≤ 1921 := by have := T.depth_le_count t; omega
  clear hc2 hk2 happ htw HC1 HB1
  have hA2 := HC2.out.lt
  have HC3 := Lib.hid (HC2.out.below (below1 w2 (.cells (cV t aT cT) 36)) hA2)
  have HB3 := Lib.hid (HB2.out.trans ((below1 w2 (.cells (cV t aT cT) 36)).mono (HB2.out.size)))
  have HRN3 := Lib.hid (HRN2.out.below TV.elem.loc (below1 w2 (.cells (cV t aT cT) 36)) (Nat.le_refl _))
  have HX3 := Lib.hid (Is.new w2 (cV t aT cT) 36)
  go_wp2_with fail
  refine (spec_l18List A t aT cT _ HC3.out HRN3.out HTW.out (by omega)).mono ?_
  rintro e w4 ⟨L, a4, c4, rfl, h1, h2, h3, hc4, hk4⟩
  have H2 := Lib.hid h2; have H3 := Lib.hid h3; have HC4 := Lib.hid hc4; have HB4 := Lib.hid (HB3.out.trans (hk4.1.mono (by omega)))
  have HX4 := Lib.hid (hk4.is HX3.out (by omega)); have HRN4 := Lib.hid (HRN3.out.kp TV.elem.loc hk4 (by omega))
  have hl4 : A < w4.heap.size := hc4.lt
  have hs4 : w2.heap.size + 1 ≤ w4.heap.size := by have := hk4.size; rw [size_alloc] at this; exact this
  rw [size_alloc] at H3
  clear h2 h3 hc4 hk4
  have HL4 := H3
  by_cases hlen : 0 < L.length
  · have hlz : (0 : Int) < (L.length : Int) := by omega
    go_wp2_with fail
    refine (spec_l1Once A 4 w4 HC4.out ⟨by decide, by decide⟩).mono ?_
    rintro e w5 ⟨bb, rfl, hc5, hk5⟩
    have HC5 := Lib.hid hc5; have HB5 := Lib.hid (HB4.out.trans (hk5.1.mono (by omega))); have HX5 := Lib.hid (hk5.is HX4.out (by omega)); have HRN5 := Lib.hid (HRN4.out.kp TV.elem.loc hk5 (by omega)); have HL5 := Lib.hid (H3.out.kp ELoss.elem.loc hk5 (by omega))
    have hl5 := hc5.lt
    have hs5 := hk5.size
    clear hc5 hk5
    cases bb with
    | false =>
      obtain ⟨b, o, a9, c9, rfl, hbl, k0, k1, hi, hq9⟩ := HL5.out.rd.loss 0 hlen
      have HQ9 := Lib.hid hq9; clear hq9
      obtain ⟨a7, c7, w7, hrun, hr7, hb7⟩ := copyS w5 L[0].2 a9 c9 w5.heap.size HQ9.out (Nat.le_refl _) (by have := H2.out L[0] (List.getElem_mem hlen); omega)
      have hq := H2.out L[0] (List.getElem_mem hlen)
      generalize hx0 : L[0] = x0 at *
      go_wp2_with (at_builtin; refine Lib.wpList_append_run _ rfl _ _ _ _ rfl _ _ rfl rfl _ _ hrun ?_)
      go_ret2
      exact ⟨L, _, c4, x0.2, a7, c7, rfl, (SmL.of h1 H2.out (by omega) HL5.out).fwd hb7, by omega, hr7.rd hb7.size, HB5.out.trans (hb7.mono (by have := HB5.out.size; omega))⟩
    | true =>
      obtain ⟨v0, v1, v2, v3, v4⟩ := HX5.out.cells5
      have fv := fun i => HX5.out.frozen i; have lv := HX5.out.lt
      go_wp2_with fail
      refine (spec_l8Path A t aT cT w5 HC5.out HRN5.out HTW.out (by omega)).mono ?_
      rintro e w6 ⟨q, a6, c6, rfl, hq, happ6, hc6, hk6⟩
      have HK6 := Lib.hid hk6; have HA6 := Lib.hid (happ6.rd hk6.size); clear hc6 hk6 happ6
      go_wp2_with fail
      go_ret2
      exact ⟨L, a4, c4, q, a6, c6, rfl, SmL.of h1 H2.out (by omega) (HL5.out.kp ELoss.elem.loc HK6.out (by omega)), by omega, HA6.out, HB5.out.trans (HK6.out.1.mono (by omega))⟩
  · have hlz : ¬ (0 : Int) < (L.length : Int) := by omega
    obtain ⟨v0, v1, v2, v3, v4⟩ := HX4.out.cells5
    have fv := fun i => HX4.out.frozen i; have lv := HX4.out.lt
    go_wp2_with fail
    refine (spec_l8Path A t aT cT w4 HC4.out HRN4.out HTW.out (by omega)).mono ?_
    rintro e w6 ⟨q, a6, c6, rfl, hq, happ6, hc6, hk6⟩
    have HK6 := Lib.hid hk6; have HA6 := Lib.hid (happ6.rd hk6.size); clear hc6 hk6 happ6
    go_wp2_with fail
    go_ret2
    exact ⟨L, a4, c4, q, a6, c6, rfl, SmL.of h1 H2.out (by omega) (HL4.out.kp ELoss.elem.loc HK6.out (by omega)), by omega, HA6.out, HB4.out.trans (HK6.out.1.mono (by omega))⟩
set_option maxHeartbeats 8000000 in
theorem spec_DrawLessLoss (a : Option Addr) (cap B : Nat) (l : List Int) (w : World) (hr : Rd EByte 1 w B a cap l) (hB : B ≤ w.heap.size) (hl : l.length ≤ 1048576) :
    Calls Tryz.prog 11 #[.slice a l.length cap] w fun e w' => ∃ (x y : Lo) (ax ay : Option Addr) (cx cy : Nat), e = .returned (.tuple #[.agg (cL x ax cx), .agg (cL y ay cy)]) ∧ I64 x.1 ∧ I64 y.1 ∧ x.2.length ≤ 5000 ∧ y.2.length ≤ 5000 ∧ Rd EStep 2 w' w'.heap.size ax cx x.2 ∧ Rd EStep 2 w' w'.heap.size ay cy y.2 ∧ Below w.heap.size w w' := by
  have hb0 : Below w.heap.size w ((w.alloc (.cells #[.int .i64 0, .slice none 0 0] 29)).alloc (.cells #[.int .i64 0, .slice none 0 0] 29)) := below2 _ _ _
  have hI0 : Is ((w.alloc (.cells #[.int .i64 0, .slice none 0 0] 29)).alloc (.cells #[.int .i64 0, .slice none 0 0] 29)) w.heap.size 29 #[.int .i64 0, .slice none 0 0] := (Is.new _ _ _).alloc _
  have hI1 : Is ((w.alloc (.cells #[.int .i64 0, .slice none 0 0] 29)).alloc (.cells #[.int .i64 0, .slice none 0 0] 29)) (w.heap.size + 1) 29 #[.int .i64 0, .slice none 0 0] := Is.new2 _ _ _ _
  have HR0 := Lib.hid (hr.below EByte.loc hb0 hB)
  clear hr
  go_enter Tryz.func11, Tryz.ntmps11
  go_wp2_with fail
  generalize hW : ((w.alloc (.cells #[.int .i64 0, .slice none 0 0] 29)).alloc (.cells #[.int .i64 0, .slice none 0 0] 29)) = w0 at *
  have hs0 : w.heap.size + 2 ≤ w0.heap.size := by rw [← hW]; simp
  clear hW
  refine (spec_l1New a cap B l w0 HR0.out (by omega) hl).mono ?_
  rintro e w1 ⟨A, rfl, hA, hc1, hb1⟩
  have HC1 := Lib.hid hc1; have HB1 := Lib.hid (show Below w.heap.size w w1 from hb0.trans (hb1.mono (by omega)))
  have HI01 := Lib.hid (hI0.below hb1 (by omega))
  have HI11 := Lib.hid (hI1.below hb1 (by omega))
  clear hc1 hb1 hb0 HR0 hI0 hI1
  have hA1 := HC1.out.lt
  go_wp2_with fail
  refine (spec_l6Val A w1 HC1.out).mono ?_
  rintro e w2 ⟨t, aT, cT, rfl, htw, hts, htz, happ, hc2, hk2⟩
  have HC2 := Lib.hid hc2; have HB2 := Lib.hid (show Below w.heap.size w w2 from HB1.out.trans (hk2.1.mono (by omega)))
  have HI02 := Lib.hid (hk2.is HI01.out (by omega))
  have HI12 := Lib.hid (hk2.is HI11.out (by omega))
  have HRN2 := Lib.hid ((happ.rn (Nat.le_refl _)).less (lo' := A + 1) (by omega))
  have HTW := Lib.hid htw
  have hct : T.count t ≤ 1921 := by have := T.countL_le_szL t; omega
  have hdp : T.depth t ≤ 1921 := by have := T.depth_le_count t; omega
  clear hc2 hk2 happ htw HC1 HB1 HI01 HI11
  have hA2 := HC2.out.lt
  have HC3 := Lib.hid (HC2.out.below (below1 w2 (.cells (cV t aT cT) 36)) hA2)
  have HB3 := Lib.hid (HB2.out.trans ((below1 w2 (.cells (cV t aT cT) 36)).mono (HB2.out.size)))
  have HRN3 := Lib.hid (HRN2.out.below TV.elem.loc (below1 w2 (.cells (cV t aT cT) 36)) (Nat.le_refl _))
  have HX3 := Lib.hid (Is.new w2 (cV t aT cT) 36)
  have HI03 := Lib.hid (HI02.out.alloc (.cells (cV t aT cT) 36))
  have HI13 := Lib.hid (HI12.out.alloc (.cells (cV t aT cT) 36))
  go_wp2_with fail
  refine (spec_l18Loss A t aT cT _ HC3.out HRN3.out HTW.out (by omega)).mono ?_
  rintro e w4 ⟨x, ax, cx, rfl, hx1, hx2, happx, hc4, hk4⟩
  rw [size_alloc] at happx
  have HX1 := Lib.hid hx1; have HB4 := Lib.hid (HB3.out.trans (hk4.1.mono (by omega))); have HX4 := Lib.hid (hk4.is HX3.out (by omega)); have HRN4 := Lib.hid (HRN3.out.kp TV.elem.loc hk4 (by omega))
  have HI4 := Lib.hid (hk4.is HI03.out (by omega)); have HJ4 := Lib.hid (hk4.is HI13.out (by omega))
  have hs4 : w2.heap.size + 1 ≤ w4.heap.size := by have := hk4.size; rw [size_alloc] at this; exact this
  have hl4 := hc4.lt
  have hwA : w.heap.size + 2 ≤ A := by omega
  -- the first loss's box
  have hb5 := below1 w4 (.cells (cL x ax cx) 29)
  have HC5 := Lib.hid (hc4.below hb5 hl4)
  have HB5 := Lib.hid (HB4.out.trans (hb5.mono HB4.out.size))
  have HX5 := Lib.hid (HX4.out.alloc (.cells (cL x ax cx) 29))
  have HRN5 := Lib.hid (HRN4.out.below TV.elem.loc hb5 (Nat.le_refl _))
  have HI5 := Lib.hid (HI4.out.alloc (.cells (cL x ax cx) 29)); have HJ5 := Lib.hid (HJ4.out.alloc (.cells (cL x ax cx) 29))
  have HY5 := Lib.hid (Is.new w4 (cL x ax cx) 29)
  have HP5 := Lib.hid ((happx.own (lo := w2.heap.size + 1) (by simp) (Nat.le_refl _) (by simp)).agree EStep.loc (fun f _ hf => hb5.block f hf))
  obtain ⟨v0, v1, v2, v3, v4⟩ := HX4.out.cells5
  have fv := fun i => HX4.out.frozen i; have lv := HX4.out.lt
  clear hx1 happx hc4 hk4 hb5
  go_wp2_with fail
  refine (spec_l18Loss A t aT cT _ HC5.out HRN5.out HTW.out (by omega)).mono ?_
  rintro e w7 ⟨y, ay, cy, rfl, hy1, hy2, happy, hc7, hk7⟩
  rw [size_alloc] at happy
  have HY1 := Lib.hid hy1; have HB7 := Lib.hid (HB5.out.trans (hk7.1.mono (by omega)))
  have HI7 := Lib.hid (hk7.is HI5.out (by omega)); have HJ7 := Lib.hid (hk7.is HJ5.out (by omega)); have HY7 := Lib.hid (hk7.is HY5.out (by omega))
  have HP7 := Lib.hid (HP5.out.agree EStep.loc (fun f h1 h2 => hk7.heap f (by omega) (by rw [size_alloc]; omega)))
  have hs7 : w4.heap.size + 1 ≤ w7.heap.size := by have := hk7.size; rw [size_alloc] at this; exact this
  have hl7 := hc7.lt
  have hb8 := below1 w7 (.cells (cL y ay cy) 29)
  have HC8 := Lib.hid (hc7.below hb8 hl7)
  have HB8 := Lib.hid (HB7.out.trans (hb8.mono HB7.out.size))
  have HI8 := Lib.hid (HI7.out.alloc (.cells (cL y ay cy) 29)); have HJ8 := Lib.hid (HJ7.out.alloc (.cells (cL y ay cy) 29)); have HY8 := Lib.hid (HY7.out.alloc (.cells (cL y ay cy) 29))
  have HZ8 := Lib.hid (Is.new w7 (cL y ay cy) 29)
  have HP8 := Lib.hid (HP7.out.agree EStep.loc (fun f _ hf => hb8.block f (by omega)))
  have HQ8 := Lib.hid (happy.agree EStep.elem (fun f hf => hb8.block f hf) hs7)
  clear hy1 happy hc7 hk7 hb8 v0 v1 v2 v3 v4 fv lv HC5 HX5 HX4 HC3 HX3 HRN3 HRN4 HRN5 HI4 HJ4 HI5 HJ5 HY5 HI03 HI13
  go_wp2_with fail
  refine (spec_l1Once A 3 _ HC8.out ⟨by decide, by decide⟩).mono ?_
  rintro e w9 ⟨bb, rfl, hc9, hk9⟩
  have hs9 : w7.heap.size + 1 ≤ w9.heap.size := by have := hk9.size; rw [size_alloc] at this; exact this
  have HB9 := Lib.hid (HB8.out.trans (hk9.1.mono (by omega)))
  have HI9 := Lib.hid (hk9.is HI8.out (by omega)); have HJ9 := Lib.hid (hk9.is HJ8.out (by omega)); have HY9 := Lib.hid (hk9.is HY8.out (by omega)); have HZ9 := Lib.hid (hk9.is HZ8.out (by omega))
  have HP9 := Lib.hid (HP8.out.agree EStep.loc (fun f h1 h2 => hk9.heap f (by omega) (by rw [size_alloc]; omega)))
  have HQ9 := Lib.hid (HQ8.out.kp EStep.elem hk9 (by omega) (by rw [size_alloc]; omega) (by simp))
  clear hc9 hk9 HC8 HI8 HJ8 HY8 HZ8 HP8 HQ8 HI7 HJ7 HY7 HP7 HP5
  have hw2 : w.heap.size + 2 ≤ w2.heap.size := by omega
  cases bb with
  | false =>
    skip
    obtain ⟨p0, p1⟩ := Is.cells2 (v0 := .int .i64 x.1) (v1 := .slice ax x.2.length cx) (HY9.out)
    have fp := fun i => Is.frozen (HY9.out) i; have lp := Is.lt (HY9.out)
    obtain ⟨q0, q1⟩ := Is.cells2 (v0 := .int .i64 y.1) (v1 := .slice ay y.2.length cy) (HZ9.out)
    have fq := fun i => Is.frozen (HZ9.out) i; have lq := Is.lt (HZ9.out)
    obtain ⟨r0, r1⟩ := Is.cells2 (HI9.out)
    have fr := fun i => Is.frozen (HI9.out) i; have lr := Is.lt (HI9.out)
    obtain ⟨s0, s1⟩ := Is.cells2 (HJ9.out)
    have fs := fun i => Is.frozen (HJ9.out) i; have ls := Is.lt (HJ9.out)
    go_upto_region 7 with (fail)
    refine wp_region_held_drew (S := fun _ => True) (by kernel_rfl) trivial (fun hHeld => ?_)
    refine wpAnyH_ready (rs := [0, 1]) (by kernel_rfl) (by simp) ?_
    refine AllReadyH.cons (o := ⟨some 25, _, _, _, _, _⟩) rfl (fun K hK => ?_) ?_
    focus (go_simp; go_wp2_with fail; refine hK.out _ _ trivial (fun hHeld => ?_); clear hK K; try simp only [Act.put, List.setIfInBounds_toArray, List.set_cons_zero, List.set_cons_succ])
    refine wpAnyH_ready (rs := [1, 2]) (by kernel_rfl) (by simp) ?_
    refine AllReadyH.cons (o := ⟨some 26, _, _, _, _, _⟩) rfl (fun K hK => ?_) ?_
    focus (go_simp; go_wp2_with fail; refine hK.out _ _ trivial (fun hHeld => ?_); clear hK K; try simp only [Act.put, List.setIfInBounds_toArray, List.set_cons_zero, List.set_cons_succ])
    refine wpAnyH_ready (rs := [2]) (by kernel_rfl) (by simp) ?_
    refine AllReadyH.cons (o := ⟨none, _, _, _, _, _⟩) rfl (fun K hK => ?_) AllReadyH.nil
    focus (go_simp; go_wp2_with fail; refine hK.out _ _ trivial (fun hHeld => ?_); clear hK K; try simp only [Act.put])
    refine wpAnyH_ready (rs := [3]) (by kernel_rfl) (by simp) ?_
    refine AllReadyH.cons (o := ⟨none, _, _, _, _, _⟩) rfl (fun K hK => ?_) AllReadyH.nil
    focus (go_simp; go_wp2_with fail; refine hK.out _ _ trivial (fun hHeld => ?_); clear hK K; try simp only [Act.put])
    refine wpAnyH_done (by kernel_rfl) ?_ _
    rotate_left 1
    refine AllReadyH.cons (o := ⟨none, _, _, _, _, _⟩) rfl (fun K hK => ?_) AllReadyH.nil
    focus (go_simp; go_wp2_with fail; refine hK.out _ _ trivial (fun hHeld => ?_); clear hK K; try simp only [Act.put])
    refine wpAnyH_ready (rs := [1]) (by kernel_rfl) (by simp) ?_
    refine AllReadyH.cons (o := ⟨some 26, _, _, _, _, _⟩) rfl (fun K hK => ?_) AllReadyH.nil
    focus (go_simp; go_wp2_with fail; refine hK.out _ _ trivial (fun hHeld => ?_); clear hK K; try simp only [Act.put, List.setIfInBounds_toArray, List.set_cons_zero, List.set_cons_succ])
    refine wpAnyH_ready (rs := [3]) (by kernel_rfl) (by simp) ?_
    refine AllReadyH.cons (o := ⟨none, _, _, _, _, _⟩) rfl (fun K hK => ?_) AllReadyH.nil
    focus (go_simp; go_wp2_with fail; refine hK.out _ _ trivial (fun hHeld => ?_); clear hK K; try simp only [Act.put])
    refine wpAnyH_done (by kernel_rfl) ?_ _
    rotate_left 1
    refine AllReadyH.cons (o := ⟨some 26, _, _, _, _, _⟩) rfl (fun K hK => ?_) AllReadyH.nil
    focus (go_simp; go_wp2_with fail; refine hK.out _ _ trivial (fun hHeld => ?_); clear hK K; try simp only [Act.put, List.setIfInBounds_toArray, List.set_cons_zero, List.set_cons_succ])
    refine wpAnyH_ready (rs := [0]) (by kernel_rfl) (by simp) ?_
    refine AllReadyH.cons (o := ⟨some 25, _, _, _, _, _⟩) rfl (fun K hK => ?_) AllReadyH.nil
    focus (go_simp; go_wp2_with fail; refine hK.out _ _ trivial (fun hHeld => ?_); clear hK K; try simp only [Act.put, List.setIfInBounds_toArray, List.set_cons_zero, List.set_cons_succ])
    refine wpAnyH_ready (rs := [2]) (by kernel_rfl) (by simp) ?_
    refine AllReadyH.cons (o := ⟨none, _, _, _, _, _⟩) rfl (fun K hK => ?_) AllReadyH.nil
    focus (go_simp; go_wp2_with fail; refine hK.out _ _ trivial (fun hHeld => ?_); clear hK K; try simp only [Act.put])
    refine wpAnyH_ready (rs := [3]) (by kernel_rfl) (by simp) ?_
    refine AllReadyH.cons (o := ⟨none, _, _, _, _, _⟩) rfl (fun K hK => ?_) AllReadyH.nil
    focus (go_simp; go_wp2_with fail; refine hK.out _ _ trivial (fun hHeld => ?_); clear hK K; try simp only [Act.put])
    refine wpAnyH_done (by kernel_rfl) ?_ _
    all_goals
      go_wp2_with fail
      have Q0 := (((Is.set (HI9.out) 0 (.int .i64 x.1)).set 1 (.slice ax x.2.length cx)).miss (w.heap.size + 1) 0 (by omega) (.int .i64 y.1)).miss (w.heap.size + 1) 1 (by omega) (.slice ay y.2.length cy)
      have Q1 := (((Is.miss (HJ9.out) w.heap.size 0 (by omega) (.int .i64 x.1)).miss w.heap.size 1 (by omega) (.slice ax x.2.length cx)).set 0 (.int .i64 y.1)).set 1 (.slice ay y.2.length cy)
      obtain ⟨e0, e1⟩ := Is.cells2 (v0 := .int .i64 x.1) (v1 := .slice ax x.2.length cx) Q0
      obtain ⟨f0, f1⟩ := Is.cells2 (v0 := .int .i64 y.1) (v1 := .slice ay y.2.length cy) Q1
      refine bodyPost_ret (v := .tuple #[.agg (cL x ax cx), .agg (cL y ay cy)]) (by simp [results, Tryz.results11, go_sem, e0, e1, f0, f1]) rfl ⟨x, y, ax, ay, cx, cy, rfl, HX1.out, HY1.out, by omega, ?_, ?_, ?_, ?_⟩
      · first | omega | (show x.2.length ≤ 5000; omega)
      · exact ((HP9.out).agree EStep.loc (fun f h1 h2 => by show (World.setCell (World.setCell (World.setCell (World.setCell _ _ _) _ _) _ _) _ _).heap[_]? = _; rw [heap_miss _ _ _ _ (by omega), heap_miss _ _ _ _ (by omega), heap_miss _ _ _ _ (by omega), heap_miss _ _ _ _ (by omega)])).read.more (by simp only [World.size_drew, size_set]; omega)
      · exact ((HQ9.out).out0 EStep.elem (fun f h1 h2 => by show (World.setCell (World.setCell (World.setCell (World.setCell _ _ _) _ _) _ _) _ _).heap[_]? = _; rw [heap_miss _ _ _ _ (by omega), heap_miss _ _ _ _ (by omega), heap_miss _ _ _ _ (by omega), heap_miss _ _ _ _ (by omega)])).rd (by simp only [World.size_drew, size_set]; omega)
      · exact (HB9.out).trans ((((((Below.refl w.heap.size _).setCell (p := ⟨w.heap.size, 0, none⟩) (Nat.le_refl _) _).setCell (p := ⟨w.heap.size, 1, none⟩) (Nat.le_refl _) _).setCell (p := ⟨w.heap.size + 1, 0, none⟩) (by simp) _).setCell (p := ⟨w.heap.size + 1, 1, none⟩) (by simp) _).drew)
  | true =>
    obtain ⟨a10, c10, w10, hrun, happ10, hb10⟩ := copyS w9 x.2 ax cx w9.heap.size (HP9.out.read.more (by omega)) (Nat.le_refl _) (by omega)
    have hs10 := hb10.size
    have HY10 := Lib.hid (HY9.out.below hb10 (by omega)); have HZ10 := Lib.hid (HZ9.out.below hb10 (by omega)); have HI10 := Lib.hid (HI9.out.below hb10 (by omega)); have HJ10 := Lib.hid (HJ9.out.below hb10 (by omega))
    have HB10 := Lib.hid (HB9.out.trans (hb10.mono (by omega)))
    have HP10 := Lib.hid (HP9.out.agree EStep.loc (fun f _ hf => hb10.block f (by omega)))
    have HA10 := Lib.hid happ10
    obtain ⟨u0, u1⟩ := HY9.out.cells2
    have fu := fun i => HY9.out.frozen i; have lu := HY9.out.lt
    obtain ⟨t0, t1⟩ := HZ10.out.cells2
    have ft := fun i => HZ10.out.frozen i; have lt := HZ10.out.lt
    obtain ⟨s0, s1⟩ := HY10.out.cells2
    have fs := fun i => HY10.out.frozen i; have ls := HY10.out.lt
    go_upto_region 7 with (at_builtin; refine Lib.wpList_append_run _ rfl _ _ _ _ rfl _ _ rfl rfl _ _ hrun ?_)
    clear u0 u1 fu lu t0 t1 ft lt s0 s1 fs ls hrun happ10
    have HI11 := Lib.hid (HI10.out.miss w7.heap.size 1 (by omega) (.slice a10 x.2.length c10)); have HJ11 := Lib.hid (HJ10.out.miss w7.heap.size 1 (by omega) (.slice a10 x.2.length c10))
    have HY11 := Lib.hid (HY10.out.miss w7.heap.size 1 (by omega) (.slice a10 x.2.length c10))
    have HZ11 := Lib.hid (show Is (w10.setCell ⟨w7.heap.size, 1, none⟩ (.slice a10 x.2.length c10)) w7.heap.size 29 (cL (y.1, x.2) a10 c10) from HZ10.out.set 1 (.slice a10 x.2.length c10))
    have HB11 := Lib.hid (HB10.out.trans ((Below.refl _ _).setCell (p := ⟨w7.heap.size, 1, none⟩) (show w.heap.size ≤ w7.heap.size by omega) (.slice a10 x.2.length c10)))
    have HP11 := Lib.hid ((HP10.out.agree EStep.loc (w' := w10.setCell ⟨w7.heap.size, 1, none⟩ (.slice a10 x.2.length c10)) (fun f h1 h2 => heap_miss _ _ _ _ (by omega) _)))
    have HA11 := Lib.hid ((HA10.out.out0 EStep.elem (w' := w10.setCell ⟨w7.heap.size, 1, none⟩ (.slice a10 x.2.length c10)) (fun f h1 h2 => heap_miss _ _ _ _ (by omega) _)))
    have hs11 : (w10.setCell ⟨w7.heap.size, 1, none⟩ (.slice a10 x.2.length c10)).heap.size = w10.heap.size := size_set _ _ _
    have hs12 := Nat.le_of_eq hs11.symm; clear hs11
    generalize w10.setCell ⟨w7.heap.size, 1, none⟩ (.slice a10 x.2.length c10) = w11 at *
    obtain ⟨p0, p1⟩ := Is.cells2 (v0 := .int .i64 x.1) (v1 := .slice ax x.2.length cx) (HY11.out)
    have fp := fun i => Is.frozen (HY11.out) i; have lp := Is.lt (HY11.out)
    obtain ⟨q0, q1⟩ := Is.cells2 (v0 := .int .i64 y.1) (v1 := .slice a10 (y.1, x.2).2.length c10) (HZ11.out)
    have fq := fun i => Is.frozen (HZ11.out) i; have lq := Is.lt (HZ11.out)
    obtain ⟨r0, r1⟩ := Is.cells2 (HI11.out)
    have fr := fun i => Is.frozen (HI11.out) i; have lr := Is.lt (HI11.out)
    obtain ⟨s0, s1⟩ := Is.cells2 (HJ11.out)
    have fs := fun i => Is.frozen (HJ11.out) i; have ls := Is.lt (HJ11.out)
    go_upto_region 7 with (fail)
    refine wp_region_held_drew (S := fun _ => True) (by kernel_rfl) trivial (fun hHeld => ?_)
    refine wpAnyH_ready (rs := [0, 1]) (by kernel_rfl) (by simp) ?_
    refine AllReadyH.cons (o := ⟨some 25, _, _, _, _, _⟩) rfl (fun K hK => ?_) ?_
    focus (go_simp; go_wp2_with fail; refine hK.out _ _ trivial (fun hHeld => ?_); clear hK K; try simp only [Act.put, List.setIfInBounds_toArray, List.set_cons_zero, List.set_cons_succ])
    refine wpAnyH_ready (rs := [1, 2]) (by kernel_rfl) (by simp) ?_
    refine AllReadyH.cons (o := ⟨some 26, _, _, _, _, _⟩) rfl (fun K hK => ?_) ?_
    focus (go_simp; go_wp2_with fail; refine hK.out _ _ trivial (fun hHeld => ?_); clear hK K; try simp only [Act.put, List.setIfInBounds_toArray, List.set_cons_zero, List.set_cons_succ])
    refine wpAnyH_ready (rs := [2]) (by kernel_rfl) (by simp) ?_
    refine AllReadyH.cons (o := ⟨none, _, _, _, _, _⟩) rfl (fun K hK => ?_) AllReadyH.nil
    focus (go_simp; go_wp2_with fail; refine hK.out _ _ trivial (fun hHeld => ?_); clear hK K; try simp only [Act.put])
    refine wpAnyH_ready (rs := [3]) (by kernel_rfl) (by simp) ?_
    refine AllReadyH.cons (o := ⟨none, _, _, _, _, _⟩) rfl (fun K hK => ?_) AllReadyH.nil
    focus (go_simp; go_wp2_with fail; refine hK.out _ _ trivial (fun hHeld => ?_); clear hK K; try simp only [Act.put])
    refine wpAnyH_done (by kernel_rfl) ?_ _
    rotate_left 1
    refine AllReadyH.cons (o := ⟨none, _, _, _, _, _⟩) rfl (fun K hK => ?_) AllReadyH.nil
    focus (go_simp; go_wp2_with fail; refine hK.out _ _ trivial (fun hHeld => ?_); clear hK K; try simp only [Act.put])
    refine wpAnyH_ready (rs := [1]) (by kernel_rfl) (by simp) ?_
    refine AllReadyH.cons (o := ⟨some 26, _, _, _, _, _⟩) rfl (fun K hK => ?_) AllReadyH.nil
    focus (go_simp; go_wp2_with fail; refine hK.out _ _ trivial (fun hHeld => ?_); clear hK K; try simp only [Act.put, List.setIfInBounds_toArray, List.set_cons_zero, List.set_cons_succ])
    refine wpAnyH_ready (rs := [3]) (by kernel_rfl) (by simp) ?_
    refine AllReadyH.cons (o := ⟨none, _, _, _, _, _⟩) rfl (fun K hK => ?_) AllReadyH.nil
    focus (go_simp; go_wp2_with fail; refine hK.out _ _ trivial (fun hHeld => ?_); clear hK K; try simp only [Act.put])
    refine wpAnyH_done (by kernel_rfl) ?_ _
    rotate_left 1
    refine AllReadyH.cons (o := ⟨some 26, _, _, _, _, _⟩) rfl (fun K hK => ?_) AllReadyH.nil
    focus (go_simp; go_wp2_with fail; refine hK.out _ _ trivial (fun hHeld => ?_); clear hK K; try simp only [Act.put, List.setIfInBounds_toArray, List.set_cons_zero, List.set_cons_succ])
    refine wpAnyH_ready (rs := [0]) (by kernel_rfl) (by simp) ?_
    refine AllReadyH.cons (o := ⟨some 25, _, _, _, _, _⟩) rfl (fun K hK => ?_) AllReadyH.nil
    focus (go_simp; go_wp2_with fail; refine hK.out _ _ trivial (fun hHeld => ?_); clear hK K; try simp only [Act.put, List.setIfInBounds_toArray, List.set_cons_zero, List.set_cons_succ])
    refine wpAnyH_ready (rs := [2]) (by kernel_rfl) (by simp) ?_
    refine AllReadyH.cons (o := ⟨none, _, _, _, _, _⟩) rfl (fun K hK => ?_) AllReadyH.nil
    focus (go_simp; go_wp2_with fail; refine hK.out _ _ trivial (fun hHeld => ?_); clear hK K; try simp only [Act.put])
    refine wpAnyH_ready (rs := [3]) (by kernel_rfl) (by simp) ?_
    refine AllReadyH.cons (o := ⟨none, _, _, _, _, _⟩) rfl (fun K hK => ?_) AllReadyH.nil
    focus (go_simp; go_wp2_with fail; refine hK.out _ _ trivial (fun hHeld => ?_); clear hK K; try simp only [Act.put])
    refine wpAnyH_done (by kernel_rfl) ?_ _
    all_goals
      go_wp2_with fail
      have Q0 := (((Is.set (HI11.out) 0 (.int .i64 x.1)).set 1 (.slice ax x.2.length cx)).miss (w.heap.size + 1) 0 (by omega) (.int .i64 y.1)).miss (w.heap.size + 1) 1 (by omega) (.slice a10 (y.1, x.2).2.length c10)
      have Q1 := (((Is.miss (HJ11.out) w.heap.size 0 (by omega) (.int .i64 x.1)).miss w.heap.size 1 (by omega) (.slice ax x.2.length cx)).set 0 (.int .i64 y.1)).set 1 (.slice a10 (y.1, x.2).2.length c10)
      obtain ⟨e0, e1⟩ := Is.cells2 (v0 := .int .i64 x.1) (v1 := .slice ax x.2.length cx) Q0
      obtain ⟨f0, f1⟩ := Is.cells2 (v0 := .int .i64 y.1) (v1 := .slice a10 (y.1, x.2).2.length c10) Q1
      refine bodyPost_ret (v := .tuple #[.agg (cL x ax cx), .agg (cL (y.1, x.2) a10 c10)]) (by simp [results, Tryz.results11, go_sem, e0, e1, f0, f1]) rfl ⟨x, (y.1, x.2), ax, a10, cx, c10, rfl, HX1.out, HY1.out, by omega, ?_, ?_, ?_, ?_⟩
      · first | omega | (show x.2.length ≤ 5000; omega)
      · exact ((HP11.out).agree EStep.loc (fun f h1 h2 => by show (World.setCell (World.setCell (World.setCell (World.setCell _ _ _) _ _) _ _) _ _).heap[_]? = _; rw [heap_miss _ _ _ _ (by omega), heap_miss _ _ _ _ (by omega), heap_miss _ _ _ _ (by omega), heap_miss _ _ _ _ (by omega)])).read.more (by simp only [World.size_drew, size_set]; omega)
      · exact ((HA11.out).out0 EStep.elem (fun f h1 h2 => by show (World.setCell (World.setCell (World.setCell (World.setCell _ _ _) _ _) _ _) _ _).heap[_]? = _; rw [heap_miss _ _ _ _ (by omega), heap_miss _ _ _ _ (by omega), heap_miss _ _ _ _ (by omega), heap_miss _ _ _ _ (by omega)])).rd (by simp only [World.size_drew, size_set]; omega)
      · exact (HB11.out).trans ((((((Below.refl w.heap.size _).setCell (p := ⟨w.heap.size, 0, none⟩) (Nat.le_refl _) _).setCell (p := ⟨w.heap.size, 1, none⟩) (Nat.le_refl _) _).setCell (p := ⟨w.heap.size + 1, 0, none⟩) (by simp) _).setCell (p := ⟨w.heap.size + 1, 1, none⟩) (by simp) _).drew)
end Go.Proofs.YtfbodhfdomdkpaaGreatDoor
