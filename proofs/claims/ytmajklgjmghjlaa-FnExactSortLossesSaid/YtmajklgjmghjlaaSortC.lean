/- Contracts and lemmas for the proofs of this seat: SortC. No condition beyond those stated. -/
import Derived.Test.YtmajklgjmghjlaaRows
import Derived.WalkKit
import Derived.ProofKit
import Derived.OpenShut
import Derived.Handy
import Derived.Lib.Hide
import Derived.Lib.SmallJoins
import Derived.Deep.RegionHeld3
import Derived.Deep.QuietTactic
import Derived.BigQuiet
import Derived.BigRegion
import Derived.Deep.RegionLaw
import Derived.Lib.SliceRun
import Derived.Test.YtmajklgjmghjlaaBase
import Derived.Test.YtmajklgjmghjlaaGen
import Derived.Test.YtmajklgjmghjlaaKit
import Derived.Test.YtmajklgjmghjlaaMark
import Derived.Test.YtmajklgjmghjlaaApp
import Derived.Test.YtmajklgjmghjlaaMarkV
import Derived.Test.YtmajklgjmghjlaaLawVal
import Derived.Test.YtmajklgjmghjlaaCopy
import Derived.Test.YtmajklgjmghjlaaOnceA
import Derived.Test.YtmajklgjmghjlaaAppG
import Derived.Test.YtmajklgjmghjlaaKeepX
import Derived.Test.YtmajklgjmghjlaaPath1
import Derived.Test.YtmajklgjmghjlaaPath2
import Derived.Test.YtmajklgjmghjlaaLawLoss
import Derived.Test.YtmajklgjmghjlaaSortP
import Derived.Test.YtmajklgjmghjlaaSortW
import Derived.Test.YtmajklgjmghjlaaSortR
import Derived.Test.YtmajklgjmghjlaaSortI
import Derived.Test.YtmajklgjmghjlaaSortM
import Derived.Test.YtmajklgjmghjlaaSortG
import Derived.Test.YtmajklgjmghjlaaSortT
namespace Go.Proofs.Ytmajklgjmghjlaa
open Go.ChangeShapes Go.WideShapes Go.ChangeAt Go.RowKit Go.Joins
set_option linter.unusedVariables false
set_option maxRecDepth 100000
set_option maxHeartbeats 4000000 in
theorem cloneSteps (l : List St) (a : Option Addr) (cap B : Nat) (w : World) (hr : Rd EStep 2 w B a cap l) (hB : B ≤ w.heap.size) (hz : l.length ≤ 1048576) :
    Calls Try.prog 25 #[.slice a l.length cap] w fun ee w' => ∃ a' cap', ee = .returned (.slice a' l.length cap') ∧ Ow EStep 2 w' w.heap.size w'.heap.size a' cap' l ∧ Below w.heap.size w w' := by
  obtain ⟨hl1, hl2⟩ := hr.len
  have HR := Lib.hid hr
  have h0 := AppL.empty (E := EStep) (n := 2) (e := 48) w w.heap.size (Nat.le_refl _)
  have hsr := Lib.hid ((hr.srcs EStep.flat).agree EStep.elem (w' := w.alloc (.cells #[] 48)) (fun b o ha hne => by
    obtain ⟨b', o', ha', hb⟩ := (by obtain ⟨b', o', F, ha, hb, _⟩ := hr.get 0 (List.length_pos_iff.2 hne); exact ⟨b', o', ha, hb⟩ : ∃ b' o', a = some ⟨b', o', none⟩ ∧ b' < B)
    rw [ha] at ha'; injection ha' with ha'; injection ha' with h1; subst h1
    exact (below1 w _).block b (by omega)) (fun f hf => by cases hf))
  obtain ⟨a', cap', w', hrun, happ, hbel, hoth, _, hsz⟩ := run_appL (P := Try.prog) (w.alloc (.cells #[] 48)) EStep.elem 35 35 (.agg #[.int .i64 0, .bool false]) 16 Try.underlying35 info_Step rfl w.heap.size _ 0 [] [] h0 (by simp) (by simp) a cap l [] hsr.out (by simp) (by simp [maxLen]; omega) (by simp; omega)
  have HAPP := Lib.hid happ
  have HB := Lib.hid ((below1 w (.cells #[] 48)).trans hbel)
  clear happ hbel hoth hsz hr h0
  have hnil := Lib.run_eql_slice_nil (P := Try.prog) w 35 48 a l.length cap 0 0 Try.underlying35
  cases a with
  | none =>
    have hl : l = [] := by
      by_cases h : l = []
      · exact h
      · obtain ⟨b, o, h2, _⟩ := hsr.out.2 h; cases h2
    subst hl
    simp only [List.length_nil] at hnil
    go_enter Try.func25, Try.ntmps25
    go_wp2_with fail
    go_ret
    exact ⟨none, 0, rfl, Ow.nil _ _ _ _ _ (by simp [maxLen]), Below.refl _ _⟩
  | some ad =>
    go_enter Try.func25, Try.ntmps25
    go_wp2_with (at_builtin; refine Lib.wpList_append_run _ rfl _ _ _ _ rfl _ _ rfl rfl _ _ hrun ?_)
    go_ret
    exact ⟨a', cap', rfl, ((HAPP.out).own (by simp) (Nat.le_refl _) (by simp)), HB.out⟩
theorem App.some {α : Type} {E : World → Nat → Nat → α → List Nat → Prop} {n : Nat} {e : TypeId} {nd : Prop} {w : World} {lo hi cap : Nat} {a : Option Addr} {l : List α} (h : App E n e nd w lo hi a cap l) (hl : l ≠ []) : ∃ g, a = .some ⟨g, 0, none⟩ := by
  rcases h with h | ⟨g, _, _, h, _⟩
  · exact absurd h.2.2 hl
  · exact ⟨g, h⟩
theorem EStep.sl_unf {w : World} {lo hi cap : Nat} {a : Option Addr} {l : List St} (h : Ow EStep 2 w lo hi a cap l) : ∃ F, Sl EStep 2 w a cap l F ∧ F.Nodup ∧ ∀ f ∈ F, lo ≤ f ∧ f < hi ∧ Unf w f := h
set_option maxHeartbeats 4000000 in
theorem impl_copyLosses (l : List Lo) (a : Option Addr) (cap B : Nat) (w : World) (hr : Rd ELoss 2 w B a cap l) (hB : B ≤ w.heap.size) (hz : szLo l ≤ 1048576) :
    Calls Try.prog 15 #[.slice a l.length cap] w fun ee w' => ∃ g cap', ee = .returned (.slice (some ⟨g, 0, none⟩) l.length cap') ∧ App ELoss 2 37 True w' w.heap.size w'.heap.size (some ⟨g, 0, none⟩) cap' l ∧ Below w.heap.size w w' := by
  obtain ⟨hl1, hl2⟩ := hr.len
  have hll := length_le_szLo l
  have HR := Lib.hid hr; clear hr
  have HZ := Lib.hid hz
  have hln : l.length ≤ 1048576 := by omega
  clear hz hll
  have h0 := Lib.hid (App.empty (E := ELoss) (n := 2) (e := 37) (nd := True) w w.heap.size (w.heap.size + 1) (Nat.le_refl _) (by omega))
  go_enter Try.func15, Try.ntmps15
  go_wp2_with fail
  go_loopw [3, 5, 9] (fun q _ i wr => ∃ (j : Nat) (ar : Option Addr) (cr : Nat), (∃ g, ar = some ⟨g, 0, none⟩) ∧ j ≤ l.length ∧ i = .int .i64 j ∧ q = .slice ar (l.take j).length cr ∧ App ELoss 2 37 True wr w.heap.size wr.heap.size ar cr (l.take j) ∧ Below w.heap.size w wr) (fun _ _ i _ => l.length - (intOf i).toNat)
  case atStart => exact ⟨0, _, _, ⟨_, rfl⟩, Nat.zero_le _, rfl, rfl, by simpa using h0.out, below1 _ _⟩
  case round =>
    obtain ⟨j, ar, cr, ⟨gr, rfl⟩, hj, rfl, rfl, happ, hb⟩ := hrel
    have hbs := hb.size
    have HA := Lib.hid happ; clear happ
    have HB := Lib.hid hb; clear hb
    have hlen : (l.take j).length = j := by rw [List.length_take]; omega
    by_cases hlt : j < l.length
    · obtain ⟨b, o, a2, c2, rfl, hbl, d0, d1, hi, hq⟩ := (HR.out.below ELoss.loc HB.out hB).loss j hlt
      have hlb : b < wr.heap.size := by omega
      have HQ := Lib.hid hq
      have HI := Lib.hid hi
      have hzj := szLo_get l j hlt
      have hzp : l[j].2.length ≤ 1048576 := by have := HZ.out; omega
      clear hq hi hzj
      have H5 := Lib.hid (below1 wr (.cells (cL l[j] a2 c2) 37))
      have hx5 := Is.new wr (cL l[j] a2 c2) 37
      have hs5 : (wr.alloc (.cells (cL l[j] a2 c2) 37)).heap.size = wr.heap.size + 1 := by simp
      go_wp2_with fail
      generalize wr.alloc (.cells (cL l[j] a2 c2) 37) = W5 at *
      obtain ⟨y0, y1⟩ := hx5.cells2
      have lx : wr.heap.size < W5.heap.size := by omega
      have HQ5 := Lib.hid (HQ.out.below EStep.loc H5.out (by omega))
      have hsB : B ≤ W5.heap.size := by omega
      have hsW : w.heap.size ≤ W5.heap.size := by omega
      have HK := Lib.hid (fun k hk => (HA.out.row k hk).2)
      clear d0 d1
      refine wp_region_held_drew (S := fun w' => (∀ b o, (b < w.heap.size ∨ b = wr.heap.size) → w'.cell? ⟨b, o, none⟩ = W5.cell? ⟨b, o, none⟩) ∧ Below (w.heap.size) W5 w') (by kernel_rfl) (by first | exact ⟨fun _ _ _ => rfl, (Below.refl _ _).drew⟩ | exact keep_stepX (by assumption) (by assumption) (by first | omega | (simp only [World.size_drew]; omega) | (simp only [size_alloc]; omega) | (simp only [World.size_drew, size_alloc]; omega) | (have := (‹(_ ∧ Below (w.heap.size) W5 _)›).2.size; first | omega | (simp only [World.size_drew]; omega) | (simp only [size_alloc]; omega) | (simp only [World.size_drew, size_alloc]; omega) | (simp only [World.size_drew] at this; omega) | (simp only [size_alloc] at this; omega) | (simp only [World.size_drew, size_alloc] at this; omega))) (by first | omega | (simp only [World.size_drew]; omega) | (simp only [size_alloc]; omega) | (simp only [World.size_drew, size_alloc]; omega) | (have := (‹(_ ∧ Below (w.heap.size) W5 _)›).2.size; first | omega | (simp only [World.size_drew]; omega) | (simp only [size_alloc]; omega) | (simp only [World.size_drew, size_alloc]; omega) | (simp only [World.size_drew] at this; omega) | (simp only [size_alloc] at this; omega) | (simp only [World.size_drew, size_alloc] at this; omega)))) (fun hHeld => ?_)
      refine wpAnyH_take (i := 0) (oi := ⟨some 13, _, _, _, _, _⟩) (v := ?_) rfl (by kernel_rfl) (by kernel_rfl) (by kernel_rfl) (fun _ _ _ h => h) (Or.inl ⟨by rfl, ?_⟩) (by assumption) ?_
      rotate_left 1
      · (intro w hSw; (try dsimp only at hSw); go_simp; try (with_reducible rfl))
      try simp only [Act.put, List.setIfInBounds_toArray, List.set_cons_zero, List.set_cons_succ]
      refine wpAnyH_take (i := 1) (oi := ⟨some 14, _, _, _, _, _⟩) (v := ?_) rfl (by kernel_rfl) (by kernel_rfl) (by kernel_rfl) (fun _ _ _ h => h) (Or.inl ⟨by rfl, ?_⟩) (by assumption) ?_
      rotate_left 1
      · (intro w hSw; (try dsimp only at hSw); go_simp; try (with_reducible rfl))
      try simp only [Act.put, List.setIfInBounds_toArray, List.set_cons_zero, List.set_cons_succ]
      refine wpAnyH_take (i := 2) (oi := ⟨some 15, _, _, _, _, _⟩) (v := ?_) rfl (by kernel_rfl) (by kernel_rfl) (by kernel_rfl) (fun _ _ _ h => h) (Or.inl ⟨by rfl, ?_⟩) (by assumption) ?_
      rotate_left 1
      · (intro w hSw; (try dsimp only at hSw); go_simp; try (with_reducible rfl))
      try simp only [Act.put, List.setIfInBounds_toArray, List.set_cons_zero, List.set_cons_succ]
      refine wpAnyH_take (i := 3) (oi := ⟨some 16, _, _, _, _, _⟩) (v := ?_) rfl (by kernel_rfl) (by kernel_rfl) (by kernel_rfl) (fun _ _ _ h => h) (Or.inl ⟨by rfl, ?_⟩) (by assumption) ?_
      rotate_left 1
      · (intro w hSw; (try dsimp only at hSw); go_simp; try (with_reducible rfl))
      try simp only [Act.put, List.setIfInBounds_toArray, List.set_cons_zero, List.set_cons_succ]
      refine wpAnyH_take (i := 4) (oi := ⟨some 17, _, _, _, _, _⟩) (v := ?_) rfl (by kernel_rfl) (by kernel_rfl) (by kernel_rfl) (fun _ _ _ h => h) (Or.inl ⟨by rfl, ?_⟩) (by assumption) ?_
      rotate_left 1
      · (intro w hSw; (try dsimp only at hSw); go_simp; try (with_reducible rfl))
      try simp only [Act.put, List.setIfInBounds_toArray, List.set_cons_zero, List.set_cons_succ]
      refine wpAnyH_ready (rs := [5]) (by kernel_rfl) (by simp) ?_
      refine AllReadyH.cons (o := ⟨some 18, _, _, _, _, _⟩) rfl (fun K hK => ?_) AllReadyH.nil
      go_simp
      (first | (go_at_call 25; refine (cloneSteps l[j].2 a2 c2 B _ (HQ5.out.below EStep.loc (‹_ ∧ Below (w.heap.size) W5 _›).2 hB) (Nat.le_trans (by omega) (‹_ ∧ Below (w.heap.size) W5 _›).2.size) hzp).mono ?_; rintro e w3 ⟨a3, c3, rfl, ho3, hb3⟩; have HB3 := Lib.hid (show Below W5.heap.size W5 w3 from (Below.refl _ _).drew.trans hb3); obtain ⟨G, g1, g2, g3⟩ := ho3; have HG1 := Lib.hid g1; have HG2 := Lib.hid g2; have HG3 := Lib.hid g3) | (obtain ⟨ar2, cr2, w6, hrun, happ6, hb6, hout6, hsz6⟩ := run_app (P := Try.prog) (w3.alloc (.cells #[.int .i64 l[j].1, .slice a3 l[j].2.length c3] 37)) ELoss.elem 24 24 (.agg #[.int .i64 0, .slice none 0 0]) 32 Try.underlying24 info_Loss rfl w.heap.size wr.heap.size (some ⟨gr, 0, none⟩) cr (l.take j) (((HA.out.below ELoss.elem H5.out (Nat.le_refl _)).below ELoss.elem HB3.out (by omega)).below ELoss.elem (below1 w3 _) (by have := HB3.out.size; omega)) (by have := HB3.out.size; simp; omega) (by have := HB.out.size; omega) (some ⟨w3.heap.size, 0, none⟩) 1 [l[j]] G (Srcs.one ⟨(Is.new w3 _ _).cell 0 rfl, HI.out, a3, c3, (Is.new w3 _ _).cell 1 rfl, HG1.out.agree EStep.loc (fun f hf => (below1 w3 _).block f (HG3.out f hf).2.1)⟩) HG2.out (fun f hf => ⟨by have := (HG3.out f hf).1; simp only [World.size_drew] at this; omega, by have := (HG3.out f hf).2.1; simp; omega, (HG3.out f hf).2.2.alloc _⟩) (by rw [hlen]; simp [maxLen]; omega) (by rw [hlen]; simp; omega); rw [hlen] at hrun; refine step_append_run _ rfl _ _ _ _ rfl _ _ rfl rfl _ _ hrun ?_; have hx6 := hout6 wr.heap.size (by have := HB3.out.size; simp only [size_alloc]; omega) (fun k hk e => by have := HK.out k hk; omega)))
      go_wp2_with fail
      refine hK.out _ _ (by first | exact ⟨fun _ _ _ => rfl, (Below.refl _ _).drew⟩ | exact keep_stepX (by assumption) (by assumption) (by first | omega | (simp only [World.size_drew]; omega) | (simp only [size_alloc]; omega) | (simp only [World.size_drew, size_alloc]; omega) | (have := (‹(_ ∧ Below (w.heap.size) W5 _)›).2.size; first | omega | (simp only [World.size_drew]; omega) | (simp only [size_alloc]; omega) | (simp only [World.size_drew, size_alloc]; omega) | (simp only [World.size_drew] at this; omega) | (simp only [size_alloc] at this; omega) | (simp only [World.size_drew, size_alloc] at this; omega))) (by first | omega | (simp only [World.size_drew]; omega) | (simp only [size_alloc]; omega) | (simp only [World.size_drew, size_alloc]; omega) | (have := (‹(_ ∧ Below (w.heap.size) W5 _)›).2.size; first | omega | (simp only [World.size_drew]; omega) | (simp only [size_alloc]; omega) | (simp only [World.size_drew, size_alloc]; omega) | (simp only [World.size_drew] at this; omega) | (simp only [size_alloc] at this; omega) | (simp only [World.size_drew, size_alloc] at this; omega)))) (fun hHeld => ?_)
      clear hK K
      try simp only [Act.put, List.setIfInBounds_toArray, List.set_cons_zero, List.set_cons_succ]
      refine wpAnyH_take (i := 6) (oi := ⟨some 19, _, _, _, _, _⟩) (v := ?_) rfl (by kernel_rfl) (by kernel_rfl) (by kernel_rfl) (fun _ _ _ h => h) (Or.inl ⟨by rfl, ?_⟩) (by assumption) ?_
      rotate_left 1
      · (intro w hSw; (try dsimp only at hSw); go_simp; try (with_reducible rfl))
      try simp only [Act.put, List.setIfInBounds_toArray, List.set_cons_zero, List.set_cons_succ]
      refine wpAnyH_ready (rs := [7]) (by kernel_rfl) (by simp) ?_
      refine AllReadyH.cons (o := ⟨some 20, _, _, _, _, _⟩) rfl (fun K hK => ?_) AllReadyH.nil
      focus (go_simp; go_wp2_with fail; refine hK.out _ _ (by exact keep_stepX (by assumption) (below1 _ _) (by first | omega | (simp only [World.size_drew]; omega) | (simp only [size_alloc]; omega) | (simp only [World.size_drew, size_alloc]; omega) | (have := (‹(_ ∧ Below (w.heap.size) W5 _)›).2.size; first | omega | (simp only [World.size_drew]; omega) | (simp only [size_alloc]; omega) | (simp only [World.size_drew, size_alloc]; omega) | (simp only [World.size_drew] at this; omega) | (simp only [size_alloc] at this; omega) | (simp only [World.size_drew, size_alloc] at this; omega))) (by first | omega | (simp only [World.size_drew]; omega) | (simp only [size_alloc]; omega) | (simp only [World.size_drew, size_alloc]; omega) | (have := (‹(_ ∧ Below (w.heap.size) W5 _)›).2.size; first | omega | (simp only [World.size_drew]; omega) | (simp only [size_alloc]; omega) | (simp only [World.size_drew, size_alloc]; omega) | (simp only [World.size_drew] at this; omega) | (simp only [size_alloc] at this; omega) | (simp only [World.size_drew, size_alloc] at this; omega)))) (fun hHeld => ?_); clear hK K; try simp only [Act.put, List.setIfInBounds_toArray, List.set_cons_zero, List.set_cons_succ])
      refine wpAnyH_ready (rs := [8]) (by kernel_rfl) (by simp) ?_
      refine AllReadyH.cons (o := ⟨some 21, _, _, _, _, _⟩) rfl (fun K hK => ?_) AllReadyH.nil
      focus ((first | (go_at_call 25; refine (cloneSteps l[j].2 a2 c2 B _ (HQ5.out.below EStep.loc (‹_ ∧ Below (w.heap.size) W5 _›).2 hB) (Nat.le_trans (by omega) (‹_ ∧ Below (w.heap.size) W5 _›).2.size) hzp).mono ?_; rintro e w3 ⟨a3, c3, rfl, ho3, hb3⟩; have HB3 := Lib.hid (show Below W5.heap.size W5 w3 from (Below.refl _ _).drew.trans hb3); obtain ⟨G, g1, g2, g3⟩ := ho3; have HG1 := Lib.hid g1; have HG2 := Lib.hid g2; have HG3 := Lib.hid g3) | (obtain ⟨ar2, cr2, w6, hrun, happ6, hb6, hout6, hsz6⟩ := run_app (P := Try.prog) (w3.alloc (.cells #[.int .i64 l[j].1, .slice a3 l[j].2.length c3] 37)) ELoss.elem 24 24 (.agg #[.int .i64 0, .slice none 0 0]) 32 Try.underlying24 info_Loss rfl w.heap.size wr.heap.size (some ⟨gr, 0, none⟩) cr (l.take j) (((HA.out.below ELoss.elem H5.out (Nat.le_refl _)).below ELoss.elem HB3.out (by omega)).below ELoss.elem (below1 w3 _) (by have := HB3.out.size; omega)) (by have := HB3.out.size; simp; omega) (by have := HB.out.size; omega) (some ⟨w3.heap.size, 0, none⟩) 1 [l[j]] G (Srcs.one ⟨(Is.new w3 _ _).cell 0 rfl, HI.out, a3, c3, (Is.new w3 _ _).cell 1 rfl, HG1.out.agree EStep.loc (fun f hf => (below1 w3 _).block f (HG3.out f hf).2.1)⟩) HG2.out (fun f hf => ⟨by have := (HG3.out f hf).1; simp only [World.size_drew] at this; omega, by have := (HG3.out f hf).2.1; simp; omega, (HG3.out f hf).2.2.alloc _⟩) (by rw [hlen]; simp [maxLen]; omega) (by rw [hlen]; simp; omega); rw [hlen] at hrun; refine step_append_run _ rfl _ _ _ _ rfl _ _ rfl rfl _ _ hrun ?_; have hx6 := hout6 wr.heap.size (by have := HB3.out.size; simp only [size_alloc]; omega) (fun k hk e => by have := HK.out k hk; omega))); refine hK.out _ _ (by exact keep_stepY (by assumption) (by assumption) (by assumption)) (fun hHeld => ?_); clear hK K; try simp only [Act.put, List.setIfInBounds_toArray, List.set_cons_zero, List.set_cons_succ])
      refine wpAnyH_take (i := 9) (oi := ⟨some 3, _, _, _, _, _⟩) (v := ?_) rfl (by kernel_rfl) (by kernel_rfl) (by kernel_rfl) (fun _ _ _ h => h) (Or.inl ⟨by rfl, ?_⟩) (by assumption) ?_
      rotate_left 1
      · (intro w hSw; (try dsimp only at hSw); go_simp; try (with_reducible rfl))
      try simp only [Act.put, List.setIfInBounds_toArray, List.set_cons_zero, List.set_cons_succ]
      refine wpAnyH_done (by kernel_rfl) ?_ _
      all_goals
        have HB6 := Lib.hid (show Below w.heap.size W5 _ from (‹_ ∧ Below (w.heap.size) W5 _›).2)
        go_wp2_with fail
        go_roundw
        case rel => exact ⟨j + 1, ar2, cr2, App.some happ6 (List.append_ne_nil_of_right_ne_nil _ (by simp)), by omega, by go_num, by rw [List.length_take], by rw [take_snoc l j hlt]; exact happ6, (HB.out.trans (H5.out.mono (by omega))).trans HB6.out⟩
        case measure => simp [intOf]; omega
    · have hjj : l.length = j := by omega
      rw [← hjj, List.take_length] at HA ⊢
      go_wp2_with fail
      go_ret
      exact ⟨gr, cr, rfl, HA.out, HB.out⟩
theorem Sb.of_app {w : World} {cap : Nat} {l : List Lo} {g : Nat} {cur : Array Value} {F : List Nat} {e : TypeId} (hg : w.heap[g]? = some (.cells cur e (0, 0))) (hcap : l.length ≤ cap) (hcs : cur.size = cap * 2) (hrow : Row ELoss 2 w g 0 l F) (hgF : g ∉ F) (hF : ∀ f ∈ F, f < w.heap.size) : Sb w g e (cap * 2) F w l :=
  ⟨Touch.refl _ _, ⟨cur, hg, hcs⟩, (Array.getElem?_eq_some_iff.1 hg).1, Nat.mul_le_mul_right 2 hcap, ⟨F, hrow, List.Perm.refl _⟩, hgF, hF⟩
theorem sb_ow {w0 w : World} {b : Nat} {e : TypeId} {N lo hi cap : Nat} {F0 : List Nat} {L : List Lo} (h : Sb w0 b e N F0 w L) (hN : N = cap * 2) (hc : cap ≤ maxLen) (hnd : F0.Nodup) (hlo : lo ≤ b) (hbh : b < hi) (hF : ∀ f ∈ F0, lo ≤ f ∧ f < hi ∧ Unf w0 f) : Ow ELoss 2 w lo hi (some ⟨b, 0, none⟩) cap L := by
  obtain ⟨h1, h2, h3, h4, ⟨F, h5, h6⟩, h7, h8⟩ := h
  by_cases hL : L = []
  · subst hL; exact Ow.nil _ _ _ _ _ hc
  · refine ⟨b :: F, ⟨by omega, hc, fun h => absurd h hL, fun _ => ⟨b, 0, F, rfl, rfl, h5⟩⟩, List.nodup_cons.2 ⟨fun hm => h7 (h6.mem_iff.1 hm), h6.nodup_iff.2 hnd⟩, ?_⟩
    intro f hf
    rcases List.mem_cons.1 hf with rfl | hf
    · exact ⟨hlo, hbh, h2.unf⟩
    · obtain ⟨k1, k2, k3⟩ := hF f (h6.mem_iff.1 hf)
      exact ⟨k1, k2, h1.unf f k3⟩
theorem sortStable (l : List Lo) (cap : Nat) (w : World) {w0 : World} {b : Nat} {e : TypeId} {N : Nat} {F0 : List Nat} (hc : l.length ≤ cap) (hn : l.length ≤ 1048576) (h : Sb w0 b e N F0 w l) :
    Calls Try.prog 16 #[.slice (some ⟨b, 0, none⟩) l.length cap, .func (.func 17) #[] #[]] w fun ee w' => ee = .returned (.tuple #[]) ∧ ∃ L', L'.Perm l ∧ Sorted L' ∧ Sb w0 b e N F0 w' L' := by
  have HS := Lib.hid h; clear h
  go_enter Try.func16, Try.ntmps16
  go_wp2_with fail
  refine (stable l l.length cap w rfl hc (by omega) HS.out).mono ?_
  rintro ee w2 ⟨rfl, h⟩
  have H := Lib.hid h; clear h
  go_wp2_with fail
  go_end0
  exact ⟨rfl, H.out⟩
set_option maxHeartbeats 4000000 in
theorem impl_SortLosses (l : List Lo) (a : Option Addr) (cap B : Nat) (w : World) (hr : Rd ELoss 2 w B a cap l) (hz : szLo l ≤ 1048576) (hB : B ≤ w.heap.size) :
    Calls Try.prog 7 #[.slice a l.length cap] w fun ee w' => ∃ a' cap', ee = .returned (.slice a' (srtL l).length cap') ∧ Ow ELoss 2 w' w.heap.size w'.heap.size a' cap' (srtL l) ∧ Below w.heap.size w w' := by
  have HR := Lib.hid hr; clear hr
  have hll := length_le_szLo l
  have HL := Lib.hid (srtL_length l)
  go_enter Try.func7, Try.ntmps7
  go_wp2_with fail
  refine (impl_copyLosses l a cap B w HR.out hB hz).mono ?_
  rintro ee w2 ⟨g, c2, rfl, happ, hb2⟩
  rcases happ with ⟨h, _⟩ | ⟨g', cur, F, hg', k1, k2, k3, k4, k5, k6, k7, k8, k9, k10⟩
  · cases h
  injection hg' with hg'
  injection hg' with hg'
  subst hg'
  have HSB := Lib.hid (Sb.of_app k3 k4 k6 k7 k8 (fun f hf => (k10 f hf).2.1))
  have HF := Lib.hid (And.intro (k9 trivial) k10)
  have HG := Lib.hid (And.intro k1 k2)
  have HB2 := Lib.hid hb2
  have HC := Lib.hid k5
  have hn4 : l.length ≤ c2 := k4
  have hln : l.length ≤ 1048576 := by omega
  clear k1 k2 k3 k4 k5 k6 k7 k8 k9 k10 hb2
  go_wp2_with fail
  refine (sortStable l c2 w2 hn4 hln HSB.out).mono ?_
  rintro ee w3 ⟨rfl, L', p1, p2, hs⟩
  have he := srtL_eq p1 p2
  subst he
  have HS := Lib.hid hs
  have ht := hs.touch
  have HT := Lib.hid ht
  clear hs ht p1 p2
  rw [← HL.out]
  go_wp2_with fail
  go_ret
  refine ⟨_, c2, rfl, ?_, ?_⟩
  · exact sb_ow HS.out rfl HC.out HF.out.1 HG.out.1 (by have := HT.out.size; have := HG.out.2; omega) (fun f hf => ⟨(HF.out.2 f hf).1, by have := HT.out.size; have := (HF.out.2 f hf).2.1; omega, (HF.out.2 f hf).2.2⟩)
  · exact HB2.out.trans (HT.out.below HB2.out.size (fun f hf => by rw [List.mem_singleton.1 hf]; exact HG.out.1))
end Go.Proofs.Ytmajklgjmghjlaa
