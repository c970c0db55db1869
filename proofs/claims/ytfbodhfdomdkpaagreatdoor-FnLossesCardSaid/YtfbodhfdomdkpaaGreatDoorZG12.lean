/- Texts of this proof, merged: SortS. No condition beyond what each theorem states. -/
import Derived.Test.YtfbodhfdomdkpaaGreatDoorRows
import Derived.WalkKit
import Derived.ProofKit
import Derived.OpenShut
import Derived.Handy
import Derived.Lib.Hide
import Derived.Lib.SmallJoins
import Derived.Deep.RegionHeld3
import Derived.Deep.QuietTactic
import Derived.BigQuiet
import Derived.BigRegion
import Derived.Deep.RegionLaw
import Derived.Lib.SliceRun
import Derived.Deep.CutBlock
import Derived.Deep.DeepCutAuto
import Derived.Test.YtfbodhfdomdkpaaGreatDoorZG1
import Derived.Test.YtfbodhfdomdkpaaGreatDoorZG2
import Derived.Test.YtfbodhfdomdkpaaGreatDoorZG3
import Derived.Test.YtfbodhfdomdkpaaGreatDoorZG4
import Derived.Test.YtfbodhfdomdkpaaGreatDoorZG8
import Derived.Test.YtfbodhfdomdkpaaGreatDoorZG7
import Derived.Test.YtfbodhfdomdkpaaGreatDoorZG5
set_option linter.unusedSimpArgs false
set_option linter.unnecessarySimpa false
namespace Go.Proofs.YtfbodhfdomdkpaaGreatDoor
open Go.ChangeShapes Go.WideShapes Go.ChangeAt Go.RowKit Go.Joins
set_option linter.unusedVariables false
set_option maxRecDepth 100000
set_option maxHeartbeats 4000000 in
theorem spec_l18Copy (x : Lo) (a : Option Addr) (cap B : Nat) (w : World) (hr : Rd EStep 2 w B a cap x.2) (hB : B ≤ w.heap.size) (hz : x.2.length ≤ 1048576) :
    Calls Tryz.prog 79 #[.agg (cL x a cap)] w fun ee w' => ∃ a' cap', ee = .returned (.agg (cL x a' cap')) ∧ Ow EStep 2 w' w.heap.size w'.heap.size a' cap' x.2 ∧ Below w.heap.size w w' := by
  obtain ⟨hl1, hl2⟩ := hr.len
  have HR := Lib.hid hr
  clear hr
  go_enter Tryz.func79, Tryz.ntmps79
  go_wp2_with fail
  generalize hW : (w.alloc (Obj.cells (cL x a cap) 29)).alloc (Obj.cells #[Value.int IntKind.i64 0, Value.slice none 0 0] 29) = W0
  have q1 : Is W0 w.heap.size 29 (cL x a cap) := by subst hW; exact (Is.new _ _ _).alloc _
  have q2 : Is W0 (w.heap.size + 1) 29 #[Value.int IntKind.i64 0, Value.slice none 0 0] := by subst hW; exact Is.new2 _ _ _ _
  have H0 := Lib.hid (show Below w.heap.size w W0 from by subst hW; exact below2 _ _ _)
  have hs0 : W0.heap.size = w.heap.size + 2 := by subst hW; simp
  clear hW
  have HR0 := Lib.hid (HR.out.below EStep.loc H0.out hB)
  obtain ⟨x0, x1⟩ := q1.cells2
  have Q2 := Lib.hid q2
  have hf2 := fun i => q2.frozen i
  have hl1 : w.heap.size < W0.heap.size := by omega
  have hl2 : w.heap.size + 1 < W0.heap.size := by omega
  have HS0 := Lib.hid hs0
  clear q1 q2 hs0
  refine wp_region_held_drew (S := fun w' => (∀ b o, b < w.heap.size + 1 → w'.cell? ⟨b, o, none⟩ = W0.cell? ⟨b, o, none⟩) ∧ Below (w.heap.size + 1) W0 w') (by kernel_rfl) (by first | exact ⟨fun _ _ _ => rfl, (Below.refl _ _).drew⟩ | exact keep_step (by assumption) (Below.drew (Below.refl _ _)) (Nat.le_refl _) | exact keep_step (by assumption) (by assumption) (by first | omega | ((try simp only [World.size_drew, size_alloc]); omega) | (have := (‹(_ ∧ Below (w.heap.size + 1) W0 _)›).2.size; (try simp only [World.size_drew, size_alloc] at this ⊢); omega))) (fun hHeld => ?_)
  refine wpAnyH_take (i := 0) (oi := ⟨some 3, _, _, _, _, _⟩) (v := ?_) rfl (by kernel_rfl) (by kernel_rfl) (by kernel_rfl) (fun _ _ _ h => h) (Or.inl ⟨by rfl, ?_⟩) (by assumption) ?_
  rotate_left 1
  · (intro w hSw; (try dsimp only at hSw); go_simp; try (with_reducible rfl))
  try simp only [Act.put, List.setIfInBounds_toArray, List.set_cons_zero, List.set_cons_succ]
  refine wpAnyH_take (i := 1) (oi := ⟨some 4, _, _, _, _, _⟩) (v := ?_) rfl (by kernel_rfl) (by kernel_rfl) (by kernel_rfl) (fun _ _ _ h => h) (Or.inl ⟨by rfl, ?_⟩) (by assumption) ?_
  rotate_left 1
  · (intro w hSw; (try dsimp only at hSw); go_simp; try (with_reducible rfl))
  try simp only [Act.put, List.setIfInBounds_toArray, List.set_cons_zero, List.set_cons_succ]
  refine wpAnyH_take (i := 3) (oi := ⟨some 6, _, _, _, _, _⟩) (v := ?_) rfl (by kernel_rfl) (by kernel_rfl) (by kernel_rfl) (fun _ _ _ h => h) (Or.inl ⟨by rfl, ?_⟩) (by assumption) ?_
  rotate_left 1
  · (intro w hSw; (try dsimp only at hSw); go_simp; try (with_reducible rfl))
  try simp only [Act.put, List.setIfInBounds_toArray, List.set_cons_zero, List.set_cons_succ]
  refine wpAnyH_take (i := 4) (oi := ⟨some 7, _, _, _, _, _⟩) (v := ?_) rfl (by kernel_rfl) (by kernel_rfl) (by kernel_rfl) (fun _ _ _ h => h) (Or.inl ⟨by rfl, ?_⟩) (by assumption) ?_
  rotate_left 1
  · (intro w hSw; (try dsimp only at hSw); go_simp; try (with_reducible rfl))
  try simp only [Act.put, List.setIfInBounds_toArray, List.set_cons_zero, List.set_cons_succ]
  refine wpAnyH_ready (rs := [2]) (by kernel_rfl) (by simp) ?_
  refine AllReadyH.cons (o := ⟨some 5, _, _, _, _, _⟩) rfl (fun K hK => ?_) AllReadyH.nil
  go_simp
  go_wp2_with fail
  refine hK.out _ _ (by first | (with_reducible exact keep_step (by assumption) (below1 _ _) (by first | omega | ((try simp only [World.size_drew, size_alloc]); omega) | (have := (‹(_ ∧ Below (w.heap.size + 1) W0 _)›).2.size; (try simp only [World.size_drew, size_alloc] at this ⊢); omega))) | (exact keep_step (by assumption) (below1 _ _) (by first | omega | ((try simp only [World.size_drew, size_alloc]); omega) | (have := (‹(_ ∧ Below (w.heap.size + 1) W0 _)›).2.size; (try simp only [World.size_drew, size_alloc] at this ⊢); omega)))) (fun hHeld => ?_)
  clear hK K
  try simp only [Act.put, List.setIfInBounds_toArray, List.set_cons_zero, List.set_cons_succ]
  refine wpAnyH_ready (rs := [5]) (by kernel_rfl) (by simp) ?_
  refine AllReadyH.cons (o := ⟨some 8, _, _, _, _, _⟩) rfl (fun K hK => ?_) AllReadyH.nil
  focus (((obtain ⟨a3, c3, w6, hrun, happ6, hb6, hout6, hrow6, hsz6⟩ := run_appL (P := Tryz.prog) (W0.drew.alloc (.cells #[] 79)) EStep.elem 27 27 (.agg #[.int .i64 0, .bool false]) 16 Tryz.underlying27 info_Step rfl W0.heap.size (some ⟨W0.heap.size, 0, none⟩) 0 [] [] (AppL.empty W0.drew W0.heap.size (by simp)) (by simp) (by simp) a cap x.2 [] ((HR0.out.below EStep.loc (B' := W0.heap.size) ((Below.refl _ _).drew.trans (below1 W0.drew _)) (by omega)).srcs EStep.flat) (by simp) (by simp [maxLen]; omega) (by simp; omega); have q6 := (Q2.out.below (n := W0.heap.size) ((Below.refl _ _).drew.trans (below1 W0.drew (.cells #[] 79))) hl2).below hb6 hl2; have ff6 := fun i => q6.frozen i; obtain ⟨z0, z1⟩ := q6.cells2; have hl6 : w.heap.size + 1 < w6.heap.size := q6.lt; have Q6 := Lib.hid q6; clear q6; refine step_append_run _ rfl _ _ _ _ rfl _ _ rfl rfl _ _ hrun ?_)); refine hK.out _ _ (by first | (with_reducible exact keep_step (by assumption) (by assumption) (by first | omega | ((try simp only [World.size_drew, size_alloc]); omega) | (have := (‹(_ ∧ Below (w.heap.size + 1) W0 _)›).2.size; (try simp only [World.size_drew, size_alloc] at this ⊢); omega))) | first | exact ⟨fun _ _ _ => rfl, (Below.refl _ _).drew⟩ | exact keep_step (by assumption) (Below.drew (Below.refl _ _)) (Nat.le_refl _) | exact keep_step (by assumption) (by assumption) (by first | omega | ((try simp only [World.size_drew, size_alloc]); omega) | (have := (‹(_ ∧ Below (w.heap.size + 1) W0 _)›).2.size; (try simp only [World.size_drew, size_alloc] at this ⊢); omega))) (fun hHeld => ?_); clear hK K; try simp only [Act.put, List.setIfInBounds_toArray, List.set_cons_zero, List.set_cons_succ])
  refine wpAnyH_take (i := 6) (oi := ⟨some 9, _, _, _, _, _⟩) (v := ?_) rfl (by kernel_rfl) (by kernel_rfl) (by kernel_rfl) (fun _ _ _ h => h) (Or.inl ⟨by rfl, ?_⟩) (by assumption) ?_
  rotate_left 1
  · (intro w hSw; (try dsimp only at hSw); go_simp; try (with_reducible rfl))
  try simp only [Act.put, List.setIfInBounds_toArray, List.set_cons_zero, List.set_cons_succ]
  refine wpAnyH_ready (rs := [7]) (by kernel_rfl) (by simp) ?_
  refine AllReadyH.cons (o := ⟨none, _, _, _, _, _⟩) rfl (fun K hK => ?_) AllReadyH.nil
  focus (go_simp; go_wp2_with fail; refine hK.out _ _ (by exact keep_step (by assumption) (below2s _ _ _ _) (by omega)) (fun hHeld => ?_); clear hK K; try simp only [Act.put])
  refine wpAnyH_done (by kernel_rfl) ?_ _
  have HB6 := Lib.hid (show Below (w.heap.size + 1) W0 _ from (‹_ ∧ Below (w.heap.size + 1) W0 _›).2)
  have HA6 := Lib.hid happ6
  obtain ⟨e0, e1⟩ := ((Q6.out.set 0 (.int .i64 x.1)).set 1 (.slice a3 x.2.length c3)).cells2
  clear z0 z1 ff6
  go_wp2_with fail
  refine bodyPost_ret (v := .agg (cL x a3 c3)) (by simp [results, Tryz.results79, go_sem, e0, e1]) rfl ⟨a3, c3, rfl, ?_, ?_⟩
  · rw [size_set, size_set]
    exact ((HA6.out.own (lo := W0.heap.size) (by simp) (Nat.le_refl _) (by simp)).agree EStep.loc (fun f h1 h2 => by rw [heap_miss _ _ _ _ (by omega), heap_miss _ _ _ _ (by omega)])).more (by omega) (Nat.le_refl _)
  · exact H0.out.trans (HB6.out.mono (by omega))
theorem sfin1 {L l : List Lo} {k : Nat} {x : Lo} {m : List Lo} (h : L.Perm l) (hm : m = l ++ [x]) : ([] ++ L.take k ++ [x] ++ L.drop k).Perm m := by
  subst hm
  rw [List.nil_append, List.append_assoc, List.singleton_append]
  refine List.perm_middle.trans ?_
  rw [List.take_append_drop]
  exact (List.Perm.cons x h).trans (List.perm_append_singleton x l).symm
theorem sfin2 {wr w6 : World} {F F1 F2 G : List Nat} (B : Nat) (hn : F.Nodup) (hF : ∀ f ∈ F, B ≤ f ∧ Unf wr f) (hFF : F = F1 ++ F2) (hG : G.Nodup) (hGG : ∀ f ∈ G, wr.heap.size ≤ f ∧ True) (hu : ∀ f, f < wr.heap.size → w6.heap[f]? = wr.heap[f]?) (hug : ∀ f ∈ G, Unf w6 f) (hB : B ≤ wr.heap.size) :
    ([] ++ F1 ++ G ++ F2).Nodup ∧ ∀ f ∈ [] ++ F1 ++ G ++ F2, B ≤ f ∧ Unf w6 f := by
  subst hFF
  have hp : ([] ++ F1 ++ G ++ F2).Perm (G ++ (F1 ++ F2)) := by
    refine List.perm_iff_count.2 (fun z => ?_)
    simp only [List.count_append, List.count_nil]; omega
  refine ⟨hp.nodup_iff.2 (List.nodup_append.2 ⟨hG, hn, ?_⟩), ?_⟩
  · intro a ha b hb e
    subst e
    have := (hGG a ha).1
    have := (hF a hb).2.lt
    omega
  · intro f hf
    rcases List.mem_append.1 (hp.mem_iff.1 hf) with hf | hf
    · exact ⟨by have := (hGG f hf).1; omega, hug f hf⟩
    · exact ⟨(hF f hf).1, (hF f hf).2.agree (hu f (hF f hf).2.lt)⟩
set_option maxHeartbeats 8000000 in
theorem spec_SortLosses (l : List Lo) (a : Option Addr) (cap B : Nat) (w : World) (hr : Rd ELoss 2 w B a cap l) (hz : szLo l ≤ 1048576) (hB : B ≤ w.heap.size) :
    Calls Tryz.prog 19 #[.slice a l.length cap] w fun ee w' => ∃ a' cap', ee = .returned (.slice a' (srtL l).length cap') ∧ Ow ELoss 2 w' w.heap.size w'.heap.size a' cap' (srtL l) ∧ Below w.heap.size w w' := by
  obtain ⟨hl1, hl2⟩ := hr.len
  have hll := length_le_szLo l
  have HR := Lib.hid hr; clear hr
  have HZ := Lib.hid hz
  have hln : l.length ≤ 1048576 := by omega
  have HL := Lib.hid (srtL_length l)
  clear hz hll
  go_enter Tryz.func19, Tryz.ntmps19
  go_wp2_with fail
  go_loopw [3, 4, 5, 6] (fun q i _ _ wr => ∃ (j : Nat) (L : List Lo) (g cr rlo : Nat) (F : List Nat), j ≤ l.length ∧ i = .int .i64 j ∧ q = .slice (some ⟨g, 0, none⟩) L.length cr ∧ Hid (AppL ELoss 2 29 wr rlo (some ⟨g, 0, none⟩) cr L F) ∧ rlo ≤ wr.heap.size ∧ w.heap.size ≤ rlo ∧ Hid (F.Nodup ∧ ∀ f ∈ F, w.heap.size ≤ f ∧ Unf wr f) ∧ Hid (L.Perm (l.take j)) ∧ Hid (Sorted L) ∧ Hid (Below w.heap.size w wr)) (fun _ i _ _ _ => l.length - (intOf i).toNat)
  case atStart => exact ⟨0, [], w.heap.size, 0, w.heap.size, [], Nat.zero_le _, rfl, rfl, Lib.hid (AppL.empty w w.heap.size (Nat.le_refl _)), by simp, Nat.le_refl _, Lib.hid (by simp), Lib.hid (List.Perm.refl _), Lib.hid List.Pairwise.nil, Lib.hid (below1 _ _)⟩
  case round =>
    obtain ⟨j, L, g, cr, rlo, F, hj, rfl, rfl, HA, hrl, hwr, HF, HP, HS, HB⟩ := hrel
    by_cases hlt : j < l.length
    · have hLj : L.length = j := by have := HP.out.length_eq; rw [List.length_take] at this; omega
      obtain ⟨b, o, a2, c2, rfl, hbl, d0, d1, hi, hq⟩ := (HR.out.below ELoss.loc HB.out hB).loss j hlt
      have hbs := HB.out.size
      have hlb : b < wr.heap.size := by omega
      have HQ := Lib.hid (hq.more (show B ≤ wr.heap.size by omega))
      have HI := Lib.hid hi
      have hzp : l[j].2.length ≤ 1048576 := by have := szLo_get l j hlt; have := HZ.out; omega
      obtain ⟨hc1, hc2⟩ := HA.out.cap
      have HLJ := Lib.hid hLj
      have hLn : L.length ≤ 1048576 := by omega
      clear hq hi hLj
      go_wp2_with fail
      go_loopw [5] (fun kv wi => ∃ (k : Nat), kv = .int .i64 k ∧ k ≤ L.length ∧ Hid (∀ y ∈ L.drop k, lessL l[j] y = true) ∧ Hid (Below wr.heap.size wr wi)) (fun kv _ => (intOf kv).toNat)
      case atStart => exact ⟨L.length, rfl, Nat.le_refl _, Lib.hid (by simp), Lib.hid (Below.refl _ _)⟩
      case round =>
        rename World => wi
        obtain ⟨k, rfl, hk, HK, HBi⟩ := hrel
        have hbi := HBi.out.size
        have hbi2 : b < wi.heap.size := by omega
        have e0 := (HBi.out.cell (p := ⟨b, o + j * 2, none⟩) hlb).trans d0
        have e1 := (HBi.out.cell (p := ⟨b, o + j * 2 + 1, none⟩) hlb).trans d1
        have HQi := Lib.hid (HQ.out.below EStep.loc HBi.out (Nat.le_refl _))
        obtain ⟨bb, hbb⟩ : ∃ bb, (decide (0 < k) && lessL l[j] (L.getD (k - 1) (0, []))) = bb := ⟨_, rfl⟩
        have HBB := Lib.hid hbb; clear hbb
        go_upto_region 6 with (fail)
        go_cut [29] (fun cv wx => cv = .bool bb ∧ Hid (Below wi.heap.size wi wx))
        case first =>
          by_cases k0 : k = 0
          · subst k0
            refine wp_region_held_drew (S := fun w' => (∀ b o, b < wi.heap.size → w'.cell? ⟨b, o, none⟩ = wi.cell? ⟨b, o, none⟩) ∧ Below (wi.heap.size) wi w') (by kernel_rfl) (by first | exact ⟨fun _ _ _ => rfl, (Below.refl _ _).drew⟩ | exact keep_step (by assumption) (Below.drew (Below.refl _ _)) (Nat.le_refl _) | exact keep_step (by assumption) (by assumption) (by first | omega | ((try simp only [World.size_drew, size_alloc]); omega) | (have := (‹(_ ∧ Below (wi.heap.size) wi _)›).2.size; (try simp only [World.size_drew, size_alloc] at this ⊢); omega))) (fun hHeld => ?_)
            refine wpAnyH_take (i := 0) (oi := ⟨some 16, _, _, _, _, _⟩) (v := ?_) rfl (by kernel_rfl) (by kernel_rfl) (by kernel_rfl) (fun _ _ _ h => h) (Or.inl ⟨by rfl, ?_⟩) (by assumption) ?_
            rotate_left 1
            · (intro w hSw; (try dsimp only at hSw); go_simp; try (with_reducible rfl))
            try simp only [Act.put, List.setIfInBounds_toArray, List.set_cons_zero, List.set_cons_succ]
            refine wpAnyH_take (i := 1) (oi := ⟨some 17, _, _, _, _, _⟩) (v := ?_) rfl (by kernel_rfl) (by kernel_rfl) (by kernel_rfl) (fun _ _ _ h => h) (Or.inl ⟨by rfl, ?_⟩) (by assumption) ?_
            rotate_left 1
            · (intro w hSw; (try dsimp only at hSw); go_simp; try (with_reducible rfl))
            try simp only [Act.put, List.setIfInBounds_toArray, List.set_cons_zero, List.set_cons_succ]
            refine wpAnyH_take (i := 2) (oi := ⟨some 18, _, _, _, _, _⟩) (v := ?_) rfl (by kernel_rfl) (by kernel_rfl) (by kernel_rfl) (fun _ _ _ h => h) (Or.inl ⟨by rfl, ?_⟩) (by assumption) ?_
            rotate_left 1
            · (intro w hSw; (try dsimp only at hSw); go_simp; try (with_reducible rfl))
            try simp only [Act.put, List.setIfInBounds_toArray, List.set_cons_zero, List.set_cons_succ]
            refine wpAnyH_take (i := 3) (oi := ⟨some 19, _, _, _, _, _⟩) (v := undef) rfl (by kernel_rfl) (by kernel_rfl) (by kernel_rfl) (fun _ _ _ h => h) (Or.inr ⟨by rfl, rfl⟩) (by assumption) ?_
            try simp only [Act.put, List.setIfInBounds_toArray, List.set_cons_zero, List.set_cons_succ]
            refine wpAnyH_take (i := 4) (oi := ⟨some 20, _, _, _, _, _⟩) (v := undef) rfl (by kernel_rfl) (by kernel_rfl) (by kernel_rfl) (fun _ _ _ h => h) (Or.inr ⟨by rfl, rfl⟩) (by assumption) ?_
            try simp only [Act.put, List.setIfInBounds_toArray, List.set_cons_zero, List.set_cons_succ]
            refine wpAnyH_take (i := 5) (oi := ⟨some 21, _, _, _, _, _⟩) (v := undef) rfl (by kernel_rfl) (by kernel_rfl) (by kernel_rfl) (fun _ _ _ h => h) (Or.inr ⟨by rfl, rfl⟩) (by assumption) ?_
            try simp only [Act.put, List.setIfInBounds_toArray, List.set_cons_zero, List.set_cons_succ]
            refine wpAnyH_take (i := 6) (oi := ⟨some 22, _, _, _, _, _⟩) (v := undef) rfl (by kernel_rfl) (by kernel_rfl) (by kernel_rfl) (fun _ _ _ h => h) (Or.inr ⟨by rfl, rfl⟩) (by assumption) ?_
            try simp only [Act.put, List.setIfInBounds_toArray, List.set_cons_zero, List.set_cons_succ]
            refine wpAnyH_take (i := 7) (oi := ⟨some 23, _, _, _, _, _⟩) (v := undef) rfl (by kernel_rfl) (by kernel_rfl) (by kernel_rfl) (fun _ _ _ h => h) (Or.inr ⟨by rfl, rfl⟩) (by assumption) ?_
            try simp only [Act.put, List.setIfInBounds_toArray, List.set_cons_zero, List.set_cons_succ]
            refine wpAnyH_take (i := 8) (oi := ⟨some 24, _, _, _, _, _⟩) (v := undef) rfl (by kernel_rfl) (by kernel_rfl) (by kernel_rfl) (fun _ _ _ h => h) (Or.inr ⟨by rfl, rfl⟩) (by assumption) ?_
            try simp only [Act.put, List.setIfInBounds_toArray, List.set_cons_zero, List.set_cons_succ]
            refine wpAnyH_take (i := 9) (oi := ⟨some 25, _, _, _, _, _⟩) (v := undef) rfl (by kernel_rfl) (by kernel_rfl) (by kernel_rfl) (fun _ _ _ h => h) (Or.inr ⟨by rfl, rfl⟩) (by assumption) ?_
            try simp only [Act.put, List.setIfInBounds_toArray, List.set_cons_zero, List.set_cons_succ]
            refine wpAnyH_take (i := 10) (oi := ⟨some 26, _, _, _, _, _⟩) (v := undef) rfl (by kernel_rfl) (by kernel_rfl) (by kernel_rfl) (fun _ _ _ h => h) (Or.inr ⟨by rfl, rfl⟩) (by assumption) ?_
            try simp only [Act.put, List.setIfInBounds_toArray, List.set_cons_zero, List.set_cons_succ]
            refine wpAnyH_take (i := 11) (oi := ⟨some 27, _, _, _, _, _⟩) (v := undef) rfl (by kernel_rfl) (by kernel_rfl) (by kernel_rfl) (fun _ _ _ h => h) (Or.inr ⟨by rfl, rfl⟩) (by assumption) ?_
            try simp only [Act.put, List.setIfInBounds_toArray, List.set_cons_zero, List.set_cons_succ]
            refine wpAnyH_take (i := 12) (oi := ⟨some 28, _, _, _, _, _⟩) (v := undef) rfl (by kernel_rfl) (by kernel_rfl) (by kernel_rfl) (fun _ _ _ h => h) (Or.inr ⟨by rfl, rfl⟩) (by assumption) ?_
            try simp only [Act.put, List.setIfInBounds_toArray, List.set_cons_zero, List.set_cons_succ]
            refine wpAnyH_take (i := 13) (oi := ⟨some 29, _, _, _, _, _⟩) (v := ?_) rfl (by kernel_rfl) (by kernel_rfl) (by kernel_rfl) (fun _ _ _ h => h) (Or.inl ⟨by rfl, ?_⟩) (by assumption) ?_
            rotate_left 1
            · (intro w hSw; (try dsimp only at hSw); go_simp; try (with_reducible rfl))
            try simp only [Act.put, List.setIfInBounds_toArray, List.set_cons_zero, List.set_cons_succ]
            refine wpAnyH_done (by kernel_rfl) ?_ _
            have K := Lib.hid (‹_ ∧ Below (wi.heap.size) wi _›).2
            go_wp2_with fail
            go_meet
            case rel => exact ⟨by rw [← HBB.out]; rfl, K⟩
          · obtain ⟨kp, hkp⟩ : ∃ kp, k = kp + 1 := ⟨k - 1, by omega⟩
            have hkl : kp < L.length := by omega
            obtain ⟨g', o', a3, c3, hg', hgl, f0, f1, fi, fq⟩ := ((HA.out.rd hrl).below ELoss.loc HBi.out (Nat.le_refl _)).loss kp hkl
            injection hg' with hg'
            injection hg' with hg1 hg2
            subst hg1 hg2
            rw [Nat.zero_add] at f0 f1
            have HFQ := Lib.hid fq
            have hgt : decide (0 < k) = true := decide_eq_true (by omega)
            have hgt2 : (0 : Int) < (k : Int) := by omega
            have hwr2 : IntKind.i64.wrap ((k : Int) - 1) = (kp : Int) := by rw [show (k : Int) - 1 = (kp : Int) from by omega, Go.IntWalk.i64_left]; exact Go.IntWalk.wrap64_in _ ⟨by omega, by omega⟩
            have hgl2 : g < wi.heap.size := by omega
            have HR0 := Lib.hid (show lessL l[j] L[kp] = bb from by have := HBB.out; rw [hkp] at this; simpa [hkl] using this)
            clear hkp fq
            refine wp_region_held_drew (S := fun w' => (∀ b o, b < wi.heap.size → w'.cell? ⟨b, o, none⟩ = wi.cell? ⟨b, o, none⟩) ∧ Below (wi.heap.size) wi w') (by kernel_rfl) (by first | exact ⟨fun _ _ _ => rfl, (Below.refl _ _).drew⟩ | exact keep_step (by assumption) (Below.drew (Below.refl _ _)) (Nat.le_refl _) | exact keep_step (by assumption) (by assumption) (by first | omega | ((try simp only [World.size_drew, size_alloc]); omega) | (have := (‹(_ ∧ Below (wi.heap.size) wi _)›).2.size; (try simp only [World.size_drew, size_alloc] at this ⊢); omega))) (fun hHeld => ?_)
            refine wpAnyH_take (i := 0) (oi := ⟨some 16, _, _, _, _, _⟩) (v := ?_) rfl (by kernel_rfl) (by kernel_rfl) (by kernel_rfl) (fun _ _ _ h => h) (Or.inl ⟨by rfl, ?_⟩) (by assumption) ?_
            rotate_left 1
            · (intro w hSw; (try dsimp only at hSw); go_simp; (try simp only [hgt]); try (with_reducible rfl))
            try simp only [Act.put, List.setIfInBounds_toArray, List.set_cons_zero, List.set_cons_succ]
            refine wpAnyH_take (i := 1) (oi := ⟨some 17, _, _, _, _, _⟩) (v := ?_) rfl (by kernel_rfl) (by kernel_rfl) (by kernel_rfl) (fun _ _ _ h => h) (Or.inl ⟨by rfl, ?_⟩) (by assumption) ?_
            rotate_left 1
            · (intro w hSw; (try dsimp only at hSw); go_simp; (try simp only [hgt]); try (with_reducible rfl))
            try simp only [Act.put, List.setIfInBounds_toArray, List.set_cons_zero, List.set_cons_succ]
            refine wpAnyH_take (i := 2) (oi := ⟨some 18, _, _, _, _, _⟩) (v := ?_) rfl (by kernel_rfl) (by kernel_rfl) (by kernel_rfl) (fun _ _ _ h => h) (Or.inl ⟨by rfl, ?_⟩) (by assumption) ?_
            rotate_left 1
            · (intro w hSw; (try dsimp only at hSw); go_simp; (try simp only [hgt]); try (with_reducible rfl))
            try simp only [Act.put, List.setIfInBounds_toArray, List.set_cons_zero, List.set_cons_succ]
            refine wpAnyH_take (i := 3) (oi := ⟨some 19, _, _, _, _, _⟩) (v := ?_) rfl (by kernel_rfl) (by kernel_rfl) (by kernel_rfl) (fun _ _ _ h => h) (Or.inl ⟨by first | rfl | (simp only [hgt]; rfl), ?_⟩) (by assumption) ?_
            rotate_left 1
            · (intro w hSw; (try dsimp only at hSw); go_simp; (try simp only [hgt]); try (with_reducible rfl))
            try simp only [Act.put, List.setIfInBounds_toArray, List.set_cons_zero, List.set_cons_succ]
            refine wpAnyH_take (i := 4) (oi := ⟨some 20, _, _, _, _, _⟩) (v := ?_) rfl (by kernel_rfl) (by kernel_rfl) (by kernel_rfl) (fun _ _ _ h => h) (Or.inl ⟨by first | rfl | (simp only [hgt]; rfl), ?_⟩) (by assumption) ?_
            rotate_left 1
            · (intro w hSw; (try dsimp only at hSw); go_simp; (try simp only [hgt]); try (with_reducible rfl))
            try simp only [Act.put, List.setIfInBounds_toArray, List.set_cons_zero, List.set_cons_succ]
            refine wpAnyH_take (i := 5) (oi := ⟨some 21, _, _, _, _, _⟩) (v := ?_) rfl (by kernel_rfl) (by kernel_rfl) (by kernel_rfl) (fun _ _ _ h => h) (Or.inl ⟨by first | rfl | (simp only [hgt]; rfl), ?_⟩) (by assumption) ?_
            rotate_left 1
            · (intro w hSw; (try dsimp only at hSw); go_simp; (try simp only [hgt]); try (with_reducible rfl))
            try simp only [Act.put, List.setIfInBounds_toArray, List.set_cons_zero, List.set_cons_succ]
            refine wpAnyH_take (i := 6) (oi := ⟨some 22, _, _, _, _, _⟩) (v := ?_) rfl (by kernel_rfl) (by kernel_rfl) (by kernel_rfl) (fun _ _ _ h => h) (Or.inl ⟨by first | rfl | (simp only [hgt]; rfl), ?_⟩) (by assumption) ?_
            rotate_left 1
            · (intro w hSw; (try dsimp only at hSw); go_simp; (try simp only [hgt]); try (with_reducible rfl))
            try simp only [Act.put, List.setIfInBounds_toArray, List.set_cons_zero, List.set_cons_succ]
            refine wpAnyH_take (i := 7) (oi := ⟨some 23, _, _, _, _, _⟩) (v := ?_) rfl (by kernel_rfl) (by kernel_rfl) (by kernel_rfl) (fun _ _ _ h => h) (Or.inl ⟨by first | rfl | (simp only [hgt]; rfl), ?_⟩) (by assumption) ?_
            rotate_left 1
            · (intro w hSw; (try dsimp only at hSw); go_simp; (try simp only [hgt]); try (with_reducible rfl))
            try simp only [Act.put, List.setIfInBounds_toArray, List.set_cons_zero, List.set_cons_succ]
            refine wpAnyH_take (i := 8) (oi := ⟨some 24, _, _, _, _, _⟩) (v := ?_) rfl (by kernel_rfl) (by kernel_rfl) (by kernel_rfl) (fun _ _ _ h => h) (Or.inl ⟨by first | rfl | (simp only [hgt]; rfl), ?_⟩) (by assumption) ?_
            rotate_left 1
            · (intro w hSw; (try dsimp only at hSw); go_simp; (try simp only [hgt]); try (with_reducible rfl))
            try simp only [Act.put, List.setIfInBounds_toArray, List.set_cons_zero, List.set_cons_succ]
            refine wpAnyH_take (i := 9) (oi := ⟨some 25, _, _, _, _, _⟩) (v := ?_) rfl (by kernel_rfl) (by kernel_rfl) (by kernel_rfl) (fun _ _ _ h => h) (Or.inl ⟨by first | rfl | (simp only [hgt]; rfl), ?_⟩) (by assumption) ?_
            rotate_left 1
            · (intro w hSw; (try dsimp only at hSw); go_simp; (try simp only [hgt]); try (with_reducible rfl))
            try simp only [Act.put, List.setIfInBounds_toArray, List.set_cons_zero, List.set_cons_succ]
            refine wpAnyH_take (i := 10) (oi := ⟨some 26, _, _, _, _, _⟩) (v := ?_) rfl (by kernel_rfl) (by kernel_rfl) (by kernel_rfl) (fun _ _ _ h => h) (Or.inl ⟨by first | rfl | (simp only [hgt]; rfl), ?_⟩) (by assumption) ?_
            rotate_left 1
            · (intro w hSw; (try dsimp only at hSw); go_simp; (try simp only [hgt]); try (with_reducible rfl))
            try simp only [Act.put, List.setIfInBounds_toArray, List.set_cons_zero, List.set_cons_succ]
            refine wpAnyH_take (i := 11) (oi := ⟨some 27, _, _, _, _, _⟩) (v := ?_) rfl (by kernel_rfl) (by kernel_rfl) (by kernel_rfl) (fun _ _ _ h => h) (Or.inl ⟨by first | rfl | (simp only [hgt]; rfl), ?_⟩) (by assumption) ?_
            rotate_left 1
            · (intro w hSw; (try dsimp only at hSw); go_simp; (try simp only [hgt]); try (with_reducible rfl))
            try simp only [Act.put, List.setIfInBounds_toArray, List.set_cons_zero, List.set_cons_succ]
            refine wpAnyH_ready (rs := [12]) (by kernel_rfl) (by simp) ?_
            refine AllReadyH.cons (o := ⟨some 28, _, _, _, _, _⟩) rfl (fun K hK => ?_) AllReadyH.nil
            go_simp
            (first | (go_at_call 21; refine (spec_LessLoss l[j] L[kp] _ _ _ _ wr.heap.size _ (HQi.out.below EStep.loc (‹_ ∧ Below (wi.heap.size) wi _›).2 hbi) (HFQ.out.below EStep.loc (‹_ ∧ Below (wi.heap.size) wi _›).2 hbi) (Nat.le_trans hbi (‹_ ∧ Below (wi.heap.size) wi _›).2.size)).mono ?_; rintro ee w2 ⟨rfl, hb2⟩))
            go_wp2_with fail
            refine hK.out _ _ (by first | exact ⟨fun _ _ _ => rfl, (Below.refl _ _).drew⟩ | exact keep_step (by assumption) (Below.drew (Below.refl _ _)) (Nat.le_refl _) | exact keep_step (by assumption) (by assumption) (by first | omega | ((try simp only [World.size_drew, size_alloc]); omega) | (have := (‹(_ ∧ Below (wi.heap.size) wi _)›).2.size; (try simp only [World.size_drew, size_alloc] at this ⊢); omega))) (fun hHeld => ?_)
            clear hK K
            try simp only [Act.put, List.setIfInBounds_toArray, List.set_cons_zero, List.set_cons_succ]
            refine wpAnyH_take (i := 13) (oi := ⟨some 29, _, _, _, _, _⟩) (v := ?_) rfl (by kernel_rfl) (by kernel_rfl) (by kernel_rfl) (fun _ _ _ h => h) (Or.inl ⟨by rfl, ?_⟩) (by assumption) ?_
            rotate_left 1
            · (intro w hSw; (try dsimp only at hSw); go_simp; (try simp only [hgt]); try (with_reducible rfl))
            try simp only [Act.put, List.setIfInBounds_toArray, List.set_cons_zero, List.set_cons_succ]
            refine wpAnyH_done (by kernel_rfl) ?_ _
            have K := Lib.hid (‹_ ∧ Below (wi.heap.size) wi _›).2
            go_wp2_with fail
            go_meet
            case rel => exact ⟨by rw [← HR0.out], K⟩
        case rest =>
          obtain ⟨rfl, HX⟩ := hcut
          rename World => wx
          cases bb with
          | true =>
            have hk0 : 0 < k := by have := HBB.out; simp at this; omega
            have hltk : k - 1 < L.length := by omega
            have HK2 : Hid (∀ y ∈ L.drop (k - 1), lessL l[j] y = true) := by
              refine Lib.hid (fun y hy => ?_)
              rw [List.drop_eq_getElem_cons hltk] at hy
              rcases List.mem_cons.1 hy with rfl | hy
              · have := HBB.out; simp only [Bool.and_eq_true] at this; simpa [hltk] using this.2
              · rw [show k - 1 + 1 = k from by omega] at hy; exact HK.out y hy
            obtain ⟨kp, hkp⟩ : ∃ kp, k = kp + 1 := ⟨k - 1, by omega⟩
            have e9 : (k : Int) - 1 = (kp : Int) := by omega
            have HB9 := Lib.hid (HBi.out.trans (HX.out.mono hbi))
            rw [hkp, Nat.add_sub_cancel] at HK2
            go_wp2_with fail
            refine ⟨⟨kp, by go_num, by omega, HK2, HB9⟩, by simp [intOf]; omega⟩
          | false =>
            have HB9 := Lib.hid (HBi.out.trans (HX.out.mono hbi))
            have hbx := HB9.out.size
            have hbx2 : b < wx.heap.size := by omega
            have x0 := (HB9.out.cell (p := ⟨b, o + j * 2, none⟩) hlb).trans d0
            have x1 := (HB9.out.cell (p := ⟨b, o + j * 2 + 1, none⟩) hlb).trans d1
            have HQx := Lib.hid (HQ.out.below EStep.loc HB9.out (Nat.le_refl _))
            have HSP : Hid (Sorted (L.take k ++ l[j] :: L.drop k)) := by
              refine Lib.hid (sorted_put (by rw [List.take_append_drop]; exact HS.out) (fun y hy => ?_) (fun y hy => leL_of_less (HK.out y hy)))
              have hk0 : 0 < k := by
                by_cases h0 : k = 0
                · subst h0; simp at hy
                · omega
              have := last_take hk0 hk hy
              subst this
              have h3 := HBB.out
              have hltk : k - 1 < L.length := by omega
              simp only [decide_eq_true hk0, Bool.true_and] at h3
              unfold leL
              simpa [hltk] using h3
            clear e0 e1 HQi HBB d0 d1
            go_wp2_with fail
            refine (spec_l18Copy l[j] _ _ wr.heap.size wx HQx.out hbx hzp).mono ?_
            rintro ee w3 ⟨a3, c3, rfl, ho3, hb3⟩
            have hs3 := hb3.size
            have HB3 := Lib.hid hb3
            obtain ⟨G, g1, g2, g3⟩ := ho3
            have HG1 := Lib.hid g1; have HG2 := Lib.hid g2; have HG3 := Lib.hid g3
            have hx8 := Is.new w3 (cL l[j] a3 c3) 29
            clear x0 x1 hb3 g1 g2 g3
            go_upto_region 9 with (fail)
            have h38 := Lib.hid (below1 w3 (.cells (cL l[j] a3 c3) 29))
            have hs38 : w3.heap.size < (w3.alloc (.cells (cL l[j] a3 c3) 29)).heap.size := by simp
            generalize w3.alloc (.cells (cL l[j] a3 c3) 29) = W8 at *
            obtain ⟨y0, y1⟩ := hx8.cells2
            have HB8 := Lib.hid ((HB9.out.trans (HB3.out.mono hbx)).trans (h38.out.mono (by omega)))
            obtain ⟨F1, F2, hFF, hga, HSa, HSb⟩ : ∃ F1 F2, F = F1 ++ F2 ∧ g < wr.heap.size ∧ Hid (Srcs ELoss 2 W8 (some ⟨g, 0, none⟩) (L.take k) F1) ∧ Hid (Srcs ELoss 2 W8 (some ⟨g, k * 2, none⟩) (L.drop k) F2) := by
              rcases HA.out with ⟨h, _⟩ | ⟨g', cur, hg', q1, q3, q4, q5, q6, q7, q8⟩
              · cases h
              injection hg' with hg'
              injection hg' with hg'
              subst hg'
              have hgl := (Array.getElem?_eq_some_iff.1 q3).1
              have q7' : Row ELoss 2 wr g 0 (L.take k ++ L.drop k) F := by rw [List.take_append_drop]; exact q7
              obtain ⟨F1, F2, hFF, r1, r2⟩ := q7'.split
              have hlt2 : ∀ f ∈ F, f < wr.heap.size := fun f hf => by have := q8 f hf; omega
              refine ⟨F1, F2, hFF, hgl, Lib.hid ⟨fun h => ?_, fun _ => ⟨g, 0, rfl, r1.agree ELoss.loc _ (Cells.of_block (HB8.out.block g hgl) _ _) (fun f hf => HB8.out.block f (hlt2 f (by rw [hFF]; simp [hf])))⟩⟩, Lib.hid ⟨fun h => ?_, fun _ => ⟨g, k * 2, rfl, ?_⟩⟩⟩
              · rw [h] at r1; exact r1
              · rw [h] at r2; exact r2
              · have := r2.agree ELoss.loc _ (Cells.of_block (HB8.out.block g hgl) _ _) (fun f hf => HB8.out.block f (hlt2 f (by rw [hFF]; simp [hf])))
                rwa [Nat.zero_add, List.length_take, Nat.min_eq_left hk] at this
            have hs8 := HB8.out.size
            have hg8 : g < W8.heap.size := by omega
            have HF1 := Lib.hid (show ∀ f ∈ F1, f < W8.heap.size from fun f hf => by have := (HF.out.2 f (by rw [hFF]; simp [hf])).2.lt; omega)
            have HF2 := Lib.hid (show ∀ f ∈ F2, f < W8.heap.size from fun f hf => by have := (HF.out.2 f (by rw [hFF]; simp [hf])).2.lt; omega)
            have HGlt := Lib.hid (show ∀ f ∈ G, f < W8.heap.size from fun f hf => by have := (HG3.out f hf).2.1; omega)
            have HG8 := Lib.hid (HG1.out.agree EStep.loc (fun f hf => h38.out.block f (HG3.out f hf).2.1))
            have HFF := Lib.hid hFF
            have htk : (L.take k).length = k := by rw [List.length_take]; omega
            have hdk : (L.drop k).length = L.length - k := by rw [List.length_drop]
            have hxl : w3.heap.size < W8.heap.size := hs38
            have hkn : k ≤ cr := by omega
            have hk63 : cr ≤ 9223372036854775807 := hc2
            clear hFF hx8 hs38
            by_cases hck : cr = k
            · subst hck
              have hdn : L.drop cr = [] := List.drop_of_length_le hc1
              have HSb0 : Hid (Srcs ELoss 2 W8 (some ⟨g, 0, none⟩) (L.drop cr) F2) := Lib.hid ⟨fun _ => HSb.out.1 hdn, fun h => absurd hdn h⟩
              refine wp_region_held_drew (S := fun w' => (∀ b o, b < W8.heap.size → w'.cell? ⟨b, o, none⟩ = W8.cell? ⟨b, o, none⟩) ∧ Below (W8.heap.size) W8 w') (by kernel_rfl) (by first | exact ⟨fun _ _ _ => rfl, (Below.refl _ _).drew⟩ | exact keep_step (by assumption) (Below.drew (Below.refl _ _)) (Nat.le_refl _) | exact keep_step (by assumption) (by assumption) (by first | omega | ((try simp only [World.size_drew, size_alloc]); omega) | (have := (‹(_ ∧ Below (W8.heap.size) W8 _)›).2.size; (try simp only [World.size_drew, size_alloc] at this ⊢); omega))) (fun hHeld => ?_)
              refine wpAnyH_take (i := 1) (oi := ⟨some 38, _, _, _, _, _⟩) (v := ?_) rfl (by kernel_rfl) (by kernel_rfl) (by kernel_rfl) (fun _ _ _ h => h) (Or.inl ⟨by rfl, ?_⟩) (by assumption) ?_
              rotate_left 1
              · (intro w hSw; (try dsimp only at hSw); go_simp; try (with_reducible rfl))
              try simp only [Act.put, List.setIfInBounds_toArray, List.set_cons_zero, List.set_cons_succ]
              refine wpAnyH_take (i := 2) (oi := ⟨some 39, _, _, _, _, _⟩) (v := ?_) rfl (by kernel_rfl) (by kernel_rfl) (by kernel_rfl) (fun _ _ _ h => h) (Or.inl ⟨by rfl, ?_⟩) (by assumption) ?_
              rotate_left 1
              · (intro w hSw; (try dsimp only at hSw); go_simp; try (with_reducible rfl))
              try simp only [Act.put, List.setIfInBounds_toArray, List.set_cons_zero, List.set_cons_succ]
              refine wpAnyH_take (i := 3) (oi := ⟨some 40, _, _, _, _, _⟩) (v := ?_) rfl (by kernel_rfl) (by kernel_rfl) (by kernel_rfl) (fun _ _ _ h => h) (Or.inl ⟨by rfl, ?_⟩) (by assumption) ?_
              rotate_left 1
              · (intro w hSw; (try dsimp only at hSw); go_simp; try (with_reducible rfl))
              try simp only [Act.put, List.setIfInBounds_toArray, List.set_cons_zero, List.set_cons_succ]
              refine wpAnyH_take (i := 5) (oi := ⟨some 42, _, _, _, _, _⟩) (v := ?_) rfl (by kernel_rfl) (by kernel_rfl) (by kernel_rfl) (fun _ _ _ h => h) (Or.inl ⟨by rfl, ?_⟩) (by assumption) ?_
              rotate_left 1
              · (intro w hSw; (try dsimp only at hSw); go_simp; try (with_reducible rfl))
              try simp only [Act.put, List.setIfInBounds_toArray, List.set_cons_zero, List.set_cons_succ]
              refine wpAnyH_take (i := 8) (oi := ⟨some 45, _, _, _, _, _⟩) (v := ?_) rfl (by kernel_rfl) (by kernel_rfl) (by kernel_rfl) (fun _ _ _ h => h) (Or.inl ⟨by rfl, ?_⟩) (by assumption) ?_
              rotate_left 1
              · (intro w hSw; (try dsimp only at hSw); go_simp; try (with_reducible rfl))
              try simp only [Act.put, List.setIfInBounds_toArray, List.set_cons_zero, List.set_cons_succ]
              refine wpAnyH_take (i := 9) (oi := ⟨some 46, _, _, _, _, _⟩) (v := ?_) rfl (by kernel_rfl) (by kernel_rfl) (by kernel_rfl) (fun _ _ _ h => h) (Or.inl ⟨by rfl, ?_⟩) (by assumption) ?_
              rotate_left 1
              · (intro w hSw; (try dsimp only at hSw); go_simp; try (with_reducible rfl))
              try simp only [Act.put, List.setIfInBounds_toArray, List.set_cons_zero, List.set_cons_succ]
              refine wpAnyH_take (i := 10) (oi := ⟨some 47, _, _, _, _, _⟩) (v := ?_) rfl (by kernel_rfl) (by kernel_rfl) (by kernel_rfl) (fun _ _ _ h => h) (Or.inl ⟨by rfl, ?_⟩) (by assumption) ?_
              rotate_left 1
              · (intro w hSw; (try dsimp only at hSw); go_simp; try (with_reducible rfl))
              try simp only [Act.put, List.setIfInBounds_toArray, List.set_cons_zero, List.set_cons_succ]
              refine wpAnyH_ready (rs := [0, 6]) (by kernel_rfl) (by simp) ?_
              refine AllReadyH.cons (o := ⟨some 37, _, _, _, _, _⟩) rfl (fun K hK => ?_) ?_
              focus (go_simp; go_wp2_with fail; refine hK.out _ _ (by first | (with_reducible exact keep_step (by assumption) (below1 _ _) (by first | omega | ((try simp only [World.size_drew, size_alloc]); omega) | (have := (‹(_ ∧ Below (W8.heap.size) W8 _)›).2.size; (try simp only [World.size_drew, size_alloc] at this ⊢); omega))) | (exact keep_step (by assumption) (below1 _ _) (by first | omega | ((try simp only [World.size_drew, size_alloc]); omega) | (have := (‹(_ ∧ Below (W8.heap.size) W8 _)›).2.size; (try simp only [World.size_drew, size_alloc] at this ⊢); omega)))) (fun hHeld => ?_); clear hK K; try simp only [Act.put, List.setIfInBounds_toArray, List.set_cons_zero, List.set_cons_succ])
              refine wpAnyH_ready (rs := [4, 6]) (by kernel_rfl) (by simp) ?_
              refine AllReadyH.cons (o := ⟨some 41, _, _, _, _, _⟩) rfl (fun K hK => ?_) ?_
              focus ((((with_reducible refine at_world ((W8.alloc (.cells #[] 29)).drew) ?_); have hcc := (‹_ ∧ Below (W8.heap.size) W8 _›).2; obtain ⟨ar4, cr4, w4, hrun4, happ4, hb4, hout4, hrow4, hsz4⟩ := run_appL (P := Tryz.prog) (W8.alloc (.cells #[] 29)).drew ELoss.elem 24 24 (.agg #[.int .i64 0, .slice none 0 0]) 32 Tryz.underlying24 info_Loss rfl W8.heap.size (some ⟨W8.heap.size, 0, none⟩) 0 [] [] (AppL.empty W8.drew W8.heap.size (by simp)) (by simp) (by simp) (some ⟨g, 0, none⟩) cr (L.take cr) F1 (HSa.out.agree ELoss.elem (fun b o hb _ => by injection hb with hb; injection hb with hb; subst hb; exact hcc.block _ hg8) (fun f hf => hcc.block f (HF1.out f hf))) (fun f hf => HF1.out f hf) (by simp [maxLen]; omega) (by simp; omega); rw [htk] at hrun4; refine step_append_run _ rfl _ _ _ _ rfl _ _ rfl rfl _ _ hrun4 ?_; have HA4 := Lib.hid happ4)); refine hK.out _ _ (by first | (with_reducible exact keep_step (by assumption) (by assumption) (by first | omega | ((try simp only [World.size_drew, size_alloc]); omega) | (have := (‹(_ ∧ Below (W8.heap.size) W8 _)›).2.size; (try simp only [World.size_drew, size_alloc] at this ⊢); omega))) | first | exact ⟨fun _ _ _ => rfl, (Below.refl _ _).drew⟩ | exact keep_step (by assumption) (Below.drew (Below.refl _ _)) (Nat.le_refl _) | exact keep_step (by assumption) (by assumption) (by first | omega | ((try simp only [World.size_drew, size_alloc]); omega) | (have := (‹(_ ∧ Below (W8.heap.size) W8 _)›).2.size; (try simp only [World.size_drew, size_alloc] at this ⊢); omega))) (fun hHeld => ?_); clear hK K; try simp only [Act.put, List.setIfInBounds_toArray, List.set_cons_zero, List.set_cons_succ])
              refine wpAnyH_ready (rs := [6]) (by kernel_rfl) (by simp) ?_
              refine AllReadyH.cons (o := ⟨some 43, _, _, _, _, _⟩) rfl (fun K hK => ?_) AllReadyH.nil
              focus (go_simp; go_wp2_with fail; refine hK.out _ _ (by first | (with_reducible exact keep_step (by assumption) (below1 _ _) (by first | omega | ((try simp only [World.size_drew, size_alloc]); omega) | (have := (‹(_ ∧ Below (W8.heap.size) W8 _)›).2.size; (try simp only [World.size_drew, size_alloc] at this ⊢); omega))) | (exact keep_step (by assumption) (below1 _ _) (by first | omega | ((try simp only [World.size_drew, size_alloc]); omega) | (have := (‹(_ ∧ Below (W8.heap.size) W8 _)›).2.size; (try simp only [World.size_drew, size_alloc] at this ⊢); omega)))) (fun hHeld => ?_); clear hK K; try simp only [Act.put, List.setIfInBounds_toArray, List.set_cons_zero, List.set_cons_succ])
              refine wpAnyH_ready (rs := [7]) (by kernel_rfl) (by simp) ?_
              refine AllReadyH.cons (o := ⟨some 44, _, _, _, _, _⟩) rfl (fun K hK => ?_) AllReadyH.nil
              focus ((((with_reducible refine at_world (w4.alloc (.cells #[.int .i64 l[j].1, .slice a3 l[j].2.length c3] 29)) ?_); have hcc := (‹_ ∧ Below (W8.heap.size) W8 _›).2; obtain ⟨ar5, cr5, w5, hrun5, happ5, hb5, hout5, hrow5, hsz5⟩ := run_appL (P := Tryz.prog) (w4.alloc (.cells #[.int .i64 l[j].1, .slice a3 l[j].2.length c3] 29)) ELoss.elem 24 24 (.agg #[.int .i64 0, .slice none 0 0]) 32 Tryz.underlying24 info_Loss rfl W8.heap.size ar4 cr4 ([] ++ L.take cr) ([] ++ F1) (HA4.out.agree ELoss.elem (fun f hf => (below1 _ _).block f hf) (by have := hsz4; simp at this; omega)) (by have := hcc.size; omega) HA4.out.cap.1 (some ⟨w4.heap.size, 0, none⟩) 1 [l[j]] G (Srcs.one ⟨(Is.new w4 _ _).cell 0 rfl, HI.out, a3, c3, (Is.new w4 _ _).cell 1 rfl, HG8.out.agree EStep.loc (fun f hf => hcc.block f (HGlt.out f hf))⟩) (fun f hf => HGlt.out f hf) (by simp [maxLen]; omega) (by simp; omega); simp only [List.nil_append, htk] at hrun5; refine step_append_run _ rfl _ _ _ _ rfl _ _ rfl rfl _ _ hrun5 ?_; have HA5 := Lib.hid happ5)); refine hK.out _ _ (by first | (with_reducible exact keep_step (by assumption) (by assumption) (by first | omega | ((try simp only [World.size_drew, size_alloc]); omega) | (have := (‹(_ ∧ Below (W8.heap.size) W8 _)›).2.size; (try simp only [World.size_drew, size_alloc] at this ⊢); omega))) | first | exact ⟨fun _ _ _ => rfl, (Below.refl _ _).drew⟩ | exact keep_step (by assumption) (Below.drew (Below.refl _ _)) (Nat.le_refl _) | exact keep_step (by assumption) (by assumption) (by first | omega | ((try simp only [World.size_drew, size_alloc]); omega) | (have := (‹(_ ∧ Below (W8.heap.size) W8 _)›).2.size; (try simp only [World.size_drew, size_alloc] at this ⊢); omega))) (fun hHeld => ?_); clear hK K; try simp only [Act.put, List.setIfInBounds_toArray, List.set_cons_zero, List.set_cons_succ])
              refine wpAnyH_ready (rs := [11]) (by kernel_rfl) (by simp) ?_
              refine AllReadyH.cons (o := ⟨some 48, _, _, _, _, _⟩) rfl (fun K hK => ?_) AllReadyH.nil
              focus ((((with_reducible refine at_world (w5) ?_); have hcc := (‹_ ∧ Below (W8.heap.size) W8 _›).2; obtain ⟨ar6, cr6, w6, hrun6, happ6, hb6, hout6, hrow6, hsz6⟩ := run_appL (P := Tryz.prog) w5 ELoss.elem 24 24 (.agg #[.int .i64 0, .slice none 0 0]) 32 Tryz.underlying24 info_Loss rfl W8.heap.size ar5 cr5 (([] ++ L.take cr) ++ [l[j]]) (([] ++ F1) ++ G) HA5.out (by have := hcc.size; omega) HA5.out.cap.1 (some ⟨g, 0, none⟩) 0 (L.drop cr) F2 (HSb0.out.agree ELoss.elem (fun b o hb _ => by injection hb with hb; injection hb with hb; subst hb; exact hcc.block _ hg8) (fun f hf => hcc.block f (HF2.out f hf))) (fun f hf => HF2.out f hf) (by simp [maxLen]; omega) (by simp; omega); rw [show (L.drop cr).length = 0 from by rw [hdn]; rfl] at hrun6; refine step_append_run _ rfl _ _ _ _ rfl _ _ rfl rfl _ _ hrun6 ?_)); refine hK.out _ _ (by first | (with_reducible exact keep_step (by assumption) (by assumption) (by first | omega | ((try simp only [World.size_drew, size_alloc]); omega) | (have := (‹(_ ∧ Below (W8.heap.size) W8 _)›).2.size; (try simp only [World.size_drew, size_alloc] at this ⊢); omega))) | first | exact ⟨fun _ _ _ => rfl, (Below.refl _ _).drew⟩ | exact keep_step (by assumption) (Below.drew (Below.refl _ _)) (Nat.le_refl _) | exact keep_step (by assumption) (by assumption) (by first | omega | ((try simp only [World.size_drew, size_alloc]); omega) | (have := (‹(_ ∧ Below (W8.heap.size) W8 _)›).2.size; (try simp only [World.size_drew, size_alloc] at this ⊢); omega))) (fun hHeld => ?_); clear hK K; try simp only [Act.put, List.setIfInBounds_toArray, List.set_cons_zero, List.set_cons_succ])
              refine wpAnyH_take (i := 12) (oi := ⟨some 3, _, _, _, _, _⟩) (v := ?_) rfl (by kernel_rfl) (by kernel_rfl) (by kernel_rfl) (fun _ _ _ h => h) (Or.inl ⟨by rfl, ?_⟩) (by assumption) ?_
              rotate_left 1
              · (intro w hSw; (try dsimp only at hSw); go_simp; try (with_reducible rfl))
              try simp only [Act.put, List.setIfInBounds_toArray, List.set_cons_zero, List.set_cons_succ]
              refine wpAnyH_done (by kernel_rfl) ?_ _
              rotate_left 1
              refine AllReadyH.cons (o := ⟨some 43, _, _, _, _, _⟩) rfl (fun K hK => ?_) AllReadyH.nil
              focus (go_simp; go_wp2_with fail; refine hK.out _ _ (by first | (with_reducible exact keep_step (by assumption) (below1 _ _) (by first | omega | ((try simp only [World.size_drew, size_alloc]); omega) | (have := (‹(_ ∧ Below (W8.heap.size) W8 _)›).2.size; (try simp only [World.size_drew, size_alloc] at this ⊢); omega))) | (exact keep_step (by assumption) (below1 _ _) (by first | omega | ((try simp only [World.size_drew, size_alloc]); omega) | (have := (‹(_ ∧ Below (W8.heap.size) W8 _)›).2.size; (try simp only [World.size_drew, size_alloc] at this ⊢); omega)))) (fun hHeld => ?_); clear hK K; try simp only [Act.put, List.setIfInBounds_toArray, List.set_cons_zero, List.set_cons_succ])
              refine wpAnyH_ready (rs := [4]) (by kernel_rfl) (by simp) ?_
              refine AllReadyH.cons (o := ⟨some 41, _, _, _, _, _⟩) rfl (fun K hK => ?_) AllReadyH.nil
              focus ((((with_reducible refine at_world (((W8.alloc (.cells #[] 29)).alloc (.cells #[.int .i64 l[j].1, .slice a3 l[j].2.length c3] 29)).drew) ?_); have hcc := (‹_ ∧ Below (W8.heap.size) W8 _›).2; have hB41 : True := trivial; obtain ⟨ar4, cr4, w4, hrun4, happ4, hb4, hout4, hrow4, hsz4⟩ := run_appL (P := Tryz.prog) ((W8.alloc (.cells #[] 29)).alloc (.cells #[.int .i64 l[j].1, .slice a3 l[j].2.length c3] 29)).drew ELoss.elem 24 24 (.agg #[.int .i64 0, .slice none 0 0]) 32 Tryz.underlying24 info_Loss rfl W8.heap.size (some ⟨W8.heap.size, 0, none⟩) 0 [] [] ((AppL.empty W8.drew W8.heap.size (by simp)).agree ELoss.elem (fun f hf => (below1 _ _).block f hf) (by simp)) (by simp; omega) (by simp) (some ⟨g, 0, none⟩) cr (L.take cr) F1 (HSa.out.agree ELoss.elem (fun b o hb _ => by injection hb with hb; injection hb with hb; subst hb; exact hcc.block _ hg8) (fun f hf => hcc.block f (HF1.out f hf))) (fun f hf => HF1.out f hf) (by simp [maxLen]; omega) (by simp; omega); rw [htk] at hrun4; refine step_append_run _ rfl _ _ _ _ rfl _ _ rfl rfl _ _ hrun4 ?_; have HA4 := Lib.hid happ4)); refine hK.out _ _ (by first | (with_reducible exact keep_step (by assumption) (by assumption) (by first | omega | ((try simp only [World.size_drew, size_alloc]); omega) | (have := (‹(_ ∧ Below (W8.heap.size) W8 _)›).2.size; (try simp only [World.size_drew, size_alloc] at this ⊢); omega))) | first | exact ⟨fun _ _ _ => rfl, (Below.refl _ _).drew⟩ | exact keep_step (by assumption) (Below.drew (Below.refl _ _)) (Nat.le_refl _) | exact keep_step (by assumption) (by assumption) (by first | omega | ((try simp only [World.size_drew, size_alloc]); omega) | (have := (‹(_ ∧ Below (W8.heap.size) W8 _)›).2.size; (try simp only [World.size_drew, size_alloc] at this ⊢); omega))) (fun hHeld => ?_); clear hK K; try simp only [Act.put, List.setIfInBounds_toArray, List.set_cons_zero, List.set_cons_succ])
              refine wpAnyH_ready (rs := [7]) (by kernel_rfl) (by simp) ?_
              refine AllReadyH.cons (o := ⟨some 44, _, _, _, _, _⟩) rfl (fun K hK => ?_) AllReadyH.nil
              focus ((((with_reducible refine at_world (w4) ?_); have hcc := (‹_ ∧ Below (W8.heap.size) W8 _›).2; have _ := hB41; have hIX : Is w4 (W8.heap.size + 1) 29 #[.int .i64 l[j].1, .slice a3 l[j].2.length c3] := Is.agree (w := ((W8.alloc (.cells #[] 29)).alloc (.cells #[.int .i64 l[j].1, .slice a3 l[j].2.length c3] 29)).drew) (by have := Is.new (W8.alloc (.cells #[] 29)) #[.int .i64 l[j].1, .slice a3 l[j].2.length c3] 29; rw [size_alloc] at this; exact this) (hout4 (W8.heap.size + 1) (by simp only [World.size_drew, size_alloc]; omega) (fun k hk => by simp [Value.ownBlock] at hk; omega)); obtain ⟨ar5, cr5, w5, hrun5, happ5, hb5, hout5, hrow5, hsz5⟩ := run_appL (P := Tryz.prog) (w4) ELoss.elem 24 24 (.agg #[.int .i64 0, .slice none 0 0]) 32 Tryz.underlying24 info_Loss rfl W8.heap.size ar4 cr4 ([] ++ L.take cr) ([] ++ F1) (HA4.out) (by have := hcc.size; omega) HA4.out.cap.1 (some ⟨W8.heap.size + 1, 0, none⟩) 1 [l[j]] G (Srcs.one ⟨hIX.cell 0 rfl, HI.out, a3, c3, hIX.cell 1 rfl, HG8.out.agree EStep.loc (fun f hf => hcc.block f (HGlt.out f hf))⟩) (fun f hf => HGlt.out f hf) (by simp [maxLen]; omega) (by simp; omega); refine step_append_run _ rfl _ _ _ _ rfl _ _ rfl rfl _ _ hrun5 ?_; have HA5 := Lib.hid happ5)); refine hK.out _ _ (by first | (with_reducible exact keep_step (by assumption) (by assumption) (by first | omega | ((try simp only [World.size_drew, size_alloc]); omega) | (have := (‹(_ ∧ Below (W8.heap.size) W8 _)›).2.size; (try simp only [World.size_drew, size_alloc] at this ⊢); omega))) | first | exact ⟨fun _ _ _ => rfl, (Below.refl _ _).drew⟩ | exact keep_step (by assumption) (Below.drew (Below.refl _ _)) (Nat.le_refl _) | exact keep_step (by assumption) (by assumption) (by first | omega | ((try simp only [World.size_drew, size_alloc]); omega) | (have := (‹(_ ∧ Below (W8.heap.size) W8 _)›).2.size; (try simp only [World.size_drew, size_alloc] at this ⊢); omega))) (fun hHeld => ?_); clear hK K; try simp only [Act.put, List.setIfInBounds_toArray, List.set_cons_zero, List.set_cons_succ])
              refine wpAnyH_ready (rs := [11]) (by kernel_rfl) (by simp) ?_
              refine AllReadyH.cons (o := ⟨some 48, _, _, _, _, _⟩) rfl (fun K hK => ?_) AllReadyH.nil
              focus ((((with_reducible refine at_world (w5) ?_); have hcc := (‹_ ∧ Below (W8.heap.size) W8 _›).2; obtain ⟨ar6, cr6, w6, hrun6, happ6, hb6, hout6, hrow6, hsz6⟩ := run_appL (P := Tryz.prog) w5 ELoss.elem 24 24 (.agg #[.int .i64 0, .slice none 0 0]) 32 Tryz.underlying24 info_Loss rfl W8.heap.size ar5 cr5 (([] ++ L.take cr) ++ [l[j]]) (([] ++ F1) ++ G) HA5.out (by have := hcc.size; omega) HA5.out.cap.1 (some ⟨g, 0, none⟩) 0 (L.drop cr) F2 (HSb0.out.agree ELoss.elem (fun b o hb _ => by injection hb with hb; injection hb with hb; subst hb; exact hcc.block _ hg8) (fun f hf => hcc.block f (HF2.out f hf))) (fun f hf => HF2.out f hf) (by simp [maxLen]; omega) (by simp; omega); rw [show (L.drop cr).length = 0 from by rw [hdn]; rfl] at hrun6; refine step_append_run _ rfl _ _ _ _ rfl _ _ rfl rfl _ _ hrun6 ?_)); refine hK.out _ _ (by first | (with_reducible exact keep_step (by assumption) (by assumption) (by first | omega | ((try simp only [World.size_drew, size_alloc]); omega) | (have := (‹(_ ∧ Below (W8.heap.size) W8 _)›).2.size; (try simp only [World.size_drew, size_alloc] at this ⊢); omega))) | first | exact ⟨fun _ _ _ => rfl, (Below.refl _ _).drew⟩ | exact keep_step (by assumption) (Below.drew (Below.refl _ _)) (Nat.le_refl _) | exact keep_step (by assumption) (by assumption) (by first | omega | ((try simp only [World.size_drew, size_alloc]); omega) | (have := (‹(_ ∧ Below (W8.heap.size) W8 _)›).2.size; (try simp only [World.size_drew, size_alloc] at this ⊢); omega))) (fun hHeld => ?_); clear hK K; try simp only [Act.put, List.setIfInBounds_toArray, List.set_cons_zero, List.set_cons_succ])
              refine wpAnyH_take (i := 12) (oi := ⟨some 3, _, _, _, _, _⟩) (v := ?_) rfl (by kernel_rfl) (by kernel_rfl) (by kernel_rfl) (fun _ _ _ h => h) (Or.inl ⟨by rfl, ?_⟩) (by assumption) ?_
              rotate_left 1
              · (intro w hSw; (try dsimp only at hSw); go_simp; try (with_reducible rfl))
              try simp only [Act.put, List.setIfInBounds_toArray, List.set_cons_zero, List.set_cons_succ]
              refine wpAnyH_done (by kernel_rfl) ?_ _
              rotate_left 1
              refine AllReadyH.cons (o := ⟨some 43, _, _, _, _, _⟩) rfl (fun K hK => ?_) AllReadyH.nil
              focus (go_simp; go_wp2_with fail; refine hK.out _ _ (by first | (with_reducible exact keep_step (by assumption) (below1 _ _) (by first | omega | ((try simp only [World.size_drew, size_alloc]); omega) | (have := (‹(_ ∧ Below (W8.heap.size) W8 _)›).2.size; (try simp only [World.size_drew, size_alloc] at this ⊢); omega))) | (exact keep_step (by assumption) (below1 _ _) (by first | omega | ((try simp only [World.size_drew, size_alloc]); omega) | (have := (‹(_ ∧ Below (W8.heap.size) W8 _)›).2.size; (try simp only [World.size_drew, size_alloc] at this ⊢); omega)))) (fun hHeld => ?_); clear hK K; try simp only [Act.put, List.setIfInBounds_toArray, List.set_cons_zero, List.set_cons_succ])
              refine wpAnyH_ready (rs := [0]) (by kernel_rfl) (by simp) ?_
              refine AllReadyH.cons (o := ⟨some 37, _, _, _, _, _⟩) rfl (fun K hK => ?_) AllReadyH.nil
              focus (go_simp; go_wp2_with fail; refine hK.out _ _ (by first | (with_reducible exact keep_step (by assumption) (below1 _ _) (by first | omega | ((try simp only [World.size_drew, size_alloc]); omega) | (have := (‹(_ ∧ Below (W8.heap.size) W8 _)›).2.size; (try simp only [World.size_drew, size_alloc] at this ⊢); omega))) | (exact keep_step (by assumption) (below1 _ _) (by first | omega | ((try simp only [World.size_drew, size_alloc]); omega) | (have := (‹(_ ∧ Below (W8.heap.size) W8 _)›).2.size; (try simp only [World.size_drew, size_alloc] at this ⊢); omega)))) (fun hHeld => ?_); clear hK K; try simp only [Act.put, List.setIfInBounds_toArray, List.set_cons_zero, List.set_cons_succ])
              refine wpAnyH_ready (rs := [4]) (by kernel_rfl) (by simp) ?_
              refine AllReadyH.cons (o := ⟨some 41, _, _, _, _, _⟩) rfl (fun K hK => ?_) AllReadyH.nil
              focus ((((with_reducible refine at_world (((W8.alloc (.cells #[.int .i64 l[j].1, .slice a3 l[j].2.length c3] 29)).alloc (.cells #[] 29)).drew) ?_); have hcc := (‹_ ∧ Below (W8.heap.size) W8 _›).2; have hC41 : True := trivial; obtain ⟨ar4, cr4, w4, hrun4, happ4, hb4, hout4, hrow4, hsz4⟩ := run_appL (P := Tryz.prog) ((W8.alloc (.cells #[.int .i64 l[j].1, .slice a3 l[j].2.length c3] 29)).alloc (.cells #[] 29)).drew ELoss.elem 24 24 (.agg #[.int .i64 0, .slice none 0 0]) 32 Tryz.underlying24 info_Loss rfl W8.heap.size (some ⟨W8.heap.size + 1, 0, none⟩) 0 [] [] ((by have := AppL.empty (E := ELoss) (n := 2) (e := 29) (W8.alloc (.cells #[.int .i64 l[j].1, .slice a3 l[j].2.length c3] 29)) W8.heap.size (by simp); rw [size_alloc] at this; exact this)) (by simp; omega) (by simp) (some ⟨g, 0, none⟩) cr (L.take cr) F1 (HSa.out.agree ELoss.elem (fun b o hb _ => by injection hb with hb; injection hb with hb; subst hb; exact hcc.block _ hg8) (fun f hf => hcc.block f (HF1.out f hf))) (fun f hf => HF1.out f hf) (by simp [maxLen]; omega) (by simp; omega); rw [htk] at hrun4; refine step_append_run _ rfl _ _ _ _ rfl _ _ rfl rfl _ _ hrun4 ?_; have HA4 := Lib.hid happ4)); refine hK.out _ _ (by first | (with_reducible exact keep_step (by assumption) (by assumption) (by first | omega | ((try simp only [World.size_drew, size_alloc]); omega) | (have := (‹(_ ∧ Below (W8.heap.size) W8 _)›).2.size; (try simp only [World.size_drew, size_alloc] at this ⊢); omega))) | first | exact ⟨fun _ _ _ => rfl, (Below.refl _ _).drew⟩ | exact keep_step (by assumption) (Below.drew (Below.refl _ _)) (Nat.le_refl _) | exact keep_step (by assumption) (by assumption) (by first | omega | ((try simp only [World.size_drew, size_alloc]); omega) | (have := (‹(_ ∧ Below (W8.heap.size) W8 _)›).2.size; (try simp only [World.size_drew, size_alloc] at this ⊢); omega))) (fun hHeld => ?_); clear hK K; try simp only [Act.put, List.setIfInBounds_toArray, List.set_cons_zero, List.set_cons_succ])
              refine wpAnyH_ready (rs := [7]) (by kernel_rfl) (by simp) ?_
              refine AllReadyH.cons (o := ⟨some 44, _, _, _, _, _⟩) rfl (fun K hK => ?_) AllReadyH.nil
              focus ((((with_reducible refine at_world (w4) ?_); have hcc := (‹_ ∧ Below (W8.heap.size) W8 _›).2; have _ := hC41; have hIX : Is w4 W8.heap.size 29 #[.int .i64 l[j].1, .slice a3 l[j].2.length c3] := Is.agree (w := ((W8.alloc (.cells #[.int .i64 l[j].1, .slice a3 l[j].2.length c3] 29)).alloc (.cells #[] 29)).drew) ((Is.new W8 #[.int .i64 l[j].1, .slice a3 l[j].2.length c3] 29).alloc _) (hout4 W8.heap.size (by simp only [World.size_drew, size_alloc]; omega) (fun k hk => by simp [Value.ownBlock] at hk; omega)); obtain ⟨ar5, cr5, w5, hrun5, happ5, hb5, hout5, hrow5, hsz5⟩ := run_appL (P := Tryz.prog) (w4) ELoss.elem 24 24 (.agg #[.int .i64 0, .slice none 0 0]) 32 Tryz.underlying24 info_Loss rfl W8.heap.size ar4 cr4 ([] ++ L.take cr) ([] ++ F1) (HA4.out) (by have := hcc.size; omega) HA4.out.cap.1 (some ⟨W8.heap.size, 0, none⟩) 1 [l[j]] G (Srcs.one ⟨hIX.cell 0 rfl, HI.out, a3, c3, hIX.cell 1 rfl, HG8.out.agree EStep.loc (fun f hf => hcc.block f (HGlt.out f hf))⟩) (fun f hf => HGlt.out f hf) (by simp [maxLen]; omega) (by simp; omega); refine step_append_run _ rfl _ _ _ _ rfl _ _ rfl rfl _ _ hrun5 ?_; have HA5 := Lib.hid happ5)); refine hK.out _ _ (by first | (with_reducible exact keep_step (by assumption) (by assumption) (by first | omega | ((try simp only [World.size_drew, size_alloc]); omega) | (have := (‹(_ ∧ Below (W8.heap.size) W8 _)›).2.size; (try simp only [World.size_drew, size_alloc] at this ⊢); omega))) | first | exact ⟨fun _ _ _ => rfl, (Below.refl _ _).drew⟩ | exact keep_step (by assumption) (Below.drew (Below.refl _ _)) (Nat.le_refl _) | exact keep_step (by assumption) (by assumption) (by first | omega | ((try simp only [World.size_drew, size_alloc]); omega) | (have := (‹(_ ∧ Below (W8.heap.size) W8 _)›).2.size; (try simp only [World.size_drew, size_alloc] at this ⊢); omega))) (fun hHeld => ?_); clear hK K; try simp only [Act.put, List.setIfInBounds_toArray, List.set_cons_zero, List.set_cons_succ])
              refine wpAnyH_ready (rs := [11]) (by kernel_rfl) (by simp) ?_
              refine AllReadyH.cons (o := ⟨some 48, _, _, _, _, _⟩) rfl (fun K hK => ?_) AllReadyH.nil
              focus ((((with_reducible refine at_world (w5) ?_); have hcc := (‹_ ∧ Below (W8.heap.size) W8 _›).2; obtain ⟨ar6, cr6, w6, hrun6, happ6, hb6, hout6, hrow6, hsz6⟩ := run_appL (P := Tryz.prog) w5 ELoss.elem 24 24 (.agg #[.int .i64 0, .slice none 0 0]) 32 Tryz.underlying24 info_Loss rfl W8.heap.size ar5 cr5 (([] ++ L.take cr) ++ [l[j]]) (([] ++ F1) ++ G) HA5.out (by have := hcc.size; omega) HA5.out.cap.1 (some ⟨g, 0, none⟩) 0 (L.drop cr) F2 (HSb0.out.agree ELoss.elem (fun b o hb _ => by injection hb with hb; injection hb with hb; subst hb; exact hcc.block _ hg8) (fun f hf => hcc.block f (HF2.out f hf))) (fun f hf => HF2.out f hf) (by simp [maxLen]; omega) (by simp; omega); rw [show (L.drop cr).length = 0 from by rw [hdn]; rfl] at hrun6; refine step_append_run _ rfl _ _ _ _ rfl _ _ rfl rfl _ _ hrun6 ?_)); refine hK.out _ _ (by first | (with_reducible exact keep_step (by assumption) (by assumption) (by first | omega | ((try simp only [World.size_drew, size_alloc]); omega) | (have := (‹(_ ∧ Below (W8.heap.size) W8 _)›).2.size; (try simp only [World.size_drew, size_alloc] at this ⊢); omega))) | first | exact ⟨fun _ _ _ => rfl, (Below.refl _ _).drew⟩ | exact keep_step (by assumption) (Below.drew (Below.refl _ _)) (Nat.le_refl _) | exact keep_step (by assumption) (by assumption) (by first | omega | ((try simp only [World.size_drew, size_alloc]); omega) | (have := (‹(_ ∧ Below (W8.heap.size) W8 _)›).2.size; (try simp only [World.size_drew, size_alloc] at this ⊢); omega))) (fun hHeld => ?_); clear hK K; try simp only [Act.put, List.setIfInBounds_toArray, List.set_cons_zero, List.set_cons_succ])
              refine wpAnyH_take (i := 12) (oi := ⟨some 3, _, _, _, _, _⟩) (v := ?_) rfl (by kernel_rfl) (by kernel_rfl) (by kernel_rfl) (fun _ _ _ h => h) (Or.inl ⟨by rfl, ?_⟩) (by assumption) ?_
              rotate_left 1
              · (intro w hSw; (try dsimp only at hSw); go_simp; try (with_reducible rfl))
              try simp only [Act.put, List.setIfInBounds_toArray, List.set_cons_zero, List.set_cons_succ]
              refine wpAnyH_done (by kernel_rfl) ?_ _
              all_goals
                obtain ⟨g6, hg6⟩ := AppL.some happ6 (by simp)
                subst hg6
                have HA6 := Lib.hid happ6
                have HSZ := Lib.hid (show W8.heap.size ≤ w6.heap.size from ((‹_ ∧ Below (W8.heap.size) W8 _›).2).size)
                have HUN := Lib.hid (show ∀ f, f < wr.heap.size → w6.heap[f]? = wr.heap[f]? from fun f hf => (((‹_ ∧ Below (W8.heap.size) W8 _›).2).block f (by omega)).trans (HB8.out.block f hf))
                have HUG := Lib.hid (show ∀ f ∈ G, Unf w6 f from fun f hf => (HG3.out f hf).2.2.agree ((((‹_ ∧ Below (W8.heap.size) W8 _›).2).block f (HGlt.out f hf)).trans (h38.out.block f (HG3.out f hf).2.1)))
                have HB6 := Lib.hid (HB8.out.trans (((‹_ ∧ Below (W8.heap.size) W8 _›).2).mono hs8))
                go_wp2_with fail
                go_roundw
                case rel =>
                  refine ⟨j + 1, ([] ++ L.take cr ++ [l[j]] ++ L.drop cr), g6, cr6, W8.heap.size, ([] ++ F1 ++ G ++ F2), by omega, by go_num, by first | rfl | (simp only [List.length_append, List.nil_append, List.length_singleton, htk, hdk]; done) | (simp only [List.length_append, List.nil_append, List.length_singleton, htk, hdk]; congr 1; omega), HA6, HSZ.out, by omega, Lib.hid (sfin2 w.heap.size HF.out.1 HF.out.2 HFF.out HG2.out (fun f hf => ⟨by have := (HG3.out f hf).1; omega, trivial⟩) HUN.out HUG.out (by omega)), Lib.hid (sfin1 HP.out (take_snoc l j hlt)), Lib.hid (by simpa using HSP.out), Lib.hid (HB.out.trans (HB6.out.mono hbs))⟩
                case measure => simp [intOf]; omega
            · have hck2 : k < cr := by omega
              refine wp_region_held_drew (S := fun w' => (∀ b o, b < W8.heap.size → w'.cell? ⟨b, o, none⟩ = W8.cell? ⟨b, o, none⟩) ∧ Below (W8.heap.size) W8 w') (by kernel_rfl) (by first | exact ⟨fun _ _ _ => rfl, (Below.refl _ _).drew⟩ | exact keep_step (by assumption) (Below.drew (Below.refl _ _)) (Nat.le_refl _) | exact keep_step (by assumption) (by assumption) (by first | omega | ((try simp only [World.size_drew, size_alloc]); omega) | (have := (‹(_ ∧ Below (W8.heap.size) W8 _)›).2.size; (try simp only [World.size_drew, size_alloc] at this ⊢); omega))) (fun hHeld => ?_)
              refine wpAnyH_take (i := 1) (oi := ⟨some 38, _, _, _, _, _⟩) (v := ?_) rfl (by kernel_rfl) (by kernel_rfl) (by kernel_rfl) (fun _ _ _ h => h) (Or.inl ⟨by rfl, ?_⟩) (by assumption) ?_
              rotate_left 1
              · (intro w hSw; (try dsimp only at hSw); go_simp; try (with_reducible rfl))
              try simp only [Act.put, List.setIfInBounds_toArray, List.set_cons_zero, List.set_cons_succ]
              refine wpAnyH_take (i := 2) (oi := ⟨some 39, _, _, _, _, _⟩) (v := ?_) rfl (by kernel_rfl) (by kernel_rfl) (by kernel_rfl) (fun _ _ _ h => h) (Or.inl ⟨by rfl, ?_⟩) (by assumption) ?_
              rotate_left 1
              · (intro w hSw; (try dsimp only at hSw); go_simp; try (with_reducible rfl))
              try simp only [Act.put, List.setIfInBounds_toArray, List.set_cons_zero, List.set_cons_succ]
              refine wpAnyH_take (i := 3) (oi := ⟨some 40, _, _, _, _, _⟩) (v := ?_) rfl (by kernel_rfl) (by kernel_rfl) (by kernel_rfl) (fun _ _ _ h => h) (Or.inl ⟨by rfl, ?_⟩) (by assumption) ?_
              rotate_left 1
              · (intro w hSw; (try dsimp only at hSw); go_simp; try (with_reducible rfl))
              try simp only [Act.put, List.setIfInBounds_toArray, List.set_cons_zero, List.set_cons_succ]
              refine wpAnyH_take (i := 5) (oi := ⟨some 42, _, _, _, _, _⟩) (v := ?_) rfl (by kernel_rfl) (by kernel_rfl) (by kernel_rfl) (fun _ _ _ h => h) (Or.inl ⟨by rfl, ?_⟩) (by assumption) ?_
              rotate_left 1
              · (intro w hSw; (try dsimp only at hSw); go_simp; try (with_reducible rfl))
              try simp only [Act.put, List.setIfInBounds_toArray, List.set_cons_zero, List.set_cons_succ]
              refine wpAnyH_take (i := 8) (oi := ⟨some 45, _, _, _, _, _⟩) (v := ?_) rfl (by kernel_rfl) (by kernel_rfl) (by kernel_rfl) (fun _ _ _ h => h) (Or.inl ⟨by rfl, ?_⟩) (by assumption) ?_
              rotate_left 1
              · (intro w hSw; (try dsimp only at hSw); go_simp; try (with_reducible rfl))
              try simp only [Act.put, List.setIfInBounds_toArray, List.set_cons_zero, List.set_cons_succ]
              refine wpAnyH_take (i := 9) (oi := ⟨some 46, _, _, _, _, _⟩) (v := ?_) rfl (by kernel_rfl) (by kernel_rfl) (by kernel_rfl) (fun _ _ _ h => h) (Or.inl ⟨by rfl, ?_⟩) (by assumption) ?_
              rotate_left 1
              · (intro w hSw; (try dsimp only at hSw); go_simp; try (with_reducible rfl))
              try simp only [Act.put, List.setIfInBounds_toArray, List.set_cons_zero, List.set_cons_succ]
              refine wpAnyH_take (i := 10) (oi := ⟨some 47, _, _, _, _, _⟩) (v := ?_) rfl (by kernel_rfl) (by kernel_rfl) (by kernel_rfl) (fun _ _ _ h => h) (Or.inl ⟨by rfl, ?_⟩) (by assumption) ?_
              rotate_left 1
              · (intro w hSw; (try dsimp only at hSw); go_simp; try (with_reducible rfl))
              try simp only [Act.put, List.setIfInBounds_toArray, List.set_cons_zero, List.set_cons_succ]
              refine wpAnyH_ready (rs := [0, 6]) (by kernel_rfl) (by simp) ?_
              refine AllReadyH.cons (o := ⟨some 37, _, _, _, _, _⟩) rfl (fun K hK => ?_) ?_
              focus (go_simp; go_wp2_with fail; refine hK.out _ _ (by first | (with_reducible exact keep_step (by assumption) (below1 _ _) (by first | omega | ((try simp only [World.size_drew, size_alloc]); omega) | (have := (‹(_ ∧ Below (W8.heap.size) W8 _)›).2.size; (try simp only [World.size_drew, size_alloc] at this ⊢); omega))) | (exact keep_step (by assumption) (below1 _ _) (by first | omega | ((try simp only [World.size_drew, size_alloc]); omega) | (have := (‹(_ ∧ Below (W8.heap.size) W8 _)›).2.size; (try simp only [World.size_drew, size_alloc] at this ⊢); omega)))) (fun hHeld => ?_); clear hK K; try simp only [Act.put, List.setIfInBounds_toArray, List.set_cons_zero, List.set_cons_succ])
              refine wpAnyH_ready (rs := [4, 6]) (by kernel_rfl) (by simp) ?_
              refine AllReadyH.cons (o := ⟨some 41, _, _, _, _, _⟩) rfl (fun K hK => ?_) ?_
              focus ((((with_reducible refine at_world ((W8.alloc (.cells #[] 29)).drew) ?_); have hcc := (‹_ ∧ Below (W8.heap.size) W8 _›).2; obtain ⟨ar4, cr4, w4, hrun4, happ4, hb4, hout4, hrow4, hsz4⟩ := run_appL (P := Tryz.prog) (W8.alloc (.cells #[] 29)).drew ELoss.elem 24 24 (.agg #[.int .i64 0, .slice none 0 0]) 32 Tryz.underlying24 info_Loss rfl W8.heap.size (some ⟨W8.heap.size, 0, none⟩) 0 [] [] (AppL.empty W8.drew W8.heap.size (by simp)) (by simp) (by simp) (some ⟨g, 0, none⟩) cr (L.take k) F1 (HSa.out.agree ELoss.elem (fun b o hb _ => by injection hb with hb; injection hb with hb; subst hb; exact hcc.block _ hg8) (fun f hf => hcc.block f (HF1.out f hf))) (fun f hf => HF1.out f hf) (by simp [maxLen]; omega) (by simp; omega); rw [htk] at hrun4; refine step_append_run _ rfl _ _ _ _ rfl _ _ rfl rfl _ _ hrun4 ?_; have HA4 := Lib.hid happ4)); refine hK.out _ _ (by first | (with_reducible exact keep_step (by assumption) (by assumption) (by first | omega | ((try simp only [World.size_drew, size_alloc]); omega) | (have := (‹(_ ∧ Below (W8.heap.size) W8 _)›).2.size; (try simp only [World.size_drew, size_alloc] at this ⊢); omega))) | first | exact ⟨fun _ _ _ => rfl, (Below.refl _ _).drew⟩ | exact keep_step (by assumption) (Below.drew (Below.refl _ _)) (Nat.le_refl _) | exact keep_step (by assumption) (by assumption) (by first | omega | ((try simp only [World.size_drew, size_alloc]); omega) | (have := (‹(_ ∧ Below (W8.heap.size) W8 _)›).2.size; (try simp only [World.size_drew, size_alloc] at this ⊢); omega))) (fun hHeld => ?_); clear hK K; try simp only [Act.put, List.setIfInBounds_toArray, List.set_cons_zero, List.set_cons_succ])
              refine wpAnyH_ready (rs := [6]) (by kernel_rfl) (by simp) ?_
              refine AllReadyH.cons (o := ⟨some 43, _, _, _, _, _⟩) rfl (fun K hK => ?_) AllReadyH.nil
              focus (go_simp; go_wp2_with fail; refine hK.out _ _ (by first | (with_reducible exact keep_step (by assumption) (below1 _ _) (by first | omega | ((try simp only [World.size_drew, size_alloc]); omega) | (have := (‹(_ ∧ Below (W8.heap.size) W8 _)›).2.size; (try simp only [World.size_drew, size_alloc] at this ⊢); omega))) | (exact keep_step (by assumption) (below1 _ _) (by first | omega | ((try simp only [World.size_drew, size_alloc]); omega) | (have := (‹(_ ∧ Below (W8.heap.size) W8 _)›).2.size; (try simp only [World.size_drew, size_alloc] at this ⊢); omega)))) (fun hHeld => ?_); clear hK K; try simp only [Act.put, List.setIfInBounds_toArray, List.set_cons_zero, List.set_cons_succ])
              refine wpAnyH_ready (rs := [7]) (by kernel_rfl) (by simp) ?_
              refine AllReadyH.cons (o := ⟨some 44, _, _, _, _, _⟩) rfl (fun K hK => ?_) AllReadyH.nil
              focus ((((with_reducible refine at_world (w4.alloc (.cells #[.int .i64 l[j].1, .slice a3 l[j].2.length c3] 29)) ?_); have hcc := (‹_ ∧ Below (W8.heap.size) W8 _›).2; obtain ⟨ar5, cr5, w5, hrun5, happ5, hb5, hout5, hrow5, hsz5⟩ := run_appL (P := Tryz.prog) (w4.alloc (.cells #[.int .i64 l[j].1, .slice a3 l[j].2.length c3] 29)) ELoss.elem 24 24 (.agg #[.int .i64 0, .slice none 0 0]) 32 Tryz.underlying24 info_Loss rfl W8.heap.size ar4 cr4 ([] ++ L.take k) ([] ++ F1) (HA4.out.agree ELoss.elem (fun f hf => (below1 _ _).block f hf) (by have := hsz4; simp at this; omega)) (by have := hcc.size; omega) HA4.out.cap.1 (some ⟨w4.heap.size, 0, none⟩) 1 [l[j]] G (Srcs.one ⟨(Is.new w4 _ _).cell 0 rfl, HI.out, a3, c3, (Is.new w4 _ _).cell 1 rfl, HG8.out.agree EStep.loc (fun f hf => hcc.block f (HGlt.out f hf))⟩) (fun f hf => HGlt.out f hf) (by simp [maxLen]; omega) (by simp; omega); simp only [List.nil_append, htk] at hrun5; refine step_append_run _ rfl _ _ _ _ rfl _ _ rfl rfl _ _ hrun5 ?_; have HA5 := Lib.hid happ5)); refine hK.out _ _ (by first | (with_reducible exact keep_step (by assumption) (by assumption) (by first | omega | ((try simp only [World.size_drew, size_alloc]); omega) | (have := (‹(_ ∧ Below (W8.heap.size) W8 _)›).2.size; (try simp only [World.size_drew, size_alloc] at this ⊢); omega))) | first | exact ⟨fun _ _ _ => rfl, (Below.refl _ _).drew⟩ | exact keep_step (by assumption) (Below.drew (Below.refl _ _)) (Nat.le_refl _) | exact keep_step (by assumption) (by assumption) (by first | omega | ((try simp only [World.size_drew, size_alloc]); omega) | (have := (‹(_ ∧ Below (W8.heap.size) W8 _)›).2.size; (try simp only [World.size_drew, size_alloc] at this ⊢); omega))) (fun hHeld => ?_); clear hK K; try simp only [Act.put, List.setIfInBounds_toArray, List.set_cons_zero, List.set_cons_succ])
              refine wpAnyH_ready (rs := [11]) (by kernel_rfl) (by simp) ?_
              refine AllReadyH.cons (o := ⟨some 48, _, _, _, _, _⟩) rfl (fun K hK => ?_) AllReadyH.nil
              focus ((((with_reducible refine at_world (w5) ?_); have hcc := (‹_ ∧ Below (W8.heap.size) W8 _›).2; obtain ⟨ar6, cr6, w6, hrun6, happ6, hb6, hout6, hrow6, hsz6⟩ := run_appL (P := Tryz.prog) w5 ELoss.elem 24 24 (.agg #[.int .i64 0, .slice none 0 0]) 32 Tryz.underlying24 info_Loss rfl W8.heap.size ar5 cr5 (([] ++ L.take k) ++ [l[j]]) (([] ++ F1) ++ G) HA5.out (by have := hcc.size; omega) HA5.out.cap.1 (some ⟨g, k * 2, none⟩) (cr - k) (L.drop k) F2 (HSb.out.agree ELoss.elem (fun b o hb _ => by injection hb with hb; injection hb with hb; subst hb; exact hcc.block _ hg8) (fun f hf => hcc.block f (HF2.out f hf))) (fun f hf => HF2.out f hf) (by simp [maxLen]; omega) (by simp; omega); rw [hdk] at hrun6; refine step_append_run _ rfl _ _ _ _ rfl _ _ rfl rfl _ _ hrun6 ?_)); refine hK.out _ _ (by first | (with_reducible exact keep_step (by assumption) (by assumption) (by first | omega | ((try simp only [World.size_drew, size_alloc]); omega) | (have := (‹(_ ∧ Below (W8.heap.size) W8 _)›).2.size; (try simp only [World.size_drew, size_alloc] at this ⊢); omega))) | first | exact ⟨fun _ _ _ => rfl, (Below.refl _ _).drew⟩ | exact keep_step (by assumption) (Below.drew (Below.refl _ _)) (Nat.le_refl _) | exact keep_step (by assumption) (by assumption) (by first | omega | ((try simp only [World.size_drew, size_alloc]); omega) | (have := (‹(_ ∧ Below (W8.heap.size) W8 _)›).2.size; (try simp only [World.size_drew, size_alloc] at this ⊢); omega))) (fun hHeld => ?_); clear hK K; try simp only [Act.put, List.setIfInBounds_toArray, List.set_cons_zero, List.set_cons_succ])
              refine wpAnyH_take (i := 12) (oi := ⟨some 3, _, _, _, _, _⟩) (v := ?_) rfl (by kernel_rfl) (by kernel_rfl) (by kernel_rfl) (fun _ _ _ h => h) (Or.inl ⟨by rfl, ?_⟩) (by assumption) ?_
              rotate_left 1
              · (intro w hSw; (try dsimp only at hSw); go_simp; try (with_reducible rfl))
              try simp only [Act.put, List.setIfInBounds_toArray, List.set_cons_zero, List.set_cons_succ]
              refine wpAnyH_done (by kernel_rfl) ?_ _
              rotate_left 1
              refine AllReadyH.cons (o := ⟨some 43, _, _, _, _, _⟩) rfl (fun K hK => ?_) AllReadyH.nil
              focus (go_simp; go_wp2_with fail; refine hK.out _ _ (by first | (with_reducible exact keep_step (by assumption) (below1 _ _) (by first | omega | ((try simp only [World.size_drew, size_alloc]); omega) | (have := (‹(_ ∧ Below (W8.heap.size) W8 _)›).2.size; (try simp only [World.size_drew, size_alloc] at this ⊢); omega))) | (exact keep_step (by assumption) (below1 _ _) (by first | omega | ((try simp only [World.size_drew, size_alloc]); omega) | (have := (‹(_ ∧ Below (W8.heap.size) W8 _)›).2.size; (try simp only [World.size_drew, size_alloc] at this ⊢); omega)))) (fun hHeld => ?_); clear hK K; try simp only [Act.put, List.setIfInBounds_toArray, List.set_cons_zero, List.set_cons_succ])
              refine wpAnyH_ready (rs := [4]) (by kernel_rfl) (by simp) ?_
              refine AllReadyH.cons (o := ⟨some 41, _, _, _, _, _⟩) rfl (fun K hK => ?_) AllReadyH.nil
              focus ((((with_reducible refine at_world (((W8.alloc (.cells #[] 29)).alloc (.cells #[.int .i64 l[j].1, .slice a3 l[j].2.length c3] 29)).drew) ?_); have hcc := (‹_ ∧ Below (W8.heap.size) W8 _›).2; have hB41 : True := trivial; obtain ⟨ar4, cr4, w4, hrun4, happ4, hb4, hout4, hrow4, hsz4⟩ := run_appL (P := Tryz.prog) ((W8.alloc (.cells #[] 29)).alloc (.cells #[.int .i64 l[j].1, .slice a3 l[j].2.length c3] 29)).drew ELoss.elem 24 24 (.agg #[.int .i64 0, .slice none 0 0]) 32 Tryz.underlying24 info_Loss rfl W8.heap.size (some ⟨W8.heap.size, 0, none⟩) 0 [] [] ((AppL.empty W8.drew W8.heap.size (by simp)).agree ELoss.elem (fun f hf => (below1 _ _).block f hf) (by simp)) (by simp; omega) (by simp) (some ⟨g, 0, none⟩) cr (L.take k) F1 (HSa.out.agree ELoss.elem (fun b o hb _ => by injection hb with hb; injection hb with hb; subst hb; exact hcc.block _ hg8) (fun f hf => hcc.block f (HF1.out f hf))) (fun f hf => HF1.out f hf) (by simp [maxLen]; omega) (by simp; omega); rw [htk] at hrun4; refine step_append_run _ rfl _ _ _ _ rfl _ _ rfl rfl _ _ hrun4 ?_; have HA4 := Lib.hid happ4)); refine hK.out _ _ (by first | (with_reducible exact keep_step (by assumption) (by assumption) (by first | omega | ((try simp only [World.size_drew, size_alloc]); omega) | (have := (‹(_ ∧ Below (W8.heap.size) W8 _)›).2.size; (try simp only [World.size_drew, size_alloc] at this ⊢); omega))) | first | exact ⟨fun _ _ _ => rfl, (Below.refl _ _).drew⟩ | exact keep_step (by assumption) (Below.drew (Below.refl _ _)) (Nat.le_refl _) | exact keep_step (by assumption) (by assumption) (by first | omega | ((try simp only [World.size_drew, size_alloc]); omega) | (have := (‹(_ ∧ Below (W8.heap.size) W8 _)›).2.size; (try simp only [World.size_drew, size_alloc] at this ⊢); omega))) (fun hHeld => ?_); clear hK K; try simp only [Act.put, List.setIfInBounds_toArray, List.set_cons_zero, List.set_cons_succ])
              refine wpAnyH_ready (rs := [7]) (by kernel_rfl) (by simp) ?_
              refine AllReadyH.cons (o := ⟨some 44, _, _, _, _, _⟩) rfl (fun K hK => ?_) AllReadyH.nil
              focus ((((with_reducible refine at_world (w4) ?_); have hcc := (‹_ ∧ Below (W8.heap.size) W8 _›).2; have _ := hB41; have hIX : Is w4 (W8.heap.size + 1) 29 #[.int .i64 l[j].1, .slice a3 l[j].2.length c3] := Is.agree (w := ((W8.alloc (.cells #[] 29)).alloc (.cells #[.int .i64 l[j].1, .slice a3 l[j].2.length c3] 29)).drew) (by have := Is.new (W8.alloc (.cells #[] 29)) #[.int .i64 l[j].1, .slice a3 l[j].2.length c3] 29; rw [size_alloc] at this; exact this) (hout4 (W8.heap.size + 1) (by simp only [World.size_drew, size_alloc]; omega) (fun k hk => by simp [Value.ownBlock] at hk; omega)); obtain ⟨ar5, cr5, w5, hrun5, happ5, hb5, hout5, hrow5, hsz5⟩ := run_appL (P := Tryz.prog) (w4) ELoss.elem 24 24 (.agg #[.int .i64 0, .slice none 0 0]) 32 Tryz.underlying24 info_Loss rfl W8.heap.size ar4 cr4 ([] ++ L.take k) ([] ++ F1) (HA4.out) (by have := hcc.size; omega) HA4.out.cap.1 (some ⟨W8.heap.size + 1, 0, none⟩) 1 [l[j]] G (Srcs.one ⟨hIX.cell 0 rfl, HI.out, a3, c3, hIX.cell 1 rfl, HG8.out.agree EStep.loc (fun f hf => hcc.block f (HGlt.out f hf))⟩) (fun f hf => HGlt.out f hf) (by simp [maxLen]; omega) (by simp; omega); refine step_append_run _ rfl _ _ _ _ rfl _ _ rfl rfl _ _ hrun5 ?_; have HA5 := Lib.hid happ5)); refine hK.out _ _ (by first | (with_reducible exact keep_step (by assumption) (by assumption) (by first | omega | ((try simp only [World.size_drew, size_alloc]); omega) | (have := (‹(_ ∧ Below (W8.heap.size) W8 _)›).2.size; (try simp only [World.size_drew, size_alloc] at this ⊢); omega))) | first | exact ⟨fun _ _ _ => rfl, (Below.refl _ _).drew⟩ | exact keep_step (by assumption) (Below.drew (Below.refl _ _)) (Nat.le_refl _) | exact keep_step (by assumption) (by assumption) (by first | omega | ((try simp only [World.size_drew, size_alloc]); omega) | (have := (‹(_ ∧ Below (W8.heap.size) W8 _)›).2.size; (try simp only [World.size_drew, size_alloc] at this ⊢); omega))) (fun hHeld => ?_); clear hK K; try simp only [Act.put, List.setIfInBounds_toArray, List.set_cons_zero, List.set_cons_succ])
              refine wpAnyH_ready (rs := [11]) (by kernel_rfl) (by simp) ?_
              refine AllReadyH.cons (o := ⟨some 48, _, _, _, _, _⟩) rfl (fun K hK => ?_) AllReadyH.nil
              focus ((((with_reducible refine at_world (w5) ?_); have hcc := (‹_ ∧ Below (W8.heap.size) W8 _›).2; obtain ⟨ar6, cr6, w6, hrun6, happ6, hb6, hout6, hrow6, hsz6⟩ := run_appL (P := Tryz.prog) w5 ELoss.elem 24 24 (.agg #[.int .i64 0, .slice none 0 0]) 32 Tryz.underlying24 info_Loss rfl W8.heap.size ar5 cr5 (([] ++ L.take k) ++ [l[j]]) (([] ++ F1) ++ G) HA5.out (by have := hcc.size; omega) HA5.out.cap.1 (some ⟨g, k * 2, none⟩) (cr - k) (L.drop k) F2 (HSb.out.agree ELoss.elem (fun b o hb _ => by injection hb with hb; injection hb with hb; subst hb; exact hcc.block _ hg8) (fun f hf => hcc.block f (HF2.out f hf))) (fun f hf => HF2.out f hf) (by simp [maxLen]; omega) (by simp; omega); rw [hdk] at hrun6; refine step_append_run _ rfl _ _ _ _ rfl _ _ rfl rfl _ _ hrun6 ?_)); refine hK.out _ _ (by first | (with_reducible exact keep_step (by assumption) (by assumption) (by first | omega | ((try simp only [World.size_drew, size_alloc]); omega) | (have := (‹(_ ∧ Below (W8.heap.size) W8 _)›).2.size; (try simp only [World.size_drew, size_alloc] at this ⊢); omega))) | first | exact ⟨fun _ _ _ => rfl, (Below.refl _ _).drew⟩ | exact keep_step (by assumption) (Below.drew (Below.refl _ _)) (Nat.le_refl _) | exact keep_step (by assumption) (by assumption) (by first | omega | ((try simp only [World.size_drew, size_alloc]); omega) | (have := (‹(_ ∧ Below (W8.heap.size) W8 _)›).2.size; (try simp only [World.size_drew, size_alloc] at this ⊢); omega))) (fun hHeld => ?_); clear hK K; try simp only [Act.put, List.setIfInBounds_toArray, List.set_cons_zero, List.set_cons_succ])
              refine wpAnyH_take (i := 12) (oi := ⟨some 3, _, _, _, _, _⟩) (v := ?_) rfl (by kernel_rfl) (by kernel_rfl) (by kernel_rfl) (fun _ _ _ h => h) (Or.inl ⟨by rfl, ?_⟩) (by assumption) ?_
              rotate_left 1
              · (intro w hSw; (try dsimp only at hSw); go_simp; try (with_reducible rfl))
              try simp only [Act.put, List.setIfInBounds_toArray, List.set_cons_zero, List.set_cons_succ]
              refine wpAnyH_done (by kernel_rfl) ?_ _
              rotate_left 1
              refine AllReadyH.cons (o := ⟨some 43, _, _, _, _, _⟩) rfl (fun K hK => ?_) AllReadyH.nil
              focus (go_simp; go_wp2_with fail; refine hK.out _ _ (by first | (with_reducible exact keep_step (by assumption) (below1 _ _) (by first | omega | ((try simp only [World.size_drew, size_alloc]); omega) | (have := (‹(_ ∧ Below (W8.heap.size) W8 _)›).2.size; (try simp only [World.size_drew, size_alloc] at this ⊢); omega))) | (exact keep_step (by assumption) (below1 _ _) (by first | omega | ((try simp only [World.size_drew, size_alloc]); omega) | (have := (‹(_ ∧ Below (W8.heap.size) W8 _)›).2.size; (try simp only [World.size_drew, size_alloc] at this ⊢); omega)))) (fun hHeld => ?_); clear hK K; try simp only [Act.put, List.setIfInBounds_toArray, List.set_cons_zero, List.set_cons_succ])
              refine wpAnyH_ready (rs := [0]) (by kernel_rfl) (by simp) ?_
              refine AllReadyH.cons (o := ⟨some 37, _, _, _, _, _⟩) rfl (fun K hK => ?_) AllReadyH.nil
              focus (go_simp; go_wp2_with fail; refine hK.out _ _ (by first | (with_reducible exact keep_step (by assumption) (below1 _ _) (by first | omega | ((try simp only [World.size_drew, size_alloc]); omega) | (have := (‹(_ ∧ Below (W8.heap.size) W8 _)›).2.size; (try simp only [World.size_drew, size_alloc] at this ⊢); omega))) | (exact keep_step (by assumption) (below1 _ _) (by first | omega | ((try simp only [World.size_drew, size_alloc]); omega) | (have := (‹(_ ∧ Below (W8.heap.size) W8 _)›).2.size; (try simp only [World.size_drew, size_alloc] at this ⊢); omega)))) (fun hHeld => ?_); clear hK K; try simp only [Act.put, List.setIfInBounds_toArray, List.set_cons_zero, List.set_cons_succ])
              refine wpAnyH_ready (rs := [4]) (by kernel_rfl) (by simp) ?_
              refine AllReadyH.cons (o := ⟨some 41, _, _, _, _, _⟩) rfl (fun K hK => ?_) AllReadyH.nil
              focus ((((with_reducible refine at_world (((W8.alloc (.cells #[.int .i64 l[j].1, .slice a3 l[j].2.length c3] 29)).alloc (.cells #[] 29)).drew) ?_); have hcc := (‹_ ∧ Below (W8.heap.size) W8 _›).2; have hC41 : True := trivial; obtain ⟨ar4, cr4, w4, hrun4, happ4, hb4, hout4, hrow4, hsz4⟩ := run_appL (P := Tryz.prog) ((W8.alloc (.cells #[.int .i64 l[j].1, .slice a3 l[j].2.length c3] 29)).alloc (.cells #[] 29)).drew ELoss.elem 24 24 (.agg #[.int .i64 0, .slice none 0 0]) 32 Tryz.underlying24 info_Loss rfl W8.heap.size (some ⟨W8.heap.size + 1, 0, none⟩) 0 [] [] ((by have := AppL.empty (E := ELoss) (n := 2) (e := 29) (W8.alloc (.cells #[.int .i64 l[j].1, .slice a3 l[j].2.length c3] 29)) W8.heap.size (by simp); rw [size_alloc] at this; exact this)) (by simp; omega) (by simp) (some ⟨g, 0, none⟩) cr (L.take k) F1 (HSa.out.agree ELoss.elem (fun b o hb _ => by injection hb with hb; injection hb with hb; subst hb; exact hcc.block _ hg8) (fun f hf => hcc.block f (HF1.out f hf))) (fun f hf => HF1.out f hf) (by simp [maxLen]; omega) (by simp; omega); rw [htk] at hrun4; refine step_append_run _ rfl _ _ _ _ rfl _ _ rfl rfl _ _ hrun4 ?_; have HA4 := Lib.hid happ4)); refine hK.out _ _ (by first | (with_reducible exact keep_step (by assumption) (by assumption) (by first | omega | ((try simp only [World.size_drew, size_alloc]); omega) | (have := (‹(_ ∧ Below (W8.heap.size) W8 _)›).2.size; (try simp only [World.size_drew, size_alloc] at this ⊢); omega))) | first | exact ⟨fun _ _ _ => rfl, (Below.refl _ _).drew⟩ | exact keep_step (by assumption) (Below.drew (Below.refl _ _)) (Nat.le_refl _) | exact keep_step (by assumption) (by assumption) (by first | omega | ((try simp only [World.size_drew, size_alloc]); omega) | (have := (‹(_ ∧ Below (W8.heap.size) W8 _)›).2.size; (try simp only [World.size_drew, size_alloc] at this ⊢); omega))) (fun hHeld => ?_); clear hK K; try simp only [Act.put, List.setIfInBounds_toArray, List.set_cons_zero, List.set_cons_succ])
              refine wpAnyH_ready (rs := [7]) (by kernel_rfl) (by simp) ?_
              refine AllReadyH.cons (o := ⟨some 44, _, _, _, _, _⟩) rfl (fun K hK => ?_) AllReadyH.nil
              focus ((((with_reducible refine at_world (w4) ?_); have hcc := (‹_ ∧ Below (W8.heap.size) W8 _›).2; have _ := hC41; have hIX : Is w4 W8.heap.size 29 #[.int .i64 l[j].1, .slice a3 l[j].2.length c3] := Is.agree (w := ((W8.alloc (.cells #[.int .i64 l[j].1, .slice a3 l[j].2.length c3] 29)).alloc (.cells #[] 29)).drew) ((Is.new W8 #[.int .i64 l[j].1, .slice a3 l[j].2.length c3] 29).alloc _) (hout4 W8.heap.size (by simp only [World.size_drew, size_alloc]; omega) (fun k hk => by simp [Value.ownBlock] at hk; omega)); obtain ⟨ar5, cr5, w5, hrun5, happ5, hb5, hout5, hrow5, hsz5⟩ := run_appL (P := Tryz.prog) (w4) ELoss.elem 24 24 (.agg #[.int .i64 0, .slice none 0 0]) 32 Tryz.underlying24 info_Loss rfl W8.heap.size ar4 cr4 ([] ++ L.take k) ([] ++ F1) (HA4.out) (by have := hcc.size; omega) HA4.out.cap.1 (some ⟨W8.heap.size, 0, none⟩) 1 [l[j]] G (Srcs.one ⟨hIX.cell 0 rfl, HI.out, a3, c3, hIX.cell 1 rfl, HG8.out.agree EStep.loc (fun f hf => hcc.block f (HGlt.out f hf))⟩) (fun f hf => HGlt.out f hf) (by simp [maxLen]; omega) (by simp; omega); refine step_append_run _ rfl _ _ _ _ rfl _ _ rfl rfl _ _ hrun5 ?_; have HA5 := Lib.hid happ5)); refine hK.out _ _ (by first | (with_reducible exact keep_step (by assumption) (by assumption) (by first | omega | ((try simp only [World.size_drew, size_alloc]); omega) | (have := (‹(_ ∧ Below (W8.heap.size) W8 _)›).2.size; (try simp only [World.size_drew, size_alloc] at this ⊢); omega))) | first | exact ⟨fun _ _ _ => rfl, (Below.refl _ _).drew⟩ | exact keep_step (by assumption) (Below.drew (Below.refl _ _)) (Nat.le_refl _) | exact keep_step (by assumption) (by assumption) (by first | omega | ((try simp only [World.size_drew, size_alloc]); omega) | (have := (‹(_ ∧ Below (W8.heap.size) W8 _)›).2.size; (try simp only [World.size_drew, size_alloc] at this ⊢); omega))) (fun hHeld => ?_); clear hK K; try simp only [Act.put, List.setIfInBounds_toArray, List.set_cons_zero, List.set_cons_succ])
              refine wpAnyH_ready (rs := [11]) (by kernel_rfl) (by simp) ?_
              refine AllReadyH.cons (o := ⟨some 48, _, _, _, _, _⟩) rfl (fun K hK => ?_) AllReadyH.nil
              focus ((((with_reducible refine at_world (w5) ?_); have hcc := (‹_ ∧ Below (W8.heap.size) W8 _›).2; obtain ⟨ar6, cr6, w6, hrun6, happ6, hb6, hout6, hrow6, hsz6⟩ := run_appL (P := Tryz.prog) w5 ELoss.elem 24 24 (.agg #[.int .i64 0, .slice none 0 0]) 32 Tryz.underlying24 info_Loss rfl W8.heap.size ar5 cr5 (([] ++ L.take k) ++ [l[j]]) (([] ++ F1) ++ G) HA5.out (by have := hcc.size; omega) HA5.out.cap.1 (some ⟨g, k * 2, none⟩) (cr - k) (L.drop k) F2 (HSb.out.agree ELoss.elem (fun b o hb _ => by injection hb with hb; injection hb with hb; subst hb; exact hcc.block _ hg8) (fun f hf => hcc.block f (HF2.out f hf))) (fun f hf => HF2.out f hf) (by simp [maxLen]; omega) (by simp; omega); rw [hdk] at hrun6; refine step_append_run _ rfl _ _ _ _ rfl _ _ rfl rfl _ _ hrun6 ?_)); refine hK.out _ _ (by first | (with_reducible exact keep_step (by assumption) (by assumption) (by first | omega | ((try simp only [World.size_drew, size_alloc]); omega) | (have := (‹(_ ∧ Below (W8.heap.size) W8 _)›).2.size; (try simp only [World.size_drew, size_alloc] at this ⊢); omega))) | first | exact ⟨fun _ _ _ => rfl, (Below.refl _ _).drew⟩ | exact keep_step (by assumption) (Below.drew (Below.refl _ _)) (Nat.le_refl _) | exact keep_step (by assumption) (by assumption) (by first | omega | ((try simp only [World.size_drew, size_alloc]); omega) | (have := (‹(_ ∧ Below (W8.heap.size) W8 _)›).2.size; (try simp only [World.size_drew, size_alloc] at this ⊢); omega))) (fun hHeld => ?_); clear hK K; try simp only [Act.put, List.setIfInBounds_toArray, List.set_cons_zero, List.set_cons_succ])
              refine wpAnyH_take (i := 12) (oi := ⟨some 3, _, _, _, _, _⟩) (v := ?_) rfl (by kernel_rfl) (by kernel_rfl) (by kernel_rfl) (fun _ _ _ h => h) (Or.inl ⟨by rfl, ?_⟩) (by assumption) ?_
              rotate_left 1
              · (intro w hSw; (try dsimp only at hSw); go_simp; try (with_reducible rfl))
              try simp only [Act.put, List.setIfInBounds_toArray, List.set_cons_zero, List.set_cons_succ]
              refine wpAnyH_done (by kernel_rfl) ?_ _
              all_goals
                obtain ⟨g6, hg6⟩ := AppL.some happ6 (by simp)
                subst hg6
                have HA6 := Lib.hid happ6
                have HSZ := Lib.hid (show W8.heap.size ≤ w6.heap.size from ((‹_ ∧ Below (W8.heap.size) W8 _›).2).size)
                have HUN := Lib.hid (show ∀ f, f < wr.heap.size → w6.heap[f]? = wr.heap[f]? from fun f hf => (((‹_ ∧ Below (W8.heap.size) W8 _›).2).block f (by omega)).trans (HB8.out.block f hf))
                have HUG := Lib.hid (show ∀ f ∈ G, Unf w6 f from fun f hf => (HG3.out f hf).2.2.agree ((((‹_ ∧ Below (W8.heap.size) W8 _›).2).block f (HGlt.out f hf)).trans (h38.out.block f (HG3.out f hf).2.1)))
                have HB6 := Lib.hid (HB8.out.trans (((‹_ ∧ Below (W8.heap.size) W8 _›).2).mono hs8))
                go_wp2_with fail
                go_roundw
                case rel =>
                  refine ⟨j + 1, ([] ++ L.take k ++ [l[j]] ++ L.drop k), g6, cr6, W8.heap.size, ([] ++ F1 ++ G ++ F2), by omega, by go_num, by first | rfl | (simp only [List.length_append, List.nil_append, List.length_singleton, htk, hdk]; done) | (simp only [List.length_append, List.nil_append, List.length_singleton, htk, hdk]; congr 1; omega), HA6, HSZ.out, by omega, Lib.hid (sfin2 w.heap.size HF.out.1 HF.out.2 HFF.out HG2.out (fun f hf => ⟨by have := (HG3.out f hf).1; omega, trivial⟩) HUN.out HUG.out (by omega)), Lib.hid (sfin1 HP.out (take_snoc l j hlt)), Lib.hid (by simpa using HSP.out), Lib.hid (HB.out.trans (HB6.out.mono hbs))⟩
                case measure => simp [intOf]; omega
    · have hjj : l.length = j := by omega
      have HE : Hid (L = srtL l) := Lib.hid (srtL_eq (by have := HP.out; rwa [← hjj, List.take_length] at this) HS.out)
      have e : L.length = (srtL l).length := by rw [HE.out]
      rw [HE.out] at HA
      go_wp2_with fail
      go_ret
      exact ⟨_, cr, by rw [← e]; rfl, HA.out.own HF.out.1 hwr HF.out.2, HB.out⟩
end Go.Proofs.YtfbodhfdomdkpaaGreatDoor
