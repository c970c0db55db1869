/- Texts of this proof, merged: LossT3, AppG, LawLoss, SortP. No condition beyond what each theorem states. -/
import Derived.Test.YtfbodhfdomdkpaaGreatDoorRows
import Derived.WalkKit
import Derived.ProofKit
import Derived.OpenShut
import Derived.Handy
import Derived.Lib.Hide
import Derived.Lib.SmallJoins
import Derived.Lib.Join
import Derived.Deep.RegionHeld3
import Derived.Deep.AppendLies
import Derived.Deep.RegionLaw
import Derived.Deep.QuietTactic
import Derived.BigQuiet
import Derived.Lib.AppendIntMem
import Derived.Lib.ItoaLen
import Derived.Test.YtfbodhfdomdkpaaGreatDoorZG1
import Derived.Test.YtfbodhfdomdkpaaGreatDoorZG2
import Derived.Test.YtfbodhfdomdkpaaGreatDoorZG3
import Derived.Test.YtfbodhfdomdkpaaGreatDoorZG4
import Derived.Test.YtfbodhfdomdkpaaGreatDoorShelf
import Derived.Test.YtfbodhfdomdkpaaGreatDoorZG6
import Derived.Test.YtfbodhfdomdkpaaGreatDoorZG7
import Derived.Deep.AppendSrc
import Derived.Deep.Upon
import Derived.Lib.AppendZeros
import Derived.Test.YtfbodhfdomdkpaaGreatDoorZG5
set_option linter.unusedSimpArgs false
set_option linter.unnecessarySimpa false
namespace Go.Proofs.YtfbodhfdomdkpaaGreatDoor
open Go.ChangeShapes Go.WideShapes Go.ChangeAt Go.RowKit Go.Joins
set_option linter.unusedVariables false
set_option maxRecDepth 100000
def EStr (w : World) (b o : Nat) (x : ByteArray) (F : List Nat) : Prop := F = [] ∧ w.cell? ⟨b, o, none⟩ = some (.string x)
theorem EStr.elem : Elem EStr 1 := by
  refine ⟨by omega, ?_, ?_⟩
  · intro x w w' b o b' o' F h hc _
    exact ⟨h.1, by have := hc 0 (by omega); rw [Nat.add_zero, Nat.add_zero] at this; rw [this]; exact h.2⟩
  · intro x w b o F h i hi
    obtain rfl : i = 0 := by omega
    exact ⟨_, h.2, rfl⟩
theorem info_Str : (Tryz.prog.info? 9).map (fun i => (i.zero, i.size, i.bytes)) = some (some (.string ⟨#[]⟩), 1, 16) := by kernel_rfl
theorem Rd.lossSteps {w : World} {B : Nat} {a : Option Addr} {cap : Nat} {l : List Lo} (h : Rd ELoss 2 w B a cap l) : ∀ x ∈ l, ∀ s ∈ x.2, I64 s.1 := by
  intro x hx
  obtain ⟨i, hi, rfl⟩ := List.mem_iff_getElem.1 hx
  obtain ⟨_, _, _, _, _, _, _, _, _, hq⟩ := h.loss i hi
  exact hq.i64
theorem words_len (v : T) (l : List Lo) (hl : ∀ x ∈ l, ∀ s ∈ x.2, I64 s.1) (hz : T.szL v.l ≤ 1048576) (hn : l.length ≤ 1048576) :
    (Lib.join ((l.map (wordT v)).map (·.data.toList)) (⟨#[59, 32]⟩ : ByteArray).data.toList).length ≤ 140737488355328 := by
  have h := joinT_size (l.map (wordT v)) 25165831 (fun x hx => by
    obtain ⟨y, hy, rfl⟩ := List.mem_map.1 hx
    exact wordT_size v y (hl y hy) hz)
  have e : (joinT (l.map (wordT v))).size = (Lib.join ((l.map (wordT v)).map (·.data.toList)) (⟨#[59, 32]⟩ : ByteArray).data.toList).length := by rw [Lib.size_eq]; rfl
  rw [List.length_map] at h
  omega
theorem words_snoc (v : T) (l : List Lo) (j : Nat) (h : j < l.length) : (l.take (j + 1)).map (wordT v) = (l.take j).map (wordT v) ++ [(lossNm l[j].1 ++ ⟨#[32]⟩) ++ pathT v ⟨#[36]⟩ l[j].2] := by
  rw [take_snoc l j h, List.map_append]; rfl
set_option maxHeartbeats 16000000 in
theorem impl_LossText (v : T) (l : List Lo) (a a' : Option Addr) (cap cap' B : Nat) (w : World) (hr : R w B a cap v.l) (hr' : Rd ELoss 2 w B a' cap' l) (hsz : T.sz v ≤ 1048576) (hll : l.length ≤ 1048576) (htab : Lib.TabBelow Tryz.prog B w "internal/strconv.uint64pow10" .u64 Lib.pow10Tab) (hB : B ≤ w.heap.size) :
    Calls Tryz.prog 25 #[.agg (cV v a cap), .slice a' l.length cap'] w fun e w' => e = .returned (.string (lossT v l)) ∧ Below w.heap.size w w' := by
  obtain ⟨hl1, hl2⟩ := hr.len
  obtain ⟨hm1, hm2⟩ := hr'.len
  have hct := T.countL_le_szL v
  have hszL := s_le_sz v
  have HS := Lib.hid hr'.lossSteps
  have HR := Lib.hid hr; clear hr
  have HR' := Lib.hid hr'; clear hr'
  have HT := Lib.hid htab; clear htab
  go_enter Tryz.func25, Tryz.ntmps25
  go_wp2_with fail
  obtain ⟨rlo, hrlo⟩ : ∃ r, r = w.heap.size + 1 := ⟨_, rfl⟩
  have h0 := AppL.empty (E := EStr) (n := 1) (e := 9) (w.alloc (Obj.cells (cV v a cap) 36)) rlo (by rw [hrlo]; simp)
  simp only [size_alloc] at h0
  have lr : w.heap.size < rlo := by omega
  generalize hW : (w.alloc (Obj.cells (cV v a cap) 36)).alloc (Obj.cells #[] 9) = W0 at *
  have q1 : Is W0 w.heap.size 36 (cV v a cap) := by subst hW; exact (Is.new _ _ _).alloc _
  have H0 := Lib.hid (show Below w.heap.size w W0 from by subst hW; exact below2 _ _ _)
  have hs0 : W0.heap.size = w.heap.size + 2 := by subst hW; simp
  clear hW
  have HRLO := Lib.hid hrlo
  have hrl2 : rlo ≤ w.heap.size + 1 := by omega
  have hrl3 : rlo ≤ W0.heap.size := by omega
  clear hrlo
  go_loopw [5, 11, 7] (fun s i _ wr => ∃ (j : Nat) (ar : Option Addr) (cr : Nat), j ≤ l.length ∧ i = .int .i64 j ∧ s = .slice ar ((l.take j).map (wordT v)).length cr ∧ AppL EStr 1 9 wr rlo ar cr ((l.take j).map (wordT v)) [] ∧ Below rlo W0 wr) (fun _ i _ _ => l.length - (intOf i).toNat)
  case atStart => exact ⟨0, _, _, Nat.zero_le _, rfl, rfl, h0, Below.refl _ _⟩
  case round =>
    obtain ⟨j, ar, cr, hj, rfl, rfl, happ, hb⟩ := hrel
    have hbs := hb.size
    have hbox := q1.below hb (by omega)
    have HBw := Lib.hid (H0.out.trans (hb.mono (by omega)))
    have hwl : ((l.take j).map (wordT v)).length = j := by rw [List.length_map, List.length_take]; omega
    have HA := Lib.hid happ; clear happ
    by_cases hlt : j < l.length
    · obtain ⟨b, o2, a2, cap2, ha, hbl, d0, d1, hi, hq⟩ := (HR'.out.below ELoss.loc HBw.out hB).loss j hlt
      subst ha
      have hlb : b < wr.heap.size := by omega
      have z1 := lossNm_size l[j].1
      have z2 := pathT_size l[j].2 hq.i64 v ⟨#[36]⟩
      have z3 : (⟨#[36]⟩ : ByteArray).size = 1 := rfl
      have z4 : (⟨#[32]⟩ : ByteArray).size = 1 := rfl
      have HW := Lib.hid (words_snoc v l j hlt)
      have HQ := Lib.hid hq; clear hq
      have HX := Lib.hid (HR.out.below HBw.out hB)
      generalize (l.take j).map (wordT v) = ws at *
      go_wp2_with fail
      have H5 := Lib.hid (below1 wr (.cells (cL l[j] a2 cap2) 29))
      have hbox5 := hbox.alloc (.cells (cL l[j] a2 cap2) 29)
      have hx5 := Is.new wr (cL l[j] a2 cap2) 29
      have hs5 : (wr.alloc (.cells (cL l[j] a2 cap2) 29)).heap.size = wr.heap.size + 1 := by simp
      generalize wr.alloc (.cells (cL l[j] a2 cap2) 29) = W5 at *
      obtain ⟨x0, x1, x2, x3, x4⟩ := hbox5.cells5
      obtain ⟨y0, y1⟩ := hx5.cells2
      have lbox : w.heap.size < W5.heap.size := by omega
      have lx : wr.heap.size < W5.heap.size := by omega
      have HA5 := Lib.hid (HA.out.agree EStr.elem (fun f hf => H5.out.block f hf) (by omega))
      have HB5 := Lib.hid (HBw.out.trans (H5.out.mono (by omega)))
      have HX5 := Lib.hid (HX.out.below H5.out (by omega))
      have HQ5 := Lib.hid (HQ.out.below EStep.loc H5.out (by omega))
      have hsB : B ≤ W5.heap.size := by omega
      have hsR : rlo ≤ W5.heap.size := by omega
      have hsX : rlo ≤ wr.heap.size := by omega
      have hBr : B ≤ rlo := by omega
      have HK := Lib.hid (fun k hk => (HA.out.row k hk).2)
      clear d0 d1 hs5 hbs
      refine wp_region_held_drew (S := fun w' => (∀ b o, (b < rlo ∨ b = wr.heap.size) → w'.cell? ⟨b, o, none⟩ = W5.cell? ⟨b, o, none⟩) ∧ Below (rlo) W5 w') (by kernel_rfl) (by first | exact ⟨fun _ _ _ => rfl, (Below.refl _ _).drew⟩ | exact keep_stepX (by assumption) (by assumption) (by first | omega | ((try simp only [World.size_drew, size_alloc]); omega) | (have := (‹(_ ∧ Below (rlo) W5 _)›).2.size; (try simp only [World.size_drew, size_alloc] at this ⊢); omega)) (by first | omega | ((try simp only [World.size_drew, size_alloc]); omega) | (have := (‹(_ ∧ Below (rlo) W5 _)›).2.size; (try simp only [World.size_drew, size_alloc] at this ⊢); omega))) (fun hHeld => ?_)
      refine wpAnyH_take (i := 0) (oi := ⟨some 15, _, _, _, _, _⟩) (v := ?_) rfl (by kernel_rfl) (by kernel_rfl) (by kernel_rfl) (fun _ _ _ h => h) (Or.inl ⟨by rfl, ?_⟩) (by assumption) ?_
      rotate_left 1
      · (intro w hSw; (try dsimp only at hSw); go_simp; try (with_reducible rfl))
      try simp only [Act.put, List.setIfInBounds_toArray, List.set_cons_zero, List.set_cons_succ]
      refine wpAnyH_take (i := 1) (oi := ⟨some 16, _, _, _, _, _⟩) (v := ?_) rfl (by kernel_rfl) (by kernel_rfl) (by kernel_rfl) (fun _ _ _ h => h) (Or.inl ⟨by rfl, ?_⟩) (by assumption) ?_
      rotate_left 1
      · (intro w hSw; (try dsimp only at hSw); go_simp; try (with_reducible rfl))
      try simp only [Act.put, List.setIfInBounds_toArray, List.set_cons_zero, List.set_cons_succ]
      refine wpAnyH_take (i := 2) (oi := ⟨some 17, _, _, _, _, _⟩) (v := ?_) rfl (by kernel_rfl) (by kernel_rfl) (by kernel_rfl) (fun _ _ _ h => h) (Or.inl ⟨by rfl, ?_⟩) (by assumption) ?_
      rotate_left 1
      · (intro w hSw; (try dsimp only at hSw); go_simp; try (with_reducible rfl))
      try simp only [Act.put, List.setIfInBounds_toArray, List.set_cons_zero, List.set_cons_succ]
      refine wpAnyH_take (i := 5) (oi := ⟨some 20, _, _, _, _, _⟩) (v := ?_) rfl (by kernel_rfl) (by kernel_rfl) (by kernel_rfl) (fun _ _ _ h => h) (Or.inl ⟨by rfl, ?_⟩) (by assumption) ?_
      rotate_left 1
      · (intro w hSw; (try dsimp only at hSw); go_simp; try (with_reducible rfl))
      try simp only [Act.put, List.setIfInBounds_toArray, List.set_cons_zero, List.set_cons_succ]
      refine wpAnyH_take (i := 6) (oi := ⟨some 21, _, _, _, _, _⟩) (v := ?_) rfl (by kernel_rfl) (by kernel_rfl) (by kernel_rfl) (fun _ _ _ h => h) (Or.inl ⟨by rfl, ?_⟩) (by assumption) ?_
      rotate_left 1
      · (intro w hSw; (try dsimp only at hSw); go_simp; try (with_reducible rfl))
      try simp only [Act.put, List.setIfInBounds_toArray, List.set_cons_zero, List.set_cons_succ]
      refine wpAnyH_take (i := 7) (oi := ⟨some 22, _, _, _, _, _⟩) (v := ?_) rfl (by kernel_rfl) (by kernel_rfl) (by kernel_rfl) (fun _ _ _ h => h) (Or.inl ⟨by rfl, ?_⟩) (by assumption) ?_
      rotate_left 1
      · (intro w hSw; (try dsimp only at hSw); go_simp; try (with_reducible rfl))
      try simp only [Act.put, List.setIfInBounds_toArray, List.set_cons_zero, List.set_cons_succ]
      refine wpAnyH_ready (rs := [3]) (by kernel_rfl) (by simp) ?_
      refine AllReadyH.cons (o := ⟨some 18, _, _, _, _, _⟩) rfl (fun K hK => ?_) AllReadyH.nil
      go_simp
      (first | (go_at_call 27; refine (impl_LossName l[j].1 _ hi).mono ?_; rintro e w3 ⟨rfl, hb3⟩; have HB3 := Lib.hid (show Below W5.heap.size W5 w3 from (Below.refl _ _).drew.trans hb3)) | (go_at_call 89; refine (impl_PathText v l[j].2 a a2 cap cap2 B _ (HX5.out.below (‹_ ∧ Below (rlo) W5 _›).2 (by omega)) (HQ5.out.below EStep.loc (‹_ ∧ Below (rlo) W5 _›).2 (by omega)) (by omega) (by omega) (fun W hW => HT.out W ((HB5.out.mono hB).trans (((‹_ ∧ Below (rlo) W5 _›).2.mono (by omega)).trans hW))) (Nat.le_trans (by omega) (‹_ ∧ Below (rlo) W5 _›).2.size)).mono ?_; rintro e w4 ⟨rfl, hb4⟩; have HB4 := Lib.hid (HB3.out.trans (hb4.mono HB3.out.size))) | (refine step_appLX EStr.elem rfl _ _ 84 rfl (.string ⟨#[]⟩) 16 Tryz.underlying84 info_Str rfl rlo ar cr ws [] (by rw [hwl]; rfl) ((HA5.out.agree EStr.elem (fun f hf => HB4.out.block f hf) (by omega)).agree EStr.elem (fun f hf => (below1 w4 _).block f hf) (by have := HB4.out.size; omega)) (by have := HB4.out.size; simp only [size_alloc]; omega) w4.heap.size 0 1 1 [(lossNm l[j].1 ++ ⟨#[32]⟩) ++ pathT v ⟨#[36]⟩ l[j].2] [] rfl rfl ⟨[], [], rfl, ⟨rfl, (Is.new w4 #[.string ((lossNm l[j].1 ++ ⟨#[32]⟩) ++ pathT v ⟨#[36]⟩ l[j].2)] 9).cell 0 rfl⟩, rfl⟩ (by simp) (by omega) (by rw [hwl]; unfold maxLen; omega) (by rw [hwl]; omega) ?_; intro ar2 cr2 w6 happ6 hb6 hout6; have hx6 := hout6 wr.heap.size (by have := HB4.out.size; simp only [size_alloc]; omega) (fun k hk e => by have := HK.out k hk; omega)))
      go_wp2_with fail
      refine hK.out _ _ (by first | exact ⟨fun _ _ _ => rfl, (Below.refl _ _).drew⟩ | exact keep_stepX (by assumption) (by assumption) (by first | omega | ((try simp only [World.size_drew, size_alloc]); omega) | (have := (‹(_ ∧ Below (rlo) W5 _)›).2.size; (try simp only [World.size_drew, size_alloc] at this ⊢); omega)) (by first | omega | ((try simp only [World.size_drew, size_alloc]); omega) | (have := (‹(_ ∧ Below (rlo) W5 _)›).2.size; (try simp only [World.size_drew, size_alloc] at this ⊢); omega))) (fun hHeld => ?_)
      clear hK K
      try simp only [Act.put, List.setIfInBounds_toArray, List.set_cons_zero, List.set_cons_succ]
      refine wpAnyH_ready (rs := [4, 8]) (by kernel_rfl) (by simp) ?_
      refine AllReadyH.cons (o := ⟨some 19, _, _, _, _, _⟩) rfl (fun K hK => ?_) ?_
      focus (go_simp; go_wp2_with fail; refine hK.out _ _ (by first | assumption | first | exact ⟨fun _ _ _ => rfl, (Below.refl _ _).drew⟩ | exact keep_stepX (by assumption) (by assumption) (by first | omega | ((try simp only [World.size_drew, size_alloc]); omega) | (have := (‹(_ ∧ Below (rlo) W5 _)›).2.size; (try simp only [World.size_drew, size_alloc] at this ⊢); omega)) (by first | omega | ((try simp only [World.size_drew, size_alloc]); omega) | (have := (‹(_ ∧ Below (rlo) W5 _)›).2.size; (try simp only [World.size_drew, size_alloc] at this ⊢); omega))) (fun hHeld => ?_); clear hK K; try simp only [Act.put, List.setIfInBounds_toArray, List.set_cons_zero, List.set_cons_succ])
      refine wpAnyH_ready (rs := [8]) (by kernel_rfl) (by simp) ?_
      refine AllReadyH.cons (o := ⟨some 23, _, _, _, _, _⟩) rfl (fun K hK => ?_) AllReadyH.nil
      focus (go_simp; (first | (go_at_call 27; refine (impl_LossName l[j].1 _ hi).mono ?_; rintro e w3 ⟨rfl, hb3⟩; have HB3 := Lib.hid (show Below W5.heap.size W5 w3 from (Below.refl _ _).drew.trans hb3)) | (go_at_call 89; refine (impl_PathText v l[j].2 a a2 cap cap2 B _ (HX5.out.below (‹_ ∧ Below (rlo) W5 _›).2 (by omega)) (HQ5.out.below EStep.loc (‹_ ∧ Below (rlo) W5 _›).2 (by omega)) (by omega) (by omega) (fun W hW => HT.out W ((HB5.out.mono hB).trans (((‹_ ∧ Below (rlo) W5 _›).2.mono (by omega)).trans hW))) (Nat.le_trans (by omega) (‹_ ∧ Below (rlo) W5 _›).2.size)).mono ?_; rintro e w4 ⟨rfl, hb4⟩; have HB4 := Lib.hid (HB3.out.trans (hb4.mono HB3.out.size))) | (refine step_appLX EStr.elem rfl _ _ 84 rfl (.string ⟨#[]⟩) 16 Tryz.underlying84 info_Str rfl rlo ar cr ws [] (by rw [hwl]; rfl) ((HA5.out.agree EStr.elem (fun f hf => HB4.out.block f hf) (by omega)).agree EStr.elem (fun f hf => (below1 w4 _).block f hf) (by have := HB4.out.size; omega)) (by have := HB4.out.size; simp only [size_alloc]; omega) w4.heap.size 0 1 1 [(lossNm l[j].1 ++ ⟨#[32]⟩) ++ pathT v ⟨#[36]⟩ l[j].2] [] rfl rfl ⟨[], [], rfl, ⟨rfl, (Is.new w4 #[.string ((lossNm l[j].1 ++ ⟨#[32]⟩) ++ pathT v ⟨#[36]⟩ l[j].2)] 9).cell 0 rfl⟩, rfl⟩ (by simp) (by omega) (by rw [hwl]; unfold maxLen; omega) (by rw [hwl]; omega) ?_; intro ar2 cr2 w6 happ6 hb6 hout6; have hx6 := hout6 wr.heap.size (by have := HB4.out.size; simp only [size_alloc]; omega) (fun k hk e => by have := HK.out k hk; omega))); go_wp2_with fail; refine hK.out _ _ (by first | exact ⟨fun _ _ _ => rfl, (Below.refl _ _).drew⟩ | exact keep_stepX (by assumption) (by assumption) (by first | omega | ((try simp only [World.size_drew, size_alloc]); omega) | (have := (‹(_ ∧ Below (rlo) W5 _)›).2.size; (try simp only [World.size_drew, size_alloc] at this ⊢); omega)) (by first | omega | ((try simp only [World.size_drew, size_alloc]); omega) | (have := (‹(_ ∧ Below (rlo) W5 _)›).2.size; (try simp only [World.size_drew, size_alloc] at this ⊢); omega))) (fun hHeld => ?_); clear hK K; try simp only [Act.put, List.setIfInBounds_toArray, List.set_cons_zero, List.set_cons_succ])
      refine wpAnyH_ready (rs := [9]) (by kernel_rfl) (by simp) ?_
      refine AllReadyH.cons (o := ⟨some 24, _, _, _, _, _⟩) rfl (fun K hK => ?_) AllReadyH.nil
      focus (go_simp; go_wp2_with fail; refine hK.out _ _ (by first | assumption | first | exact ⟨fun _ _ _ => rfl, (Below.refl _ _).drew⟩ | exact keep_stepX (by assumption) (by assumption) (by first | omega | ((try simp only [World.size_drew, size_alloc]); omega) | (have := (‹(_ ∧ Below (rlo) W5 _)›).2.size; (try simp only [World.size_drew, size_alloc] at this ⊢); omega)) (by first | omega | ((try simp only [World.size_drew, size_alloc]); omega) | (have := (‹(_ ∧ Below (rlo) W5 _)›).2.size; (try simp only [World.size_drew, size_alloc] at this ⊢); omega))) (fun hHeld => ?_); clear hK K; try simp only [Act.put, List.setIfInBounds_toArray, List.set_cons_zero, List.set_cons_succ])
      refine wpAnyH_ready (rs := [10]) (by kernel_rfl) (by simp) ?_
      refine AllReadyH.cons (o := ⟨some 25, _, _, _, _, _⟩) rfl (fun K hK => ?_) AllReadyH.nil
      focus (go_simp; go_wp2_with fail; refine hK.out _ _ (by exact keep_stepX (by assumption) (below1 _ _) (by first | omega | ((try simp only [World.size_drew, size_alloc]); omega) | (have := (‹(_ ∧ Below (rlo) W5 _)›).2.size; (try simp only [World.size_drew, size_alloc] at this ⊢); omega)) (by first | omega | ((try simp only [World.size_drew, size_alloc]); omega) | (have := (‹(_ ∧ Below (rlo) W5 _)›).2.size; (try simp only [World.size_drew, size_alloc] at this ⊢); omega))) (fun hHeld => ?_); clear hK K; try simp only [Act.put, List.setIfInBounds_toArray, List.set_cons_zero, List.set_cons_succ])
      refine wpAnyH_ready (rs := [11]) (by kernel_rfl) (by simp) ?_
      refine AllReadyH.cons (o := ⟨some 26, _, _, _, _, _⟩) rfl (fun K hK => ?_) AllReadyH.nil
      focus ((first | (go_at_call 27; refine (impl_LossName l[j].1 _ hi).mono ?_; rintro e w3 ⟨rfl, hb3⟩; have HB3 := Lib.hid (show Below W5.heap.size W5 w3 from (Below.refl _ _).drew.trans hb3)) | (go_at_call 89; refine (impl_PathText v l[j].2 a a2 cap cap2 B _ (HX5.out.below (‹_ ∧ Below (rlo) W5 _›).2 (by omega)) (HQ5.out.below EStep.loc (‹_ ∧ Below (rlo) W5 _›).2 (by omega)) (by omega) (by omega) (fun W hW => HT.out W ((HB5.out.mono hB).trans (((‹_ ∧ Below (rlo) W5 _›).2.mono (by omega)).trans hW))) (Nat.le_trans (by omega) (‹_ ∧ Below (rlo) W5 _›).2.size)).mono ?_; rintro e w4 ⟨rfl, hb4⟩; have HB4 := Lib.hid (HB3.out.trans (hb4.mono HB3.out.size))) | (refine step_appLX EStr.elem rfl _ _ 84 rfl (.string ⟨#[]⟩) 16 Tryz.underlying84 info_Str rfl rlo ar cr ws [] (by rw [hwl]; rfl) ((HA5.out.agree EStr.elem (fun f hf => HB4.out.block f hf) (by omega)).agree EStr.elem (fun f hf => (below1 w4 _).block f hf) (by have := HB4.out.size; omega)) (by have := HB4.out.size; simp only [size_alloc]; omega) w4.heap.size 0 1 1 [(lossNm l[j].1 ++ ⟨#[32]⟩) ++ pathT v ⟨#[36]⟩ l[j].2] [] rfl rfl ⟨[], [], rfl, ⟨rfl, (Is.new w4 #[.string ((lossNm l[j].1 ++ ⟨#[32]⟩) ++ pathT v ⟨#[36]⟩ l[j].2)] 9).cell 0 rfl⟩, rfl⟩ (by simp) (by omega) (by rw [hwl]; unfold maxLen; omega) (by rw [hwl]; omega) ?_; intro ar2 cr2 w6 happ6 hb6 hout6; have hx6 := hout6 wr.heap.size (by have := HB4.out.size; simp only [size_alloc]; omega) (fun k hk e => by have := HK.out k hk; omega))); refine hK.out _ _ (by exact keep_stepY (by assumption) (by assumption) (by assumption)) (fun hHeld => ?_); clear hK K; try simp only [Act.put, List.setIfInBounds_toArray, List.set_cons_zero, List.set_cons_succ])
      refine wpAnyH_take (i := 12) (oi := ⟨some 5, _, _, _, _, _⟩) (v := ?_) rfl (by kernel_rfl) (by kernel_rfl) (by kernel_rfl) (fun _ _ _ h => h) (Or.inl ⟨by rfl, ?_⟩) (by assumption) ?_
      rotate_left 1
      · (intro w hSw; (try dsimp only at hSw); go_simp; try (with_reducible rfl))
      try simp only [Act.put, List.setIfInBounds_toArray, List.set_cons_zero, List.set_cons_succ]
      refine wpAnyH_done (by kernel_rfl) ?_ _
      rotate_left 1
      refine AllReadyH.cons (o := ⟨some 23, _, _, _, _, _⟩) rfl (fun K hK => ?_) AllReadyH.nil
      focus (go_simp; (first | (go_at_call 27; refine (impl_LossName l[j].1 _ hi).mono ?_; rintro e w3 ⟨rfl, hb3⟩; have HB3 := Lib.hid (show Below W5.heap.size W5 w3 from (Below.refl _ _).drew.trans hb3)) | (go_at_call 89; refine (impl_PathText v l[j].2 a a2 cap cap2 B _ (HX5.out.below (‹_ ∧ Below (rlo) W5 _›).2 (by omega)) (HQ5.out.below EStep.loc (‹_ ∧ Below (rlo) W5 _›).2 (by omega)) (by omega) (by omega) (fun W hW => HT.out W ((HB5.out.mono hB).trans (((‹_ ∧ Below (rlo) W5 _›).2.mono (by omega)).trans hW))) (Nat.le_trans (by omega) (‹_ ∧ Below (rlo) W5 _›).2.size)).mono ?_; rintro e w4 ⟨rfl, hb4⟩; have HB4 := Lib.hid (HB3.out.trans (hb4.mono HB3.out.size))) | (refine step_appLX EStr.elem rfl _ _ 84 rfl (.string ⟨#[]⟩) 16 Tryz.underlying84 info_Str rfl rlo ar cr ws [] (by rw [hwl]; rfl) ((HA5.out.agree EStr.elem (fun f hf => HB4.out.block f hf) (by omega)).agree EStr.elem (fun f hf => (below1 w4 _).block f hf) (by have := HB4.out.size; omega)) (by have := HB4.out.size; simp only [size_alloc]; omega) w4.heap.size 0 1 1 [(lossNm l[j].1 ++ ⟨#[32]⟩) ++ pathT v ⟨#[36]⟩ l[j].2] [] rfl rfl ⟨[], [], rfl, ⟨rfl, (Is.new w4 #[.string ((lossNm l[j].1 ++ ⟨#[32]⟩) ++ pathT v ⟨#[36]⟩ l[j].2)] 9).cell 0 rfl⟩, rfl⟩ (by simp) (by omega) (by rw [hwl]; unfold maxLen; omega) (by rw [hwl]; omega) ?_; intro ar2 cr2 w6 happ6 hb6 hout6; have hx6 := hout6 wr.heap.size (by have := HB4.out.size; simp only [size_alloc]; omega) (fun k hk e => by have := HK.out k hk; omega))); go_wp2_with fail; refine hK.out _ _ (by first | exact ⟨fun _ _ _ => rfl, (Below.refl _ _).drew⟩ | exact keep_stepX (by assumption) (by assumption) (by first | omega | ((try simp only [World.size_drew, size_alloc]); omega) | (have := (‹(_ ∧ Below (rlo) W5 _)›).2.size; (try simp only [World.size_drew, size_alloc] at this ⊢); omega)) (by first | omega | ((try simp only [World.size_drew, size_alloc]); omega) | (have := (‹(_ ∧ Below (rlo) W5 _)›).2.size; (try simp only [World.size_drew, size_alloc] at this ⊢); omega))) (fun hHeld => ?_); clear hK K; try simp only [Act.put, List.setIfInBounds_toArray, List.set_cons_zero, List.set_cons_succ])
      refine wpAnyH_ready (rs := [4]) (by kernel_rfl) (by simp) ?_
      refine AllReadyH.cons (o := ⟨some 19, _, _, _, _, _⟩) rfl (fun K hK => ?_) AllReadyH.nil
      focus (go_simp; go_wp2_with fail; refine hK.out _ _ (by first | assumption | first | exact ⟨fun _ _ _ => rfl, (Below.refl _ _).drew⟩ | exact keep_stepX (by assumption) (by assumption) (by first | omega | ((try simp only [World.size_drew, size_alloc]); omega) | (have := (‹(_ ∧ Below (rlo) W5 _)›).2.size; (try simp only [World.size_drew, size_alloc] at this ⊢); omega)) (by first | omega | ((try simp only [World.size_drew, size_alloc]); omega) | (have := (‹(_ ∧ Below (rlo) W5 _)›).2.size; (try simp only [World.size_drew, size_alloc] at this ⊢); omega))) (fun hHeld => ?_); clear hK K; try simp only [Act.put, List.setIfInBounds_toArray, List.set_cons_zero, List.set_cons_succ])
      refine wpAnyH_ready (rs := [9]) (by kernel_rfl) (by simp) ?_
      refine AllReadyH.cons (o := ⟨some 24, _, _, _, _, _⟩) rfl (fun K hK => ?_) AllReadyH.nil
      focus (go_simp; go_wp2_with fail; refine hK.out _ _ (by first | assumption | first | exact ⟨fun _ _ _ => rfl, (Below.refl _ _).drew⟩ | exact keep_stepX (by assumption) (by assumption) (by first | omega | ((try simp only [World.size_drew, size_alloc]); omega) | (have := (‹(_ ∧ Below (rlo) W5 _)›).2.size; (try simp only [World.size_drew, size_alloc] at this ⊢); omega)) (by first | omega | ((try simp only [World.size_drew, size_alloc]); omega) | (have := (‹(_ ∧ Below (rlo) W5 _)›).2.size; (try simp only [World.size_drew, size_alloc] at this ⊢); omega))) (fun hHeld => ?_); clear hK K; try simp only [Act.put, List.setIfInBounds_toArray, List.set_cons_zero, List.set_cons_succ])
      refine wpAnyH_ready (rs := [10]) (by kernel_rfl) (by simp) ?_
      refine AllReadyH.cons (o := ⟨some 25, _, _, _, _, _⟩) rfl (fun K hK => ?_) AllReadyH.nil
      focus (go_simp; go_wp2_with fail; refine hK.out _ _ (by exact keep_stepX (by assumption) (below1 _ _) (by first | omega | ((try simp only [World.size_drew, size_alloc]); omega) | (have := (‹(_ ∧ Below (rlo) W5 _)›).2.size; (try simp only [World.size_drew, size_alloc] at this ⊢); omega)) (by first | omega | ((try simp only [World.size_drew, size_alloc]); omega) | (have := (‹(_ ∧ Below (rlo) W5 _)›).2.size; (try simp only [World.size_drew, size_alloc] at this ⊢); omega))) (fun hHeld => ?_); clear hK K; try simp only [Act.put, List.setIfInBounds_toArray, List.set_cons_zero, List.set_cons_succ])
      refine wpAnyH_ready (rs := [11]) (by kernel_rfl) (by simp) ?_
      refine AllReadyH.cons (o := ⟨some 26, _, _, _, _, _⟩) rfl (fun K hK => ?_) AllReadyH.nil
      focus ((first | (go_at_call 27; refine (impl_LossName l[j].1 _ hi).mono ?_; rintro e w3 ⟨rfl, hb3⟩; have HB3 := Lib.hid (show Below W5.heap.size W5 w3 from (Below.refl _ _).drew.trans hb3)) | (go_at_call 89; refine (impl_PathText v l[j].2 a a2 cap cap2 B _ (HX5.out.below (‹_ ∧ Below (rlo) W5 _›).2 (by omega)) (HQ5.out.below EStep.loc (‹_ ∧ Below (rlo) W5 _›).2 (by omega)) (by omega) (by omega) (fun W hW => HT.out W ((HB5.out.mono hB).trans (((‹_ ∧ Below (rlo) W5 _›).2.mono (by omega)).trans hW))) (Nat.le_trans (by omega) (‹_ ∧ Below (rlo) W5 _›).2.size)).mono ?_; rintro e w4 ⟨rfl, hb4⟩; have HB4 := Lib.hid (HB3.out.trans (hb4.mono HB3.out.size))) | (refine step_appLX EStr.elem rfl _ _ 84 rfl (.string ⟨#[]⟩) 16 Tryz.underlying84 info_Str rfl rlo ar cr ws [] (by rw [hwl]; rfl) ((HA5.out.agree EStr.elem (fun f hf => HB4.out.block f hf) (by omega)).agree EStr.elem (fun f hf => (below1 w4 _).block f hf) (by have := HB4.out.size; omega)) (by have := HB4.out.size; simp only [size_alloc]; omega) w4.heap.size 0 1 1 [(lossNm l[j].1 ++ ⟨#[32]⟩) ++ pathT v ⟨#[36]⟩ l[j].2] [] rfl rfl ⟨[], [], rfl, ⟨rfl, (Is.new w4 #[.string ((lossNm l[j].1 ++ ⟨#[32]⟩) ++ pathT v ⟨#[36]⟩ l[j].2)] 9).cell 0 rfl⟩, rfl⟩ (by simp) (by omega) (by rw [hwl]; unfold maxLen; omega) (by rw [hwl]; omega) ?_; intro ar2 cr2 w6 happ6 hb6 hout6; have hx6 := hout6 wr.heap.size (by have := HB4.out.size; simp only [size_alloc]; omega) (fun k hk e => by have := HK.out k hk; omega))); refine hK.out _ _ (by exact keep_stepY (by assumption) (by assumption) (by assumption)) (fun hHeld => ?_); clear hK K; try simp only [Act.put, List.setIfInBounds_toArray, List.set_cons_zero, List.set_cons_succ])
      refine wpAnyH_take (i := 12) (oi := ⟨some 5, _, _, _, _, _⟩) (v := ?_) rfl (by kernel_rfl) (by kernel_rfl) (by kernel_rfl) (fun _ _ _ h => h) (Or.inl ⟨by rfl, ?_⟩) (by assumption) ?_
      rotate_left 1
      · (intro w hSw; (try dsimp only at hSw); go_simp; try (with_reducible rfl))
      try simp only [Act.put, List.setIfInBounds_toArray, List.set_cons_zero, List.set_cons_succ]
      refine wpAnyH_done (by kernel_rfl) ?_ _
      all_goals
        have HB6 := Lib.hid (show Below rlo W5 _ from (‹_ ∧ Below (rlo) W5 _›).2)
        go_wp2_with fail
        go_roundw
        case rel => exact ⟨j + 1, ar2, cr2, by omega, by go_num, by rw [HW.out, List.length_append, hwl]; rfl, by rw [HW.out]; exact happ6, (hb.trans (H5.out.mono (by have := hb.size; omega))).trans HB6.out⟩
        case measure => simp [intOf]; omega
    · have hjj : l.length = j := by omega
      have HJ := Lib.hid (show l.take j = l from by rw [← hjj, List.take_length]); clear hjj
      rw [HJ.out] at HA hwl
      rw [HJ.out]
      by_cases hz : l.length = 0
      · have HE := Lib.hid (show lossT v l = ⟨#[45]⟩ from if_pos hz)
        have hwz : (l.map (wordT v)).length = 0 := by rw [List.length_map]; exact hz
        rw [hwz]
        go_wp2_with fail
        go_ret
        exact ⟨ret_s HE.out.symm, HBw.out⟩
      · have HE := Lib.hid (show lossT v l = joinT (l.map (wordT v)) from if_neg hz)
        have hlen := words_len v l HS.out (by omega) hll
        rcases HA.out with ⟨_, _, hnil, _⟩ | ⟨g, cur, rfl, h1, h3, h4, h5, h6, h7, h8⟩
        · exfalso; have := congrArg List.length hnil; rw [hwl] at this; simp at this; omega
        have hg : g < wr.heap.size := (Array.getElem?_eq_some_iff.1 h3).1
        have hcells : ∀ (j : Nat) x, (l.map (wordT v))[j]? = some x → wr.cell? ⟨g, 0 + j, none⟩ = some (.string x) := by
          intro k x hk
          obtain ⟨hk1, hk2⟩ := List.getElem?_eq_some_iff.1 hk
          obtain ⟨F', hv, _⟩ := h7.get k hk1
          rw [hk2, Nat.mul_one] at hv
          exact hv.2
        have cJ := Tryz.strings_Join g 0 cr (l.map (wordT v)) ⟨#[59, 32]⟩ wr hcells hg (by rw [hwl]; omega) h4 hlen
        have hne : ¬ ((l.map (wordT v)).length : Int) = 0 := by rw [List.length_map]; omega
        have HEJ := Lib.hid (show lossT v l = ⟨(Lib.join ((l.map (wordT v)).map (·.data.toList)) (⟨#[59, 32]⟩ : ByteArray).data.toList).toArray⟩ from HE.out)
        clear hcells hlen h7 h3 hwl
        have CJ := Lib.hid cJ; clear cJ
        generalize (⟨(Lib.join ((l.map (wordT v)).map (·.data.toList)) (⟨#[59, 32]⟩ : ByteArray).data.toList).toArray⟩ : ByteArray) = out at *
        generalize (l.map (wordT v)).length = nn at *
        have hnn : nn ≤ 9223372036854775807 := by unfold maxLen at h5; omega
        go_wp2_with (go_at_call 90; refine CJ.out.mono ?_; rintro e w6 ⟨rfl, hb6⟩)
        go_ret
        exact ⟨ret_s HEJ.out.symm, HBw.out.trans (hb6.mono (by omega))⟩
end Go.Proofs.YtfbodhfdomdkpaaGreatDoor
namespace Go.Proofs.YtfbodhfdomdkpaaGreatDoor
open Go.ChangeShapes Go.WideShapes Go.ChangeAt Go.RowKit Go.Joins
set_option linter.unusedVariables false
set_option maxRecDepth 100000
/-! ### Append of whatever slice, empty or not: as an equation of the run -/
section
variable {α : Type} {E : World → Nat → Nat → α → List Nat → Prop} {n : Nat} {e : TypeId} {nd : Prop}
/-- What is appended: the slice value holds ys, whose own blocks are G. -/
def Srcs (E : World → Nat → Nat → α → List Nat → Prop) (n : Nat) (w : World) (a : Option Addr) (ys : List α) (G : List Nat) : Prop :=
  (ys = [] → G = []) ∧ (ys ≠ [] → ∃ b o, a = some ⟨b, o, none⟩ ∧ Row E n w b o ys G)
theorem Srcs.agree (hE : Elem E n) {w w' : World} {a : Option Addr} {ys : List α} {G : List Nat} (h : Srcs E n w a ys G) (hb : ∀ b o, a = some ⟨b, o, none⟩ → ys ≠ [] → w'.heap[b]? = w.heap[b]?) (hG : Agree w w' G) : Srcs E n w' a ys G := by
  refine ⟨h.1, fun hne => ?_⟩
  obtain ⟨b, o, ha, hr⟩ := h.2 hne
  exact ⟨b, o, ha, hr.agree hE.loc ys (Cells.of_block (hb b o ha hne) _ _) hG⟩
theorem Srcs.one {w : World} {b o : Nat} {y : α} {G : List Nat} (h : E w b o y G) : Srcs E n w (some ⟨b, o, none⟩) [y] G :=
  ⟨fun h => absurd h (by simp), fun _ => ⟨b, o, rfl, G, [], by simp, h, rfl⟩⟩
theorem run_append_zero {P : Program} (w : World) (t ty e : TypeId) (i : TypeInfo) (ht : P.underlying t = some (.slice e)) (hi : P.info? e = some i) (a a2 : Option Addr) (k cap c2 : Nat) (hk : k ≤ cap) :
    (Builtin.append_ #[t, t] ty #[.slice a k cap, .slice a2 0 c2]).run P w = .ok (.slice a k cap) w := by
  cases a2 with
  | none => exact run_append_nothing w t t ty e i ht hi a k cap hk _ (Src.ofNil w ht c2)
  | some ad => exact run_append_nothing w t t ty e i ht hi a k cap hk _ (Src.ofSlice w ht ad 0 c2 [] (by simp) (by simp) (by simp))
/-- A list whose elements' blocks lie below rlo. -/
theorem run_appL {P : Program} (w : World) (hE : Elem E n) (t ty : TypeId) (z : Value) (bytes : Nat) (ht : P.underlying t = some (.slice e)) (hinfo : (P.info? e).map (fun i => (i.zero, i.size, i.bytes)) = some (some z, n, bytes)) (hzs : z.cells.size = n)
    (rlo : Nat) (a : Option Addr) (cap : Nat) (l : List α) (F : List Nat) (happ : AppL E n e w rlo a cap l F) (hlo : rlo ≤ w.heap.size) (hcap : l.length ≤ cap)
    (a2 : Option Addr) (c2 : Nat) (ys : List α) (G : List Nat) (hys : Srcs E n w a2 ys G) (hG : ∀ f ∈ G, f < rlo) (h63 : l.length + ys.length ≤ maxLen) (hbytes : (l.length + ys.length) * bytes ≤ 140737488355328) :
    ∃ a' cap' w', (Builtin.append_ #[t, t] ty #[.slice a l.length cap, .slice a2 ys.length c2]).run P w = .ok (.slice a' (l ++ ys).length cap') w' ∧ AppL E n e w' rlo a' cap' (l ++ ys) (F ++ G) ∧ Below rlo w w' ∧
      (∀ f, f < w.heap.size → (∀ k, (Value.slice a l.length cap).ownBlock = some k → f ≠ k) → w'.heap[f]? = w.heap[f]?) ∧ (∀ k, (Value.slice a' (l ++ ys).length cap').ownBlock = some k → (Value.slice a l.length cap).ownBlock = some k ∨ k = w.heap.size) ∧ w.heap.size ≤ w'.heap.size := by
  obtain ⟨i, hi', hz0, hz1, hz2⟩ := info_parts hinfo
  by_cases hne : ys = []
  · subst hne
    rw [hys.1 rfl]
    simp only [List.append_nil]
    exact ⟨a, cap, w, run_append_zero w t ty e i ht hi' a a2 l.length cap c2 hcap, happ, Below.refl _ _, fun _ _ _ => rfl, fun k hk => Or.inl hk, Nat.le_refl _⟩
  · obtain ⟨b, off, rfl, hrow⟩ := hys.2 hne
    obtain ⟨xs, q1, q2, q3⟩ := happ.owns
    obtain ⟨news, n1, n2, n3⟩ := cells_list (hrow.cel hE ys)
    have hpos : 0 < ys.length := List.length_pos_iff.2 hne
    obtain ⟨g', cap', w', hr, hown, hgr, hat, hlt⟩ := run_append_lies (P := P) w t ty rlo e i z n bytes ht hi' hz0 hz1 hz2 hzs hE.pos (.slice a l.length cap) l.length xs q1 ⟨b, off, none⟩ ys.length c2 news n1 (fun j u hj => by
      have hj2 : j < ys.length * n := by
        rcases Nat.lt_or_ge j (ys.length * n) with h | h
        · exact h
        · rw [List.getElem?_eq_none (by omega)] at hj; cases hj
      rw [← hj, ← n2 j hj2, Addr.add_lit]) n3 hpos h63 hbytes hlo w.heap.size rfl
    obtain ⟨r1, r2⟩ := AppL.grown hE happ hrow hG hlo n1 n2 q3 q2 hown hgr
    rw [List.length_append]
    exact ⟨_, cap', w', hr, r1, r2, fun f hf hne => hgr.block f hf (fun e => hne f e.symm rfl), fun k hk => by
      have hk' : k = g' := by
        simp only [Value.ownBlock] at hk
        first | exact (Option.some.inj hk).symm | (split at hk <;> simp_all)
      subst hk'; exact hat, hgr.size⟩
/-- A list whose elements' blocks are its own. -/
theorem run_app {P : Program} (w : World) (hE : Elem E n) (t ty : TypeId) (z : Value) (bytes : Nat) (ht : P.underlying t = some (.slice e)) (hinfo : (P.info? e).map (fun i => (i.zero, i.size, i.bytes)) = some (some z, n, bytes)) (hzs : z.cells.size = n)
    (lo hi : Nat) (a : Option Addr) (cap : Nat) (l : List α) (happ : App E n e nd w lo hi a cap l) (hhi : hi ≤ w.heap.size) (hlo : lo ≤ hi)
    (a2 : Option Addr) (c2 : Nat) (ys : List α) (G : List Nat) (hys : Srcs E n w a2 ys G) (hG : G.Nodup) (hG2 : ∀ f ∈ G, hi ≤ f ∧ f < w.heap.size ∧ Unf w f) (h63 : l.length + ys.length ≤ maxLen) (hbytes : (l.length + ys.length) * bytes ≤ 140737488355328) :
    ∃ a' cap' w', (Builtin.append_ #[t, t] ty #[.slice a l.length cap, .slice a2 ys.length c2]).run P w = .ok (.slice a' (l ++ ys).length cap') w' ∧ App E n e nd w' lo w'.heap.size a' cap' (l ++ ys) ∧ Below lo w w' ∧
      (∀ f, f < w.heap.size → (∀ k, (Value.slice a l.length cap).ownBlock = some k → f ≠ k) → w'.heap[f]? = w.heap[f]?) ∧ w.heap.size ≤ w'.heap.size := by
  obtain ⟨i, hi', hz0, hz1, hz2⟩ := info_parts hinfo
  have hcap := happ.len.1
  by_cases hne : ys = []
  · subst hne
    simp only [List.append_nil]
    exact ⟨a, cap, w, run_append_zero w t ty e i ht hi' a a2 l.length cap c2 hcap, happ.more (Nat.le_refl _) hhi, Below.refl _ _, fun _ _ _ => rfl, Nat.le_refl _⟩
  · obtain ⟨b, off, rfl, hrow⟩ := hys.2 hne
    obtain ⟨xs, q1, q2, q3⟩ := happ.owns hE
    obtain ⟨news, n1, n2, n3⟩ := cells_list (hrow.cel hE ys)
    have hpos : 0 < ys.length := List.length_pos_iff.2 hne
    obtain ⟨g', cap', w', hr, hown, hgr, hat, hlt⟩ := run_append_lies (P := P) w t ty lo e i z n bytes ht hi' hz0 hz1 hz2 hzs hE.pos (.slice a l.length cap) l.length xs q1 ⟨b, off, none⟩ ys.length c2 news n1 (fun j u hj => by
      have hj2 : j < ys.length * n := by
        rcases Nat.lt_or_ge j (ys.length * n) with h | h
        · exact h
        · rw [List.getElem?_eq_none (by omega)] at hj; cases hj
      rw [← hj, ← n2 j hj2, Addr.add_lit]) n3 hpos h63 hbytes (by omega) w.heap.size rfl
    obtain ⟨r1, r2, r3⟩ := App.grown hE happ hhi hrow (fun _ => hG) (fun f hf => ⟨Nat.le_trans hlo (hG2 f hf).1, (hG2 f hf).2.1, (hG2 f hf).2.2, fun k hk => by have := (happ.row k hk).2; have := (hG2 f hf).1; omega⟩) (fun _ f hf => (hG2 f hf).1) n1 n2 q3 q2 hown hgr hat hlt
    rw [List.length_append]
    exact ⟨_, cap', w', hr, r1, r2 (by omega), r3, hgr.size⟩
/-- Elements that have no blocks of their own. -/
def Flat (E : World → Nat → Nat → α → List Nat → Prop) : Prop := ∀ (x : α) (w : World) (b o : Nat) (F : List Nat), E w b o x F → F = []
theorem Row.flat (hf : Flat E) {w : World} {b : Nat} : ∀ (l : List α) (o : Nat) (F : List Nat), Row E n w b o l F → F = [] := by
  intro l
  induction l with
  | nil => intro o F h; exact h
  | cons x r ih =>
    intro o F h
    obtain ⟨F1, F2, rfl, h1, h2⟩ := h
    rw [hf x w b o F1 h1, ih _ _ h2]; rfl
theorem Rd.srcs (hf : Flat E) {w : World} {B cap : Nat} {a : Option Addr} {l : List α} (h : Rd E n w B a cap l) : Srcs E n w a l [] := by
  obtain ⟨F, ⟨h1, h2, h3, h4⟩, hF⟩ := h
  refine ⟨fun _ => rfl, fun hne => ?_⟩
  obtain ⟨b, o, F', ha, rfl, hr⟩ := h4 hne
  exact ⟨b, o, ha, by have := hr.flat hf; subst this; exact hr⟩
theorem AppL.cap {w : World} {rlo cap : Nat} {a : Option Addr} {l : List α} {F : List Nat} (h : AppL E n e w rlo a cap l F) : l.length ≤ cap ∧ cap ≤ 9223372036854775807 := by
  rcases h with ⟨_, rfl, rfl, _⟩ | ⟨g, cur, ha, h1, h3, h4, h5, _⟩
  · simp
  · unfold maxLen at h5; exact ⟨h4, by omega⟩
theorem AppL.rd {w : World} {rlo cap : Nat} {a : Option Addr} {l : List α} {F : List Nat} (h : AppL E n e w rlo a cap l F) (hlo : rlo ≤ w.heap.size) : Rd E n w w.heap.size a cap l := by
  rcases h with ⟨rfl, rfl, rfl, rfl⟩ | ⟨g, cur, rfl, h1, h3, h4, h5, h6, h7, h8⟩
  · exact Rd.nil _ _
  · have hg : g < w.heap.size := (Array.getElem?_eq_some_iff.1 h3).1
    by_cases hl : l = []
    · subst hl; exact ⟨[], Sl.nil _ _ _ h5, by simp⟩
    · exact ⟨g :: F, ⟨h4, h5, fun h => absurd h hl, fun _ => ⟨g, 0, F, rfl, rfl, h7⟩⟩, fun f hf => by
        rcases List.mem_cons.1 hf with rfl | hf
        · exact hg
        · have := h8 f hf; omega⟩
theorem AppL.some {w : World} {rlo cap : Nat} {a : Option Addr} {l : List α} {F : List Nat} (h : AppL E n e w rlo a cap l F) (hl : l ≠ []) : ∃ g, a = .some ⟨g, 0, none⟩ := by
  rcases h with h | ⟨g, _, h, _⟩
  · exact absurd h.2.2.1 hl
  · exact ⟨g, h⟩
/-- At a step of a region that draws. -/
theorem step_append_run {P : Program} (w : World) {ops : Array Oper} {o : Oper} {a : Act} {K : Act → World → Prop} {Q : Exit → Act → World → Prop} {X : Prop} (hgd : o.guard = none) (s x : Operand) (t tn : TypeId)
    (ho : o.op = .call { callee := .builtin .append, args := #[s, x], argTypes := #[t, tn] }) (vs vx : Value) (hs : a.eval s = vs) (hx : a.eval x = vx)
    (v' : Value) (w' : World) (hr : (Builtin.append_ #[t, tn] o.type #[vs, vx]).run P w = .ok v' w') (h : K (a.put o.dst v') w') : if Region.wanted o (yielded ops a.tmps) = true then Oper.wp P o a w K Q else X := by
  have hw : Region.wanted o (yielded ops a.tmps) = true := by simp [Region.wanted, hgd]
  rw [if_pos hw]
  exact Lib.wp_append_run w s x t tn ho vs vx hs hx v' w' hr h
end
/-- A step of a region that draws, at this very world: for 'with_reducible refine at_world W ?_' as a guard. -/
theorem at_world {P : Program} {ops : Array Oper} {o : Oper} {a : Act} {K : Act → World → Prop} {Q : Exit → Act → World → Prop} {X : Prop} (w : World) (h : if Region.wanted o (yielded ops a.tmps) = true then Oper.wp P o a w K Q else X) : if Region.wanted o (yielded ops a.tmps) = true then Oper.wp P o a w K Q else X := h
theorem EInt.flat : Flat EInt := fun _ _ _ _ _ h => h.1
theorem EByte.flat : Flat EByte := fun _ _ _ _ _ h => h.1
theorem EStep.flat : Flat EStep := fun _ _ _ _ _ h => h.1
end Go.Proofs.YtfbodhfdomdkpaaGreatDoor
namespace Go.Proofs.YtfbodhfdomdkpaaGreatDoor
open Go.ChangeShapes Go.WideShapes Go.ChangeAt Go.RowKit Go.Joins
set_option linter.unusedVariables false
set_option maxRecDepth 100000
theorem info_Step : (Tryz.prog.info? 79).map (fun i => (i.zero, i.size, i.bytes)) = some (some (.agg #[.int .i64 0, .bool false]), 2, 16) := by kernel_rfl
theorem info_Loss : (Tryz.prog.info? 29).map (fun i => (i.zero, i.size, i.bytes)) = some (some (.agg #[.int .i64 0, .slice none 0 0]), 2, 32) := by kernel_rfl
end Go.Proofs.YtfbodhfdomdkpaaGreatDoor
namespace Go.Proofs.YtfbodhfdomdkpaaGreatDoor
open Go.ChangeShapes Go.WideShapes Go.ChangeAt Go.RowKit Go.Joins
set_option linter.unusedVariables false
set_option maxRecDepth 100000
theorem lessP_trans : ∀ p q r : List St, lessP p q = true → lessP q r = true → lessP p r = true := by
  intro p
  induction p with
  | nil =>
    intro q r h1 h2
    cases r with
    | nil => cases q <;> simp [lessP] at h1 h2
    | cons z c => rfl
  | cons x a ih =>
    intro q r h1 h2
    cases q with
    | nil => simp [lessP] at h1
    | cons y b =>
      cases r with
      | nil => simp [lessP] at h2
      | cons z c =>
        rw [lessP] at h1 h2 ⊢
        by_cases e1 : x = y
        · subst e1; rw [if_pos rfl] at h1
          by_cases e2 : x = z
          · subst e2; rw [if_pos rfl] at h2 ⊢; exact ih b c h1 h2
          · rw [if_neg e2] at h2 ⊢; exact h2
        · rw [if_neg e1] at h1
          by_cases e2 : y = z
          · subst e2; rw [if_neg e1]; exact h1
          · rw [if_neg e2] at h2
            obtain ⟨x1, x2⟩ := x; obtain ⟨y1, y2⟩ := y; obtain ⟨z1, z2⟩ := z
            simp only [Prod.mk.injEq, not_and, Bool.or_eq_true, Bool.and_eq_true, decide_eq_true_eq] at e1 e2 h1 h2 ⊢
            by_cases e3 : x1 = z1 ∧ x2 = z2
            · exfalso
              obtain ⟨rfl, rfl⟩ := e3
              rcases h1 with h1 | ⟨rfl, h1⟩
              · rcases h2 with h2 | ⟨rfl, h2⟩ <;> omega
              · rcases h2 with h2 | ⟨_, h2⟩
                · omega
                · exact e1 rfl (by rw [h1, h2])
            · rw [if_neg e3]
              simp only [Bool.or_eq_true, Bool.and_eq_true, decide_eq_true_eq]
              rcases h1 with h1 | ⟨rfl, h1⟩
              · rcases h2 with h2 | ⟨rfl, h2⟩ <;> exact Or.inl (by omega)
              · rcases h2 with h2 | ⟨rfl, h2⟩
                · exact Or.inl (by omega)
                · exact Or.inr ⟨rfl, h1⟩
/-- One loss stands not behind another. -/
def leL (x y : Lo) : Prop := lessL y x = false
theorem lessL_trans (x y z : Lo) (h1 : lessL x y = true) (h2 : lessL y z = true) : lessL x z = true := by
  unfold lessL at *
  by_cases e1 : x.2 = y.2
  · rw [if_pos e1] at h1
    by_cases e2 : y.2 = z.2
    · rw [if_pos e2] at h2; rw [if_pos (e1.trans e2)]
      simp only [decide_eq_true_eq] at *; omega
    · rw [if_neg e2] at h2; rw [if_neg (fun e => e2 (e1.symm.trans e)), e1]; exact h2
  · rw [if_neg e1] at h1
    by_cases e2 : y.2 = z.2
    · rw [if_neg (fun e => e1 (e.trans e2.symm)), ← e2]; exact h1
    · rw [if_neg e2] at h2
      have h3 := lessP_trans _ _ _ h1 h2
      by_cases e3 : x.2 = z.2
      · rw [e3] at h1; rw [lessP_asymm _ _ h1] at h2; cases h2
      · rw [if_neg e3]; exact h3
theorem lessL_asymm (x y : Lo) (h : lessL x y = true) : lessL y x = false := by
  unfold lessL at *
  by_cases e1 : x.2 = y.2
  · rw [if_pos e1] at h; rw [if_pos e1.symm]
    simp only [decide_eq_true_eq, decide_eq_false_iff_not] at *; omega
  · rw [if_neg e1] at h; rw [if_neg (fun e => e1 e.symm)]; exact lessP_asymm _ _ h
theorem leL_refl (x : Lo) : leL x x := by unfold leL lessL; simp
theorem leL_of_less {x y : Lo} (h : lessL x y = true) : leL x y := lessL_asymm _ _ h
theorem leL_antisymm {x y : Lo} (h1 : leL x y) (h2 : leL y x) : x = y := by
  unfold leL lessL at *
  by_cases e : x.2 = y.2
  · rw [if_pos e] at h2; rw [if_pos e.symm] at h1
    simp only [decide_eq_false_iff_not] at *
    exact Prod.ext (by omega) e
  · rw [if_neg e] at h2; rw [if_neg (fun e' => e e'.symm)] at h1
    exact absurd (lessP_total _ _ h2 h1) e
theorem leL_trans {x y z : Lo} (h1 : leL x y) (h2 : leL y z) : leL x z := by
  unfold leL
  cases h : lessL z x with
  | false => rfl
  | true =>
    exfalso
    cases h3 : lessL x y with
    | false => have := leL_antisymm h1 h3; subst this; unfold leL at h2; rw [h] at h2; cases h2
    | true => have := lessL_trans _ _ _ h h3; unfold leL at h2; rw [this] at h2; cases h2
abbrev Sorted (l : List Lo) : Prop := l.Pairwise leL
theorem sorted_unique : ∀ l m : List Lo, Sorted l → Sorted m → l.Perm m → l = m := by
  intro l
  induction l with
  | nil => intro m _ _ h; exact h.nil_eq
  | cons x r ih =>
    intro m h1 h2 h
    cases m with
    | nil => exact absurd h.length_eq (by simp)
    | cons y q =>
      rw [Sorted, List.pairwise_cons] at h1 h2
      have hxy : x = y := by
        have hx : x ∈ y :: q := h.mem_iff.1 (List.mem_cons_self ..)
        have hy : y ∈ x :: r := h.mem_iff.2 (List.mem_cons_self ..)
        rcases List.mem_cons.1 hx with e | hx
        · exact e
        · rcases List.mem_cons.1 hy with e | hy
          · exact e.symm
          · exact leL_antisymm (h1.1 y hy) (h2.1 x hx)
      subst hxy
      rw [ih q h1.2 h2.2 (List.Perm.cons_inv h)]
theorem sorted_snoc {P : List Lo} {x : Lo} (h : Sorted (P ++ [x])) : ∀ y ∈ P ++ [x], leL y x := by
  rw [Sorted, List.pairwise_append] at h
  intro y hy
  rcases List.mem_append.1 hy with hy | hy
  · exact h.2.2 y hy x (List.mem_singleton.2 rfl)
  · rw [List.mem_singleton.1 hy]; exact leL_refl x
theorem sorted_cons {P : List Lo} {x : Lo} (h : Sorted (x :: P)) : ∀ y ∈ x :: P, leL x y := by
  rw [Sorted, List.pairwise_cons] at h
  intro y hy
  rcases List.mem_cons.1 hy with rfl | hy
  · exact leL_refl _
  · exact h.1 y hy
/-- What stands on either side of a place. -/
theorem sorted_glue {P Q : List Lo} (hP : Sorted P) (hQ : Sorted Q) (h : ∀ x, P.getLast? = some x → ∀ y, Q.head? = some y → leL x y) : ∀ x ∈ P, ∀ y ∈ Q, leL x y := by
  intro x hx y hy
  rcases List.eq_nil_or_concat P with rfl | ⟨P', p, rfl⟩
  · cases hx
  · cases Q with
    | nil => cases hy
    | cons q Q' =>
      rw [List.concat_eq_append] at hP hx h
      exact leL_trans (sorted_snoc hP x hx) (leL_trans (h p (by simp) q rfl) (sorted_cons hQ y hy))
theorem sorted_put {P Q : List Lo} {x : Lo} (h : Sorted (P ++ Q)) (h1 : ∀ y, P.getLast? = some y → leL y x) (h2 : ∀ y ∈ Q, leL x y) : Sorted (P ++ x :: Q) := by
  rw [Sorted, List.pairwise_append] at h ⊢
  have h3 : ∀ y ∈ P, leL y x := by
    intro y hy
    rcases List.eq_nil_or_concat P with rfl | ⟨P', p, rfl⟩
    · cases hy
    · rw [List.concat_eq_append] at h hy h1
      exact leL_trans (sorted_snoc h.1 y hy) (h1 p (by simp))
  refine ⟨h.1, List.pairwise_cons.2 ⟨h2, h.2.1⟩, ?_⟩
  intro a ha b hb
  rcases List.mem_cons.1 hb with rfl | hb
  · exact h3 a ha
  · exact h.2.2 a ha b hb
/-- The sorted list. -/
def srtL : List Lo → List Lo
  | [] => []
  | x :: r => (srtL r).takeWhile (fun y => lessL y x) ++ x :: (srtL r).dropWhile (fun y => lessL y x)
theorem srtL_perm : ∀ l, (srtL l).Perm l := by
  intro l
  induction l with
  | nil => exact List.Perm.refl _
  | cons x r ih =>
    rw [srtL]
    refine List.perm_middle.trans (List.Perm.cons x ?_)
    rw [List.takeWhile_append_dropWhile]; exact ih
theorem takeWhile_mem {α : Type} (p : α → Bool) : ∀ l : List α, ∀ x ∈ l.takeWhile p, p x = true := by
  intro l
  induction l with
  | nil => intro x hx; simp at hx
  | cons a r ih =>
    intro x hx
    rw [List.takeWhile_cons] at hx
    split at hx
    · rcases List.mem_cons.1 hx with rfl | hx
      · assumption
      · exact ih x hx
    · cases hx
theorem dropWhile_head {α : Type} (p : α → Bool) : ∀ l : List α, ∀ x, (l.dropWhile p).head? = some x → p x = false := by
  intro l
  induction l with
  | nil => intro x hx; simp at hx
  | cons a r ih =>
    intro x hx
    rw [List.dropWhile_cons] at hx
    split at hx
    · exact ih x hx
    · rename_i h; simp at hx; subst hx; simpa using h
theorem srtL_sorted : ∀ l, Sorted (srtL l) := by
  intro l
  induction l with
  | nil => exact List.Pairwise.nil
  | cons x r ih =>
    rw [srtL]
    have e := List.takeWhile_append_dropWhile (p := fun y => lessL y x) (l := srtL r)
    have hs := ih; rw [← e] at hs
    refine sorted_put hs (fun y hy => leL_of_less (takeWhile_mem _ _ y (List.mem_of_getLast? hy))) ?_
    intro y hy
    have hq : Sorted ((srtL r).dropWhile (fun y => lessL y x)) := (List.pairwise_append.1 hs).2.1
    have hh := dropWhile_head (fun y => lessL y x) (srtL r)
    cases hd : (srtL r).dropWhile (fun y => lessL y x) with
    | nil => rw [hd] at hy; cases hy
    | cons q Q =>
      rw [hd] at hy hq hh
      exact leL_trans (hh q rfl) (sorted_cons hq y hy)
theorem srtL_eq {l m : List Lo} (h : m.Perm l) (hs : Sorted m) : m = srtL l := sorted_unique _ _ hs (srtL_sorted l) (h.trans (srtL_perm l).symm)
theorem srtL_length (l : List Lo) : (srtL l).length = l.length := (srtL_perm l).length_eq
theorem get_mid {A B R : List Lo} {i : Nat} (h1 : A.length ≤ i) (h2 : i < A.length + B.length) (h : i < (A ++ (B ++ R)).length) : (A ++ (B ++ R))[i] = B[i - A.length] := by
  rw [List.getElem_append_right h1, List.getElem_append_left (by omega)]
theorem get_mid2 {A U V R : List Lo} {i : Nat} (h1 : A.length + U.length ≤ i) (h2 : i < A.length + U.length + V.length) (h : i < (A ++ (U ++ (V ++ R))).length) : (A ++ (U ++ (V ++ R)))[i] = V[i - A.length - U.length] := by
  rw [List.getElem_append_right (by omega), get_mid (by omega) (by omega)]
theorem last_take {U : List Lo} {k : Nat} (hk : 0 < k) (hk2 : k ≤ U.length) {x : Lo} (h : (U.take k).getLast? = some x) : x = U[k - 1] := by
  rw [List.getLast?_eq_getElem?, List.length_take, Nat.min_eq_left hk2, List.getElem?_take_of_lt (by omega), List.getElem?_eq_getElem (by omega)] at h
  exact (Option.some.inj h).symm
theorem head_drop {U : List Lo} {k : Nat} (hk : k < U.length) {x : Lo} (h : (U.drop k).head? = some x) : x = U[k] := by
  rw [List.head?_drop, List.getElem?_eq_getElem hk] at h
  exact (Option.some.inj h).symm
/-- The halves that symMerge makes. -/
theorem sym_pure (A U V R : List Lo) (hU : Sorted U) (hV : Sorted V) (a m b mid st s0 r0 : Nat) (ha : a = A.length) (hm : m = a + U.length) (hb : b = m + V.length) (hmid : mid = (a + b) / 2) (hUn : 0 < U.length) (hVn : 0 < V.length)
    (hs : (mid < m ∧ s0 = mid + m - b ∧ r0 = mid) ∨ (m ≤ mid ∧ s0 = a ∧ r0 = m)) (h1 : s0 ≤ st) (h2 : st ≤ r0) (L : List Lo) (hL : L = A ++ (U ++ (V ++ R)))
    (k1 : s0 < st → ∀ (i j : Nat) (hi : i < L.length) (hj : j < L.length), i = mid + m - st → j = st - 1 → lessL L[i] L[j] = false)
    (k2 : st < r0 → ∀ (i j : Nat) (hi : i < L.length) (hj : j < L.length), i = mid + m - 1 - st → j = st → lessL L[i] L[j] = true) :
    ∃ U1 U2 V1 V2, U = U1 ++ U2 ∧ V = V1 ++ V2 ∧ a ≤ st ∧ U1.length = st - a ∧ V1.length = mid - st ∧ st ≤ m ∧ st ≤ mid ∧ mid + m - st ≤ b ∧ (∀ x ∈ U1 ++ V1, ∀ y ∈ U2 ++ V2, leL x y) := by
  have hLlen : L.length = b + R.length := by rw [hL]; simp; omega
  have hst : a ≤ st ∧ st ≤ m ∧ st ≤ mid ∧ mid + m - st ≤ b := by omega
  refine ⟨U.take (st - a), U.drop (st - a), V.take (mid - st), V.drop (mid - st), (List.take_append_drop ..).symm, (List.take_append_drop ..).symm, hst.1, by rw [List.length_take]; omega, by rw [List.length_take]; omega, hst.2.1, hst.2.2.1, hst.2.2.2, ?_⟩
  have hU2 := hU; have hV2 := hV
  rw [← List.take_append_drop (st - a) U] at hU2
  rw [← List.take_append_drop (mid - st) V] at hV2
  obtain ⟨u1, u2, u3⟩ := List.pairwise_append.1 hU2
  obtain ⟨v1, v2, v3⟩ := List.pairwise_append.1 hV2
  have g1 : ∀ x ∈ U.take (st - a), ∀ y ∈ V.drop (mid - st), leL x y := by
    refine sorted_glue u1 v2 ?_
    intro x hx y hy
    by_cases e1 : st = a
    · rw [e1, Nat.sub_self, List.take_zero] at hx; simp at hx
    · by_cases e2 : mid + m - st = b
      · rw [List.drop_of_length_le (by omega)] at hy; simp at hy
      · have ex := last_take (by omega) (by omega) hx
        have ey := head_drop (by omega) hy
        have k := k1 (by omega) (mid + m - st) (st - 1) (by omega) (by omega) rfl rfl
        have e3 : L[st - 1]'(by omega) = U[st - a - 1]'(by omega) := by
          simp only [hL]
          rw [get_mid (by omega) (by omega)]
          congr 1; omega
        have e4 : L[mid + m - st]'(by omega) = V[mid - st]'(by omega) := by
          simp only [hL]
          rw [get_mid2 (by omega) (by omega)]
          congr 1; omega
        rw [e3, e4, ← ex, ← ey] at k
        exact k
  have g2 : ∀ x ∈ V.take (mid - st), ∀ y ∈ U.drop (st - a), leL x y := by
    refine sorted_glue v1 u2 ?_
    intro x hx y hy
    by_cases e1 : st = mid
    · rw [e1, Nat.sub_self, List.take_zero] at hx; simp at hx
    · by_cases e2 : st = m
      · rw [List.drop_of_length_le (by omega)] at hy; simp at hy
      · have ex := last_take (by omega) (by omega) hx
        have ey := head_drop (by omega) hy
        have k := k2 (by omega) (mid + m - 1 - st) st (by omega) (by omega) rfl rfl
        have e3 : L[st]'(by omega) = U[st - a]'(by omega) := by
          simp only [hL]
          rw [get_mid (by omega) (by omega)]
          congr 1; omega
        have e4 : L[mid + m - 1 - st]'(by omega) = V[mid - st - 1]'(by omega) := by
          simp only [hL]
          rw [get_mid2 (by omega) (by omega)]
          congr 1; omega
        rw [e3, e4, ← ex, ← ey] at k
        exact leL_of_less k
  intro x hx y hy
  rcases List.mem_append.1 hx with hx | hx <;> rcases List.mem_append.1 hy with hy | hy
  · exact u3 x hx y hy
  · exact g1 x hx y hy
  · exact g2 x hx y hy
  · exact v3 x hx y hy
theorem sorted_join {S T : List Lo} (h1 : Sorted S) (h2 : Sorted T) (h : ∀ x ∈ S, ∀ y ∈ T, leL x y) : Sorted (S ++ T) := List.pairwise_append.2 ⟨h1, h2, h⟩
end Go.Proofs.YtfbodhfdomdkpaaGreatDoor
