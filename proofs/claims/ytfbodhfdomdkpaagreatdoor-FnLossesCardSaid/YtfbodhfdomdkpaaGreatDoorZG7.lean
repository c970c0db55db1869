/- Texts of this proof, merged: LossT, LossT2, KeepX. No condition beyond what each theorem states. -/
import Derived.Test.YtfbodhfdomdkpaaGreatDoorRows
import Derived.WalkKit
import Derived.ProofKit
import Derived.OpenShut
import Derived.Handy
import Derived.Lib.Hide
import Derived.Lib.SmallJoins
import Derived.Lib.Join
import Derived.Deep.RegionHeld3
import Derived.Deep.AppendLies
import Derived.Deep.QuietTactic
import Derived.BigQuiet
import Derived.Lib.AppendIntMem
import Derived.Lib.ItoaLen
import Derived.Test.YtfbodhfdomdkpaaGreatDoorZG1
import Derived.Test.YtfbodhfdomdkpaaGreatDoorZG2
import Derived.Test.YtfbodhfdomdkpaaGreatDoorZG3
import Derived.Test.YtfbodhfdomdkpaaGreatDoorZG4
import Derived.Test.YtfbodhfdomdkpaaGreatDoorShelf
import Derived.Test.YtfbodhfdomdkpaaGreatDoorZG6
import Derived.Deep.RegionLaw
set_option linter.unusedSimpArgs false
set_option linter.unnecessarySimpa false
namespace Go.Proofs.YtfbodhfdomdkpaaGreatDoor
open Go.ChangeShapes Go.WideShapes Go.ChangeAt Go.RowKit Go.Joins
set_option linter.unusedVariables false
set_option maxRecDepth 100000
def wordT (v : T) (x : Lo) : ByteArray := (lossNm x.1 ++ ⟨#[32]⟩) ++ pathT v ⟨#[36]⟩ x.2
def joinT (xs : List ByteArray) : ByteArray := ⟨(Lib.join (xs.map (·.data.toList)) (⟨#[59, 32]⟩ : ByteArray).data.toList).toArray⟩
def lossT (v : T) (l : List Lo) : ByteArray := if l.length = 0 then ⟨#[45]⟩ else joinT (l.map (wordT v))
theorem joinT_nil : joinT [] = ⟨#[]⟩ := rfl
theorem joinT_one (y : ByteArray) : joinT [y] = y := by
  unfold joinT; rw [List.map_cons, List.map_nil, Lib.join_one, Lib.mk_data]
theorem joinT_snoc (xs : List ByteArray) (y : ByteArray) (h : xs ≠ []) : joinT (xs ++ [y]) = (joinT xs ++ ⟨#[59, 32]⟩) ++ y := by
  cases xs with
  | nil => exact absurd rfl h
  | cons x r =>
    apply ByteArray.ext
    apply Array.ext'
    simp [joinT, Lib.join_cons, Lib.joinTail, ByteArray.data_append]
theorem joinT_size (xs : List ByteArray) (C : Nat) (h : ∀ x ∈ xs, x.size ≤ C) : (joinT xs).size ≤ xs.length * (C + 2) := by
  cases xs with
  | nil => simp [joinT, Lib.join_nil, ByteArray.size]
  | cons x r =>
    have e : (joinT (x :: r)).size = (Lib.join ((x :: r).map (·.data.toList)) (⟨#[59, 32]⟩ : ByteArray).data.toList).length := by simp [joinT, ByteArray.size]
    have hl : ∀ ys : List ByteArray, (∀ x ∈ ys, x.size ≤ C) → Lib.lens (ys.map (·.data.toList)) ≤ ys.length * C := by
      intro ys
      induction ys with
      | nil => intro _; simp [Lib.lens]
      | cons a t ih =>
        intro hh
        have h1 := ih (fun z hz => hh z (by simp [hz]))
        have h2 := hh a (by simp)
        have h3 := Lib.size_eq a
        simp only [Lib.lens, List.map_cons, List.sum_cons, List.length_cons, Nat.add_mul, Nat.one_mul] at h1 ⊢
        omega
    have h1 := hl (x :: r) h
    rw [e, List.map_cons, Lib.join_length]
    rw [List.map_cons] at h1
    simp only [List.length_cons, List.length_map, Nat.add_mul, Nat.one_mul, Nat.mul_add] at h1 ⊢
    have h2 : (⟨#[59, 32]⟩ : ByteArray).data.toList.length = 2 := rfl
    simp only [List.length_cons, List.length_nil] at h2 ⊢
    omega
theorem lossNm_size (n : Int) : (lossNm n).size ≤ 5 := by
  unfold lossNm
  repeat (split; · (first | decide | exact (by decide : _ ≤ 5)))
  decide
theorem Rd.i64 {w : World} {B : Nat} {a : Option Addr} {cap : Nat} {p : List St} (h : Rd EStep 2 w B a cap p) : ∀ s ∈ p, I64 s.1 := by
  intro s hs
  obtain ⟨i, hi, rfl⟩ := List.mem_iff_getElem.1 hs
  obtain ⟨_, _, _, _, _, _, h⟩ := h.step i hi
  exact h
theorem wordT_size (v : T) (x : Lo) (h : ∀ s ∈ x.2, I64 s.1) (hz : T.szL v.l ≤ 1048576) : (wordT v x).size ≤ 25165831 := by
  have h1 := pathT_size x.2 h v ⟨#[36]⟩
  have h2 := lossNm_size x.1
  have h3 : (⟨#[36]⟩ : ByteArray).size = 1 := rfl
  have h4 : (⟨#[32]⟩ : ByteArray).size = 1 := rfl
  unfold wordT
  rw [ByteArray.size_append, ByteArray.size_append]
  omega
end Go.Proofs.YtfbodhfdomdkpaaGreatDoor
namespace Go.Proofs.YtfbodhfdomdkpaaGreatDoor
open Go.ChangeShapes Go.WideShapes Go.ChangeAt Go.RowKit Go.Joins
set_option linter.unusedVariables false
set_option maxRecDepth 100000
theorem words_nil (v : T) : joinT (([] : List Lo).map (wordT v)) = ⟨#[]⟩ := rfl
theorem words_first (v : T) (l : List Lo) (h : 0 < l.length) : ⟨#[]⟩ ++ wordT v l[0] = joinT ((l.take (0 + 1)).map (wordT v)) := by
  rw [take_snoc l 0 h, List.take_zero, List.nil_append, List.map_cons, List.map_nil, joinT_one]
  apply ByteArray.ext; simp [ByteArray.data_append]
theorem words_next (v : T) (l : List Lo) (j : Nat) (h : j < l.length) (hj : 0 < j) : (joinT ((l.take j).map (wordT v)) ++ ⟨#[59, 32]⟩) ++ wordT v l[j] = joinT ((l.take (j + 1)).map (wordT v)) := by
  rw [take_snoc l j h, List.map_append, List.map_cons, List.map_nil, joinT_snoc]
  intro e
  have := congrArg List.length e
  rw [List.length_map, List.length_take, List.length_nil] at this; omega
theorem words_join (o nm p : ByteArray) : ((o ++ nm) ++ ⟨#[32]⟩) ++ p = o ++ ((nm ++ ⟨#[32]⟩) ++ p) := by simp only [ByteArray.append_assoc]
set_option maxHeartbeats 2000000 in
theorem spec_LossText (v : T) (l : List Lo) (a a' : Option Addr) (cap cap' B : Nat) (w : World) (hr : R w B a cap v.l) (hr' : Rd ELoss 2 w B a' cap' l) (hwf : Wf v) (hsz : T.sz v ≤ 1048576) (hll : l.length ≤ 1048576) (hB : B ≤ w.heap.size) :
    Calls Tryz.prog 26 #[.agg (cV v a cap), .slice a' l.length cap'] w fun e w' => e = .returned (.string (lossT v l)) ∧ Below w.heap.size w w' := by
  obtain ⟨hl1, hl2⟩ := hr.len
  obtain ⟨hm1, hm2⟩ := hr'.len
  have hct := T.countL_le_szL v
  have hszL := s_le_sz v
  have HR := Lib.hid hr; clear hr
  have HR' := Lib.hid hr'; clear hr'
  have HWF := Lib.hid hwf; clear hwf
  go_enter Tryz.func26, Tryz.ntmps26
  go_wp2_with fail
  generalize hW : w.alloc (Obj.cells (cV v a cap) 36) = W0
  have q1 : Is W0 w.heap.size 36 (cV v a cap) := by subst hW; exact Is.new _ _ _
  have H0 := Lib.hid (show Below w.heap.size w W0 from by subst hW; exact below1 _ _)
  have hs0 : W0.heap.size = w.heap.size + 1 := by subst hW; simp
  clear hW
  go_loopw [6, 5] (fun i s wr => ∃ (j : Nat) (o : ByteArray), j ≤ l.length ∧ i = .int .i64 j ∧ s = .string o ∧ Hid (o = joinT ((l.take j).map (wordT v))) ∧ o.size ≤ j * 25165840 ∧ Below W0.heap.size W0 wr) (fun i _ _ => l.length - (intOf i).toNat)
  case atStart => exact ⟨0, _, Nat.zero_le _, rfl, rfl, rfl, by show (⟨#[]⟩ : ByteArray).size ≤ _; simp [ByteArray.size], Below.refl _ _⟩
  case round =>
    obtain ⟨j, o, hj, rfl, rfl, HO, hos, hb⟩ := hrel
    have hbs := hb.size
    have hbox := q1.below hb (by omega)
    obtain ⟨x0, x1, x2, x3, x4⟩ := hbox.cells5
    have lbox : w.heap.size < wr.heap.size := by omega
    have HBw := Lib.hid (H0.out.trans (hb.mono (by omega)))
    by_cases hlt : j < l.length
    · obtain ⟨b, o2, a2, cap2, ha, hbl, d0, d1, hi, hq⟩ := (HR'.out.below ELoss.loc HBw.out hB).loss j hlt
      subst ha
      have hlb : b < wr.heap.size := by omega
      have hpi := hq.i64
      have z1 := lossNm_size l[j].1
      have z2 := pathT_size l[j].2 hpi v ⟨#[36]⟩
      have z3 : (⟨#[36]⟩ : ByteArray).size = 1 := rfl
      have z4 : (⟨#[32]⟩ : ByteArray).size = 1 := rfl
      have z5 : (⟨#[59, 32]⟩ : ByteArray).size = 2 := rfl
      have HQ := Lib.hid hq; clear hq
      have HX := Lib.hid (HR.out.below HBw.out hB)
      clear hpi
      have HN : ∃ o' : ByteArray, Hid (o' ++ wordT v l[j] = joinT ((l.take (j + 1)).map (wordT v))) ∧ o'.size ≤ j * 25165840 + 2 ∧ ((¬ (0 < (j : Int)) ∧ o' = o) ∨ (0 < (j : Int) ∧ o ++ ⟨#[59, 32]⟩ = o')) := by
        by_cases hj0 : j = 0
        · subst hj0; exact ⟨o, by rw [HO.out]; exact words_first v l hlt, by omega, .inl ⟨by omega, rfl⟩⟩
        · exact ⟨o ++ ⟨#[59, 32]⟩, by rw [HO.out]; exact words_next v l j hlt (by omega), by rw [ByteArray.size_append]; omega, .inr ⟨by omega, rfl⟩⟩
      obtain ⟨o', HN, hos', hj0 | hj0⟩ := HN
      all_goals
        obtain ⟨hj0, ho'⟩ := hj0
        go_wp2_with fail
        try rw [ho']
        try subst ho'
        refine wp_region_held_drew (S := fun w' => (∀ b o, b < wr.heap.size → w'.cell? ⟨b, o, none⟩ = wr.cell? ⟨b, o, none⟩) ∧ Below (wr.heap.size) wr w') (by kernel_rfl) (by first | exact ⟨fun _ _ _ => rfl, (Below.refl _ _).drew⟩ | exact keep_step (by assumption) (Below.drew (Below.refl _ _)) (Nat.le_refl _) | exact keep_step (by assumption) (by assumption) (by first | omega | ((try simp only [World.size_drew, size_alloc]); omega) | (have := (‹(_ ∧ Below (wr.heap.size) wr _)›).2.size; (try simp only [World.size_drew, size_alloc] at this ⊢); omega))) (fun hHeld => ?_)
        refine wpAnyH_take (i := 0) (oi := ⟨some 17, _, _, _, _, _⟩) (v := ?_) rfl (by kernel_rfl) (by kernel_rfl) (by kernel_rfl) (fun _ _ _ h => h) (Or.inl ⟨by rfl, ?_⟩) (by assumption) ?_
        rotate_left 1
        · (intro w hSw; (try dsimp only at hSw); go_simp; try (with_reducible rfl))
        try simp only [Act.put, List.setIfInBounds_toArray, List.set_cons_zero, List.set_cons_succ]
        refine wpAnyH_take (i := 1) (oi := ⟨some 18, _, _, _, _, _⟩) (v := ?_) rfl (by kernel_rfl) (by kernel_rfl) (by kernel_rfl) (fun _ _ _ h => h) (Or.inl ⟨by rfl, ?_⟩) (by assumption) ?_
        rotate_left 1
        · (intro w hSw; (try dsimp only at hSw); go_simp; try (with_reducible rfl))
        try simp only [Act.put, List.setIfInBounds_toArray, List.set_cons_zero, List.set_cons_succ]
        refine wpAnyH_take (i := 2) (oi := ⟨some 19, _, _, _, _, _⟩) (v := ?_) rfl (by kernel_rfl) (by kernel_rfl) (by kernel_rfl) (fun _ _ _ h => h) (Or.inl ⟨by rfl, ?_⟩) (by assumption) ?_
        rotate_left 1
        · (intro w hSw; (try dsimp only at hSw); go_simp; try (with_reducible rfl))
        try simp only [Act.put, List.setIfInBounds_toArray, List.set_cons_zero, List.set_cons_succ]
        refine wpAnyH_take (i := 3) (oi := ⟨some 20, _, _, _, _, _⟩) (v := ?_) rfl (by kernel_rfl) (by kernel_rfl) (by kernel_rfl) (fun _ _ _ h => h) (Or.inl ⟨by rfl, ?_⟩) (by assumption) ?_
        rotate_left 1
        · (intro w hSw; (try dsimp only at hSw); go_simp; try (with_reducible rfl))
        try simp only [Act.put, List.setIfInBounds_toArray, List.set_cons_zero, List.set_cons_succ]
        refine wpAnyH_take (i := 4) (oi := ⟨some 21, _, _, _, _, _⟩) (v := ?_) rfl (by kernel_rfl) (by kernel_rfl) (by kernel_rfl) (fun _ _ _ h => h) (Or.inl ⟨by rfl, ?_⟩) (by assumption) ?_
        rotate_left 1
        · (intro w hSw; (try dsimp only at hSw); go_simp; try (with_reducible rfl))
        try simp only [Act.put, List.setIfInBounds_toArray, List.set_cons_zero, List.set_cons_succ]
        refine wpAnyH_take (i := 5) (oi := ⟨some 22, _, _, _, _, _⟩) (v := ?_) rfl (by kernel_rfl) (by kernel_rfl) (by kernel_rfl) (fun _ _ _ h => h) (Or.inl ⟨by rfl, ?_⟩) (by assumption) ?_
        rotate_left 1
        · (intro w hSw; (try dsimp only at hSw); go_simp; try (with_reducible rfl))
        try simp only [Act.put, List.setIfInBounds_toArray, List.set_cons_zero, List.set_cons_succ]
        refine wpAnyH_take (i := 9) (oi := ⟨some 26, _, _, _, _, _⟩) (v := ?_) rfl (by kernel_rfl) (by kernel_rfl) (by kernel_rfl) (fun _ _ _ h => h) (Or.inl ⟨by rfl, ?_⟩) (by assumption) ?_
        rotate_left 1
        · (intro w hSw; (try dsimp only at hSw); go_simp; try (with_reducible rfl))
        try simp only [Act.put, List.setIfInBounds_toArray, List.set_cons_zero, List.set_cons_succ]
        refine wpAnyH_take (i := 10) (oi := ⟨some 27, _, _, _, _, _⟩) (v := ?_) rfl (by kernel_rfl) (by kernel_rfl) (by kernel_rfl) (fun _ _ _ h => h) (Or.inl ⟨by rfl, ?_⟩) (by assumption) ?_
        rotate_left 1
        · (intro w hSw; (try dsimp only at hSw); go_simp; try (with_reducible rfl))
        try simp only [Act.put, List.setIfInBounds_toArray, List.set_cons_zero, List.set_cons_succ]
        refine wpAnyH_take (i := 11) (oi := ⟨some 28, _, _, _, _, _⟩) (v := ?_) rfl (by kernel_rfl) (by kernel_rfl) (by kernel_rfl) (fun _ _ _ h => h) (Or.inl ⟨by rfl, ?_⟩) (by assumption) ?_
        rotate_left 1
        · (intro w hSw; (try dsimp only at hSw); go_simp; try (with_reducible rfl))
        try simp only [Act.put, List.setIfInBounds_toArray, List.set_cons_zero, List.set_cons_succ]
        refine wpAnyH_take (i := 12) (oi := ⟨some 29, _, _, _, _, _⟩) (v := ?_) rfl (by kernel_rfl) (by kernel_rfl) (by kernel_rfl) (fun _ _ _ h => h) (Or.inl ⟨by rfl, ?_⟩) (by assumption) ?_
        rotate_left 1
        · (intro w hSw; (try dsimp only at hSw); go_simp; try (with_reducible rfl))
        try simp only [Act.put, List.setIfInBounds_toArray, List.set_cons_zero, List.set_cons_succ]
        refine wpAnyH_take (i := 13) (oi := ⟨some 30, _, _, _, _, _⟩) (v := ?_) rfl (by kernel_rfl) (by kernel_rfl) (by kernel_rfl) (fun _ _ _ h => h) (Or.inl ⟨by rfl, ?_⟩) (by assumption) ?_
        rotate_left 1
        · (intro w hSw; (try dsimp only at hSw); go_simp; try (with_reducible rfl))
        try simp only [Act.put, List.setIfInBounds_toArray, List.set_cons_zero, List.set_cons_succ]
        refine wpAnyH_take (i := 14) (oi := ⟨some 31, _, _, _, _, _⟩) (v := ?_) rfl (by kernel_rfl) (by kernel_rfl) (by kernel_rfl) (fun _ _ _ h => h) (Or.inl ⟨by rfl, ?_⟩) (by assumption) ?_
        rotate_left 1
        · (intro w hSw; (try dsimp only at hSw); go_simp; try (with_reducible rfl))
        try simp only [Act.put, List.setIfInBounds_toArray, List.set_cons_zero, List.set_cons_succ]
        refine wpAnyH_ready (rs := [6]) (by kernel_rfl) (by simp) ?_
        refine AllReadyH.cons (o := ⟨some 23, _, _, _, _, _⟩) rfl (fun K hK => ?_) AllReadyH.nil
        go_simp
        (first | (go_at_call 28; refine (spec_LossName l[j].1 _ hi).mono ?_; rintro e w3 ⟨rfl, hb3⟩) | (go_at_call 91; refine (spec_PathText v l[j].2 a a2 cap cap2 B _ (HX.out.below (‹_ ∧ Below (wr.heap.size) wr _›).2 (by omega)) (HQ.out.below EStep.loc (‹_ ∧ Below (wr.heap.size) wr _›).2 (by omega)) HWF.out (by omega) (by omega) (Nat.le_trans (by omega) (‹_ ∧ Below (wr.heap.size) wr _›).2.size)).mono ?_; rintro e w3 ⟨rfl, hb3⟩))
        go_wp2_with fail
        refine hK.out _ _ (by first | exact ⟨fun _ _ _ => rfl, (Below.refl _ _).drew⟩ | exact keep_step (by assumption) (Below.drew (Below.refl _ _)) (Nat.le_refl _) | exact keep_step (by assumption) (by assumption) (by first | omega | ((try simp only [World.size_drew, size_alloc]); omega) | (have := (‹(_ ∧ Below (wr.heap.size) wr _)›).2.size; (try simp only [World.size_drew, size_alloc] at this ⊢); omega))) (fun hHeld => ?_)
        clear hK K
        try simp only [Act.put, List.setIfInBounds_toArray, List.set_cons_zero, List.set_cons_succ]
        refine wpAnyH_ready (rs := [7, 15]) (by kernel_rfl) (by simp) ?_
        refine AllReadyH.cons (o := ⟨some 24, _, _, _, _, _⟩) rfl (fun K hK => ?_) ?_
        focus (go_simp; go_wp2_with fail; refine hK.out _ _ (by first | assumption | first | exact ⟨fun _ _ _ => rfl, (Below.refl _ _).drew⟩ | exact keep_step (by assumption) (Below.drew (Below.refl _ _)) (Nat.le_refl _) | exact keep_step (by assumption) (by assumption) (by first | omega | ((try simp only [World.size_drew, size_alloc]); omega) | (have := (‹(_ ∧ Below (wr.heap.size) wr _)›).2.size; (try simp only [World.size_drew, size_alloc] at this ⊢); omega))) (fun hHeld => ?_); clear hK K; try simp only [Act.put, List.setIfInBounds_toArray, List.set_cons_zero, List.set_cons_succ])
        refine wpAnyH_ready (rs := [8, 15]) (by kernel_rfl) (by simp) ?_
        refine AllReadyH.cons (o := ⟨some 25, _, _, _, _, _⟩) rfl (fun K hK => ?_) ?_
        focus (go_simp; go_wp2_with fail; refine hK.out _ _ (by first | assumption | first | exact ⟨fun _ _ _ => rfl, (Below.refl _ _).drew⟩ | exact keep_step (by assumption) (Below.drew (Below.refl _ _)) (Nat.le_refl _) | exact keep_step (by assumption) (by assumption) (by first | omega | ((try simp only [World.size_drew, size_alloc]); omega) | (have := (‹(_ ∧ Below (wr.heap.size) wr _)›).2.size; (try simp only [World.size_drew, size_alloc] at this ⊢); omega))) (fun hHeld => ?_); clear hK K; try simp only [Act.put, List.setIfInBounds_toArray, List.set_cons_zero, List.set_cons_succ])
        refine wpAnyH_ready (rs := [15]) (by kernel_rfl) (by simp) ?_
        refine AllReadyH.cons (o := ⟨some 32, _, _, _, _, _⟩) rfl (fun K hK => ?_) AllReadyH.nil
        focus (go_simp; (first | (go_at_call 28; refine (spec_LossName l[j].1 _ hi).mono ?_; rintro e w3 ⟨rfl, hb3⟩) | (go_at_call 91; refine (spec_PathText v l[j].2 a a2 cap cap2 B _ (HX.out.below (‹_ ∧ Below (wr.heap.size) wr _›).2 (by omega)) (HQ.out.below EStep.loc (‹_ ∧ Below (wr.heap.size) wr _›).2 (by omega)) HWF.out (by omega) (by omega) (Nat.le_trans (by omega) (‹_ ∧ Below (wr.heap.size) wr _›).2.size)).mono ?_; rintro e w3 ⟨rfl, hb3⟩)); go_wp2_with fail; refine hK.out _ _ (by first | exact ⟨fun _ _ _ => rfl, (Below.refl _ _).drew⟩ | exact keep_step (by assumption) (Below.drew (Below.refl _ _)) (Nat.le_refl _) | exact keep_step (by assumption) (by assumption) (by first | omega | ((try simp only [World.size_drew, size_alloc]); omega) | (have := (‹(_ ∧ Below (wr.heap.size) wr _)›).2.size; (try simp only [World.size_drew, size_alloc] at this ⊢); omega))) (fun hHeld => ?_); clear hK K; try simp only [Act.put, List.setIfInBounds_toArray, List.set_cons_zero, List.set_cons_succ])
        refine wpAnyH_ready (rs := [16]) (by kernel_rfl) (by simp) ?_
        refine AllReadyH.cons (o := ⟨some 33, _, _, _, _, _⟩) rfl (fun K hK => ?_) AllReadyH.nil
        focus (go_simp; go_wp2_with fail; refine hK.out _ _ (by first | assumption | first | exact ⟨fun _ _ _ => rfl, (Below.refl _ _).drew⟩ | exact keep_step (by assumption) (Below.drew (Below.refl _ _)) (Nat.le_refl _) | exact keep_step (by assumption) (by assumption) (by first | omega | ((try simp only [World.size_drew, size_alloc]); omega) | (have := (‹(_ ∧ Below (wr.heap.size) wr _)›).2.size; (try simp only [World.size_drew, size_alloc] at this ⊢); omega))) (fun hHeld => ?_); clear hK K; try simp only [Act.put, List.setIfInBounds_toArray, List.set_cons_zero, List.set_cons_succ])
        refine wpAnyH_take (i := 17) (oi := ⟨some 5, _, _, _, _, _⟩) (v := ?_) rfl (by kernel_rfl) (by kernel_rfl) (by kernel_rfl) (fun _ _ _ h => h) (Or.inl ⟨by rfl, ?_⟩) (by assumption) ?_
        rotate_left 1
        · (intro w hSw; (try dsimp only at hSw); go_simp; try (with_reducible rfl))
        try simp only [Act.put, List.setIfInBounds_toArray, List.set_cons_zero, List.set_cons_succ]
        refine wpAnyH_done (by kernel_rfl) ?_ _
        rotate_left 1
        refine AllReadyH.cons (o := ⟨some 32, _, _, _, _, _⟩) rfl (fun K hK => ?_) AllReadyH.nil
        focus (go_simp; (first | (go_at_call 28; refine (spec_LossName l[j].1 _ hi).mono ?_; rintro e w3 ⟨rfl, hb3⟩) | (go_at_call 91; refine (spec_PathText v l[j].2 a a2 cap cap2 B _ (HX.out.below (‹_ ∧ Below (wr.heap.size) wr _›).2 (by omega)) (HQ.out.below EStep.loc (‹_ ∧ Below (wr.heap.size) wr _›).2 (by omega)) HWF.out (by omega) (by omega) (Nat.le_trans (by omega) (‹_ ∧ Below (wr.heap.size) wr _›).2.size)).mono ?_; rintro e w3 ⟨rfl, hb3⟩)); go_wp2_with fail; refine hK.out _ _ (by first | exact ⟨fun _ _ _ => rfl, (Below.refl _ _).drew⟩ | exact keep_step (by assumption) (Below.drew (Below.refl _ _)) (Nat.le_refl _) | exact keep_step (by assumption) (by assumption) (by first | omega | ((try simp only [World.size_drew, size_alloc]); omega) | (have := (‹(_ ∧ Below (wr.heap.size) wr _)›).2.size; (try simp only [World.size_drew, size_alloc] at this ⊢); omega))) (fun hHeld => ?_); clear hK K; try simp only [Act.put, List.setIfInBounds_toArray, List.set_cons_zero, List.set_cons_succ])
        refine wpAnyH_ready (rs := [8]) (by kernel_rfl) (by simp) ?_
        refine AllReadyH.cons (o := ⟨some 25, _, _, _, _, _⟩) rfl (fun K hK => ?_) AllReadyH.nil
        focus (go_simp; go_wp2_with fail; refine hK.out _ _ (by first | assumption | first | exact ⟨fun _ _ _ => rfl, (Below.refl _ _).drew⟩ | exact keep_step (by assumption) (Below.drew (Below.refl _ _)) (Nat.le_refl _) | exact keep_step (by assumption) (by assumption) (by first | omega | ((try simp only [World.size_drew, size_alloc]); omega) | (have := (‹(_ ∧ Below (wr.heap.size) wr _)›).2.size; (try simp only [World.size_drew, size_alloc] at this ⊢); omega))) (fun hHeld => ?_); clear hK K; try simp only [Act.put, List.setIfInBounds_toArray, List.set_cons_zero, List.set_cons_succ])
        refine wpAnyH_ready (rs := [16]) (by kernel_rfl) (by simp) ?_
        refine AllReadyH.cons (o := ⟨some 33, _, _, _, _, _⟩) rfl (fun K hK => ?_) AllReadyH.nil
        focus (go_simp; go_wp2_with fail; refine hK.out _ _ (by first | assumption | first | exact ⟨fun _ _ _ => rfl, (Below.refl _ _).drew⟩ | exact keep_step (by assumption) (Below.drew (Below.refl _ _)) (Nat.le_refl _) | exact keep_step (by assumption) (by assumption) (by first | omega | ((try simp only [World.size_drew, size_alloc]); omega) | (have := (‹(_ ∧ Below (wr.heap.size) wr _)›).2.size; (try simp only [World.size_drew, size_alloc] at this ⊢); omega))) (fun hHeld => ?_); clear hK K; try simp only [Act.put, List.setIfInBounds_toArray, List.set_cons_zero, List.set_cons_succ])
        refine wpAnyH_take (i := 17) (oi := ⟨some 5, _, _, _, _, _⟩) (v := ?_) rfl (by kernel_rfl) (by kernel_rfl) (by kernel_rfl) (fun _ _ _ h => h) (Or.inl ⟨by rfl, ?_⟩) (by assumption) ?_
        rotate_left 1
        · (intro w hSw; (try dsimp only at hSw); go_simp; try (with_reducible rfl))
        try simp only [Act.put, List.setIfInBounds_toArray, List.set_cons_zero, List.set_cons_succ]
        refine wpAnyH_done (by kernel_rfl) ?_ _
        rotate_left 1
        refine AllReadyH.cons (o := ⟨some 32, _, _, _, _, _⟩) rfl (fun K hK => ?_) AllReadyH.nil
        focus (go_simp; (first | (go_at_call 28; refine (spec_LossName l[j].1 _ hi).mono ?_; rintro e w3 ⟨rfl, hb3⟩) | (go_at_call 91; refine (spec_PathText v l[j].2 a a2 cap cap2 B _ (HX.out.below (‹_ ∧ Below (wr.heap.size) wr _›).2 (by omega)) (HQ.out.below EStep.loc (‹_ ∧ Below (wr.heap.size) wr _›).2 (by omega)) HWF.out (by omega) (by omega) (Nat.le_trans (by omega) (‹_ ∧ Below (wr.heap.size) wr _›).2.size)).mono ?_; rintro e w3 ⟨rfl, hb3⟩)); go_wp2_with fail; refine hK.out _ _ (by first | exact ⟨fun _ _ _ => rfl, (Below.refl _ _).drew⟩ | exact keep_step (by assumption) (Below.drew (Below.refl _ _)) (Nat.le_refl _) | exact keep_step (by assumption) (by assumption) (by first | omega | ((try simp only [World.size_drew, size_alloc]); omega) | (have := (‹(_ ∧ Below (wr.heap.size) wr _)›).2.size; (try simp only [World.size_drew, size_alloc] at this ⊢); omega))) (fun hHeld => ?_); clear hK K; try simp only [Act.put, List.setIfInBounds_toArray, List.set_cons_zero, List.set_cons_succ])
        refine wpAnyH_ready (rs := [7]) (by kernel_rfl) (by simp) ?_
        refine AllReadyH.cons (o := ⟨some 24, _, _, _, _, _⟩) rfl (fun K hK => ?_) AllReadyH.nil
        focus (go_simp; go_wp2_with fail; refine hK.out _ _ (by first | assumption | first | exact ⟨fun _ _ _ => rfl, (Below.refl _ _).drew⟩ | exact keep_step (by assumption) (Below.drew (Below.refl _ _)) (Nat.le_refl _) | exact keep_step (by assumption) (by assumption) (by first | omega | ((try simp only [World.size_drew, size_alloc]); omega) | (have := (‹(_ ∧ Below (wr.heap.size) wr _)›).2.size; (try simp only [World.size_drew, size_alloc] at this ⊢); omega))) (fun hHeld => ?_); clear hK K; try simp only [Act.put, List.setIfInBounds_toArray, List.set_cons_zero, List.set_cons_succ])
        refine wpAnyH_ready (rs := [8]) (by kernel_rfl) (by simp) ?_
        refine AllReadyH.cons (o := ⟨some 25, _, _, _, _, _⟩) rfl (fun K hK => ?_) AllReadyH.nil
        focus (go_simp; go_wp2_with fail; refine hK.out _ _ (by first | assumption | first | exact ⟨fun _ _ _ => rfl, (Below.refl _ _).drew⟩ | exact keep_step (by assumption) (Below.drew (Below.refl _ _)) (Nat.le_refl _) | exact keep_step (by assumption) (by assumption) (by first | omega | ((try simp only [World.size_drew, size_alloc]); omega) | (have := (‹(_ ∧ Below (wr.heap.size) wr _)›).2.size; (try simp only [World.size_drew, size_alloc] at this ⊢); omega))) (fun hHeld => ?_); clear hK K; try simp only [Act.put, List.setIfInBounds_toArray, List.set_cons_zero, List.set_cons_succ])
        refine wpAnyH_ready (rs := [16]) (by kernel_rfl) (by simp) ?_
        refine AllReadyH.cons (o := ⟨some 33, _, _, _, _, _⟩) rfl (fun K hK => ?_) AllReadyH.nil
        focus (go_simp; go_wp2_with fail; refine hK.out _ _ (by first | assumption | first | exact ⟨fun _ _ _ => rfl, (Below.refl _ _).drew⟩ | exact keep_step (by assumption) (Below.drew (Below.refl _ _)) (Nat.le_refl _) | exact keep_step (by assumption) (by assumption) (by first | omega | ((try simp only [World.size_drew, size_alloc]); omega) | (have := (‹(_ ∧ Below (wr.heap.size) wr _)›).2.size; (try simp only [World.size_drew, size_alloc] at this ⊢); omega))) (fun hHeld => ?_); clear hK K; try simp only [Act.put, List.setIfInBounds_toArray, List.set_cons_zero, List.set_cons_succ])
        refine wpAnyH_take (i := 17) (oi := ⟨some 5, _, _, _, _, _⟩) (v := ?_) rfl (by kernel_rfl) (by kernel_rfl) (by kernel_rfl) (fun _ _ _ h => h) (Or.inl ⟨by rfl, ?_⟩) (by assumption) ?_
        rotate_left 1
        · (intro w hSw; (try dsimp only at hSw); go_simp; try (with_reducible rfl))
        try simp only [Act.put, List.setIfInBounds_toArray, List.set_cons_zero, List.set_cons_succ]
        refine wpAnyH_done (by kernel_rfl) ?_ _
        all_goals
          have HB3 := Lib.hid (show Below wr.heap.size wr _ from (‹_ ∧ Below (wr.heap.size) wr _›).2)
          go_wp2_with fail
          go_roundw
          case rel => exact ⟨j + 1, _, by omega, by go_num, rfl, (words_join _ _ _).trans HN.out, by simp only [ByteArray.size_append]; omega, hb.trans (HB3.out.mono hbs)⟩
          case measure => simp [intOf]; omega
    · have hjj : l.length = j := by omega
      have HJ := Lib.hid (show l.take j = l from by rw [← hjj, List.take_length]); clear hjj
      rw [HJ.out] at HO
      by_cases h0 : l.length = 0
      · have HE := Lib.hid (show lossT v l = ⟨#[45]⟩ from if_pos h0)
        have h0' : (l.length : Int) = 0 := by omega
        go_wp2_with fail
        go_ret
        exact ⟨ret_s HE.out.symm, HBw.out⟩
      · have HE := Lib.hid (show lossT v l = joinT (l.map (wordT v)) from if_neg h0)
        have h0' : ¬ (l.length : Int) = 0 := by omega
        go_wp2_with fail
        go_ret
        exact ⟨ret_s (HO.out.trans HE.out.symm), HBw.out⟩
end Go.Proofs.YtfbodhfdomdkpaaGreatDoor
namespace Go.Proofs.YtfbodhfdomdkpaaGreatDoor
open Go.ChangeShapes Go.WideShapes Go.ChangeAt Go.RowKit Go.Joins
set_option linter.unusedVariables false
set_option maxRecDepth 100000
/-! ### A region that appends to a row of its own while a box of the round's stands: S says 'below N, and block X' -/
theorem keep_stepX {N X n : Nat} {W0 w1 w2 : World} (h : (∀ b o, (b < N ∨ b = X) → w1.cell? ⟨b, o, none⟩ = W0.cell? ⟨b, o, none⟩) ∧ Below N W0 w1) (hb : Below n w1 w2) (hn : N ≤ n) (hx : X < n) :
    (∀ b o, (b < N ∨ b = X) → w2.cell? ⟨b, o, none⟩ = W0.cell? ⟨b, o, none⟩) ∧ Below N W0 w2 :=
  ⟨fun b o hb' => (hb.cell (p := ⟨b, o, none⟩) (by show b < n; omega)).trans (h.1 b o hb'), h.2.trans (hb.mono hn)⟩
theorem keep_stepY {N X : Nat} {W0 w1 w2 : World} (h : (∀ b o, (b < N ∨ b = X) → w1.cell? ⟨b, o, none⟩ = W0.cell? ⟨b, o, none⟩) ∧ Below N W0 w1) (hb : Below N w1 w2) (hx : w2.heap[X]? = w1.heap[X]?) :
    (∀ b o, (b < N ∨ b = X) → w2.cell? ⟨b, o, none⟩ = W0.cell? ⟨b, o, none⟩) ∧ Below N W0 w2 := by
  refine ⟨fun b o hb' => ?_, h.2.trans hb⟩
  rcases hb' with hb' | rfl
  · exact (hb.cell (p := ⟨b, o, none⟩) hb').trans (h.1 b o (Or.inl hb'))
  · exact (World.cell?_of_block (w := w1) (a := ⟨b, o, none⟩) hx).trans (h.1 b o (Or.inr rfl))
section
variable {α : Type} {E : World → Nat → Nat → α → List Nat → Prop} {n : Nat} {e : TypeId}
/-- The row's own block lies below m. -/
theorem AppL.row {w : World} {rlo cap : Nat} {a : Option Addr} {l : List α} {F : List Nat} (h : AppL E n e w rlo a cap l F) : ∀ k, (Value.slice a l.length cap).ownBlock = Option.some k → rlo ≤ k ∧ k < w.heap.size := by
  intro k hk
  rcases h with ⟨rfl, rfl, rfl, _⟩ | ⟨g, cur, rfl, k1, h3, _⟩
  · simp [Value.ownBlock] at hk
  · simp only [Value.ownBlock, Option.some.injEq] at hk; subst hk; exact ⟨k1, (Array.getElem?_eq_some_iff.1 h3).1⟩
theorem step_appLX {P : Program} {w : World} (hE : Elem E n) {ops : Array Oper} {o : Oper} {act : Act} {K : Act → World → Prop} {Q : Exit → Act → World → Prop} {X : Prop} (hgd : o.guard = none) (s x : Operand) (t : TypeId)
    (ho : o.op = .call { callee := .builtin .append, args := #[s, x], argTypes := #[t, t] }) (z : Value) (bytes : Nat) (ht : P.underlying t = some (.slice e)) (hinfo : (P.info? e).map (fun i => (i.zero, i.size, i.bytes)) = some (some z, n, bytes)) (hzs : z.cells.size = n)
    (rlo : Nat) (a : Option Addr) (cap : Nat) (l : List α) (F : List Nat) (hs : act.eval s = .slice a l.length cap) (happ : AppL E n e w rlo a cap l F) (hlo : rlo ≤ w.heap.size)
    (b off m c : Nat) (ys : List α) (G : List Nat) (hx : act.eval x = .slice (some ⟨b, off, none⟩) m c) (hm : ys.length = m) (hys : Row E n w b off ys G) (hG : ∀ f ∈ G, f < rlo)
    (hpos : 0 < m) (h63 : l.length + m ≤ maxLen) (hbytes : (l.length + m) * bytes ≤ 140737488355328)
    (h : ∀ a' cap' w', AppL E n e w' rlo a' cap' (l ++ ys) (F ++ G) → Below rlo w w' → (∀ f, f < w.heap.size → (∀ k, (Value.slice a l.length cap).ownBlock = some k → f ≠ k) → w'.heap[f]? = w.heap[f]?) → K (act.put o.dst (.slice a' (l ++ ys).length cap')) w') : if Region.wanted o (yielded ops act.tmps) = true then Oper.wp P o act w K Q else X := by
  obtain ⟨i, hi', hz0, hz1, hz2⟩ := info_parts hinfo
  obtain ⟨xs, q1, q2, q3⟩ := happ.owns
  subst hm
  obtain ⟨news, n1, n2, n3⟩ := cells_list (hys.cel hE ys)
  refine step_append_lies w hgd s x t ho rlo e i z n bytes ht hi' hz0 hz1 hz2 hzs hE.pos (.slice a l.length cap) l.length xs hs q1 ⟨b, off, none⟩ ys.length c news hx n1 (fun j u hj => ?_) n3 hpos h63 hbytes hlo w.heap.size rfl (fun g' cap' w' hown hgr hat hlt => ?_)
  · have hj2 : j < ys.length * n := by
      rcases Nat.lt_or_ge j (ys.length * n) with h | h
      · exact h
      · rw [List.getElem?_eq_none (by omega)] at hj; cases hj
    rw [← hj, ← n2 j hj2, Addr.add_lit]
  · obtain ⟨r1, r2⟩ := AppL.grown hE happ hys hG hlo n1 n2 q3 q2 hown hgr
    have := h _ _ w' r1 r2 (fun f hf hne => hgr.block f hf (fun e => hne f e.symm rfl))
    rwa [List.length_append] at this
end
end Go.Proofs.YtfbodhfdomdkpaaGreatDoor
