/- Contracts and lemmas for the proofs of this seat: SortI. No condition beyond those stated. -/
import Derived.Test.YtmajklgjmghjlaaRows
import Derived.WalkKit
import Derived.ProofKit
import Derived.OpenShut
import Derived.Handy
import Derived.Lib.Hide
import Derived.Lib.SmallJoins
import Derived.Deep.RegionHeld3
import Derived.Deep.QuietTactic
import Derived.BigQuiet
import Derived.BigRegion
import Derived.Test.YtmajklgjmghjlaaBase
import Derived.Test.YtmajklgjmghjlaaGen
import Derived.Test.YtmajklgjmghjlaaKit
import Derived.Test.YtmajklgjmghjlaaMark
import Derived.Test.YtmajklgjmghjlaaPath1
import Derived.Test.YtmajklgjmghjlaaPath2
import Derived.Test.YtmajklgjmghjlaaSortP
import Derived.Test.YtmajklgjmghjlaaSortW
import Derived.Test.YtmajklgjmghjlaaSortR
namespace Go.Proofs.Ytmajklgjmghjlaa
open Go.ChangeShapes Go.WideShapes Go.ChangeAt Go.RowKit Go.Joins
set_option linter.unusedVariables false
set_option maxRecDepth 100000
variable {w0 : World} {b : Nat} {e : TypeId} {N : Nat} {F0 : List Nat}
set_option maxHeartbeats 4000000 in
theorem insertionSort (A S R : List Lo) (pa pb : Int) (hpa : pa = A.length) (hpb : pb = ((A.length + S.length : Nat) : Int)) (n cap : Nat) (w : World) (hn : n = A.length + S.length + R.length) (hc : n ≤ cap) (hcap : n ≤ 4611686018427387903)
    (h : Sb w0 b e N F0 w (A ++ (S ++ R))) :
    Calls Try.prog 33 #[.slice (some ⟨b, 0, none⟩) n cap, .int .i64 pa, .int .i64 pb, .func (.func 17) #[] #[]] w fun ee w' => ee = .returned (.tuple #[]) ∧ ∃ S', S'.Perm S ∧ Sorted S' ∧ Sb w0 b e N F0 w' (A ++ (S' ++ R)) := by
  obtain ⟨q, hq⟩ : ∃ q : Nat, q = A.length + S.length := ⟨_, rfl⟩
  obtain ⟨p, hp⟩ : ∃ p : Nat, p = A.length := ⟨_, rfl⟩
  rw [← hq] at hpb
  rw [← hp] at hpa
  subst hpa hpb
  have hqn : q ≤ n := by omega
  have hpq : p ≤ q := by omega
  have HQ := Lib.hid hq
  have HP := Lib.hid hp
  have HN := Lib.hid hn
  clear hq hp hn
  go_enter Try.func33, Try.ntmps33
  go_wp2_with fail
  go_loopw [8, 9] (fun i _ wr => ∃ (k : Nat) (S1 rest : List Lo), i = .int .i64 k ∧ p + 1 ≤ k ∧ k ≤ q + 1 ∧ Hid (rest = [] → q ≤ k) ∧ Hid (rest ≠ [] → k = p + S1.length ∧ k < q) ∧ Hid ((S1 ++ rest).Perm S) ∧ Hid (Sorted S1) ∧ Hid (Sb w0 b e N F0 wr (A ++ (S1 ++ (rest ++ R))))) (fun i _ _ => q + 1 - (intOf i).toNat)
  case atStart =>
    have hQ := HQ.out; have hP := HP.out
    cases S with
    | nil => exact ⟨p + 1, [], [], by go_num, by omega, by omega, Lib.hid (fun _ => by simp at hQ; omega), Lib.hid (fun h => absurd rfl h), Lib.hid (List.Perm.refl _), Lib.hid List.Pairwise.nil, Lib.hid (h.eq (by simp))⟩
    | cons s t =>
      simp only [List.length_cons] at hQ
      refine ⟨p + 1, [s], t, by go_num, by omega, by omega, Lib.hid (fun ht => by subst ht; simp at hQ; omega), Lib.hid (fun ht => ⟨by simp, ?_⟩), Lib.hid (List.Perm.refl _), Lib.hid (List.pairwise_singleton _ _), Lib.hid (h.eq (by simp))⟩
      have : 0 < t.length := List.length_pos_iff.2 ht
      omega
  case round =>
    obtain ⟨k, S1, rest, rfl, hk1, hk2, HR1, HR2, HPm, HSo, HS⟩ := hrel
    cases rest with
    | nil =>
      have hkq := HR1.out rfl
      go_wp2_with fail
      go_end0
      exact ⟨rfl, S1, by simpa using HPm.out, HSo.out, HS.out.eq (by simp)⟩
    | cons x rest =>
      obtain ⟨hkS, hkq⟩ := HR2.out (by simp)
      have HKS := Lib.hid hkS; clear hkS HR1 HR2
      have HLEN : Hid (k + 1 + rest.length = q) := Lib.hid (by have h1 := HPm.out.length_eq; have := HKS.out; have := HQ.out; have := HP.out; simp only [List.length_append, List.length_cons] at h1; omega)
      go_wp2_with fail
      go_loopw [9] (fun j wi => ∃ (P Q : List Lo) (jn : Nat), j = .int .i64 jn ∧ jn ≤ k ∧ p ≤ jn ∧ Hid (jn = p + P.length) ∧ Hid (P ++ Q = S1) ∧ Hid (∀ y ∈ Q, lessL x y = true) ∧ Hid (Sb w0 b e N F0 wi (A ++ (P ++ (x :: (Q ++ (rest ++ R))))))) (fun j _ => (intOf j).toNat)
      case atStart => exact ⟨S1, [], k, rfl, by omega, by omega, HKS, Lib.hid (by simp), Lib.hid (by simp), Lib.hid (HS.out.eq (by simp))⟩
      case round =>
        clear HS
        obtain ⟨P, Q, jn, rfl, hj1, hj2, HJ, HPQ, HQx, HS⟩ := hrel
        rcases List.eq_nil_or_concat P with rfl | ⟨P', y, rfl⟩
        · have hjp : jn = p := by have := HJ.out; simpa using this
          subst hjp
          have HSS : Hid (Sorted (x :: S1) ∧ S1 = Q) := Lib.hid ⟨by
            have e := HPQ.out; rw [List.nil_append] at e; subst e
            exact List.pairwise_cons.2 ⟨fun y hy => leL_of_less (HQx.out y hy), HSo.out⟩, by have := HPQ.out; rw [List.nil_append] at this; exact this.symm⟩
          go_wp2_with fail
          go_quiet (fail)
          go_wp2_with fail
          refine ⟨⟨k + 1, x :: S1, rest, by go_num, by omega, by omega, ?_, ?_, Lib.hid ?_, Lib.hid HSS.out.1, Lib.hid ?_⟩, by simp [intOf]; omega⟩
          · exact Lib.hid (fun hr => by subst hr; have := HLEN.out; simp at this; omega)
          · exact Lib.hid (fun hr => ⟨by have := HKS.out; simp only [List.length_cons]; omega, by have := HLEN.out; have := List.length_pos_iff.2 hr; omega⟩)
          · exact (List.perm_middle.symm).trans HPm.out
          · exact (HS.out.below (below_drewN _ _ _)).eq (by rw [HSS.out.2]; simp)
        · rw [List.concat_eq_append] at HPQ HS HJ
          obtain ⟨pj, hpj⟩ : ∃ pj, jn = pj + 1 := ⟨jn - 1, by have := HJ.out; simp at this; omega⟩
          have HJN := Lib.hid hpj
          have HJ2 : Hid (pj = p + P'.length) := Lib.hid (by have := HJ.out; simp at this; omega)
          have hS1 : Sb w0 b e N F0 wr ((A ++ P') ++ (y :: ([] ++ (x :: (Q ++ (rest ++ R)))))) := HS.out.eq (by simp)
          have hS2 : Sb w0 b e N F0 wr (((A ++ P') ++ [y]) ++ (x :: (Q ++ (rest ++ R)))) := HS.out.eq (by simp)
          have lA : (A ++ P').length = pj := by have := HJ2.out; have := HP.out; simp; omega
          obtain ⟨a1, c1, y0, y1, ry⟩ := hS1.at
          obtain ⟨a2, c2, x0, x1, rx⟩ := hS2.at
          rw [List.length_append, lA] at x0 x1
          rw [lA] at y0 y1
          simp only [List.length_singleton] at x0 x1
          rw [← hpj] at x0 x1
          have HRY := Lib.hid ry; have HRX := Lib.hid rx
          have HS1 := Lib.hid hS1
          have hsz := hS1.touch.size
          clear ry rx hS1 hS2 HS
          have hgt : (p : Int) < (jn : Int) := by have := HJ2.out; omega
          have hi1 : (0 : Int) ≤ (jn : Int) := by omega
          have hi2 : (jn : Int) < (n : Int) := by omega
          have hi3 : (0 : Int) ≤ (pj : Int) := by omega
          have hi4 : (pj : Int) < (n : Int) := by omega
          have hwr : IntKind.i64.wrap ((jn : Int) - 1) = (pj : Int) := by rw [show (jn : Int) - 1 = (pj : Int) from by omega]; rw [Go.IntWalk.i64_left]; exact Go.IntWalk.wrap64_in _ ⟨by omega, by omega⟩
          clear hpj
          obtain ⟨cc, hcc⟩ : ∃ c, cmpL x y = c := ⟨_, rfl⟩
          have HCC := Lib.hid hcc; clear hcc
          have lb : b < wr.heap.size := HS1.out.blk.unf.lt
          by_cases hl : cc < 0
          · go_wp2_with fail
            go_region_held3 (fun w' => (∀ b o, b < wr.heap.size → w'.cell? ⟨b, o, none⟩ = wr.cell? ⟨b, o, none⟩) ∧ Below (wr.heap.size) wr w') (first | exact ⟨fun _ _ _ => rfl, (Below.refl _ _).drew⟩ | exact keep_step (by assumption) (Below.drew (Below.refl _ _)) (Nat.le_refl _) | exact keep_step (by assumption) (by assumption) (by first | omega | (simp only [World.size_drew]; omega) | (simp only [size_alloc]; omega) | (simp only [World.size_drew, size_alloc]; omega) | (have := (‹(_ ∧ Below (wr.heap.size) wr _)›).2.size; first | omega | (simp only [World.size_drew]; omega) | (simp only [size_alloc]; omega) | (simp only [World.size_drew, size_alloc]; omega) | (simp only [World.size_drew] at this; omega) | (simp only [size_alloc] at this; omega) | (simp only [World.size_drew, size_alloc] at this; omega))) | exact keep_step (by assumption) (below1 _ _) (by first | omega | (simp only [World.size_drew]; omega) | (simp only [size_alloc]; omega) | (simp only [World.size_drew, size_alloc]; omega) | (have := (‹(_ ∧ Below (wr.heap.size) wr _)›).2.size; first | omega | (simp only [World.size_drew]; omega) | (simp only [size_alloc]; omega) | (simp only [World.size_drew, size_alloc]; omega) | (simp only [World.size_drew] at this; omega) | (simp only [size_alloc] at this; omega) | (simp only [World.size_drew, size_alloc] at this; omega)))) (first | (go_at_call 17; refine (impl_compareLosses x y a2 a1 c2 c1 w0.heap.size _ (HRX.out.below EStep.loc (‹_ ∧ Below (wr.heap.size) wr _›).2 hsz) (HRY.out.below EStep.loc (‹_ ∧ Below (wr.heap.size) wr _›).2 hsz) (by have := (‹_ ∧ Below (wr.heap.size) wr _›).2.size; omega)).mono ?_; rintro ee w3 ⟨rfl, hb⟩; rw [HCC.out]))
            have HB := Lib.hid (‹_ ∧ Below (wr.heap.size) wr _›).2
            rename _ ∧ Below wr.heap.size wr w3 => hHeld
            clear hHeld hb
            have HS3 := Lib.hid (HS1.out.below HB.out)
            have k1 : Sb w0 b e N F0 w3 (((A ++ P') ++ [y]) ++ (x :: (Q ++ (rest ++ R)))) := HS3.out.eq (by simp)
            obtain ⟨a3, c3, u0, u1, _⟩ := HS3.out.at
            obtain ⟨a4, c4, v0, v1, _⟩ := k1.at
            rw [List.length_append, lA] at v0 v1
            rw [lA] at u0 u1
            simp only [List.length_singleton] at v0 v1
            rw [← HJN.out] at v0 v1
            have hf := fun i => k1.blk.frozen i
            have HS4 := Lib.hid ((HS3.out.swapB (o1 := pj * 2) (o2 := jn * 2) (by rw [lA]) (by rw [lA]; have := HJN.out; simp only [List.length_nil]; omega) u0 u1 v0 v1).below (Below.refl _ _).drew)
            clear k1 y0 y1 x0 x1
            go_wp2_with fail
            have hpj : pj < jn := by have := HJN.out; omega
            have n1 : ¬ (jn * 2 = pj * 2) := by omega
            have n2 : ¬ (jn * 2 + 1 = pj * 2) := by omega
            have n3 : ¬ (jn * 2 = pj * 2 + 1) := by omega
            have n4 : ¬ (jn * 2 + 1 = pj * 2 + 1) := by omega
            go_region
            generalize hG : World.drew _ = w5
            have HS5 : Hid (Sb w0 b e N F0 w5 ((A ++ P') ++ (x :: ([] ++ (y :: (Q ++ (rest ++ R))))))) := by rw [← hG]; exact HS4
            clear HS4 hG hf u0 u1 v0 v1
            go_wp2_with fail
            refine ⟨⟨P', y :: Q, pj, by go_num, by have := HJN.out; omega, by have := HJ2.out; omega, HJ2, Lib.hid (by rw [← HPQ.out]; simp), Lib.hid ?_, Lib.hid (HS5.out.eq (by simp))⟩, by simp [intOf]; have := HJN.out; omega⟩
            intro z hz
            rcases List.mem_cons.1 hz with rfl | hz
            · rw [← cmpL_less, HCC.out]; simpa using hl
            · exact HQx.out z hz
          · have hl0 : (decide (cc < 0)) = false := by simpa using hl
            go_wp2_with fail
            go_region_held3 (fun w' => (∀ b o, b < wr.heap.size → w'.cell? ⟨b, o, none⟩ = wr.cell? ⟨b, o, none⟩) ∧ Below (wr.heap.size) wr w') (first | exact ⟨fun _ _ _ => rfl, (Below.refl _ _).drew⟩ | exact keep_step (by assumption) (Below.drew (Below.refl _ _)) (Nat.le_refl _) | exact keep_step (by assumption) (by assumption) (by first | omega | (simp only [World.size_drew]; omega) | (simp only [size_alloc]; omega) | (simp only [World.size_drew, size_alloc]; omega) | (have := (‹(_ ∧ Below (wr.heap.size) wr _)›).2.size; first | omega | (simp only [World.size_drew]; omega) | (simp only [size_alloc]; omega) | (simp only [World.size_drew, size_alloc]; omega) | (simp only [World.size_drew] at this; omega) | (simp only [size_alloc] at this; omega) | (simp only [World.size_drew, size_alloc] at this; omega))) | exact keep_step (by assumption) (below1 _ _) (by first | omega | (simp only [World.size_drew]; omega) | (simp only [size_alloc]; omega) | (simp only [World.size_drew, size_alloc]; omega) | (have := (‹(_ ∧ Below (wr.heap.size) wr _)›).2.size; first | omega | (simp only [World.size_drew]; omega) | (simp only [size_alloc]; omega) | (simp only [World.size_drew, size_alloc]; omega) | (simp only [World.size_drew] at this; omega) | (simp only [size_alloc] at this; omega) | (simp only [World.size_drew, size_alloc] at this; omega)))) (first | (go_at_call 17; refine (impl_compareLosses x y a2 a1 c2 c1 w0.heap.size _ (HRX.out.below EStep.loc (‹_ ∧ Below (wr.heap.size) wr _›).2 hsz) (HRY.out.below EStep.loc (‹_ ∧ Below (wr.heap.size) wr _›).2 hsz) (by have := (‹_ ∧ Below (wr.heap.size) wr _›).2.size; omega)).mono ?_; rintro ee w3 ⟨rfl, hb⟩; rw [HCC.out]))
            have HB := Lib.hid (‹_ ∧ Below (wr.heap.size) wr _›).2
            rename _ ∧ Below wr.heap.size wr w3 => hHeld
            clear hHeld hb
            have HLE : Hid (leL y x) := Lib.hid (by unfold leL; rw [← cmpL_less, HCC.out]; simpa using hl)
            have HSX : Hid (Sorted ((P' ++ [y]) ++ x :: Q)) := Lib.hid (sorted_put (by rw [HPQ.out]; exact HSo.out) (fun z hz => by simp at hz; subst hz; exact HLE.out) (fun z hz => leL_of_less (HQx.out z hz)))
            have HS3 : Hid (Sb w0 b e N F0 w3 (A ++ (((P' ++ [y]) ++ x :: Q) ++ (rest ++ R)))) := Lib.hid ((HS1.out.below HB.out).eq (by simp))
            have HPP : Hid ((((P' ++ [y]) ++ x :: Q) ++ rest).Perm S) := Lib.hid (by
              refine List.Perm.trans ?_ HPm.out
              rw [← HPQ.out]
              refine List.perm_iff_count.2 (fun z => ?_)
              simp only [List.count_append, List.count_cons]; omega)
            clear y0 y1 x0 x1
            go_wp2_with fail
            refine ⟨⟨k + 1, (P' ++ [y]) ++ x :: Q, rest, by go_num, by omega, by omega, ?_, ?_, HPP, HSX, HS3⟩, by simp [intOf]; omega⟩
            · exact Lib.hid (fun hr => by subst hr; have := HLEN.out; simp at this; omega)
            · exact Lib.hid (fun hr => ⟨by have := HKS.out; have h1 := congrArg List.length HPQ.out; simp only [List.length_append, List.length_cons, List.length_nil] at h1 ⊢; omega, by have := HLEN.out; have := List.length_pos_iff.2 hr; omega⟩)
end Go.Proofs.Ytmajklgjmghjlaa
