/- Texts of this proof, merged: SortM, SortG. No condition beyond what each theorem states. -/
import Derived.Test.YtfbodhfdomdkpaaGreatDoorRows
import Derived.WalkKit
import Derived.ProofKit
import Derived.OpenShut
import Derived.Handy
import Derived.Lib.Hide
import Derived.Lib.SmallJoins
import Derived.Deep.RegionHeld3
import Derived.Deep.QuietTactic
import Derived.BigQuiet
import Derived.BigRegion
import Derived.Test.YtfbodhfdomdkpaaGreatDoorZG1
import Derived.Test.YtfbodhfdomdkpaaGreatDoorZG2
import Derived.Test.YtfbodhfdomdkpaaGreatDoorZG5
import Derived.Test.YtfbodhfdomdkpaaGreatDoorZG8
import Derived.Test.YtfbodhfdomdkpaaGreatDoorZG9
import Derived.Deep.CutBlock
import Derived.Deep.DeepCutAuto
set_option linter.unusedSimpArgs false
set_option linter.unnecessarySimpa false
namespace Go.Proofs.YtfbodhfdomdkpaaGreatDoor
open Go.ChangeShapes Go.WideShapes Go.ChangeAt Go.RowKit Go.Joins
set_option linter.unusedVariables false
set_option maxRecDepth 100000
variable {w0 : World} {b : Nat} {e : TypeId} {N : Nat} {F0 : List Nat}
set_option maxHeartbeats 8000000 in
theorem symOneL (A V R : List Lo) (x : Lo) (hV : Sorted V) (a m q : Nat) (ha : a = A.length) (hm : m = a + 1) (hq : q = m + V.length) (hVn : 0 < V.length) (n cap : Nat) (w : World) (hn : n = q + R.length) (hc : n ≤ cap) (hcap : n ≤ 4611686018427387903)
    (h : Sb w0 b e N F0 w (A ++ (x :: (V ++ R)))) :
    Calls Tryz.prog 202 #[.slice (some ⟨b, 0, none⟩) n cap, .int .i64 a, .int .i64 m, .int .i64 q, .func (.func 74) #[] #[]] w fun ee w' => ee = .returned (.tuple #[]) ∧ ∃ S', S'.Perm (x :: V) ∧ Sorted S' ∧ Sb w0 b e N F0 w' (A ++ (S' ++ R)) := by
  have hqn : q ≤ n := by omega
  have hmq : m ≤ q := by omega
  have ham : a < m := by omega
  have HA := Lib.hid ha
  have HM := Lib.hid hm
  have HQ := Lib.hid hq
  have HN := Lib.hid hn
  have hone : ((m : Int) - (a : Int) == 1) = true := by simp; omega
  have e1 : (m : Int) - (a : Int) = 1 := by omega
  clear ha hm hq hn
  go_enter Tryz.func202, Tryz.ntmps202
  go_wp2_with fail
  go_loopw [10, 11, 12] (fun i j _ wr => ∃ (ii jj : Nat), i = .int .i64 ii ∧ j = .int .i64 jj ∧ m ≤ ii ∧ ii ≤ jj ∧ jj ≤ q ∧ Hid (m < ii → ∀ y, V[ii - 1 - m]? = some y → lessL y x = true) ∧ Hid (∀ y, V[jj - m]? = some y → lessL y x = false) ∧ Hid (Sb w0 b e N F0 wr (A ++ (x :: (V ++ R))))) (fun i j _ _ => (intOf j).toNat - (intOf i).toNat)
  case atStart => exact ⟨m, q, by go_num, by go_num, by omega, by omega, by omega, Lib.hid (fun h => by omega), Lib.hid (fun y hy => by rw [List.getElem?_eq_none (by have := HQ.out; omega)] at hy; cases hy), Lib.hid h⟩
  case round =>
    obtain ⟨ii, jj, rfl, rfl, h1, h2, h3, K1, K2, HS⟩ := hrel
    by_cases hlt : ii < jj
    · obtain ⟨hh, hhh⟩ : ∃ hh : Nat, hh = (ii + jj) / 2 := ⟨_, rfl⟩
      have g1 : ii ≤ hh := by omega
      have g2 : hh < jj := by omega
      have hdiv : ((ii : Int) + (jj : Int)) / 2 = (hh : Int) := by omega
      have HH := Lib.hid hhh; clear hhh
      obtain ⟨z, hz⟩ : ∃ z, V[hh - m]? = some z := ⟨V[hh - m]'(by have := HQ.out; omega), List.getElem?_eq_getElem _⟩
      obtain ⟨V1, V2, hVV, hV1⟩ : ∃ V1 V2, V = V1 ++ z :: V2 ∧ V1.length = hh - m := by
        obtain ⟨hlt, he⟩ := List.getElem?_eq_some_iff.1 hz
        exact ⟨V.take (hh - m), V.drop (hh - m + 1), by rw [← he, ← List.drop_eq_getElem_cons, List.take_append_drop], by rw [List.length_take]; omega⟩
      have HZ := Lib.hid hz; clear hz
      have k1 : Sb w0 b e N F0 wr ((A ++ x :: V1) ++ (z :: (V2 ++ R))) := HS.out.eq (by rw [hVV]; simp)
      have lZ : (A ++ x :: V1).length = hh := by have := HA.out; have := HM.out; simp; omega
      obtain ⟨a1, c1, x0, x1, rx⟩ := HS.out.at
      obtain ⟨a2, c2, z0, z1, rz⟩ := k1.at
      rw [lZ] at z0 z1
      rw [← HA.out] at x0 x1
      have HRX := Lib.hid rx; have HRZ := Lib.hid rz
      have hsz := k1.touch.size
      have lb : b < wr.heap.size := k1.blk.unf.lt
      clear rx rz k1 lZ hVV hV1
      have hi1 : (0 : Int) ≤ (a : Int) := by omega
      have hi2 : (a : Int) < (n : Int) := by omega
      have hi3 : (0 : Int) ≤ (hh : Int) := by omega
      have hi4 : (hh : Int) < (n : Int) := by omega
      obtain ⟨cc, hcc⟩ : ∃ c, cmpL z x = c := ⟨_, rfl⟩
      have HCC := Lib.hid hcc; clear hcc
      by_cases hl : cc < 0
      · go_wp2_with fail
        go_region_held3 (fun w' => (∀ b o, b < wr.heap.size → w'.cell? ⟨b, o, none⟩ = wr.cell? ⟨b, o, none⟩) ∧ Below (wr.heap.size) wr w') (first | exact ⟨fun _ _ _ => rfl, (Below.refl _ _).drew⟩ | exact keep_step (by assumption) (Below.drew (Below.refl _ _)) (Nat.le_refl _) | exact keep_step (by assumption) (by assumption) (by first | omega | (simp only [World.size_drew]; omega) | (simp only [size_alloc]; omega) | (simp only [World.size_drew, size_alloc]; omega) | (have := (‹(_ ∧ Below (wr.heap.size) wr _)›).2.size; first | omega | (simp only [World.size_drew]; omega) | (simp only [size_alloc]; omega) | (simp only [World.size_drew, size_alloc]; omega) | (simp only [World.size_drew] at this; omega) | (simp only [size_alloc] at this; omega) | (simp only [World.size_drew, size_alloc] at this; omega))) | exact keep_step (by assumption) (below1 _ _) (by first | omega | (simp only [World.size_drew]; omega) | (simp only [size_alloc]; omega) | (simp only [World.size_drew, size_alloc]; omega) | (have := (‹(_ ∧ Below (wr.heap.size) wr _)›).2.size; first | omega | (simp only [World.size_drew]; omega) | (simp only [size_alloc]; omega) | (simp only [World.size_drew, size_alloc]; omega) | (simp only [World.size_drew] at this; omega) | (simp only [size_alloc] at this; omega) | (simp only [World.size_drew, size_alloc] at this; omega)))) (first | (go_at_call 74; refine (impl_compareLosses z x _ _ _ _ w0.heap.size _ (HRZ.out.below EStep.loc (‹_ ∧ Below (wr.heap.size) wr _›).2 hsz) (HRX.out.below EStep.loc (‹_ ∧ Below (wr.heap.size) wr _›).2 hsz) (by have := (‹_ ∧ Below (wr.heap.size) wr _›).2.size; omega)).mono ?_; rintro ee w3 ⟨rfl, hb⟩; rw [HCC.out]))
        have HB := Lib.hid (‹_ ∧ Below (wr.heap.size) wr _›).2
        rename _ ∧ Below wr.heap.size wr w3 => hHeld
        clear hHeld hb
        go_wp2_with fail
        go_roundw
        case rel => exact ⟨hh + 1, jj, by go_num, by go_num, by omega, by omega, by omega, Lib.hid (fun _ y hy => by rw [Nat.add_sub_cancel, HZ.out] at hy; injection hy with hy; subst hy; rw [← cmpL_less, HCC.out]; simpa using hl), K2, Lib.hid (HS.out.below HB.out)⟩
        case measure => simp [intOf]; omega
      · go_wp2_with fail
        go_region_held3 (fun w' => (∀ b o, b < wr.heap.size → w'.cell? ⟨b, o, none⟩ = wr.cell? ⟨b, o, none⟩) ∧ Below (wr.heap.size) wr w') (first | exact ⟨fun _ _ _ => rfl, (Below.refl _ _).drew⟩ | exact keep_step (by assumption) (Below.drew (Below.refl _ _)) (Nat.le_refl _) | exact keep_step (by assumption) (by assumption) (by first | omega | (simp only [World.size_drew]; omega) | (simp only [size_alloc]; omega) | (simp only [World.size_drew, size_alloc]; omega) | (have := (‹(_ ∧ Below (wr.heap.size) wr _)›).2.size; first | omega | (simp only [World.size_drew]; omega) | (simp only [size_alloc]; omega) | (simp only [World.size_drew, size_alloc]; omega) | (simp only [World.size_drew] at this; omega) | (simp only [size_alloc] at this; omega) | (simp only [World.size_drew, size_alloc] at this; omega))) | exact keep_step (by assumption) (below1 _ _) (by first | omega | (simp only [World.size_drew]; omega) | (simp only [size_alloc]; omega) | (simp only [World.size_drew, size_alloc]; omega) | (have := (‹(_ ∧ Below (wr.heap.size) wr _)›).2.size; first | omega | (simp only [World.size_drew]; omega) | (simp only [size_alloc]; omega) | (simp only [World.size_drew, size_alloc]; omega) | (simp only [World.size_drew] at this; omega) | (simp only [size_alloc] at this; omega) | (simp only [World.size_drew, size_alloc] at this; omega)))) (first | (go_at_call 74; refine (impl_compareLosses z x _ _ _ _ w0.heap.size _ (HRZ.out.below EStep.loc (‹_ ∧ Below (wr.heap.size) wr _›).2 hsz) (HRX.out.below EStep.loc (‹_ ∧ Below (wr.heap.size) wr _›).2 hsz) (by have := (‹_ ∧ Below (wr.heap.size) wr _›).2.size; omega)).mono ?_; rintro ee w3 ⟨rfl, hb⟩; rw [HCC.out]))
        have HB := Lib.hid (‹_ ∧ Below (wr.heap.size) wr _›).2
        rename _ ∧ Below wr.heap.size wr w3 => hHeld
        clear hHeld hb
        go_wp2_with fail
        go_roundw
        case rel => exact ⟨ii, hh, by go_num, by go_num, by omega, by omega, by omega, K1, Lib.hid (fun y hy => by rw [HZ.out] at hy; injection hy with hy; subst hy; rw [← cmpL_less, HCC.out]; simpa using hl), Lib.hid (HS.out.below HB.out)⟩
        case measure => simp [intOf]; omega
    · have hij : jj = ii := by omega
      subst hij
      have hi1 : jj - m ≤ V.length := by have := HQ.out; omega
      obtain ⟨V1, V2, hVV, hV1⟩ : ∃ V1 V2, V = V1 ++ V2 ∧ V1.length = jj - m := ⟨V.take (jj - m), V.drop (jj - m), (List.take_append_drop ..).symm, by rw [List.length_take]; omega⟩
      have HSO : Hid (Sorted (V1 ++ x :: V2)) := by
        refine Lib.hid (sorted_put (by rw [← hVV]; exact hV) ?_ ?_)
        · intro y hy
          rw [List.getLast?_eq_getElem?] at hy
          have hl := (List.getElem?_eq_some_iff.1 hy).1
          refine leL_of_less (K1.out (by omega) y ?_)
          rw [hVV, List.getElem?_append_left (by omega), ← hy]; congr 1; omega
        · intro y hy
          have hs2 : Sorted V2 := by have := hV; rw [hVV] at this; exact (List.pairwise_append.1 this).2.1
          cases V2 with
          | nil => cases hy
          | cons z V2 =>
            refine leL_trans ?_ (sorted_cons hs2 y hy)
            exact K2.out z (by rw [hVV, List.getElem?_append_right (by omega)]; simp [hV1])
      have HPm : Hid ((V1 ++ x :: V2).Perm (x :: V)) := Lib.hid (by rw [hVV]; exact List.perm_middle)
      have HS2 : Hid (Sb w0 b e N F0 wr (A ++ (x :: (V1 ++ (V2 ++ R))))) := Lib.hid (HS.out.eq (by rw [hVV]; simp))
      have HV1 := Lib.hid hV1
      have hjn : jj ≤ n := by omega
      have hj1 : 1 ≤ jj := by omega
      have haj : a + 1 ≤ jj := by omega
      clear hVV hV1 hi1 K1 K2 HS h1 h2 hlt hV
      go_wp2_with fail
      go_loopw [13] (fun kv wr => ∃ (kk : Nat), kv = .int .i64 kk ∧ a ≤ kk ∧ kk + 1 ≤ jj ∧ Hid (Sb w0 b e N F0 wr (A ++ (V1.take (kk - a) ++ (x :: (V1.drop (kk - a) ++ (V2 ++ R))))))) (fun kv _ => jj - (intOf kv).toNat)
      case atStart => exact ⟨a, by go_num, by omega, by omega, Lib.hid (by rw [Nat.sub_self]; exact HS2.out)⟩
      case round =>
        clear HS2
        obtain ⟨kk, rfl, h1, h2, HS⟩ := hrel
        by_cases hlt : kk + 1 < jj
        · have hk : (kk : Int) < (jj : Int) - 1 := by omega
          have hkv : kk - a < V1.length := by have := HV1.out; have := HM.out; omega
          obtain ⟨k1, hk1⟩ : ∃ k1 : Nat, k1 = kk + 1 := ⟨_, rfl⟩
          have hwr : IntKind.i64.wrap ((kk : Int) + 1) = (k1 : Int) := by rw [show (kk : Int) + 1 = (k1 : Int) from by omega]; rw [Go.IntWalk.i64_left]; exact Go.IntWalk.wrap64_in _ ⟨by omega, by omega⟩
          obtain ⟨y, hy⟩ : ∃ y, V1[kk - a]'hkv = y := ⟨_, rfl⟩
          have k0 : Sb w0 b e N F0 wr ((A ++ V1.take (kk - a)) ++ (x :: ([] ++ (y :: (V1.drop (kk - a + 1) ++ (V2 ++ R)))))) := HS.out.eq (by rw [List.drop_eq_getElem_cons hkv, hy]; simp)
          have k2 : Sb w0 b e N F0 wr (((A ++ V1.take (kk - a)) ++ [x]) ++ (y :: (V1.drop (kk - a + 1) ++ (V2 ++ R)))) := k0.eq (by simp)
          have lA : (A ++ V1.take (kk - a)).length = kk := by have := HA.out; rw [List.length_append, List.length_take]; omega
          obtain ⟨a1, c1, x0, x1, _⟩ := k0.at
          obtain ⟨a2, c2, y0, y1, _⟩ := k2.at
          rw [List.length_append, lA] at y0 y1
          rw [lA] at x0 x1
          simp only [List.length_singleton] at y0 y1
          rw [← hk1] at y0 y1
          have hf := fun i => k0.blk.frozen i
          have HS4 := Lib.hid ((k0.swapF (o1 := kk * 2) (o2 := k1 * 2) (by rw [lA]) (by rw [lA]; simp only [List.length_nil]; omega) x0 x1 y0 y1).below (Below.refl _ _).drew)
          have hT : V1.take (k1 - a) = V1.take (kk - a) ++ [y] := by rw [← hy, show k1 - a = kk - a + 1 from by omega]; exact take_snoc _ _ hkv
          have HT := Lib.hid hT
          have HK1 := Lib.hid hk1
          have hi1 : (0 : Int) ≤ (kk : Int) := by omega
          have hi2 : (kk : Int) < (n : Int) := by omega
          have hi3 : (0 : Int) ≤ (k1 : Int) := by omega
          have hi4 : (k1 : Int) < (n : Int) := by omega
          have n1 : ¬ (k1 * 2 = kk * 2) := by omega
          have n2 : ¬ (k1 * 2 + 1 = kk * 2) := by omega
          have n3 : ¬ (k1 * 2 = kk * 2 + 1) := by omega
          have n4 : ¬ (k1 * 2 + 1 = kk * 2 + 1) := by omega
          clear k0 k2 hT hk1 HS
          go_wp2_with fail
          go_region
          generalize hG : World.drew _ = w5
          have HS5 : Hid (Sb w0 b e N F0 w5 ((A ++ V1.take (kk - a)) ++ (y :: ([] ++ (x :: (V1.drop (kk - a + 1) ++ (V2 ++ R))))))) := by rw [← hG]; exact HS4
          clear HS4 hG hf x0 x1 y0 y1
          go_wp2_with fail
          have hk1 := HK1.out
          refine ⟨⟨k1, by go_num, by omega, by omega, Lib.hid (HS5.out.eq ?_)⟩, by simp [intOf]; omega⟩
          rw [HT.out, show k1 - a = kk - a + 1 from by omega]; simp
        · have hkj : kk + 1 = jj := by omega
          have HS5 : Hid (Sb w0 b e N F0 wr (A ++ ((V1 ++ x :: V2) ++ R))) := Lib.hid (HS.out.eq (by
            rw [List.take_of_length_le (by have := HV1.out; have := HM.out; omega), List.drop_of_length_le (by have := HV1.out; have := HM.out; omega)]; simp))
          have hk : ¬ ((kk : Int) < (jj : Int) - 1) := by omega
          clear HS hlt hkj
          go_wp2_with fail
          refine bodyPost_ret (results_none rfl _ _ _) rfl ?_
          exact ⟨rfl, _, HPm.out, HSO.out, HS5.out⟩
variable {w0 : World} {b : Nat} {e : TypeId} {N : Nat} {F0 : List Nat}
set_option maxHeartbeats 8000000 in
theorem symOneR (A U R : List Lo) (y : Lo) (hU : Sorted U) (a m q : Nat) (ha : a = A.length) (hm : m = a + U.length) (hq : q = m + 1) (hUn : 1 < U.length) (n cap : Nat) (w : World) (hn : n = q + R.length) (hc : n ≤ cap) (hcap : n ≤ 4611686018427387903)
    (h : Sb w0 b e N F0 w (A ++ (U ++ (y :: R)))) :
    Calls Tryz.prog 202 #[.slice (some ⟨b, 0, none⟩) n cap, .int .i64 a, .int .i64 m, .int .i64 q, .func (.func 74) #[] #[]] w fun ee w' => ee = .returned (.tuple #[]) ∧ ∃ S', S'.Perm (U ++ [y]) ∧ Sorted S' ∧ Sb w0 b e N F0 w' (A ++ (S' ++ R)) := by
  have hqn : q ≤ n := by omega
  have hmq : m < q := by omega
  have ham : a < m := by omega
  have HA := Lib.hid ha
  have HM := Lib.hid hm
  have HQ := Lib.hid hq
  have HN := Lib.hid hn
  have hone : ((m : Int) - (a : Int) == 1) = false := by rw [beq_eq_false_iff_ne]; omega
  have e1 : ¬ ((m : Int) - (a : Int) = 1) := by omega
  have hone2 : ((q : Int) - (m : Int) == 1) = true := by simp; omega
  have e2 : (q : Int) - (m : Int) = 1 := by omega
  clear ha hm hq hn
  go_enter Tryz.func202, Tryz.ntmps202
  go_wp2_with fail
  go_loopw [14, 15, 16] (fun i j _ wr => ∃ (ii jj : Nat), i = .int .i64 ii ∧ j = .int .i64 jj ∧ a ≤ ii ∧ ii ≤ jj ∧ jj ≤ m ∧ Hid (a < ii → ∀ z, U[ii - 1 - a]? = some z → lessL y z = false) ∧ Hid (∀ z, U[jj - a]? = some z → lessL y z = true) ∧ Hid (Sb w0 b e N F0 wr (A ++ (U ++ (y :: R))))) (fun i j _ _ => (intOf j).toNat - (intOf i).toNat)
  case atStart => exact ⟨a, m, by go_num, by go_num, by omega, by omega, by omega, Lib.hid (fun h => by omega), Lib.hid (fun y hy => by rw [List.getElem?_eq_none (by have := HM.out; omega)] at hy; cases hy), Lib.hid h⟩
  case round =>
    obtain ⟨ii, jj, rfl, rfl, h1, h2, h3, K1, K2, HS⟩ := hrel
    by_cases hlt : ii < jj
    · obtain ⟨hh, hhh⟩ : ∃ hh : Nat, hh = (ii + jj) / 2 := ⟨_, rfl⟩
      have g1 : ii ≤ hh := by omega
      have g2 : hh < jj := by omega
      have hdiv : ((ii : Int) + (jj : Int)) / 2 = (hh : Int) := by omega
      have HH := Lib.hid hhh; clear hhh
      obtain ⟨z, hz⟩ : ∃ z, U[hh - a]? = some z := ⟨U[hh - a]'(by have := HM.out; omega), List.getElem?_eq_getElem _⟩
      obtain ⟨V1, V2, hVV, hV1⟩ : ∃ V1 V2, U = V1 ++ z :: V2 ∧ V1.length = hh - a := by
        obtain ⟨hlt, he⟩ := List.getElem?_eq_some_iff.1 hz
        exact ⟨U.take (hh - a), U.drop (hh - a + 1), by rw [← he, ← List.drop_eq_getElem_cons, List.take_append_drop], by rw [List.length_take]; omega⟩
      have HZ := Lib.hid hz; clear hz
      have k1 : Sb w0 b e N F0 wr ((A ++ V1) ++ (z :: (V2 ++ (y :: R)))) := HS.out.eq (by rw [hVV]; simp)
      have k2 : Sb w0 b e N F0 wr ((A ++ U) ++ (y :: R)) := HS.out.eq (by simp)
      have lZ : (A ++ V1).length = hh := by have := HA.out; have := HM.out; simp; omega
      have lM : (A ++ U).length = m := by have := HA.out; have := HM.out; simp; omega
      obtain ⟨a1, c1, x0, x1, rx⟩ := k2.at
      obtain ⟨a2, c2, z0, z1, rz⟩ := k1.at
      rw [lZ] at z0 z1
      rw [lM] at x0 x1
      have HRX := Lib.hid rx; have HRZ := Lib.hid rz
      have hsz := k1.touch.size
      have lb : b < wr.heap.size := k1.blk.unf.lt
      clear rx rz k1 k2 lZ lM hVV hV1
      have hi1 : (0 : Int) ≤ (m : Int) := by omega
      have hi2 : (m : Int) < (n : Int) := by omega
      have hi3 : (0 : Int) ≤ (hh : Int) := by omega
      have hi4 : (hh : Int) < (n : Int) := by omega
      obtain ⟨cc, hcc⟩ : ∃ c, cmpL y z = c := ⟨_, rfl⟩
      have HCC := Lib.hid hcc; clear hcc
      by_cases hl : cc < 0
      · have hl0 : (decide (cc < 0)) = true := by simpa using hl
        go_wp2_with fail
        go_region_held3 (fun w' => (∀ b o, b < wr.heap.size → w'.cell? ⟨b, o, none⟩ = wr.cell? ⟨b, o, none⟩) ∧ Below (wr.heap.size) wr w') (first | exact ⟨fun _ _ _ => rfl, (Below.refl _ _).drew⟩ | exact keep_step (by assumption) (Below.drew (Below.refl _ _)) (Nat.le_refl _) | exact keep_step (by assumption) (by assumption) (by first | omega | (simp only [World.size_drew]; omega) | (simp only [size_alloc]; omega) | (simp only [World.size_drew, size_alloc]; omega) | (have := (‹(_ ∧ Below (wr.heap.size) wr _)›).2.size; first | omega | (simp only [World.size_drew]; omega) | (simp only [size_alloc]; omega) | (simp only [World.size_drew, size_alloc]; omega) | (simp only [World.size_drew] at this; omega) | (simp only [size_alloc] at this; omega) | (simp only [World.size_drew, size_alloc] at this; omega))) | exact keep_step (by assumption) (below1 _ _) (by first | omega | (simp only [World.size_drew]; omega) | (simp only [size_alloc]; omega) | (simp only [World.size_drew, size_alloc]; omega) | (have := (‹(_ ∧ Below (wr.heap.size) wr _)›).2.size; first | omega | (simp only [World.size_drew]; omega) | (simp only [size_alloc]; omega) | (simp only [World.size_drew, size_alloc]; omega) | (simp only [World.size_drew] at this; omega) | (simp only [size_alloc] at this; omega) | (simp only [World.size_drew, size_alloc] at this; omega)))) (first | (go_at_call 74; refine (impl_compareLosses y z _ _ _ _ w0.heap.size _ (HRX.out.below EStep.loc (‹_ ∧ Below (wr.heap.size) wr _›).2 hsz) (HRZ.out.below EStep.loc (‹_ ∧ Below (wr.heap.size) wr _›).2 hsz) (by have := (‹_ ∧ Below (wr.heap.size) wr _›).2.size; omega)).mono ?_; rintro ee w3 ⟨rfl, hb⟩; rw [HCC.out]))
        have HB := Lib.hid (‹_ ∧ Below (wr.heap.size) wr _›).2
        rename _ ∧ Below wr.heap.size wr w3 => hHeld
        clear hHeld hb
        go_wp2_with fail
        refine ⟨⟨ii, hh, by go_num, by go_num, by omega, by omega, by omega, K1, Lib.hid (fun y hy => by rw [HZ.out] at hy; injection hy with hy; subst hy; rw [← cmpL_less, HCC.out]; simpa using hl), Lib.hid (HS.out.below HB.out)⟩, ?_⟩
        simp [intOf]; omega
      · have hl0 : (decide (cc < 0)) = false := by simpa using hl
        go_wp2_with fail
        go_region_held3 (fun w' => (∀ b o, b < wr.heap.size → w'.cell? ⟨b, o, none⟩ = wr.cell? ⟨b, o, none⟩) ∧ Below (wr.heap.size) wr w') (first | exact ⟨fun _ _ _ => rfl, (Below.refl _ _).drew⟩ | exact keep_step (by assumption) (Below.drew (Below.refl _ _)) (Nat.le_refl _) | exact keep_step (by assumption) (by assumption) (by first | omega | (simp only [World.size_drew]; omega) | (simp only [size_alloc]; omega) | (simp only [World.size_drew, size_alloc]; omega) | (have := (‹(_ ∧ Below (wr.heap.size) wr _)›).2.size; first | omega | (simp only [World.size_drew]; omega) | (simp only [size_alloc]; omega) | (simp only [World.size_drew, size_alloc]; omega) | (simp only [World.size_drew] at this; omega) | (simp only [size_alloc] at this; omega) | (simp only [World.size_drew, size_alloc] at this; omega))) | exact keep_step (by assumption) (below1 _ _) (by first | omega | (simp only [World.size_drew]; omega) | (simp only [size_alloc]; omega) | (simp only [World.size_drew, size_alloc]; omega) | (have := (‹(_ ∧ Below (wr.heap.size) wr _)›).2.size; first | omega | (simp only [World.size_drew]; omega) | (simp only [size_alloc]; omega) | (simp only [World.size_drew, size_alloc]; omega) | (simp only [World.size_drew] at this; omega) | (simp only [size_alloc] at this; omega) | (simp only [World.size_drew, size_alloc] at this; omega)))) (first | (go_at_call 74; refine (impl_compareLosses y z _ _ _ _ w0.heap.size _ (HRX.out.below EStep.loc (‹_ ∧ Below (wr.heap.size) wr _›).2 hsz) (HRZ.out.below EStep.loc (‹_ ∧ Below (wr.heap.size) wr _›).2 hsz) (by have := (‹_ ∧ Below (wr.heap.size) wr _›).2.size; omega)).mono ?_; rintro ee w3 ⟨rfl, hb⟩; rw [HCC.out]))
        have HB := Lib.hid (‹_ ∧ Below (wr.heap.size) wr _›).2
        rename _ ∧ Below wr.heap.size wr w3 => hHeld
        clear hHeld hb
        go_wp2_with fail
        go_roundw
        case rel => exact ⟨hh + 1, jj, by go_num, by go_num, by omega, by omega, by omega, Lib.hid (fun _ y hy => by rw [Nat.add_sub_cancel, HZ.out] at hy; injection hy with hy; subst hy; rw [← cmpL_less, HCC.out]; simpa using hl), K2, Lib.hid (HS.out.below HB.out)⟩
        case measure => simp [intOf]; omega
    · have hij : jj = ii := by omega
      subst hij
      have hi1 : jj - a ≤ U.length := by have := HM.out; omega
      obtain ⟨U1, U2, hUU, hU1⟩ : ∃ U1 U2, U = U1 ++ U2 ∧ U1.length = jj - a := ⟨U.take (jj - a), U.drop (jj - a), (List.take_append_drop ..).symm, by rw [List.length_take]; omega⟩
      have HSO : Hid (Sorted (U1 ++ y :: U2)) := by
        refine Lib.hid (sorted_put (by rw [← hUU]; exact hU) ?_ ?_)
        · intro z hz
          rw [List.getLast?_eq_getElem?] at hz
          have hl := (List.getElem?_eq_some_iff.1 hz).1
          refine K1.out (by omega) z ?_
          rw [hUU, List.getElem?_append_left (by omega), ← hz]; congr 1; omega
        · intro z hz
          have hs2 : Sorted U2 := by have := hU; rw [hUU] at this; exact (List.pairwise_append.1 this).2.1
          cases U2 with
          | nil => cases hz
          | cons t U2 =>
            refine leL_trans ?_ (sorted_cons hs2 z hz)
            exact leL_of_less (K2.out t (by rw [hUU, List.getElem?_append_right (by omega)]; simp [hU1]))
      have HPm : Hid ((U1 ++ y :: U2).Perm (U ++ [y])) := Lib.hid (by rw [hUU]; refine List.perm_iff_count.2 (fun z => ?_); simp only [List.count_append, List.count_cons, List.count_nil]; omega)
      have HUT : Hid (U.take (jj - a) = U1 ∧ U.drop (jj - a) = U2) := Lib.hid (by rw [hUU, ← hU1]; simp)
      clear hUU hU1 hi1 K1 K2 hU
      go_wp2_with fail
      go_loopw [17] (fun kv wr => ∃ (kk : Nat), kv = .int .i64 kk ∧ jj ≤ kk ∧ kk ≤ m ∧ Hid (Sb w0 b e N F0 wr (A ++ (U.take (kk - a) ++ (y :: (U.drop (kk - a) ++ R)))))) (fun kv _ => (intOf kv).toNat)
      case atStart => exact ⟨m, by go_num, by omega, by omega, Lib.hid (HS.out.eq (by rw [List.take_of_length_le (by have := HM.out; omega), List.drop_of_length_le (by have := HM.out; omega)]; simp))⟩
      case round =>
        clear HS
        obtain ⟨kk, rfl, h4, h5, HS⟩ := hrel
        by_cases hlt : jj < kk
        · have hkv : kk - 1 - a < U.length := by have := HM.out; omega
          obtain ⟨k1, hk1⟩ : ∃ k1 : Nat, kk = k1 + 1 := ⟨kk - 1, by omega⟩
          have hkv : k1 - a < U.length := by have := HM.out; omega
          have hwr : IntKind.i64.wrap ((kk : Int) - 1) = (k1 : Int) := by rw [show (kk : Int) - 1 = (k1 : Int) from by omega]; rw [Go.IntWalk.i64_left]; exact Go.IntWalk.wrap64_in _ ⟨by omega, by omega⟩
          obtain ⟨z, hz⟩ : ∃ z, U[k1 - a]'hkv = z := ⟨_, rfl⟩
          have hT : U.take (kk - a) = U.take (k1 - a) ++ [z] := by rw [← hz, show kk - a = k1 - a + 1 from by omega]; exact take_snoc _ _ hkv
          have hD : U.drop (k1 - a) = z :: U.drop (kk - a) := by rw [List.drop_eq_getElem_cons hkv, hz, show kk - a = k1 - a + 1 from by omega]
          have k0 : Sb w0 b e N F0 wr ((A ++ U.take (k1 - a)) ++ (z :: ([] ++ (y :: (U.drop (kk - a) ++ R))))) := HS.out.eq (by rw [hT]; simp)
          have k2 : Sb w0 b e N F0 wr (((A ++ U.take (k1 - a)) ++ [z]) ++ (y :: (U.drop (kk - a) ++ R))) := k0.eq (by simp)
          have lA : (A ++ U.take (k1 - a)).length = k1 := by have := HA.out; rw [List.length_append, List.length_take]; omega
          obtain ⟨a1, c1, x0, x1, _⟩ := k0.at
          obtain ⟨a2, c2, y0, y1, _⟩ := k2.at
          rw [List.length_append, lA] at y0 y1
          rw [lA] at x0 x1
          simp only [List.length_singleton] at y0 y1
          rw [← hk1] at y0 y1
          have hf := fun i => k0.blk.frozen i
          have HS4 := Lib.hid ((k0.swapB (o1 := k1 * 2) (o2 := kk * 2) (by rw [lA]) (by rw [lA]; simp only [List.length_nil]; omega) x0 x1 y0 y1).below (Below.refl _ _).drew)
          have HD := Lib.hid hD
          have HK1 := Lib.hid hk1
          have hi1 : (0 : Int) ≤ (kk : Int) := by omega
          have hi2 : (kk : Int) < (n : Int) := by omega
          have hi3 : (0 : Int) ≤ (k1 : Int) := by omega
          have hi4 : (k1 : Int) < (n : Int) := by omega
          have n0 : k1 < kk := by omega
          have n1 : ¬ (kk * 2 = k1 * 2) := by omega
          have n2 : ¬ (kk * 2 + 1 = k1 * 2) := by omega
          have n3 : ¬ (kk * 2 = k1 * 2 + 1) := by omega
          have n4 : ¬ (kk * 2 + 1 = k1 * 2 + 1) := by omega
          clear k0 k2 hT hD hk1 HS
          go_wp2_with fail
          go_region
          generalize hG : World.drew _ = w5
          have HS5 : Hid (Sb w0 b e N F0 w5 ((A ++ U.take (k1 - a)) ++ (y :: ([] ++ (z :: (U.drop (kk - a) ++ R)))))) := by rw [← hG]; exact HS4
          clear HS4 hG hf x0 x1 y0 y1
          go_wp2_with fail
          have hk1 := HK1.out
          exact ⟨⟨k1, by go_num, by omega, by omega, Lib.hid (HS5.out.eq (by rw [HD.out]; simp))⟩, by simp [intOf]; omega⟩
        · have hkj : kk = jj := by omega
          subst hkj
          have HS5 : Hid (Sb w0 b e N F0 wr (A ++ ((U1 ++ y :: U2) ++ R))) := Lib.hid (HS.out.eq (by rw [HUT.out.1, HUT.out.2]; simp))
          clear HS
          go_wp2_with fail
          refine bodyPost_ret (results_none rfl _ _ _) rfl ?_
          exact ⟨rfl, _, HPm.out, HSO.out, HS5.out⟩
end Go.Proofs.YtfbodhfdomdkpaaGreatDoor
namespace Go.Proofs.YtfbodhfdomdkpaaGreatDoor
open Go.ChangeShapes Go.WideShapes Go.ChangeAt Go.RowKit Go.Joins
set_option linter.unusedVariables false
set_option maxRecDepth 100000
theorem rotateA {w0 : World} {b : Nat} {e : TypeId} {N : Nat} {F0 : List Nat} (L X U V Z : List Lo) (hL : L = X ++ (U ++ (V ++ Z))) (hU : 0 < U.length) (hV : 0 < V.length) (pa pm pb : Int) (hpa : pa = X.length) (hpm : pm = ((X.length + U.length : Nat) : Int)) (hpb : pb = ((X.length + U.length + V.length : Nat) : Int)) (n cap : Nat) (cmp : Value) (w : World) (hn : n = X.length + U.length + V.length + Z.length) (hc : n ≤ cap) (hcap : n ≤ 4611686018427387903)
    (h : Sb w0 b e N F0 w L) :
    Calls Tryz.prog 261 #[.slice (some ⟨b, 0, none⟩) n cap, .int .i64 pa, .int .i64 pm, .int .i64 pb, cmp] w fun ee w' => ee = .returned (.tuple #[]) ∧ Sb w0 b e N F0 w' (X ++ (V ++ (U ++ Z))) := by
  subst hL; exact rotate X U V Z hU hV pa pm pb hpa hpm hpb n cap cmp w hn hc hcap h
variable {w0 : World} {b : Nat} {e : TypeId} {N : Nat} {F0 : List Nat}
set_option maxHeartbeats 8000000 in
theorem symMerge : ∀ (k : Nat) (A U V R : List Lo), U.length + V.length ≤ k → Sorted U → Sorted V → ∀ (a m q : Nat), a = A.length → m = a + U.length → q = m + V.length → 0 < U.length → 0 < V.length → ∀ (n cap : Nat) (w : World), n = q + R.length → n ≤ cap → n ≤ 4611686018427387903 →
    Sb w0 b e N F0 w (A ++ (U ++ (V ++ R))) →
    Calls Tryz.prog 202 #[.slice (some ⟨b, 0, none⟩) n cap, .int .i64 a, .int .i64 m, .int .i64 q, .func (.func 74) #[] #[]] w fun ee w' => ee = .returned (.tuple #[]) ∧ ∃ S', S'.Perm (U ++ V) ∧ Sorted S' ∧ Sb w0 b e N F0 w' (A ++ (S' ++ R)) := by
  intro k
  induction k with
  | zero => intro A U V R hk _ _ a m q _ _ _ hU; omega
  | succ k IH =>
    intro A U V R hk hU hV a m q ha hm hq hUn hVn n cap w hn hc hcap h
    by_cases hu1 : U.length = 1
    · obtain ⟨x, rfl⟩ := List.length_eq_one_iff.1 hu1
      exact symOneL A V R x hV a m q ha (by simpa using hm) hq hVn n cap w hn hc hcap (h.eq (by simp))
    by_cases hv1 : V.length = 1
    · obtain ⟨y, rfl⟩ := List.length_eq_one_iff.1 hv1
      exact symOneR A U R y hU a m q ha hm (by simpa using hq) (by omega) n cap w hn hc hcap (h.eq (by simp))
    have IHH := Lib.hid IH; clear IH
    obtain ⟨mid, hmid⟩ : ∃ mid : Nat, mid = (a + q) / 2 := ⟨_, rfl⟩
    have hqn : q ≤ n := by omega
    have ham1 : ¬ ((m : Int) - (a : Int) = 1) := by omega
    have hqm1 : ¬ ((q : Int) - (m : Int) = 1) := by omega
    have hone : ((m : Int) - (a : Int) == 1) = false := by rw [beq_eq_false_iff_ne]; omega
    have hone2 : ((q : Int) - (m : Int) == 1) = false := by rw [beq_eq_false_iff_ne]; omega
    have hdiv : ((a : Int) + (q : Int)) / 2 = (mid : Int) := by omega
    have hmidq : mid < q := by omega
    have hamid : a < mid := by omega
    have hmq : m < q := by omega
    have ham : a < m := by omega
    have hnq : q ≤ mid + m ∨ mid < m ∨ m ≤ mid := by omega
    have HMID : Hid (mid = (a + q) / 2) := Lib.hid hmid
    have HA := Lib.hid ha
    have HM := Lib.hid hm
    have HQ := Lib.hid hq
    have HN := Lib.hid hn
    have HK := Lib.hid hk
    obtain ⟨s0, r0, hs0⟩ : ∃ s0 r0 : Nat, (mid < m ∧ s0 = mid + m - q ∧ r0 = mid) ∨ (m ≤ mid ∧ s0 = a ∧ r0 = m) := by
      by_cases hh : mid < m
      · exact ⟨_, _, Or.inl ⟨hh, rfl, rfl⟩⟩
      · exact ⟨_, _, Or.inr ⟨by omega, rfl, rfl⟩⟩
    have g1 : s0 ≤ r0 := by omega
    have g2 : a ≤ s0 := by omega
    have g3 : r0 ≤ m := by omega
    have g4 : r0 ≤ mid := by omega
    have g5 : mid + m ≤ q + s0 := by omega
    have HS0 := Lib.hid hs0
    clear hmid ha hm hq hn hk hnq hs0
    obtain ⟨L, hL⟩ : ∃ L, L = A ++ (U ++ (V ++ R)) := ⟨_, rfl⟩
    rw [← hL] at h
    have HL := Lib.hid hL
    have hLn : L.length = n := by have := HN.out; have := HQ.out; have := HM.out; have := HA.out; rw [hL]; simp only [List.length_append]; omega
    clear hL
    have HS := Lib.hid h; clear h
    have HU := Lib.hid hU; have HV := Lib.hid hV; clear hU hV
    go_enter Tryz.func202, Tryz.ntmps202
    go_upto_if 140 with (fail)
    go_cut [20, 21] (fun s r wx => s = .int .i64 (s0 : Int) ∧ r = .int .i64 (r0 : Int) ∧ wx = w)
    case first =>
      rcases HS0.out with ⟨h1, h2, h3⟩ | ⟨h1, h2, h3⟩
      · go_wp2_with fail
        go_meet
        case rel => exact ⟨by first | rfl | (congr 1; omega), by rw [h3], rfl⟩
      · go_wp2_with fail
        go_meet
        case rel => exact ⟨by rw [h2], by rw [h3], rfl⟩
    case rest =>
      obtain ⟨rfl, rfl, rfl⟩ := hcut
      rename World => wq
      go_upto_region 33 with (fail)
      obtain ⟨pp, hpp⟩ : ∃ pp : Nat, (mid : Int) + (m : Int) - 1 = (pp : Int) := ⟨mid + m - 1, by omega⟩
      rw [hpp]
      have HPP := Lib.hid hpp; clear hpp
      go_loopw [20, 21, 23] (fun sv rv _ wr => ∃ (st r : Nat), sv = .int .i64 st ∧ rv = .int .i64 r ∧ s0 ≤ st ∧ st ≤ r ∧ r ≤ r0 ∧ Hid (s0 < st → ∀ z y, L[mid + m - st]? = some z → L[st - 1]? = some y → lessL z y = false) ∧ Hid (r < r0 → ∀ z y, L[mid + m - 1 - r]? = some z → L[r]? = some y → lessL z y = true) ∧ Hid (Sb w0 b e N F0 wr L)) (fun sv rv _ _ => (intOf rv).toNat - (intOf sv).toNat)
      case atStart => exact ⟨s0, r0, rfl, rfl, Nat.le_refl _, g1, Nat.le_refl _, Lib.hid (fun h => by omega), Lib.hid (fun h => by omega), HS⟩
      case round =>
        clear HS
        obtain ⟨st, r, rfl, rfl, h1, h2, h3, K1, K2, HS⟩ := hrel
        by_cases hlt : st < r
        · as_aux_lemma =>
          obtain ⟨cc, hcc0⟩ : ∃ cc : Nat, cc = (st + r) / 2 := ⟨_, rfl⟩
          obtain ⟨pc, hpc⟩ : ∃ pc : Nat, pc = mid + m - 1 - cc := ⟨_, rfl⟩
          have c1 : st ≤ cc := by omega
          have c2 : cc < r := by omega
          have c3 : cc < n := by omega
          have c4 : pc < n := by omega
          have hdiv2 : ((st : Int) + (r : Int)) / 2 = (cc : Int) := by omega
          have hwr : IntKind.i64.wrap ((pp : Int) - (cc : Int)) = (pc : Int) := by rw [show (pp : Int) - (cc : Int) = (pc : Int) from by have := HPP.out; omega, Go.IntWalk.i64_left]; exact Go.IntWalk.wrap64_in _ ⟨by omega, by omega⟩
          have HPC := Lib.hid hpc
          clear hpc hcc0
          obtain ⟨z, hz⟩ : ∃ z, L[pc]'(by omega) = z := ⟨_, rfl⟩
          obtain ⟨y, hy⟩ : ∃ y, L[cc]'(by omega) = y := ⟨_, rfl⟩
          have HZ : Hid (L[pc]? = some z) := Lib.hid (by rw [List.getElem?_eq_getElem (by omega), hz])
          have HY : Hid (L[cc]? = some y) := Lib.hid (by rw [List.getElem?_eq_getElem (by omega), hy])
          obtain ⟨a1, e1, z0, z1, rz⟩ := HS.out.get pc (by omega)
          obtain ⟨a2, e2, y0, y1, ry⟩ := HS.out.get cc (by omega)
          rw [hz] at z0 z1 rz
          rw [hy] at y0 y1 ry
          have HRZ := Lib.hid rz; have HRY := Lib.hid ry
          have hsz := HS.out.touch.size
          have lb : b < wr.heap.size := HS.out.blk.unf.lt
          clear rz ry hz hy
          have hi1 : (0 : Int) ≤ (cc : Int) := by omega
          have hi2 : (cc : Int) < (n : Int) := by omega
          have hi3 : (0 : Int) ≤ (pc : Int) := by omega
          have hi4 : (pc : Int) < (n : Int) := by omega
          obtain ⟨ck, hck⟩ : ∃ c, cmpL z y = c := ⟨_, rfl⟩
          have HCC := Lib.hid hck; clear hck
          by_cases hl : ck < 0
          · have hl0 : (decide (ck < 0)) = true := by simpa using hl
            go_wp2_with fail
            go_region_held3 (fun w' => (∀ b o, b < wr.heap.size → w'.cell? ⟨b, o, none⟩ = wr.cell? ⟨b, o, none⟩) ∧ Below (wr.heap.size) wr w') (first | exact ⟨fun _ _ _ => rfl, (Below.refl _ _).drew⟩ | exact keep_step (by assumption) (Below.drew (Below.refl _ _)) (Nat.le_refl _) | exact keep_step (by assumption) (by assumption) (by first | omega | (simp only [World.size_drew]; omega) | (simp only [size_alloc]; omega) | (simp only [World.size_drew, size_alloc]; omega) | (have := (‹(_ ∧ Below (wr.heap.size) wr _)›).2.size; first | omega | (simp only [World.size_drew]; omega) | (simp only [size_alloc]; omega) | (simp only [World.size_drew, size_alloc]; omega) | (simp only [World.size_drew] at this; omega) | (simp only [size_alloc] at this; omega) | (simp only [World.size_drew, size_alloc] at this; omega))) | exact keep_step (by assumption) (below1 _ _) (by first | omega | (simp only [World.size_drew]; omega) | (simp only [size_alloc]; omega) | (simp only [World.size_drew, size_alloc]; omega) | (have := (‹(_ ∧ Below (wr.heap.size) wr _)›).2.size; first | omega | (simp only [World.size_drew]; omega) | (simp only [size_alloc]; omega) | (simp only [World.size_drew, size_alloc]; omega) | (simp only [World.size_drew] at this; omega) | (simp only [size_alloc] at this; omega) | (simp only [World.size_drew, size_alloc] at this; omega)))) (first | (go_at_call 74; refine (impl_compareLosses z y _ _ _ _ w0.heap.size _ (HRZ.out.below EStep.loc (‹_ ∧ Below (wr.heap.size) wr _›).2 hsz) (HRY.out.below EStep.loc (‹_ ∧ Below (wr.heap.size) wr _›).2 hsz) (by have := (‹_ ∧ Below (wr.heap.size) wr _›).2.size; omega)).mono ?_; rintro ee w3 ⟨rfl, hb⟩; rw [HCC.out]))
            have HB := Lib.hid (‹_ ∧ Below (wr.heap.size) wr _›).2
            rename _ ∧ Below wr.heap.size wr w3 => hHeld
            clear hHeld hb
            go_wp2_with fail
            refine ⟨⟨st, cc, by go_num, by go_num, by omega, by omega, by omega, K1, Lib.hid (fun _ z2 y2 hz2 hy2 => ?_), Lib.hid (HS.out.below HB.out)⟩, ?_⟩
            · rw [← HPC.out, HZ.out] at hz2; rw [HY.out] at hy2; injection hz2 with hz2; injection hy2 with hy2; subst hz2 hy2
              rw [← cmpL_less, HCC.out]; simpa using hl
            · simp [intOf]; omega
          · have hl0 : (decide (ck < 0)) = false := by simpa using hl
            go_wp2_with fail
            go_region_held3 (fun w' => (∀ b o, b < wr.heap.size → w'.cell? ⟨b, o, none⟩ = wr.cell? ⟨b, o, none⟩) ∧ Below (wr.heap.size) wr w') (first | exact ⟨fun _ _ _ => rfl, (Below.refl _ _).drew⟩ | exact keep_step (by assumption) (Below.drew (Below.refl _ _)) (Nat.le_refl _) | exact keep_step (by assumption) (by assumption) (by first | omega | (simp only [World.size_drew]; omega) | (simp only [size_alloc]; omega) | (simp only [World.size_drew, size_alloc]; omega) | (have := (‹(_ ∧ Below (wr.heap.size) wr _)›).2.size; first | omega | (simp only [World.size_drew]; omega) | (simp only [size_alloc]; omega) | (simp only [World.size_drew, size_alloc]; omega) | (simp only [World.size_drew] at this; omega) | (simp only [size_alloc] at this; omega) | (simp only [World.size_drew, size_alloc] at this; omega))) | exact keep_step (by assumption) (below1 _ _) (by first | omega | (simp only [World.size_drew]; omega) | (simp only [size_alloc]; omega) | (simp only [World.size_drew, size_alloc]; omega) | (have := (‹(_ ∧ Below (wr.heap.size) wr _)›).2.size; first | omega | (simp only [World.size_drew]; omega) | (simp only [size_alloc]; omega) | (simp only [World.size_drew, size_alloc]; omega) | (simp only [World.size_drew] at this; omega) | (simp only [size_alloc] at this; omega) | (simp only [World.size_drew, size_alloc] at this; omega)))) (first | (go_at_call 74; refine (impl_compareLosses z y _ _ _ _ w0.heap.size _ (HRZ.out.below EStep.loc (‹_ ∧ Below (wr.heap.size) wr _›).2 hsz) (HRY.out.below EStep.loc (‹_ ∧ Below (wr.heap.size) wr _›).2 hsz) (by have := (‹_ ∧ Below (wr.heap.size) wr _›).2.size; omega)).mono ?_; rintro ee w3 ⟨rfl, hb⟩; rw [HCC.out]))
            have HB := Lib.hid (‹_ ∧ Below (wr.heap.size) wr _›).2
            rename _ ∧ Below wr.heap.size wr w3 => hHeld
            clear hHeld hb
            go_wp2_with fail
            go_roundw
            case rel =>
              refine ⟨cc + 1, r, by go_num, by go_num, by omega, by omega, by omega, Lib.hid (fun _ z2 y2 hz2 hy2 => ?_), K2, Lib.hid (HS.out.below HB.out)⟩
              rw [Nat.add_sub_cancel, HY.out] at hy2; rw [show mid + m - (cc + 1) = pc from by rw [HPC.out]; omega, HZ.out] at hz2; injection hz2 with hz2; injection hy2 with hy2; subst hz2 hy2
              rw [← cmpL_less, HCC.out]; simpa using hl
            case measure => simp [intOf]; omega
        · as_aux_lemma =>
          have hsr : r = st := by omega
          subst hsr
          obtain ⟨U1, U2, V1, V2, e1, e2, e3, e4, e5, e6, e7, e8, e9⟩ := sym_pure A U V R HU.out HV.out a m q mid r s0 r0 HA.out HM.out HQ.out HMID.out hUn hVn HS0.out h1 h3 L HL.out
            (fun hh i j hi hj hi2 hj2 => K1.out hh _ _ (by rw [← hi2]; exact List.getElem?_eq_getElem hi) (by rw [← hj2]; exact List.getElem?_eq_getElem hj))
            (fun hh i j hi hj hi2 hj2 => K2.out hh _ _ (by rw [← hi2]; exact List.getElem?_eq_getElem hi) (by rw [← hj2]; exact List.getElem?_eq_getElem hj))
          obtain ⟨en, hen⟩ : ∃ en : Nat, en = mid + m - r := ⟨_, rfl⟩
          have lU2 : U2.length = m - r := by have := HM.out; rw [e1] at this; simp at this; omega
          have lV2 : V2.length = q - en := by have := HQ.out; rw [e2] at this; simp at this; omega
          have hen2 : (mid : Int) + (m : Int) - (r : Int) = (en : Int) := by omega
          have f1 : mid ≤ en := by omega
          have f2 : en ≤ q := by omega
          have f3 : m ≤ en := by omega
          have HE1 := Lib.hid e1; have HE2 := Lib.hid e2; have HE4 := Lib.hid e4; have HE5 := Lib.hid e5; have HE9 := Lib.hid e9
          have HLU := Lib.hid lU2; have HLV := Lib.hid lV2; have HEN := Lib.hid hen
          have HS2 : Hid (Sb w0 b e N F0 wr ((A ++ U1) ++ (U2 ++ (V1 ++ (V2 ++ R))))) := Lib.hid (HS.out.eq (by rw [HL.out, e1, e2]; simp))
          clear e1 e2 e4 e5 e9 lU2 lV2 hen K1 K2 HS HL
          have HSU : Hid (Sorted U1 ∧ Sorted V1 ∧ Sorted U2 ∧ Sorted V2) := Lib.hid ⟨(List.pairwise_append.1 (HE1.out ▸ HU.out)).1, (List.pairwise_append.1 (HE2.out ▸ HV.out)).1, (List.pairwise_append.1 (HE1.out ▸ HU.out)).2.1, (List.pairwise_append.1 (HE2.out ▸ HV.out)).2.1⟩
          obtain ⟨bb, hbb⟩ : ∃ bb, decide (r < m ∧ m < en) = bb := ⟨_, rfl⟩
          go_upto_region 39 with (fail)
          go_cut [185] (fun cv wx => cv = .bool bb ∧ wx = wr)
          case first =>
            as_aux_lemma =>
              by_cases t1 : r < m <;> by_cases t2 : m < en
              all_goals
                go_wp2_with fail
                go_meet
                case rel => exact ⟨by rw [← hbb]; simp [t1, t2], rfl⟩
          case rest =>
            as_aux_lemma =>
              obtain ⟨rfl, hww⟩ := hcut
              subst hww
              rename World => wx
              go_upto_if 185 with (fail)
              go_cut [] (fun wy => Hid (Sb w0 b e N F0 wy ((A ++ U1) ++ (V1 ++ (U2 ++ (V2 ++ R))))))
              case first =>
                as_aux_lemma =>
                  cases bb with
                  | true =>
                    have t1 := of_decide_eq_true hbb
                    go_wp2_with fail
                    refine (rotateA _ (A ++ U1) U2 V1 (V2 ++ R) rfl ?_ ?_ _ _ _ ?_ ?_ ?_ n cap _ _ ?_ hc hcap HS2.out).mono ?_
                    · have := HLU.out; omega
                    · have := HE5.out; have := HEN.out; omega
                    · have := HA.out; have := HE4.out; rw [List.length_append]; omega
                    · have := HA.out; have := HE4.out; have := HLU.out; rw [List.length_append]; omega
                    · have := HA.out; have := HE4.out; have := HLU.out; have := HE5.out; have := HEN.out; rw [List.length_append]; omega
                    · have := HA.out; have := HE4.out; have := HLU.out; have := HLV.out; have := HE5.out; have := HEN.out; have := HN.out; rw [List.length_append, List.length_append]; omega
                    · rintro ee w3 ⟨rfl, hs⟩
                      have HS3 := Lib.hid hs; clear hs
                      go_wp2_with fail
                      go_meet
                      case rel => exact HS3
                  | false =>
                    have t1 := of_decide_eq_false hbb
                    have HS3 : Hid (Sb w0 b e N F0 wx ((A ++ U1) ++ (V1 ++ (U2 ++ (V2 ++ R))))) := by
                      refine Lib.hid (HS2.out.eq ?_)
                      have := HLU.out; have := HE5.out; have := HEN.out
                      by_cases hz : r < m
                      · have : V1 = [] := List.eq_nil_of_length_eq_zero (by omega)
                        subst this; simp
                      · have : U2 = [] := List.eq_nil_of_length_eq_zero (by omega)
                        subst this; simp
                    go_wp2_with fail
                    go_meet
                    case rel => exact HS3
              case rest =>
                as_aux_lemma =>
                  rename World => wy
                  have HS3 := hcut
                  clear hcut HS2 hbb
                  obtain ⟨bb2, hbb⟩ : ∃ bb, decide (a < r ∧ r < mid) = bb := ⟨_, rfl⟩
                  go_upto_region 41 with (fail)
                  go_cut [199] (fun cv wx => cv = .bool bb2 ∧ wx = wy)
                  case first =>
                    as_aux_lemma =>
                      by_cases t1 : a < r <;> by_cases t2 : r < mid
                      all_goals
                        go_wp2_with fail
                        go_meet
                        case rel => exact ⟨by rw [← hbb]; simp [t1, t2], rfl⟩
                  case rest =>
                    as_aux_lemma =>
                      obtain ⟨rfl, hww⟩ := hcut
                      subst hww
                      rename World => wy
                      go_upto_if 199 with (fail)
                      go_cut [] (fun wz => ∃ S1, Hid (S1.Perm (U1 ++ V1)) ∧ Hid (Sorted S1) ∧ Hid (Sb w0 b e N F0 wz (A ++ (S1 ++ (U2 ++ (V2 ++ R))))))
                      case first =>
                        as_aux_lemma =>
                          cases bb2 with
                          | true =>
                            have t1 := of_decide_eq_true hbb
                            go_wp2_with fail
                            refine (IHH.out A U1 V1 (U2 ++ (V2 ++ R)) ?_ HSU.out.1 HSU.out.2.1 a r mid HA.out ?_ ?_ ?_ ?_ n cap _ ?_ hc hcap (HS3.out.eq (by simp))).mono ?_
                            · have := HE4.out; have := HE5.out; have := HK.out; have := HM.out; have := HQ.out; omega
                            · have := HE4.out; omega
                            · have := HE5.out; omega
                            · have := HE4.out; omega
                            · have := HE5.out; omega
                            · have := HLU.out; have := HLV.out; have := HN.out; have := HEN.out; rw [List.length_append, List.length_append]; omega
                            · rintro ee w3 ⟨rfl, S1, p1, p2, hs⟩
                              have HS4 := Lib.hid hs; have HP1 := Lib.hid p1; have HP2 := Lib.hid p2; clear hs p1 p2
                              go_wp2_with fail
                              go_meet
                              case rel => exact ⟨S1, HP1, HP2, HS4⟩
                          | false =>
                            have t1 := of_decide_eq_false hbb
                            have HS4 : Hid (Sb w0 b e N F0 wy (A ++ ((U1 ++ V1) ++ (U2 ++ (V2 ++ R))))) := Lib.hid (HS3.out.eq (by simp))
                            have HP2 : Hid (Sorted (U1 ++ V1)) := by
                              have := HE4.out; have := HE5.out
                              by_cases hz : a < r
                              · have : V1 = [] := List.eq_nil_of_length_eq_zero (by omega)
                                rw [this, List.append_nil]; exact Lib.hid HSU.out.1
                              · have : U1 = [] := List.eq_nil_of_length_eq_zero (by omega)
                                rw [this, List.nil_append]; exact Lib.hid HSU.out.2.1
                            go_wp2_with fail
                            go_meet
                            case rel => exact ⟨U1 ++ V1, Lib.hid (List.Perm.refl _), HP2, HS4⟩
                      case rest =>
                        as_aux_lemma =>
                          rename World => wz
                          obtain ⟨S1, HP1, HP2, HS4⟩ := hcut
                          clear HS3 hbb
                          have HLS : Hid (S1.length = mid - a) := Lib.hid (by have := HP1.out.length_eq; have := HE4.out; have := HE5.out; rw [List.length_append] at *; omega)
                          by_cases t1 : mid < en
                          · by_cases t2 : en < q
                            · go_wp2_with fail
                              refine (IHH.out (A ++ S1) U2 V2 R ?_ HSU.out.2.2.1 HSU.out.2.2.2 mid en q ?_ ?_ ?_ ?_ ?_ n cap _ HN.out hc hcap (HS4.out.eq (by simp))).mono ?_
                              · have := HLU.out; have := HLV.out; have := HK.out; have := HM.out; have := HQ.out; have := HEN.out; omega
                              · have := HLS.out; have := HA.out; rw [List.length_append]; omega
                              · have := HLU.out; have := HEN.out; omega
                              · have := HLV.out; omega
                              · have := HLU.out; have := HEN.out; omega
                              · have := HLV.out; omega
                              · rintro ee w3 ⟨rfl, S2, p1, p2, hs⟩
                                have HS5 := Lib.hid hs; have HP3 := Lib.hid p1; have HP4 := Lib.hid p2; clear hs p1 p2
                                go_wp2_with fail
                                go_end0
                                refine ⟨rfl, S1 ++ S2, ?_, sorted_join HP2.out HP4.out (fun x hx y hy => HE9.out x (HP1.out.mem_iff.1 hx) y (HP3.out.mem_iff.1 hy)), HS5.out.eq (by simp)⟩
                                refine (List.Perm.append HP1.out HP3.out).trans ?_
                                rw [HE1.out, HE2.out]
                                refine List.perm_iff_count.2 (fun z => ?_)
                                simp only [List.count_append]; omega
                            · have hv2 : V2 = [] := List.eq_nil_of_length_eq_zero (by have := HLV.out; omega)
                              have HV2 := Lib.hid hv2; clear hv2
                              go_wp2_with fail
                              go_end0
                              refine ⟨rfl, S1 ++ (U2 ++ V2), ?_, sorted_join HP2.out (by rw [HV2.out, List.append_nil]; exact HSU.out.2.2.1) (fun x hx y hy => HE9.out x (HP1.out.mem_iff.1 hx) y hy), HS4.out.eq (by simp)⟩
                              refine (List.Perm.append HP1.out (List.Perm.refl _)).trans ?_
                              rw [HE1.out, HE2.out]
                              refine List.perm_iff_count.2 (fun z => ?_)
                              simp only [List.count_append]; omega
                          · have hu2 : U2 = [] := List.eq_nil_of_length_eq_zero (by have := HLU.out; have := HEN.out; omega)
                            have HU2 := Lib.hid hu2; clear hu2
                            go_wp2_with fail
                            go_end0
                            refine ⟨rfl, S1 ++ (U2 ++ V2), ?_, sorted_join HP2.out (by rw [HU2.out, List.nil_append]; exact HSU.out.2.2.2) (fun x hx y hy => HE9.out x (HP1.out.mem_iff.1 hx) y hy), HS4.out.eq (by simp)⟩
                            refine (List.Perm.append HP1.out (List.Perm.refl _)).trans ?_
                            rw [HE1.out, HE2.out]
                            refine List.perm_iff_count.2 (fun z => ?_)
                            simp only [List.count_append]; omega
end Go.Proofs.YtfbodhfdomdkpaaGreatDoor
