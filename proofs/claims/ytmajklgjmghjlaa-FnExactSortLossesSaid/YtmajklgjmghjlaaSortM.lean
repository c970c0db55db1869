/- Contracts and lemmas for the proofs of this seat: SortM. No condition beyond those stated. -/
import Derived.Test.YtmajklgjmghjlaaRows
import Derived.WalkKit
import Derived.ProofKit
import Derived.OpenShut
import Derived.Handy
import Derived.Lib.Hide
import Derived.Lib.SmallJoins
import Derived.Deep.RegionHeld3
import Derived.Deep.QuietTactic
import Derived.BigQuiet
import Derived.BigRegion
import Derived.Test.YtmajklgjmghjlaaBase
import Derived.Test.YtmajklgjmghjlaaGen
import Derived.Test.YtmajklgjmghjlaaKit
import Derived.Test.YtmajklgjmghjlaaMark
import Derived.Test.YtmajklgjmghjlaaPath1
import Derived.Test.YtmajklgjmghjlaaPath2
import Derived.Test.YtmajklgjmghjlaaSortP
import Derived.Test.YtmajklgjmghjlaaSortW
import Derived.Test.YtmajklgjmghjlaaSortR
namespace Go.Proofs.Ytmajklgjmghjlaa
open Go.ChangeShapes Go.WideShapes Go.ChangeAt Go.RowKit Go.Joins
set_option linter.unusedVariables false
set_option maxRecDepth 100000
variable {w0 : World} {b : Nat} {e : TypeId} {N : Nat} {F0 : List Nat}
set_option maxHeartbeats 8000000 in
theorem symOneL (A V R : List Lo) (x : Lo) (hV : Sorted V) (a m q : Nat) (ha : a = A.length) (hm : m = a + 1) (hq : q = m + V.length) (hVn : 0 < V.length) (n cap : Nat) (w : World) (hn : n = q + R.length) (hc : n ≤ cap) (hcap : n ≤ 4611686018427387903)
    (h : Sb w0 b e N F0 w (A ++ (x :: (V ++ R)))) :
    Calls Try.prog 34 #[.slice (some ⟨b, 0, none⟩) n cap, .int .i64 a, .int .i64 m, .int .i64 q, .func (.func 17) #[] #[]] w fun ee w' => ee = .returned (.tuple #[]) ∧ ∃ S', S'.Perm (x :: V) ∧ Sorted S' ∧ Sb w0 b e N F0 w' (A ++ (S' ++ R)) := by
  have hqn : q ≤ n := by omega
  have hmq : m ≤ q := by omega
  have ham : a < m := by omega
  have HA := Lib.hid ha
  have HM := Lib.hid hm
  have HQ := Lib.hid hq
  have HN := Lib.hid hn
  have hone : ((m : Int) - (a : Int) == 1) = true := by simp; omega
  have e1 : (m : Int) - (a : Int) = 1 := by omega
  clear ha hm hq hn
  go_enter Try.func34, Try.ntmps34
  go_wp2_with fail
  go_loopw [10, 11, 12] (fun i j _ wr => ∃ (ii jj : Nat), i = .int .i64 ii ∧ j = .int .i64 jj ∧ m ≤ ii ∧ ii ≤ jj ∧ jj ≤ q ∧ Hid (m < ii → ∀ y, V[ii - 1 - m]? = some y → lessL y x = true) ∧ Hid (∀ y, V[jj - m]? = some y → lessL y x = false) ∧ Hid (Sb w0 b e N F0 wr (A ++ (x :: (V ++ R))))) (fun i j _ _ => (intOf j).toNat - (intOf i).toNat)
  case atStart => exact ⟨m, q, by go_num, by go_num, by omega, by omega, by omega, Lib.hid (fun h => by omega), Lib.hid (fun y hy => by rw [List.getElem?_eq_none (by have := HQ.out; omega)] at hy; cases hy), Lib.hid h⟩
  case round =>
    obtain ⟨ii, jj, rfl, rfl, h1, h2, h3, K1, K2, HS⟩ := hrel
    by_cases hlt : ii < jj
    · obtain ⟨hh, hhh⟩ : ∃ hh : Nat, hh = (ii + jj) / 2 := ⟨_, rfl⟩
      have g1 : ii ≤ hh := by omega
      have g2 : hh < jj := by omega
      have hdiv : ((ii : Int) + (jj : Int)) / 2 = (hh : Int) := by omega
      have HH := Lib.hid hhh; clear hhh
      obtain ⟨z, hz⟩ : ∃ z, V[hh - m]? = some z := ⟨V[hh - m]'(by have := HQ.out; omega), List.getElem?_eq_getElem _⟩
      obtain ⟨V1, V2, hVV, hV1⟩ : ∃ V1 V2, V = V1 ++ z :: V2 ∧ V1.length = hh - m := by
        obtain ⟨hlt, he⟩ := List.getElem?_eq_some_iff.1 hz
        exact ⟨V.take (hh - m), V.drop (hh - m + 1), by rw [← he, ← List.drop_eq_getElem_cons, List.take_append_drop], by rw [List.length_take]; omega⟩
      have HZ := Lib.hid hz; clear hz
      have k1 : Sb w0 b e N F0 wr ((A ++ x :: V1) ++ (z :: (V2 ++ R))) := HS.out.eq (by rw [hVV]; simp)
      have lZ : (A ++ x :: V1).length = hh := by have := HA.out; have := HM.out; simp; omega
      obtain ⟨a1, c1, x0, x1, rx⟩ := HS.out.at
      obtain ⟨a2, c2, z0, z1, rz⟩ := k1.at
      rw [lZ] at z0 z1
      rw [← HA.out] at x0 x1
      have HRX := Lib.hid rx; have HRZ := Lib.hid rz
      have hsz := k1.touch.size
      have lb : b < wr.heap.size := k1.blk.unf.lt
      clear rx rz k1 lZ hVV hV1
      have hi1 : (0 : Int) ≤ (a : Int) := by omega
      have hi2 : (a : Int) < (n : Int) := by omega
      have hi3 : (0 : Int) ≤ (hh : Int) := by omega
      have hi4 : (hh : Int) < (n : Int) := by omega
      obtain ⟨cc, hcc⟩ : ∃ c, cmpL z x = c := ⟨_, rfl⟩
      have HCC := Lib.hid hcc; clear hcc
      by_cases hl : cc < 0
      · go_wp2_with fail
        go_region_held3 (fun w' => (∀ b o, b < wr.heap.size → w'.cell? ⟨b, o, none⟩ = wr.cell? ⟨b, o, none⟩) ∧ Below (wr.heap.size) wr w') (first | exact ⟨fun _ _ _ => rfl, (Below.refl _ _).drew⟩ | exact keep_step (by assumption) (Below.drew (Below.refl _ _)) (Nat.le_refl _) | exact keep_step (by assumption) (by assumption) (by first | omega | (simp only [World.size_drew]; omega) | (simp only [size_alloc]; omega) | (simp only [World.size_drew, size_alloc]; omega) | (have := (‹(_ ∧ Below (wr.heap.size) wr _)›).2.size; first | omega | (simp only [World.size_drew]; omega) | (simp only [size_alloc]; omega) | (simp only [World.size_drew, size_alloc]; omega) | (simp only [World.size_drew] at this; omega) | (simp only [size_alloc] at this; omega) | (simp only [World.size_drew, size_alloc] at this; omega))) | exact keep_step (by assumption) (below1 _ _) (by first | omega | (simp only [World.size_drew]; omega) | (simp only [size_alloc]; omega) | (simp only [World.size_drew, size_alloc]; omega) | (have := (‹(_ ∧ Below (wr.heap.size) wr _)›).2.size; first | omega | (simp only [World.size_drew]; omega) | (simp only [size_alloc]; omega) | (simp only [World.size_drew, size_alloc]; omega) | (simp only [World.size_drew] at this; omega) | (simp only [size_alloc] at this; omega) | (simp only [World.size_drew, size_alloc] at this; omega)))) (first | (go_at_call 17; refine (impl_compareLosses z x _ _ _ _ w0.heap.size _ (HRZ.out.below EStep.loc (‹_ ∧ Below (wr.heap.size) wr _›).2 hsz) (HRX.out.below EStep.loc (‹_ ∧ Below (wr.heap.size) wr _›).2 hsz) (by have := (‹_ ∧ Below (wr.heap.size) wr _›).2.size; omega)).mono ?_; rintro ee w3 ⟨rfl, hb⟩; rw [HCC.out]))
        have HB := Lib.hid (‹_ ∧ Below (wr.heap.size) wr _›).2
        rename _ ∧ Below wr.heap.size wr w3 => hHeld
        clear hHeld hb
        go_wp2_with fail
        go_roundw
        case rel => exact ⟨hh + 1, jj, by go_num, by go_num, by omega, by omega, by omega, Lib.hid (fun _ y hy => by rw [Nat.add_sub_cancel, HZ.out] at hy; injection hy with hy; subst hy; rw [← cmpL_less, HCC.out]; simpa using hl), K2, Lib.hid (HS.out.below HB.out)⟩
        case measure => simp [intOf]; omega
      · go_wp2_with fail
        go_region_held3 (fun w' => (∀ b o, b < wr.heap.size → w'.cell? ⟨b, o, none⟩ = wr.cell? ⟨b, o, none⟩) ∧ Below (wr.heap.size) wr w') (first | exact ⟨fun _ _ _ => rfl, (Below.refl _ _).drew⟩ | exact keep_step (by assumption) (Below.drew (Below.refl _ _)) (Nat.le_refl _) | exact keep_step (by assumption) (by assumption) (by first | omega | (simp only [World.size_drew]; omega) | (simp only [size_alloc]; omega) | (simp only [World.size_drew, size_alloc]; omega) | (have := (‹(_ ∧ Below (wr.heap.size) wr _)›).2.size; first | omega | (simp only [World.size_drew]; omega) | (simp only [size_alloc]; omega) | (simp only [World.size_drew, size_alloc]; omega) | (simp only [World.size_drew] at this; omega) | (simp only [size_alloc] at this; omega) | (simp only [World.size_drew, size_alloc] at this; omega))) | exact keep_step (by assumption) (below1 _ _) (by first | omega | (simp only [World.size_drew]; omega) | (simp only [size_alloc]; omega) | (simp only [World.size_drew, size_alloc]; omega) | (have := (‹(_ ∧ Below (wr.heap.size) wr _)›).2.size; first | omega | (simp only [World.size_drew]; omega) | (simp only [size_alloc]; omega) | (simp only [World.size_drew, size_alloc]; omega) | (simp only [World.size_drew] at this; omega) | (simp only [size_alloc] at this; omega) | (simp only [World.size_drew, size_alloc] at this; omega)))) (first | (go_at_call 17; refine (impl_compareLosses z x _ _ _ _ w0.heap.size _ (HRZ.out.below EStep.loc (‹_ ∧ Below (wr.heap.size) wr _›).2 hsz) (HRX.out.below EStep.loc (‹_ ∧ Below (wr.heap.size) wr _›).2 hsz) (by have := (‹_ ∧ Below (wr.heap.size) wr _›).2.size; omega)).mono ?_; rintro ee w3 ⟨rfl, hb⟩; rw [HCC.out]))
        have HB := Lib.hid (‹_ ∧ Below (wr.heap.size) wr _›).2
        rename _ ∧ Below wr.heap.size wr w3 => hHeld
        clear hHeld hb
        go_wp2_with fail
        go_roundw
        case rel => exact ⟨ii, hh, by go_num, by go_num, by omega, by omega, by omega, K1, Lib.hid (fun y hy => by rw [HZ.out] at hy; injection hy with hy; subst hy; rw [← cmpL_less, HCC.out]; simpa using hl), Lib.hid (HS.out.below HB.out)⟩
        case measure => simp [intOf]; omega
    · have hij : jj = ii := by omega
      subst hij
      have hi1 : jj - m ≤ V.length := by have := HQ.out; omega
      obtain ⟨V1, V2, hVV, hV1⟩ : ∃ V1 V2, V = V1 ++ V2 ∧ V1.length = jj - m := ⟨V.take (jj - m), V.drop (jj - m), (List.take_append_drop ..).symm, by rw [List.length_take]; omega⟩
      have HSO : Hid (Sorted (V1 ++ x :: V2)) := by
        refine Lib.hid (sorted_put (by rw [← hVV]; exact hV) ?_ ?_)
        · intro y hy
          rw [List.getLast?_eq_getElem?] at hy
          have hl := (List.getElem?_eq_some_iff.1 hy).1
          refine leL_of_less (K1.out (by omega) y ?_)
          rw [hVV, List.getElem?_append_left (by omega), ← hy]; congr 1; omega
        · intro y hy
          have hs2 : Sorted V2 := by have := hV; rw [hVV] at this; exact (List.pairwise_append.1 this).2.1
          cases V2 with
          | nil => cases hy
          | cons z V2 =>
            refine leL_trans ?_ (sorted_cons hs2 y hy)
            exact K2.out z (by rw [hVV, List.getElem?_append_right (by omega)]; simp [hV1])
      have HPm : Hid ((V1 ++ x :: V2).Perm (x :: V)) := Lib.hid (by rw [hVV]; exact List.perm_middle)
      have HS2 : Hid (Sb w0 b e N F0 wr (A ++ (x :: (V1 ++ (V2 ++ R))))) := Lib.hid (HS.out.eq (by rw [hVV]; simp))
      have HV1 := Lib.hid hV1
      have hjn : jj ≤ n := by omega
      have hj1 : 1 ≤ jj := by omega
      have haj : a + 1 ≤ jj := by omega
      clear hVV hV1 hi1 K1 K2 HS h1 h2 hlt hV
      go_wp2_with fail
      go_loopw [13] (fun kv wr => ∃ (kk : Nat), kv = .int .i64 kk ∧ a ≤ kk ∧ kk + 1 ≤ jj ∧ Hid (Sb w0 b e N F0 wr (A ++ (V1.take (kk - a) ++ (x :: (V1.drop (kk - a) ++ (V2 ++ R))))))) (fun kv _ => jj - (intOf kv).toNat)
      case atStart => exact ⟨a, by go_num, by omega, by omega, Lib.hid (by rw [Nat.sub_self]; exact HS2.out)⟩
      case round =>
        clear HS2
        obtain ⟨kk, rfl, h1, h2, HS⟩ := hrel
        by_cases hlt : kk + 1 < jj
        · have hk : (kk : Int) < (jj : Int) - 1 := by omega
          have hkv : kk - a < V1.length := by have := HV1.out; have := HM.out; omega
          obtain ⟨k1, hk1⟩ : ∃ k1 : Nat, k1 = kk + 1 := ⟨_, rfl⟩
          have hwr : IntKind.i64.wrap ((kk : Int) + 1) = (k1 : Int) := by rw [show (kk : Int) + 1 = (k1 : Int) from by omega]; rw [Go.IntWalk.i64_left]; exact Go.IntWalk.wrap64_in _ ⟨by omega, by omega⟩
          obtain ⟨y, hy⟩ : ∃ y, V1[kk - a]'hkv = y := ⟨_, rfl⟩
          have k0 : Sb w0 b e N F0 wr ((A ++ V1.take (kk - a)) ++ (x :: ([] ++ (y :: (V1.drop (kk - a + 1) ++ (V2 ++ R)))))) := HS.out.eq (by rw [List.drop_eq_getElem_cons hkv, hy]; simp)
          have k2 : Sb w0 b e N F0 wr (((A ++ V1.take (kk - a)) ++ [x]) ++ (y :: (V1.drop (kk - a + 1) ++ (V2 ++ R)))) := k0.eq (by simp)
          have lA : (A ++ V1.take (kk - a)).length = kk := by have := HA.out; rw [List.length_append, List.length_take]; omega
          obtain ⟨a1, c1, x0, x1, _⟩ := k0.at
          obtain ⟨a2, c2, y0, y1, _⟩ := k2.at
          rw [List.length_append, lA] at y0 y1
          rw [lA] at x0 x1
          simp only [List.length_singleton] at y0 y1
          rw [← hk1] at y0 y1
          have hf := fun i => k0.blk.frozen i
          have HS4 := Lib.hid ((k0.swapF (o1 := kk * 2) (o2 := k1 * 2) (by rw [lA]) (by rw [lA]; simp only [List.length_nil]; omega) x0 x1 y0 y1).below (Below.refl _ _).drew)
          have hT : V1.take (k1 - a) = V1.take (kk - a) ++ [y] := by rw [← hy, show k1 - a = kk - a + 1 from by omega]; exact take_snoc _ _ hkv
          have HT := Lib.hid hT
          have HK1 := Lib.hid hk1
          have hi1 : (0 : Int) ≤ (kk : Int) := by omega
          have hi2 : (kk : Int) < (n : Int) := by omega
          have hi3 : (0 : Int) ≤ (k1 : Int) := by omega
          have hi4 : (k1 : Int) < (n : Int) := by omega
          have n1 : ¬ (k1 * 2 = kk * 2) := by omega
          have n2 : ¬ (k1 * 2 + 1 = kk * 2) := by omega
          have n3 : ¬ (k1 * 2 = kk * 2 + 1) := by omega
          have n4 : ¬ (k1 * 2 + 1 = kk * 2 + 1) := by omega
          clear k0 k2 hT hk1 HS
          go_wp2_with fail
          go_region
          generalize hG : World.drew _ = w5
          have HS5 : Hid (Sb w0 b e N F0 w5 ((A ++ V1.take (kk - a)) ++ (y :: ([] ++ (x :: (V1.drop (kk - a + 1) ++ (V2 ++ R))))))) := by rw [← hG]; exact HS4
          clear HS4 hG hf x0 x1 y0 y1
          go_wp2_with fail
          have hk1 := HK1.out
          refine ⟨⟨k1, by go_num, by omega, by omega, Lib.hid (HS5.out.eq ?_)⟩, by simp [intOf]; omega⟩
          rw [HT.out, show k1 - a = kk - a + 1 from by omega]; simp
        · have hkj : kk + 1 = jj := by omega
          have HS5 : Hid (Sb w0 b e N F0 wr (A ++ ((V1 ++ x :: V2) ++ R))) := Lib.hid (HS.out.eq (by
            rw [List.take_of_length_le (by have := HV1.out; have := HM.out; omega), List.drop_of_length_le (by have := HV1.out; have := HM.out; omega)]; simp))
          have hk : ¬ ((kk : Int) < (jj : Int) - 1) := by omega
          clear HS hlt hkj
          go_wp2_with fail
          refine bodyPost_ret (results_none rfl _ _ _) rfl ?_
          exact ⟨rfl, _, HPm.out, HSO.out, HS5.out⟩
variable {w0 : World} {b : Nat} {e : TypeId} {N : Nat} {F0 : List Nat}
set_option maxHeartbeats 8000000 in
theorem symOneR (A U R : List Lo) (y : Lo) (hU : Sorted U) (a m q : Nat) (ha : a = A.length) (hm : m = a + U.length) (hq : q = m + 1) (hUn : 1 < U.length) (n cap : Nat) (w : World) (hn : n = q + R.length) (hc : n ≤ cap) (hcap : n ≤ 4611686018427387903)
    (h : Sb w0 b e N F0 w (A ++ (U ++ (y :: R)))) :
    Calls Try.prog 34 #[.slice (some ⟨b, 0, none⟩) n cap, .int .i64 a, .int .i64 m, .int .i64 q, .func (.func 17) #[] #[]] w fun ee w' => ee = .returned (.tuple #[]) ∧ ∃ S', S'.Perm (U ++ [y]) ∧ Sorted S' ∧ Sb w0 b e N F0 w' (A ++ (S' ++ R)) := by
  have hqn : q ≤ n := by omega
  have hmq : m < q := by omega
  have ham : a < m := by omega
  have HA := Lib.hid ha
  have HM := Lib.hid hm
  have HQ := Lib.hid hq
  have HN := Lib.hid hn
  have hone : ((m : Int) - (a : Int) == 1) = false := by rw [beq_eq_false_iff_ne]; omega
  have e1 : ¬ ((m : Int) - (a : Int) = 1) := by omega
  have hone2 : ((q : Int) - (m : Int) == 1) = true := by simp; omega
  have e2 : (q : Int) - (m : Int) = 1 := by omega
  clear ha hm hq hn
  go_enter Try.func34, Try.ntmps34
  go_wp2_with fail
  go_loopw [14, 15, 16] (fun i j _ wr => ∃ (ii jj : Nat), i = .int .i64 ii ∧ j = .int .i64 jj ∧ a ≤ ii ∧ ii ≤ jj ∧ jj ≤ m ∧ Hid (a < ii → ∀ z, U[ii - 1 - a]? = some z → lessL y z = false) ∧ Hid (∀ z, U[jj - a]? = some z → lessL y z = true) ∧ Hid (Sb w0 b e N F0 wr (A ++ (U ++ (y :: R))))) (fun i j _ _ => (intOf j).toNat - (intOf i).toNat)
  case atStart => exact ⟨a, m, by go_num, by go_num, by omega, by omega, by omega, Lib.hid (fun h => by omega), Lib.hid (fun y hy => by rw [List.getElem?_eq_none (by have := HM.out; omega)] at hy; cases hy), Lib.hid h⟩
  case round =>
    obtain ⟨ii, jj, rfl, rfl, h1, h2, h3, K1, K2, HS⟩ := hrel
    by_cases hlt : ii < jj
    · obtain ⟨hh, hhh⟩ : ∃ hh : Nat, hh = (ii + jj) / 2 := ⟨_, rfl⟩
      have g1 : ii ≤ hh := by omega
      have g2 : hh < jj := by omega
      have hdiv : ((ii : Int) + (jj : Int)) / 2 = (hh : Int) := by omega
      have HH := Lib.hid hhh; clear hhh
      obtain ⟨z, hz⟩ : ∃ z, U[hh - a]? = some z := ⟨U[hh - a]'(by have := HM.out; omega), List.getElem?_eq_getElem _⟩
      obtain ⟨V1, V2, hVV, hV1⟩ : ∃ V1 V2, U = V1 ++ z :: V2 ∧ V1.length = hh - a := by
        obtain ⟨hlt, he⟩ := List.getElem?_eq_some_iff.1 hz
        exact ⟨U.take (hh - a), U.drop (hh - a + 1), by rw [← he, ← List.drop_eq_getElem_cons, List.take_append_drop], by rw [List.length_take]; omega⟩
      have HZ := Lib.hid hz; clear hz
      have k1 : Sb w0 b e N F0 wr ((A ++ V1) ++ (z :: (V2 ++ (y :: R)))) := HS.out.eq (by rw [hVV]; simp)
      have k2 : Sb w0 b e N F0 wr ((A ++ U) ++ (y :: R)) := HS.out.eq (by simp)
      have lZ : (A ++ V1).length = hh := by have := HA.out; have := HM.out; simp; omega
      have lM : (A ++ U).length = m := by have := HA.out; have := HM.out; simp; omega
      obtain ⟨a1, c1, x0, x1, rx⟩ := k2.at
      obtain ⟨a2, c2, z0, z1, rz⟩ := k1.at
      rw [lZ] at z0 z1
      rw [lM] at x0 x1
      have HRX := Lib.hid rx; have HRZ := Lib.hid rz
      have hsz := k1.touch.size
      have lb : b < wr.heap.size := k1.blk.unf.lt
      clear rx rz k1 k2 lZ lM hVV hV1
      have hi1 : (0 : Int) ≤ (m : Int) := by omega
      have hi2 : (m : Int) < (n : Int) := by omega
      have hi3 : (0 : Int) ≤ (hh : Int) := by omega
      have hi4 : (hh : Int) < (n : Int) := by omega
      obtain ⟨cc, hcc⟩ : ∃ c, cmpL y z = c := ⟨_, rfl⟩
      have HCC := Lib.hid hcc; clear hcc
      by_cases hl : cc < 0
      · have hl0 : (decide (cc < 0)) = true := by simpa using hl
        go_wp2_with fail
        go_region_held3 (fun w' => (∀ b o, b < wr.heap.size → w'.cell? ⟨b, o, none⟩ = wr.cell? ⟨b, o, none⟩) ∧ Below (wr.heap.size) wr w') (first | exact ⟨fun _ _ _ => rfl, (Below.refl _ _).drew⟩ | exact keep_step (by assumption) (Below.drew (Below.refl _ _)) (Nat.le_refl _) | exact keep_step (by assumption) (by assumption) (by first | omega | (simp only [World.size_drew]; omega) | (simp only [size_alloc]; omega) | (simp only [World.size_drew, size_alloc]; omega) | (have := (‹(_ ∧ Below (wr.heap.size) wr _)›).2.size; first | omega | (simp only [World.size_drew]; omega) | (simp only [size_alloc]; omega) | (simp only [World.size_drew, size_alloc]; omega) | (simp only [World.size_drew] at this; omega) | (simp only [size_alloc] at this; omega) | (simp only [World.size_drew, size_alloc] at this; omega))) | exact keep_step (by assumption) (below1 _ _) (by first | omega | (simp only [World.size_drew]; omega) | (simp only [size_alloc]; omega) | (simp only [World.size_drew, size_alloc]; omega) | (have := (‹(_ ∧ Below (wr.heap.size) wr _)›).2.size; first | omega | (simp only [World.size_drew]; omega) | (simp only [size_alloc]; omega) | (simp only [World.size_drew, size_alloc]; omega) | (simp only [World.size_drew] at this; omega) | (simp only [size_alloc] at this; omega) | (simp only [World.size_drew, size_alloc] at this; omega)))) (first | (go_at_call 17; refine (impl_compareLosses y z _ _ _ _ w0.heap.size _ (HRX.out.below EStep.loc (‹_ ∧ Below (wr.heap.size) wr _›).2 hsz) (HRZ.out.below EStep.loc (‹_ ∧ Below (wr.heap.size) wr _›).2 hsz) (by have := (‹_ ∧ Below (wr.heap.size) wr _›).2.size; omega)).mono ?_; rintro ee w3 ⟨rfl, hb⟩; rw [HCC.out]))
        have HB := Lib.hid (‹_ ∧ Below (wr.heap.size) wr _›).2
        rename _ ∧ Below wr.heap.size wr w3 => hHeld
        clear hHeld hb
        go_wp2_with fail
        refine ⟨⟨ii, hh, by go_num, by go_num, by omega, by omega, by omega, K1, Lib.hid (fun y hy => by rw [HZ.out] at hy; injection hy with hy; subst hy; rw [← cmpL_less, HCC.out]; simpa using hl), Lib.hid (HS.out.below HB.out)⟩, ?_⟩
        simp [intOf]; omega
      · have hl0 : (decide (cc < 0)) = false := by simpa using hl
        go_wp2_with fail
        go_region_held3 (fun w' => (∀ b o, b < wr.heap.size → w'.cell? ⟨b, o, none⟩ = wr.cell? ⟨b, o, none⟩) ∧ Below (wr.heap.size) wr w') (first | exact ⟨fun _ _ _ => rfl, (Below.refl _ _).drew⟩ | exact keep_step (by assumption) (Below.drew (Below.refl _ _)) (Nat.le_refl _) | exact keep_step (by assumption) (by assumption) (by first | omega | (simp only [World.size_drew]; omega) | (simp only [size_alloc]; omega) | (simp only [World.size_drew, size_alloc]; omega) | (have := (‹(_ ∧ Below (wr.heap.size) wr _)›).2.size; first | omega | (simp only [World.size_drew]; omega) | (simp only [size_alloc]; omega) | (simp only [World.size_drew, size_alloc]; omega) | (simp only [World.size_drew] at this; omega) | (simp only [size_alloc] at this; omega) | (simp only [World.size_drew, size_alloc] at this; omega))) | exact keep_step (by assumption) (below1 _ _) (by first | omega | (simp only [World.size_drew]; omega) | (simp only [size_alloc]; omega) | (simp only [World.size_drew, size_alloc]; omega) | (have := (‹(_ ∧ Below (wr.heap.size) wr _)›).2.size; first | omega | (simp only [World.size_drew]; omega) | (simp only [size_alloc]; omega) | (simp only [World.size_drew, size_alloc]; omega) | (simp only [World.size_drew] at this; omega) | (simp only [size_alloc] at this; omega) | (simp only [World.size_drew, size_alloc] at this; omega)))) (first | (go_at_call 17; refine (impl_compareLosses y z _ _ _ _ w0.heap.size _ (HRX.out.below EStep.loc (‹_ ∧ Below (wr.heap.size) wr _›).2 hsz) (HRZ.out.below EStep.loc (‹_ ∧ Below (wr.heap.size) wr _›).2 hsz) (by have := (‹_ ∧ Below (wr.heap.size) wr _›).2.size; omega)).mono ?_; rintro ee w3 ⟨rfl, hb⟩; rw [HCC.out]))
        have HB := Lib.hid (‹_ ∧ Below (wr.heap.size) wr _›).2
        rename _ ∧ Below wr.heap.size wr w3 => hHeld
        clear hHeld hb
        go_wp2_with fail
        go_roundw
        case rel => exact ⟨hh + 1, jj, by go_num, by go_num, by omega, by omega, by omega, Lib.hid (fun _ y hy => by rw [Nat.add_sub_cancel, HZ.out] at hy; injection hy with hy; subst hy; rw [← cmpL_less, HCC.out]; simpa using hl), K2, Lib.hid (HS.out.below HB.out)⟩
        case measure => simp [intOf]; omega
    · have hij : jj = ii := by omega
      subst hij
      have hi1 : jj - a ≤ U.length := by have := HM.out; omega
      obtain ⟨U1, U2, hUU, hU1⟩ : ∃ U1 U2, U = U1 ++ U2 ∧ U1.length = jj - a := ⟨U.take (jj - a), U.drop (jj - a), (List.take_append_drop ..).symm, by rw [List.length_take]; omega⟩
      have HSO : Hid (Sorted (U1 ++ y :: U2)) := by
        refine Lib.hid (sorted_put (by rw [← hUU]; exact hU) ?_ ?_)
        · intro z hz
          rw [List.getLast?_eq_getElem?] at hz
          have hl := (List.getElem?_eq_some_iff.1 hz).1
          refine K1.out (by omega) z ?_
          rw [hUU, List.getElem?_append_left (by omega), ← hz]; congr 1; omega
        · intro z hz
          have hs2 : Sorted U2 := by have := hU; rw [hUU] at this; exact (List.pairwise_append.1 this).2.1
          cases U2 with
          | nil => cases hz
          | cons t U2 =>
            refine leL_trans ?_ (sorted_cons hs2 z hz)
            exact leL_of_less (K2.out t (by rw [hUU, List.getElem?_append_right (by omega)]; simp [hU1]))
      have HPm : Hid ((U1 ++ y :: U2).Perm (U ++ [y])) := Lib.hid (by rw [hUU]; refine List.perm_iff_count.2 (fun z => ?_); simp only [List.count_append, List.count_cons, List.count_nil]; omega)
      have HUT : Hid (U.take (jj - a) = U1 ∧ U.drop (jj - a) = U2) := Lib.hid (by rw [hUU, ← hU1]; simp)
      clear hUU hU1 hi1 K1 K2 hU
      go_wp2_with fail
      go_loopw [17] (fun kv wr => ∃ (kk : Nat), kv = .int .i64 kk ∧ jj ≤ kk ∧ kk ≤ m ∧ Hid (Sb w0 b e N F0 wr (A ++ (U.take (kk - a) ++ (y :: (U.drop (kk - a) ++ R)))))) (fun kv _ => (intOf kv).toNat)
      case atStart => exact ⟨m, by go_num, by omega, by omega, Lib.hid (HS.out.eq (by rw [List.take_of_length_le (by have := HM.out; omega), List.drop_of_length_le (by have := HM.out; omega)]; simp))⟩
      case round =>
        clear HS
        obtain ⟨kk, rfl, h4, h5, HS⟩ := hrel
        by_cases hlt : jj < kk
        · have hkv : kk - 1 - a < U.length := by have := HM.out; omega
          obtain ⟨k1, hk1⟩ : ∃ k1 : Nat, kk = k1 + 1 := ⟨kk - 1, by omega⟩
          have hkv : k1 - a < U.length := by have := HM.out; omega
          have hwr : IntKind.i64.wrap ((kk : Int) - 1) = (k1 : Int) := by rw [show (kk : Int) - 1 = (k1 : Int) from by omega]; rw [Go.IntWalk.i64_left]; exact Go.IntWalk.wrap64_in _ ⟨by omega, by omega⟩
          obtain ⟨z, hz⟩ : ∃ z, U[k1 - a]'hkv = z := ⟨_, rfl⟩
          have hT : U.take (kk - a) = U.take (k1 - a) ++ [z] := by rw [← hz, show kk - a = k1 - a + 1 from by omega]; exact take_snoc _ _ hkv
          have hD : U.drop (k1 - a) = z :: U.drop (kk - a) := by rw [List.drop_eq_getElem_cons hkv, hz, show kk - a = k1 - a + 1 from by omega]
          have k0 : Sb w0 b e N F0 wr ((A ++ U.take (k1 - a)) ++ (z :: ([] ++ (y :: (U.drop (kk - a) ++ R))))) := HS.out.eq (by rw [hT]; simp)
          have k2 : Sb w0 b e N F0 wr (((A ++ U.take (k1 - a)) ++ [z]) ++ (y :: (U.drop (kk - a) ++ R))) := k0.eq (by simp)
          have lA : (A ++ U.take (k1 - a)).length = k1 := by have := HA.out; rw [List.length_append, List.length_take]; omega
          obtain ⟨a1, c1, x0, x1, _⟩ := k0.at
          obtain ⟨a2, c2, y0, y1, _⟩ := k2.at
          rw [List.length_append, lA] at y0 y1
          rw [lA] at x0 x1
          simp only [List.length_singleton] at y0 y1
          rw [← hk1] at y0 y1
          have hf := fun i => k0.blk.frozen i
          have HS4 := Lib.hid ((k0.swapB (o1 := k1 * 2) (o2 := kk * 2) (by rw [lA]) (by rw [lA]; simp only [List.length_nil]; omega) x0 x1 y0 y1).below (Below.refl _ _).drew)
          have HD := Lib.hid hD
          have HK1 := Lib.hid hk1
          have hi1 : (0 : Int) ≤ (kk : Int) := by omega
          have hi2 : (kk : Int) < (n : Int) := by omega
          have hi3 : (0 : Int) ≤ (k1 : Int) := by omega
          have hi4 : (k1 : Int) < (n : Int) := by omega
          have n0 : k1 < kk := by omega
          have n1 : ¬ (kk * 2 = k1 * 2) := by omega
          have n2 : ¬ (kk * 2 + 1 = k1 * 2) := by omega
          have n3 : ¬ (kk * 2 = k1 * 2 + 1) := by omega
          have n4 : ¬ (kk * 2 + 1 = k1 * 2 + 1) := by omega
          clear k0 k2 hT hD hk1 HS
          go_wp2_with fail
          go_region
          generalize hG : World.drew _ = w5
          have HS5 : Hid (Sb w0 b e N F0 w5 ((A ++ U.take (k1 - a)) ++ (y :: ([] ++ (z :: (U.drop (kk - a) ++ R)))))) := by rw [← hG]; exact HS4
          clear HS4 hG hf x0 x1 y0 y1
          go_wp2_with fail
          have hk1 := HK1.out
          exact ⟨⟨k1, by go_num, by omega, by omega, Lib.hid (HS5.out.eq (by rw [HD.out]; simp))⟩, by simp [intOf]; omega⟩
        · have hkj : kk = jj := by omega
          subst hkj
          have HS5 : Hid (Sb w0 b e N F0 wr (A ++ ((U1 ++ y :: U2) ++ R))) := Lib.hid (HS.out.eq (by rw [HUT.out.1, HUT.out.2]; simp))
          clear HS
          go_wp2_with fail
          refine bodyPost_ret (results_none rfl _ _ _) rfl ?_
          exact ⟨rfl, _, HPm.out, HSO.out, HS5.out⟩
end Go.Proofs.Ytmajklgjmghjlaa
