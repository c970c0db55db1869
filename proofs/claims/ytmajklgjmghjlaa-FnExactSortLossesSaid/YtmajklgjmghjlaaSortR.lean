/- Contracts and lemmas for the proofs of this seat: SortR. No condition beyond those stated. -/
import Derived.Test.YtmajklgjmghjlaaRows
import Derived.WalkKit
import Derived.ProofKit
import Derived.OpenShut
import Derived.Handy
import Derived.Lib.Hide
import Derived.Lib.SmallJoins
import Derived.Deep.RegionHeld3
import Derived.Deep.QuietTactic
import Derived.BigQuiet
import Derived.BigRegion
import Derived.Test.YtmajklgjmghjlaaBase
import Derived.Test.YtmajklgjmghjlaaGen
import Derived.Test.YtmajklgjmghjlaaKit
import Derived.Test.YtmajklgjmghjlaaMark
import Derived.Test.YtmajklgjmghjlaaPath1
import Derived.Test.YtmajklgjmghjlaaPath2
import Derived.Test.YtmajklgjmghjlaaSortP
import Derived.Test.YtmajklgjmghjlaaSortW
namespace Go.Proofs.Ytmajklgjmghjlaa
open Go.ChangeShapes Go.WideShapes Go.ChangeAt Go.RowKit Go.Joins
set_option linter.unusedVariables false
set_option maxRecDepth 100000
variable {w0 : World} {b : Nat} {e : TypeId} {N : Nat} {F0 : List Nat}
set_option maxHeartbeats 4000000 in
theorem swapRange (X U Y V Z : List Lo) (hUV : V.length = U.length) (n cap : Nat) (cmp : Value) (w : World) (hn : n = X.length + U.length + Y.length + V.length + Z.length) (hc : n ≤ cap) (hcap : n ≤ 4611686018427387903)
    (h : Sb w0 b e N F0 w (X ++ (U ++ (Y ++ (V ++ Z))))) :
    Calls Try.prog 38 #[.slice (some ⟨b, 0, none⟩) n cap, .int .i64 X.length, .int .i64 ((X.length + U.length + Y.length : Nat) : Int), .int .i64 U.length, cmp] w fun ee w' => ee = .returned (.tuple #[]) ∧ Sb w0 b e N F0 w' (X ++ (V ++ (Y ++ (U ++ Z)))) := by
  go_enter Try.func38, Try.ntmps38
  go_wp2_with fail
  go_loopw [10] (fun i wr => ∃ j : Nat, j ≤ U.length ∧ i = .int .i64 j ∧ Hid (Sb w0 b e N F0 wr (X ++ (V.take j ++ (U.drop j ++ (Y ++ (U.take j ++ (V.drop j ++ Z)))))))) (fun i _ => U.length - (intOf i).toNat)
  case atStart => exact ⟨0, Nat.zero_le _, rfl, Lib.hid (by simpa using h)⟩
  case round =>
    obtain ⟨j, hj, rfl, hb⟩ := hrel
    by_cases hlt : j < U.length
    · have hlv : j < V.length := by omega
      have hst : Sb w0 b e N F0 wr ((X ++ V.take j) ++ (U[j] :: ((U.drop (j + 1) ++ (Y ++ U.take j)) ++ (V[j] :: (V.drop (j + 1) ++ Z))))) := hb.out.eq (by
        rw [List.drop_eq_getElem_cons hlt, List.drop_eq_getElem_cons hlv]; simp only [List.append_assoc, List.cons_append])
      have lX : (X ++ V.take j).length = X.length + j := by simp; omega
      have lM : (U.drop (j + 1) ++ (Y ++ U.take j)).length = U.length + Y.length - 1 := by simp; omega
      obtain ⟨a1, c1, x0, x1, _⟩ := hst.at
      have hst2 : Sb w0 b e N F0 wr (((X ++ V.take j) ++ (U[j] :: (U.drop (j + 1) ++ (Y ++ U.take j)))) ++ (V[j] :: (V.drop (j + 1) ++ Z))) := hst.eq (by simp only [List.append_assoc, List.cons_append])
      obtain ⟨a2, c2, y0, y1, _⟩ := hst2.at
      have lY : ((X ++ V.take j) ++ (U[j] :: (U.drop (j + 1) ++ (Y ++ U.take j)))).length = X.length + U.length + Y.length + j := by simp; omega
      rw [lX] at x0 x1
      rw [lY] at y0 y1
      have hf := fun i => hst.blk.frozen i
      have HST := Lib.hid hst; clear hst hst2
      go_wp2_with fail
      have HS2 := Lib.hid ((HST.out.swapF (o1 := (X.length + j) * 2) (o2 := (X.length + U.length + Y.length + j) * 2) (by rw [lX]) (by rw [lX, lM]; omega) x0 x1 y0 y1).below (Below.refl _ _).drew)
      go_region
      generalize hG : World.drew _ = w2
      have HS3 : Hid (Sb w0 b e N F0 w2 ((X ++ V.take j) ++ (V[j] :: ((U.drop (j + 1) ++ (Y ++ U.take j)) ++ (U[j] :: (V.drop (j + 1) ++ Z)))))) := by rw [← hG]; exact HS2
      clear HS2 hG hf x0 x1 y0 y1 HST
      go_wp2_with fail
      go_roundw
      case rel => exact ⟨j + 1, by omega, by go_num, Lib.hid (HS3.out.eq (by rw [take_snoc _ j hlt, take_snoc _ j hlv]; simp only [List.append_assoc, List.cons_append, List.nil_append]))⟩
      case measure => simp [intOf]; omega
    · have hjj : j = U.length := by omega
      subst hjj
      have HS3 : Hid (Sb w0 b e N F0 wr (X ++ (V ++ (Y ++ (U ++ Z))))) := Lib.hid (hb.out.eq (by rw [← hUV]; simp; rw [hUV]; simp))
      clear hb
      go_wp2_with fail
      go_end0
      exact ⟨rfl, HS3.out⟩
theorem swapRangeA (X U Y V Z : List Lo) (p q r : Int) (hp : p = X.length) (hq : q = ((X.length + U.length + Y.length : Nat) : Int)) (hr : r = U.length) (hUV : V.length = U.length) (n cap : Nat) (cmp : Value) (w : World) (hn : n = X.length + U.length + Y.length + V.length + Z.length) (hc : n ≤ cap) (hcap : n ≤ 4611686018427387903)
    (h : Sb w0 b e N F0 w (X ++ (U ++ (Y ++ (V ++ Z))))) :
    Calls Try.prog 38 #[.slice (some ⟨b, 0, none⟩) n cap, .int .i64 p, .int .i64 q, .int .i64 r, cmp] w fun ee w' => ee = .returned (.tuple #[]) ∧ Sb w0 b e N F0 w' (X ++ (V ++ (Y ++ (U ++ Z)))) := by
  subst hp hq hr
  exact swapRange X U Y V Z hUV n cap cmp w hn hc hcap h
variable {w0 : World} {b : Nat} {e : TypeId} {N : Nat} {F0 : List Nat}
set_option maxHeartbeats 4000000 in
theorem rotate (X U V Z : List Lo) (hU : 0 < U.length) (hV : 0 < V.length) (pa pm pb : Int) (hpa : pa = X.length) (hpm : pm = ((X.length + U.length : Nat) : Int)) (hpb : pb = ((X.length + U.length + V.length : Nat) : Int)) (n cap : Nat) (cmp : Value) (w : World) (hn : n = X.length + U.length + V.length + Z.length) (hc : n ≤ cap) (hcap : n ≤ 4611686018427387903)
    (h : Sb w0 b e N F0 w (X ++ (U ++ (V ++ Z)))) :
    Calls Try.prog 37 #[.slice (some ⟨b, 0, none⟩) n cap, .int .i64 pa, .int .i64 pm, .int .i64 pb, cmp] w fun ee w' => ee = .returned (.tuple #[]) ∧ Sb w0 b e N F0 w' (X ++ (V ++ (U ++ Z))) := by
  obtain ⟨m, hm⟩ : ∃ m : Nat, m = X.length + U.length := ⟨_, rfl⟩
  obtain ⟨mb, hmb0⟩ : ∃ mb : Nat, mb = X.length + U.length + V.length := ⟨_, rfl⟩
  rw [← hm] at hpm
  rw [← hmb0] at hpb
  subst hpa hpm hpb
  have hmb2 : mb ≤ n := by omega
  have hmb3 : m ≤ mb := by omega
  have HMB := Lib.hid (show mb = m + V.length from by omega)
  have hmn : m + V.length + Z.length = n := by omega
  have hmb : m ≤ n := by omega
  have hvb : m + V.length ≤ n := by omega
  have hxb : X.length ≤ m := by omega
  have HM := Lib.hid hm
  have HMN := Lib.hid hmn
  have E1 : Hid ((m : Int) - X.length = U.length) := Lib.hid (by omega)
  clear hm hn hmn hmb0
  go_enter Try.func37, Try.ntmps37
  go_wp2_with fail
  go_loopw [10, 11] (fun i j wr => ∃ (X' U' V' Z' : List Lo), 0 < U'.length ∧ 0 < V'.length ∧ Hid (X'.length + U'.length = m) ∧ i = .int .i64 U'.length ∧ j = .int .i64 V'.length ∧ Hid (Sb w0 b e N F0 wr (X' ++ (U' ++ (V' ++ Z')))) ∧ Hid (X' ++ (V' ++ (U' ++ Z')) = X ++ (V ++ (U ++ Z))) ∧ Hid (m + V'.length + Z'.length = n)) (fun i j _ => (intOf i).toNat + (intOf j).toNat)
  case atStart => exact ⟨X, U, V, Z, hU, hV, Lib.hid HM.out.symm, by have := HM.out; first | rfl | go_num | (congr 1; omega), by have := HMB.out; first | rfl | (congr 1; omega), Lib.hid h, rfl, HMN⟩
  case round =>
    obtain ⟨X', U', V', Z', hU', hV', HM', rfl, rfl, HS, HT, HN'⟩ := hrel
    have hub : U'.length ≤ m := by have := HM'.out; omega
    have hvb' : m + V'.length ≤ n := by have := HN'.out; omega
    by_cases heq : U'.length = V'.length
    · have HEQ := Lib.hid heq
      go_wp2_with fail
      refine (swapRangeA X' U' [] V' Z' _ _ _ ?_ ?_ ?_ HEQ.out.symm n cap cmp _ ?_ hc hcap (HS.out.eq (by simp))).mono ?_
      · have := HM'.out; omega
      · have := HM'.out; simp only [List.length_nil]; omega
      · omega
      · have := HM'.out; have := HN'.out; simp only [List.length_nil]; omega
      · rintro ee w2 ⟨rfl, hs⟩
        have HS2 : Hid (Sb w0 b e N F0 w2 (X ++ (V ++ (U ++ Z)))) := Lib.hid (hs.eq (by rw [← HT.out]; simp))
        clear hs
        go_wp2_with fail
        go_end0
        exact ⟨rfl, HS2.out⟩
    · by_cases hgt : V'.length < U'.length
      · go_wp2_with fail
        obtain ⟨U1, U2, hUU, hU1⟩ : ∃ U1 U2, U' = U1 ++ U2 ∧ U1.length = V'.length := ⟨U'.take V'.length, U'.drop V'.length, (List.take_append_drop ..).symm, by rw [List.length_take]; omega⟩
        have hl : U'.length = U1.length + U2.length := by rw [hUU]; simp
        refine (swapRangeA X' U1 U2 V' Z' _ _ _ ?_ ?_ ?_ hU1.symm n cap cmp _ ?_ hc hcap (HS.out.eq (by rw [hUU]; simp))).mono ?_
        · have := HM'.out; omega
        · have := HM'.out; omega
        · omega
        · have := HM'.out; have := HN'.out; omega
        · rintro ee w2 ⟨rfl, hs⟩
          have HS2 : Hid (Sb w0 b e N F0 w2 ((X' ++ V') ++ (U2 ++ (U1 ++ Z')))) := Lib.hid (hs.eq (by simp))
          have HT2 : Hid ((X' ++ V') ++ (U1 ++ (U2 ++ Z')) = X ++ (V ++ (U ++ Z))) := Lib.hid (by rw [← HT.out, hUU]; simp)
          have HL := Lib.hid hl
          have HU1 := Lib.hid hU1
          clear hs hl hUU hU1
          go_wp2_with fail
          go_roundw
          case rel => exact ⟨X' ++ V', U2, U1, Z', by have := HL.out; have := HU1.out; omega, by have := HU1.out; omega, Lib.hid (by have := HL.out; have := HU1.out; have := HM'.out; rw [List.length_append]; omega), by have := HL.out; have := HU1.out; congr 1; omega, by rw [HU1.out], HS2, HT2, Lib.hid (by have := HN'.out; have := HU1.out; omega)⟩
          case measure => simp [intOf]; omega
      · go_wp2_with fail
        obtain ⟨V1, V2, hVV, hV2⟩ : ∃ V1 V2, V' = V1 ++ V2 ∧ V2.length = U'.length := ⟨V'.take (V'.length - U'.length), V'.drop (V'.length - U'.length), (List.take_append_drop ..).symm, by rw [List.length_drop]; omega⟩
        have hl : V'.length = V1.length + V2.length := by rw [hVV]; simp
        refine (swapRangeA X' U' V1 V2 Z' _ _ _ ?_ ?_ ?_ hV2 n cap cmp _ ?_ hc hcap (HS.out.eq (by rw [hVV]; simp))).mono ?_
        · have := HM'.out; omega
        · have := HM'.out; omega
        · omega
        · have := HM'.out; have := HN'.out; omega
        · rintro ee w2 ⟨rfl, hs⟩
          have HS2 : Hid (Sb w0 b e N F0 w2 (X' ++ (V2 ++ (V1 ++ (U' ++ Z'))))) := Lib.hid (hs.eq (by simp))
          have HT2 : Hid (X' ++ (V1 ++ (V2 ++ (U' ++ Z'))) = X ++ (V ++ (U ++ Z))) := Lib.hid (by rw [← HT.out, hVV]; simp)
          have HL := Lib.hid hl
          have HV2 := Lib.hid hV2
          clear hs hl hVV hV2
          go_wp2_with fail
          go_roundw
          case rel => exact ⟨X', V2, V1, U' ++ Z', by have := HV2.out; omega, by have := HL.out; have := HV2.out; omega, Lib.hid (by have := HL.out; have := HV2.out; have := HM'.out; omega), by rw [HV2.out], by have := HL.out; have := HV2.out; congr 1; omega, HS2, HT2, Lib.hid (by have := HL.out; have := HV2.out; have := HN'.out; rw [List.length_append]; omega)⟩
          case measure => simp [intOf]; omega
end Go.Proofs.Ytmajklgjmghjlaa
