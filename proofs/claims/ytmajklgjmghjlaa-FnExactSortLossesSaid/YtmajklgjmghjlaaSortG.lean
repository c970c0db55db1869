/- Contracts and lemmas for the proofs of this seat: SortG. No condition beyond those stated. -/
import Derived.Test.YtmajklgjmghjlaaRows
import Derived.WalkKit
import Derived.ProofKit
import Derived.OpenShut
import Derived.Handy
import Derived.Lib.Hide
import Derived.Lib.SmallJoins
import Derived.Deep.RegionHeld3
import Derived.Deep.QuietTactic
import Derived.BigQuiet
import Derived.BigRegion
import Derived.Deep.CutBlock
import Derived.Deep.DeepCutAuto
import Derived.Test.YtmajklgjmghjlaaBase
import Derived.Test.YtmajklgjmghjlaaGen
import Derived.Test.YtmajklgjmghjlaaKit
import Derived.Test.YtmajklgjmghjlaaMark
import Derived.Test.YtmajklgjmghjlaaPath1
import Derived.Test.YtmajklgjmghjlaaPath2
import Derived.Test.YtmajklgjmghjlaaSortP
import Derived.Test.YtmajklgjmghjlaaSortW
import Derived.Test.YtmajklgjmghjlaaSortR
import Derived.Test.YtmajklgjmghjlaaSortM
namespace Go.Proofs.Ytmajklgjmghjlaa
open Go.ChangeShapes Go.WideShapes Go.ChangeAt Go.RowKit Go.Joins
set_option linter.unusedVariables false
set_option maxRecDepth 100000
theorem rotateA {w0 : World} {b : Nat} {e : TypeId} {N : Nat} {F0 : List Nat} (L X U V Z : List Lo) (hL : L = X ++ (U ++ (V ++ Z))) (hU : 0 < U.length) (hV : 0 < V.length) (pa pm pb : Int) (hpa : pa = X.length) (hpm : pm = ((X.length + U.length : Nat) : Int)) (hpb : pb = ((X.length + U.length + V.length : Nat) : Int)) (n cap : Nat) (cmp : Value) (w : World) (hn : n = X.length + U.length + V.length + Z.length) (hc : n ≤ cap) (hcap : n ≤ 4611686018427387903)
    (h : Sb w0 b e N F0 w L) :
    Calls Try.prog 37 #[.slice (some ⟨b, 0, none⟩) n cap, .int .i64 pa, .int .i64 pm, .int .i64 pb, cmp] w fun ee w' => ee = .returned (.tuple #[]) ∧ Sb w0 b e N F0 w' (X ++ (V ++ (U ++ Z))) := by
  subst hL; exact rotate X U V Z hU hV pa pm pb hpa hpm hpb n cap cmp w hn hc hcap h
variable {w0 : World} {b : Nat} {e : TypeId} {N : Nat} {F0 : List Nat}
set_option maxHeartbeats 8000000 in
theorem symMerge : ∀ (k : Nat) (A U V R : List Lo), U.length + V.length ≤ k → Sorted U → Sorted V → ∀ (a m q : Nat), a = A.length → m = a + U.length → q = m + V.length → 0 < U.length → 0 < V.length → ∀ (n cap : Nat) (w : World), n = q + R.length → n ≤ cap → n ≤ 4611686018427387903 →
    Sb w0 b e N F0 w (A ++ (U ++ (V ++ R))) →
    Calls Try.prog 34 #[.slice (some ⟨b, 0, none⟩) n cap, .int .i64 a, .int .i64 m, .int .i64 q, .func (.func 17) #[] #[]] w fun ee w' => ee = .returned (.tuple #[]) ∧ ∃ S', S'.Perm (U ++ V) ∧ Sorted S' ∧ Sb w0 b e N F0 w' (A ++ (S' ++ R)) := by
  intro k
  induction k with
  | zero => intro A U V R hk _ _ a m q _ _ _ hU; omega
  | succ k IH =>
    intro A U V R hk hU hV a m q ha hm hq hUn hVn n cap w hn hc hcap h
    by_cases hu1 : U.length = 1
    · obtain ⟨x, rfl⟩ := List.length_eq_one_iff.1 hu1
      exact symOneL A V R x hV a m q ha (by simpa using hm) hq hVn n cap w hn hc hcap (h.eq (by simp))
    by_cases hv1 : V.length = 1
    · obtain ⟨y, rfl⟩ := List.length_eq_one_iff.1 hv1
      exact symOneR A U R y hU a m q ha hm (by simpa using hq) (by omega) n cap w hn hc hcap (h.eq (by simp))
    have IHH := Lib.hid IH; clear IH
    obtain ⟨mid, hmid⟩ : ∃ mid : Nat, mid = (a + q) / 2 := ⟨_, rfl⟩
    have hqn : q ≤ n := by omega
    have ham1 : ¬ ((m : Int) - (a : Int) = 1) := by omega
    have hqm1 : ¬ ((q : Int) - (m : Int) = 1) := by omega
    have hone : ((m : Int) - (a : Int) == 1) = false := by rw [beq_eq_false_iff_ne]; omega
    have hone2 : ((q : Int) - (m : Int) == 1) = false := by rw [beq_eq_false_iff_ne]; omega
    have hdiv : ((a : Int) + (q : Int)) / 2 = (mid : Int) := by omega
    have hmidq : mid < q := by omega
    have hamid : a < mid := by omega
    have hmq : m < q := by omega
    have ham : a < m := by omega
    have hnq : q ≤ mid + m ∨ mid < m ∨ m ≤ mid := by omega
    have HMID : Hid (mid = (a + q) / 2) := Lib.hid hmid
    have HA := Lib.hid ha
    have HM := Lib.hid hm
    have HQ := Lib.hid hq
    have HN := Lib.hid hn
    have HK := Lib.hid hk
    obtain ⟨s0, r0, hs0⟩ : ∃ s0 r0 : Nat, (mid < m ∧ s0 = mid + m - q ∧ r0 = mid) ∨ (m ≤ mid ∧ s0 = a ∧ r0 = m) := by
      by_cases hh : mid < m
      · exact ⟨_, _, Or.inl ⟨hh, rfl, rfl⟩⟩
      · exact ⟨_, _, Or.inr ⟨by omega, rfl, rfl⟩⟩
    have g1 : s0 ≤ r0 := by omega
    have g2 : a ≤ s0 := by omega
    have g3 : r0 ≤ m := by omega
    have g4 : r0 ≤ mid := by omega
    have g5 : mid + m ≤ q + s0 := by omega
    have HS0 := Lib.hid hs0
    clear hmid ha hm hq hn hk hnq hs0
    obtain ⟨L, hL⟩ : ∃ L, L = A ++ (U ++ (V ++ R)) := ⟨_, rfl⟩
    rw [← hL] at h
    have HL := Lib.hid hL
    have hLn : L.length = n := by have := HN.out; have := HQ.out; have := HM.out; have := HA.out; rw [hL]; simp only [List.length_append]; omega
    clear hL
    have HS := Lib.hid h; clear h
    have HU := Lib.hid hU; have HV := Lib.hid hV; clear hU hV
    go_enter Try.func34, Try.ntmps34
    go_upto_if 140 with (fail)
    go_cut [20, 21] (fun s r wx => s = .int .i64 (s0 : Int) ∧ r = .int .i64 (r0 : Int) ∧ wx = w)
    case first =>
      rcases HS0.out with ⟨h1, h2, h3⟩ | ⟨h1, h2, h3⟩
      · go_wp2_with fail
        go_meet
        case rel => exact ⟨by first | rfl | (congr 1; omega), by rw [h3], rfl⟩
      · go_wp2_with fail
        go_meet
        case rel => exact ⟨by rw [h2], by rw [h3], rfl⟩
    case rest =>
      obtain ⟨rfl, rfl, rfl⟩ := hcut
      rename World => wq
      go_upto_region 33 with (fail)
      obtain ⟨pp, hpp⟩ : ∃ pp : Nat, (mid : Int) + (m : Int) - 1 = (pp : Int) := ⟨mid + m - 1, by omega⟩
      rw [hpp]
      have HPP := Lib.hid hpp; clear hpp
      go_loopw [20, 21, 23] (fun sv rv _ wr => ∃ (st r : Nat), sv = .int .i64 st ∧ rv = .int .i64 r ∧ s0 ≤ st ∧ st ≤ r ∧ r ≤ r0 ∧ Hid (s0 < st → ∀ z y, L[mid + m - st]? = some z → L[st - 1]? = some y → lessL z y = false) ∧ Hid (r < r0 → ∀ z y, L[mid + m - 1 - r]? = some z → L[r]? = some y → lessL z y = true) ∧ Hid (Sb w0 b e N F0 wr L)) (fun sv rv _ _ => (intOf rv).toNat - (intOf sv).toNat)
      case atStart => exact ⟨s0, r0, rfl, rfl, Nat.le_refl _, g1, Nat.le_refl _, Lib.hid (fun h => by omega), Lib.hid (fun h => by omega), HS⟩
      case round =>
        clear HS
        obtain ⟨st, r, rfl, rfl, h1, h2, h3, K1, K2, HS⟩ := hrel
        by_cases hlt : st < r
        · as_aux_lemma =>
          obtain ⟨cc, hcc0⟩ : ∃ cc : Nat, cc = (st + r) / 2 := ⟨_, rfl⟩
          obtain ⟨pc, hpc⟩ : ∃ pc : Nat, pc = mid + m - 1 - cc := ⟨_, rfl⟩
          have c1 : st ≤ cc := by omega
          have c2 : cc < r := by omega
          have c3 : cc < n := by omega
          have c4 : pc < n := by omega
          have hdiv2 : ((st : Int) + (r : Int)) / 2 = (cc : Int) := by omega
          have hwr : IntKind.i64.wrap ((pp : Int) - (cc : Int)) = (pc : Int) := by rw [show (pp : Int) - (cc : Int) = (pc : Int) from by have := HPP.out; omega, Go.IntWalk.i64_left]; exact Go.IntWalk.wrap64_in _ ⟨by omega, by omega⟩
          have HPC := Lib.hid hpc
          clear hpc hcc0
          obtain ⟨z, hz⟩ : ∃ z, L[pc]'(by omega) = z := ⟨_, rfl⟩
          obtain ⟨y, hy⟩ : ∃ y, L[cc]'(by omega) = y := ⟨_, rfl⟩
          have HZ : Hid (L[pc]? = some z) := Lib.hid (by rw [List.getElem?_eq_getElem (by omega), hz])
          have HY : Hid (L[cc]? = some y) := Lib.hid (by rw [List.getElem?_eq_getElem (by omega), hy])
          obtain ⟨a1, e1, z0, z1, rz⟩ := HS.out.get pc (by omega)
          obtain ⟨a2, e2, y0, y1, ry⟩ := HS.out.get cc (by omega)
          rw [hz] at z0 z1 rz
          rw [hy] at y0 y1 ry
          have HRZ := Lib.hid rz; have HRY := Lib.hid ry
          have hsz := HS.out.touch.size
          have lb : b < wr.heap.size := HS.out.blk.unf.lt
          clear rz ry hz hy
          have hi1 : (0 : Int) ≤ (cc : Int) := by omega
          have hi2 : (cc : Int) < (n : Int) := by omega
          have hi3 : (0 : Int) ≤ (pc : Int) := by omega
          have hi4 : (pc : Int) < (n : Int) := by omega
          obtain ⟨ck, hck⟩ : ∃ c, cmpL z y = c := ⟨_, rfl⟩
          have HCC := Lib.hid hck; clear hck
          by_cases hl : ck < 0
          · have hl0 : (decide (ck < 0)) = true := by simpa using hl
            go_wp2_with fail
            go_region_held3 (fun w' => (∀ b o, b < wr.heap.size → w'.cell? ⟨b, o, none⟩ = wr.cell? ⟨b, o, none⟩) ∧ Below (wr.heap.size) wr w') (first | exact ⟨fun _ _ _ => rfl, (Below.refl _ _).drew⟩ | exact keep_step (by assumption) (Below.drew (Below.refl _ _)) (Nat.le_refl _) | exact keep_step (by assumption) (by assumption) (by first | omega | (simp only [World.size_drew]; omega) | (simp only [size_alloc]; omega) | (simp only [World.size_drew, size_alloc]; omega) | (have := (‹(_ ∧ Below (wr.heap.size) wr _)›).2.size; first | omega | (simp only [World.size_drew]; omega) | (simp only [size_alloc]; omega) | (simp only [World.size_drew, size_alloc]; omega) | (simp only [World.size_drew] at this; omega) | (simp only [size_alloc] at this; omega) | (simp only [World.size_drew, size_alloc] at this; omega))) | exact keep_step (by assumption) (below1 _ _) (by first | omega | (simp only [World.size_drew]; omega) | (simp only [size_alloc]; omega) | (simp only [World.size_drew, size_alloc]; omega) | (have := (‹(_ ∧ Below (wr.heap.size) wr _)›).2.size; first | omega | (simp only [World.size_drew]; omega) | (simp only [size_alloc]; omega) | (simp only [World.size_drew, size_alloc]; omega) | (simp only [World.size_drew] at this; omega) | (simp only [size_alloc] at this; omega) | (simp only [World.size_drew, size_alloc] at this; omega)))) (first | (go_at_call 17; refine (impl_compareLosses z y _ _ _ _ w0.heap.size _ (HRZ.out.below EStep.loc (‹_ ∧ Below (wr.heap.size) wr _›).2 hsz) (HRY.out.below EStep.loc (‹_ ∧ Below (wr.heap.size) wr _›).2 hsz) (by have := (‹_ ∧ Below (wr.heap.size) wr _›).2.size; omega)).mono ?_; rintro ee w3 ⟨rfl, hb⟩; rw [HCC.out]))
            have HB := Lib.hid (‹_ ∧ Below (wr.heap.size) wr _›).2
            rename _ ∧ Below wr.heap.size wr w3 => hHeld
            clear hHeld hb
            go_wp2_with fail
            refine ⟨⟨st, cc, by go_num, by go_num, by omega, by omega, by omega, K1, Lib.hid (fun _ z2 y2 hz2 hy2 => ?_), Lib.hid (HS.out.below HB.out)⟩, ?_⟩
            · rw [← HPC.out, HZ.out] at hz2; rw [HY.out] at hy2; injection hz2 with hz2; injection hy2 with hy2; subst hz2 hy2
              rw [← cmpL_less, HCC.out]; simpa using hl
            · simp [intOf]; omega
          · have hl0 : (decide (ck < 0)) = false := by simpa using hl
            go_wp2_with fail
            go_region_held3 (fun w' => (∀ b o, b < wr.heap.size → w'.cell? ⟨b, o, none⟩ = wr.cell? ⟨b, o, none⟩) ∧ Below (wr.heap.size) wr w') (first | exact ⟨fun _ _ _ => rfl, (Below.refl _ _).drew⟩ | exact keep_step (by assumption) (Below.drew (Below.refl _ _)) (Nat.le_refl _) | exact keep_step (by assumption) (by assumption) (by first | omega | (simp only [World.size_drew]; omega) | (simp only [size_alloc]; omega) | (simp only [World.size_drew, size_alloc]; omega) | (have := (‹(_ ∧ Below (wr.heap.size) wr _)›).2.size; first | omega | (simp only [World.size_drew]; omega) | (simp only [size_alloc]; omega) | (simp only [World.size_drew, size_alloc]; omega) | (simp only [World.size_drew] at this; omega) | (simp only [size_alloc] at this; omega) | (simp only [World.size_drew, size_alloc] at this; omega))) | exact keep_step (by assumption) (below1 _ _) (by first | omega | (simp only [World.size_drew]; omega) | (simp only [size_alloc]; omega) | (simp only [World.size_drew, size_alloc]; omega) | (have := (‹(_ ∧ Below (wr.heap.size) wr _)›).2.size; first | omega | (simp only [World.size_drew]; omega) | (simp only [size_alloc]; omega) | (simp only [World.size_drew, size_alloc]; omega) | (simp only [World.size_drew] at this; omega) | (simp only [size_alloc] at this; omega) | (simp only [World.size_drew, size_alloc] at this; omega)))) (first | (go_at_call 17; refine (impl_compareLosses z y _ _ _ _ w0.heap.size _ (HRZ.out.below EStep.loc (‹_ ∧ Below (wr.heap.size) wr _›).2 hsz) (HRY.out.below EStep.loc (‹_ ∧ Below (wr.heap.size) wr _›).2 hsz) (by have := (‹_ ∧ Below (wr.heap.size) wr _›).2.size; omega)).mono ?_; rintro ee w3 ⟨rfl, hb⟩; rw [HCC.out]))
            have HB := Lib.hid (‹_ ∧ Below (wr.heap.size) wr _›).2
            rename _ ∧ Below wr.heap.size wr w3 => hHeld
            clear hHeld hb
            go_wp2_with fail
            go_roundw
            case rel =>
              refine ⟨cc + 1, r, by go_num, by go_num, by omega, by omega, by omega, Lib.hid (fun _ z2 y2 hz2 hy2 => ?_), K2, Lib.hid (HS.out.below HB.out)⟩
              rw [Nat.add_sub_cancel, HY.out] at hy2; rw [show mid + m - (cc + 1) = pc from by rw [HPC.out]; omega, HZ.out] at hz2; injection hz2 with hz2; injection hy2 with hy2; subst hz2 hy2
              rw [← cmpL_less, HCC.out]; simpa using hl
            case measure => simp [intOf]; omega
        · as_aux_lemma =>
          have hsr : r = st := by omega
          subst hsr
          obtain ⟨U1, U2, V1, V2, e1, e2, e3, e4, e5, e6, e7, e8, e9⟩ := sym_pure A U V R HU.out HV.out a m q mid r s0 r0 HA.out HM.out HQ.out HMID.out hUn hVn HS0.out h1 h3 L HL.out
            (fun hh i j hi hj hi2 hj2 => K1.out hh _ _ (by rw [← hi2]; exact List.getElem?_eq_getElem hi) (by rw [← hj2]; exact List.getElem?_eq_getElem hj))
            (fun hh i j hi hj hi2 hj2 => K2.out hh _ _ (by rw [← hi2]; exact List.getElem?_eq_getElem hi) (by rw [← hj2]; exact List.getElem?_eq_getElem hj))
          obtain ⟨en, hen⟩ : ∃ en : Nat, en = mid + m - r := ⟨_, rfl⟩
          have lU2 : U2.length = m - r := by have := HM.out; rw [e1] at this; simp at this; omega
          have lV2 : V2.length = q - en := by have := HQ.out; rw [e2] at this; simp at this; omega
          have hen2 : (mid : Int) + (m : Int) - (r : Int) = (en : Int) := by omega
          have f1 : mid ≤ en := by omega
          have f2 : en ≤ q := by omega
          have f3 : m ≤ en := by omega
          have HE1 := Lib.hid e1; have HE2 := Lib.hid e2; have HE4 := Lib.hid e4; have HE5 := Lib.hid e5; have HE9 := Lib.hid e9
          have HLU := Lib.hid lU2; have HLV := Lib.hid lV2; have HEN := Lib.hid hen
          have HS2 : Hid (Sb w0 b e N F0 wr ((A ++ U1) ++ (U2 ++ (V1 ++ (V2 ++ R))))) := Lib.hid (HS.out.eq (by rw [HL.out, e1, e2]; simp))
          clear e1 e2 e4 e5 e9 lU2 lV2 hen K1 K2 HS HL
          have HSU : Hid (Sorted U1 ∧ Sorted V1 ∧ Sorted U2 ∧ Sorted V2) := Lib.hid ⟨(List.pairwise_append.1 (HE1.out ▸ HU.out)).1, (List.pairwise_append.1 (HE2.out ▸ HV.out)).1, (List.pairwise_append.1 (HE1.out ▸ HU.out)).2.1, (List.pairwise_append.1 (HE2.out ▸ HV.out)).2.1⟩
          obtain ⟨bb, hbb⟩ : ∃ bb, decide (r < m ∧ m < en) = bb := ⟨_, rfl⟩
          go_upto_region 39 with (fail)
          go_cut [185] (fun cv wx => cv = .bool bb ∧ wx = wr)
          case first =>
            as_aux_lemma =>
              by_cases t1 : r < m <;> by_cases t2 : m < en
              all_goals
                go_wp2_with fail
                go_meet
                case rel => exact ⟨by rw [← hbb]; simp [t1, t2], rfl⟩
          case rest =>
            as_aux_lemma =>
              obtain ⟨rfl, hww⟩ := hcut
              subst hww
              rename World => wx
              go_upto_if 185 with (fail)
              go_cut [] (fun wy => Hid (Sb w0 b e N F0 wy ((A ++ U1) ++ (V1 ++ (U2 ++ (V2 ++ R))))))
              case first =>
                as_aux_lemma =>
                  cases bb with
                  | true =>
                    have t1 := of_decide_eq_true hbb
                    go_wp2_with fail
                    refine (rotateA _ (A ++ U1) U2 V1 (V2 ++ R) rfl ?_ ?_ _ _ _ ?_ ?_ ?_ n cap _ _ ?_ hc hcap HS2.out).mono ?_
                    · have := HLU.out; omega
                    · have := HE5.out; have := HEN.out; omega
                    · have := HA.out; have := HE4.out; rw [List.length_append]; omega
                    · have := HA.out; have := HE4.out; have := HLU.out; rw [List.length_append]; omega
                    · have := HA.out; have := HE4.out; have := HLU.out; have := HE5.out; have := HEN.out; rw [List.length_append]; omega
                    · have := HA.out; have := HE4.out; have := HLU.out; have := HLV.out; have := HE5.out; have := HEN.out; have := HN.out; rw [List.length_append, List.length_append]; omega
                    · rintro ee w3 ⟨rfl, hs⟩
                      have HS3 := Lib.hid hs; clear hs
                      go_wp2_with fail
                      go_meet
                      case rel => exact HS3
                  | false =>
                    have t1 := of_decide_eq_false hbb
                    have HS3 : Hid (Sb w0 b e N F0 wx ((A ++ U1) ++ (V1 ++ (U2 ++ (V2 ++ R))))) := by
                      refine Lib.hid (HS2.out.eq ?_)
                      have := HLU.out; have := HE5.out; have := HEN.out
                      by_cases hz : r < m
                      · have : V1 = [] := List.eq_nil_of_length_eq_zero (by omega)
                        subst this; simp
                      · have : U2 = [] := List.eq_nil_of_length_eq_zero (by omega)
                        subst this; simp
                    go_wp2_with fail
                    go_meet
                    case rel => exact HS3
              case rest =>
                as_aux_lemma =>
                  rename World => wy
                  have HS3 := hcut
                  clear hcut HS2 hbb
                  obtain ⟨bb2, hbb⟩ : ∃ bb, decide (a < r ∧ r < mid) = bb := ⟨_, rfl⟩
                  go_upto_region 41 with (fail)
                  go_cut [199] (fun cv wx => cv = .bool bb2 ∧ wx = wy)
                  case first =>
                    as_aux_lemma =>
                      by_cases t1 : a < r <;> by_cases t2 : r < mid
                      all_goals
                        go_wp2_with fail
                        go_meet
                        case rel => exact ⟨by rw [← hbb]; simp [t1, t2], rfl⟩
                  case rest =>
                    as_aux_lemma =>
                      obtain ⟨rfl, hww⟩ := hcut
                      subst hww
                      rename World => wy
                      go_upto_if 199 with (fail)
                      go_cut [] (fun wz => ∃ S1, Hid (S1.Perm (U1 ++ V1)) ∧ Hid (Sorted S1) ∧ Hid (Sb w0 b e N F0 wz (A ++ (S1 ++ (U2 ++ (V2 ++ R))))))
                      case first =>
                        as_aux_lemma =>
                          cases bb2 with
                          | true =>
                            have t1 := of_decide_eq_true hbb
                            go_wp2_with fail
                            refine (IHH.out A U1 V1 (U2 ++ (V2 ++ R)) ?_ HSU.out.1 HSU.out.2.1 a r mid HA.out ?_ ?_ ?_ ?_ n cap _ ?_ hc hcap (HS3.out.eq (by simp))).mono ?_
                            · have := HE4.out; have := HE5.out; have := HK.out; have := HM.out; have := HQ.out; omega
                            · have := HE4.out; omega
                            · have := HE5.out; omega
                            · have := HE4.out; omega
                            · have := HE5.out; omega
                            · have := HLU.out; have := HLV.out; have := HN.out; have := HEN.out; rw [List.length_append, List.length_append]; omega
                            · rintro ee w3 ⟨rfl, S1, p1, p2, hs⟩
                              have HS4 := Lib.hid hs; have HP1 := Lib.hid p1; have HP2 := Lib.hid p2; clear hs p1 p2
                              go_wp2_with fail
                              go_meet
                              case rel => exact ⟨S1, HP1, HP2, HS4⟩
                          | false =>
                            have t1 := of_decide_eq_false hbb
                            have HS4 : Hid (Sb w0 b e N F0 wy (A ++ ((U1 ++ V1) ++ (U2 ++ (V2 ++ R))))) := Lib.hid (HS3.out.eq (by simp))
                            have HP2 : Hid (Sorted (U1 ++ V1)) := by
                              have := HE4.out; have := HE5.out
                              by_cases hz : a < r
                              · have : V1 = [] := List.eq_nil_of_length_eq_zero (by omega)
                                rw [this, List.append_nil]; exact Lib.hid HSU.out.1
                              · have : U1 = [] := List.eq_nil_of_length_eq_zero (by omega)
                                rw [this, List.nil_append]; exact Lib.hid HSU.out.2.1
                            go_wp2_with fail
                            go_meet
                            case rel => exact ⟨U1 ++ V1, Lib.hid (List.Perm.refl _), HP2, HS4⟩
                      case rest =>
                        as_aux_lemma =>
                          rename World => wz
                          obtain ⟨S1, HP1, HP2, HS4⟩ := hcut
                          clear HS3 hbb
                          have HLS : Hid (S1.length = mid - a) := Lib.hid (by have := HP1.out.length_eq; have := HE4.out; have := HE5.out; rw [List.length_append] at *; omega)
                          by_cases t1 : mid < en
                          · by_cases t2 : en < q
                            · go_wp2_with fail
                              refine (IHH.out (A ++ S1) U2 V2 R ?_ HSU.out.2.2.1 HSU.out.2.2.2 mid en q ?_ ?_ ?_ ?_ ?_ n cap _ HN.out hc hcap (HS4.out.eq (by simp))).mono ?_
                              · have := HLU.out; have := HLV.out; have := HK.out; have := HM.out; have := HQ.out; have := HEN.out; omega
                              · have := HLS.out; have := HA.out; rw [List.length_append]; omega
                              · have := HLU.out; have := HEN.out; omega
                              · have := HLV.out; omega
                              · have := HLU.out; have := HEN.out; omega
                              · have := HLV.out; omega
                              · rintro ee w3 ⟨rfl, S2, p1, p2, hs⟩
                                have HS5 := Lib.hid hs; have HP3 := Lib.hid p1; have HP4 := Lib.hid p2; clear hs p1 p2
                                go_wp2_with fail
                                go_end0
                                refine ⟨rfl, S1 ++ S2, ?_, sorted_join HP2.out HP4.out (fun x hx y hy => HE9.out x (HP1.out.mem_iff.1 hx) y (HP3.out.mem_iff.1 hy)), HS5.out.eq (by simp)⟩
                                refine (List.Perm.append HP1.out HP3.out).trans ?_
                                rw [HE1.out, HE2.out]
                                refine List.perm_iff_count.2 (fun z => ?_)
                                simp only [List.count_append]; omega
                            · have hv2 : V2 = [] := List.eq_nil_of_length_eq_zero (by have := HLV.out; omega)
                              have HV2 := Lib.hid hv2; clear hv2
                              go_wp2_with fail
                              go_end0
                              refine ⟨rfl, S1 ++ (U2 ++ V2), ?_, sorted_join HP2.out (by rw [HV2.out, List.append_nil]; exact HSU.out.2.2.1) (fun x hx y hy => HE9.out x (HP1.out.mem_iff.1 hx) y hy), HS4.out.eq (by simp)⟩
                              refine (List.Perm.append HP1.out (List.Perm.refl _)).trans ?_
                              rw [HE1.out, HE2.out]
                              refine List.perm_iff_count.2 (fun z => ?_)
                              simp only [List.count_append]; omega
                          · have hu2 : U2 = [] := List.eq_nil_of_length_eq_zero (by have := HLU.out; have := HEN.out; omega)
                            have HU2 := Lib.hid hu2; clear hu2
                            go_wp2_with fail
                            go_end0
                            refine ⟨rfl, S1 ++ (U2 ++ V2), ?_, sorted_join HP2.out (by rw [HU2.out, List.nil_append]; exact HSU.out.2.2.2) (fun x hx y hy => HE9.out x (HP1.out.mem_iff.1 hx) y hy), HS4.out.eq (by simp)⟩
                            refine (List.Perm.append HP1.out (List.Perm.refl _)).trans ?_
                            rw [HE1.out, HE2.out]
                            refine List.perm_iff_count.2 (fun z => ?_)
                            simp only [List.count_append]; omega
end Go.Proofs.Ytmajklgjmghjlaa
