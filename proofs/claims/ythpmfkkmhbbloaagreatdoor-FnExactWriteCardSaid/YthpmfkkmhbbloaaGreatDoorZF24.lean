/- Texts of this proof, merged: WriS. No condition beyond what each theorem states. -/
import Derived.Test.YthpmfkkmhbbloaaGreatDoorRows
import Derived.WalkKit
import Derived.ProofKit
import Derived.OpenShut
import Derived.Handy
import Derived.Lib.Hide
import Derived.Lib.SmallJoins
import Derived.Laws.BytesArg
import Derived.Deep.RegionHeld3
import Derived.Deep.AppendLies
import Derived.Deep.QuietTactic
import Derived.BigQuiet
import Derived.Lib.AppendStr
import Derived.Lib.ValidAsc
import Derived.Lib.ItoaLen
import Derived.Test.YthpmfkkmhbbloaaGreatDoorZF1
import Derived.Test.YthpmfkkmhbbloaaGreatDoorZF2
import Derived.Test.YthpmfkkmhbbloaaGreatDoorZF3
import Derived.Test.YthpmfkkmhbbloaaGreatDoorZF7
import Derived.Test.YthpmfkkmhbbloaaGreatDoorZF9
import Derived.Test.YthpmfkkmhbbloaaGreatDoorShelf
import Derived.Test.YthpmfkkmhbbloaaGreatDoorZF22
import Derived.Test.YthpmfkkmhbbloaaGreatDoorZF4
import Derived.Test.YthpmfkkmhbbloaaGreatDoorZF5
import Derived.Test.YthpmfkkmhbbloaaGreatDoorZF6
import Derived.Test.YthpmfkkmhbbloaaGreatDoorZF10
import Derived.Test.YthpmfkkmhbbloaaGreatDoorZF12
import Derived.Test.YthpmfkkmhbbloaaGreatDoorZF13
import Derived.Test.YthpmfkkmhbbloaaGreatDoorZF23
set_option linter.unusedSimpArgs false
set_option linter.unnecessarySimpa false
namespace Go.Proofs.YthpmfkkmhbbloaaGreatDoor
open Go.ChangeShapes Go.WideShapes Go.ChangeAt Go.RowKit Go.Joins
set_option linter.unusedVariables false
set_option maxRecDepth 100000
set_option maxHeartbeats 4000000 in
theorem spec_l11Write : ∀ t : T, ∀ (a : Option Addr) (cap B : Nat) (w : World), R w B a cap t.l → Wf t → T.sz t ≤ 1048576 → B ≤ w.heap.size → allB (fun t => decide (wrP t)) t = true →
    Calls Tryz.prog 53 #[.agg (cV t a cap)] w fun e w' => e = .returned (.string (writeT t)) ∧ Below w.heap.size w w' := by
  intro t
  induction t using T.ind with
  | h k n x s l ih =>
    intro a cap B w hr hwf hsz hB hall
    have IH := Lib.hid ih; clear ih
    obtain ⟨hk, hn, hx, hsm⟩ := hwf
    rw [allB_eq] at hall
    simp only [Bool.and_eq_true, List.all_eq_true, T.l, decide_eq_true_eq] at hall
    obtain ⟨hp, hch⟩ := hall
    have HCH := Lib.hid hch; clear hch
    simp only [wrP, T.k, T.n, T.x] at hp
    simp only [cV, T.k, T.n, T.x, T.s, T.l] at hr hk hn hx hsm ⊢
    obtain ⟨hk0, hk1⟩ := hk
    rw [sz_of] at hsz
    obtain ⟨hlc, hcap⟩ := hr.len
    have HR := Lib.hid hr; clear hr
    have H0 := Lib.hid (below1 w (.cells #[Value.int IntKind.i64 k, Value.int IntKind.i64 n, Value.int IntKind.i64 x, Value.string s, Value.slice a l.length cap] 29))
    have HN := Lib.hid hn
    have HX := Lib.hid hx
    obtain ⟨hn0, hn1⟩ := hn
    obtain ⟨hx0, hx1⟩ := hx
    have c1 : k = 1 ∨ k = 2 ∨ k = 3 ∨ k = 6 ∨ k = 4 ∨ k = 7 ∨ k = 9 ∨ k = 10 := by omega
    obtain rfl | rfl | rfl | rfl | rfl | rfl | rfl | rfl := c1
    · have HD := Lib.hid (show writeT (.mk 1 n x s l) = ⟨#[110, 117, 108, 108]⟩ from rfl)
      go_enter Tryz.func53, Tryz.ntmps53
      go_wp2_with fail
      go_ret
      exact ⟨ret_s HD.out.symm, H0.out⟩
    · by_cases h1 : n = 1
      · subst h1
        have HD := Lib.hid (show writeT (.mk 2 1 x s l) = ⟨#[116, 114, 117, 101]⟩ from rfl)
        go_enter Tryz.func53, Tryz.ntmps53
        go_wp2_with fail
        go_ret
        exact ⟨ret_s HD.out.symm, H0.out⟩
      · have HD := Lib.hid (show writeT (.mk 2 n x s l) = ⟨#[102, 97, 108, 115, 101]⟩ from (if_neg h1 : (if n = 1 then _ else _) = _))
        go_enter Tryz.func53, Tryz.ntmps53
        go_wp2_with fail
        go_ret
        exact ⟨ret_s HD.out.symm, H0.out⟩
    · have HD := Lib.hid (show writeT (.mk 3 n x s l) = numT n from rfl)
      go_enter Tryz.func53, Tryz.ntmps53
      go_wp2_with fail
      refine (spec_NumText n _ HN.out).mono ?_
      rintro e w2 ⟨rfl, hb2⟩
      have HB2 := Lib.hid (below_step H0.out hb2 (by simp)); clear hb2
      go_wp2_with fail
      go_ret
      exact ⟨ret_s HD.out.symm, HB2.out⟩
    · obtain ⟨m, rfl⟩ : ∃ m : Nat, x = -(m : Int) := ⟨(-x).toNat, by omega⟩
      have HD := Lib.hid (show writeT (.mk 6 n (-(m : Int)) s l) = decTx n m from by
        have : (- -(m : Int)).toNat = m := by omega
        simp only [writeT, leafT]
        simp [this])
      have hm40 : m ≤ 40 := by omega
      go_enter Tryz.func53, Tryz.ntmps53
      go_wp2_with fail
      refine (spec_DecText n m _ HN.out hm40).mono ?_
      rintro e w2 ⟨rfl, hb2⟩
      have HB2 := Lib.hid (below_step H0.out hb2 (by simp)); clear hb2
      go_wp2_with fail
      go_ret
      exact ⟨ret_s HD.out.symm, HB2.out⟩
    · have HD := Lib.hid (show writeT (.mk 4 n x s l) = fltTx n x from rfl)
      go_enter Tryz.func53, Tryz.ntmps53
      go_wp2_with fail
      refine (spec_FltText n x _ HN.out HX.out).mono ?_
      rintro e w2 ⟨rfl, hb2⟩
      have HB2 := Lib.hid (below_step H0.out hb2 (by simp)); clear hb2
      go_wp2_with fail
      go_ret
      exact ⟨ret_s HD.out.symm, HB2.out⟩
    · have HD := Lib.hid (show writeT (.mk 7 n x s l) = quoteT s from rfl)
      go_enter Tryz.func53, Tryz.ntmps53
      go_wp2_with fail
      refine (spec_Quote s _ (by omega)).mono ?_
      rintro e w2 ⟨rfl, hb2⟩
      have HB2 := Lib.hid (below_step H0.out hb2 (by simp)); clear hb2
      go_wp2_with fail
      go_ret
      exact ⟨ret_s HD.out.symm, HB2.out⟩
    · have HD := Lib.hid (show writeT (.mk 9 n x s l) = (⟨#[91]⟩ ++ writesT false 0 l) ++ ⟨#[93]⟩ from rfl)
      have z1 : (⟨#[91]⟩ : ByteArray).size = 1 := rfl
      have z2 : (⟨#[93]⟩ : ByteArray).size = 1 := rfl
      have z3 : (⟨#[58]⟩ : ByteArray).size = 1 := rfl
      have z4 : (⟨#[44]⟩ : ByteArray).size = 1 := rfl
      go_enter Tryz.func53, Tryz.ntmps53
      go_wp2_with fail
      generalize hW : w.alloc (Obj.cells #[Value.int IntKind.i64 9, Value.int IntKind.i64 n, Value.int IntKind.i64 x, Value.string s, Value.slice a l.length cap] 29) = W0
      have q1 : Is W0 w.heap.size 29 #[Value.int IntKind.i64 9, Value.int IntKind.i64 n, Value.int IntKind.i64 x, Value.string s, Value.slice a l.length cap] := by subst hW; exact Is.new _ _ _
      have H0 := Lib.hid (show Below w.heap.size w W0 from by subst hW; exact below1 _ _)
      have hs0 : W0.heap.size = w.heap.size + 1 := by subst hW; simp
      clear hW
      go_loopw [3, 4] (fun q i wr => ∃ (j : Nat) (o : ByteArray), j ≤ l.length ∧ i = .int .i64 j ∧ q = .string o ∧ Hid (o = writesT false 0 (l.take j)) ∧ o.size ≤ 300 * T.szL (l.take j) ∧ Below W0.heap.size W0 wr) (fun _ i _ => l.length - (intOf i).toNat)
      case atStart => exact ⟨0, _, Nat.zero_le _, rfl, rfl, rfl, Nat.zero_le _, Below.refl _ _⟩
      case round =>
        obtain ⟨j, o, hj, rfl, rfl, HO, hos, hb⟩ := hrel
        have hbs := hb.size
        have hbox := q1.below hb (by omega)
        obtain ⟨x0, x1, x2, x3, x4⟩ := hbox.cells5
        have hlt2 : w.heap.size < wr.heap.size := by omega
        have HBw := Lib.hid (H0.out.trans (hb.mono (by omega)))
        by_cases hlt : j < l.length
        · obtain ⟨b, o2, a2, cap2, rfl, hbl, d0, d1, d2, d3, d4, hwfj, hq⟩ := (HR.out.below HBw.out hB).get j hlt
          have hlb : b < wr.heap.size := by omega
          have hszj := T.sz_get l j hlt
          have htk := T.szL_take_succ l j hlt
          have htl := T.szL_take_le l (j + 1)
          have HWF := Lib.hid hwfj; clear hwfj
          have HQ := Lib.hid hq; clear hq
          have hws := writeT_size l[j] (HCH.out _ (List.getElem_mem hlt))
          have HE := Lib.hid (writesT_succ false l 0 j hlt)
          rw [Nat.zero_add] at HE

          by_cases hj0 : j = 0
          · subst hj0
            rw [Nat.zero_mul, Nat.add_zero] at d0 d1 d2 d3 d4
            have HS := Lib.hid (show sepT false 0 = ⟨#[]⟩ from rfl)
            go_wp2_with fail
            refine (IH.out l[0] (List.getElem_mem hlt) a2 cap2 B wr HQ.out HWF.out (by omega) (by omega) (HCH.out _ (List.getElem_mem hlt))).mono ?_
            rintro e w2 ⟨rfl, hb2⟩
            go_wp2_with fail
            go_roundw
            case rel => exact ⟨0 + 1, _, by omega, by go_num, rfl, by rw [HE.out, HS.out, HO.out]; apply ByteArray.ext; simp [ByteArray.data_append], by simp only [ByteArray.size_append]; omega, hb.trans (hb2.mono hbs)⟩
            case measure => simp [intOf]; omega
          · have hsv := show sepT false j = ⟨#[44]⟩ from (if_neg hj0).trans (if_neg (by simp))
            have HS := Lib.hid (show sepT false j = ⟨#[44]⟩ from hsv)
            go_wp2_with fail
            refine (IH.out l[j] (List.getElem_mem hlt) a2 cap2 B wr HQ.out HWF.out (by omega) (by omega) (HCH.out _ (List.getElem_mem hlt))).mono ?_
            rintro e w2 ⟨rfl, hb2⟩
            go_wp2_with fail
            go_roundw
            case rel => exact ⟨j + 1, _, by omega, by go_num, rfl, by (have : _ = _ := HE.out); rw [this, HS.out, HO.out]; apply ByteArray.ext; simp [ByteArray.data_append], by simp only [ByteArray.size_append]; omega, hb.trans (hb2.mono hbs)⟩
            case measure => simp [intOf]; omega
        · have hjj : l.length = j := by omega
          have HJ := Lib.hid (show l.take j = l from by rw [← hjj, List.take_length]); clear hjj
          have HE := Lib.hid (show (⟨#[91]⟩ ++ o) ++ ⟨#[93]⟩ = writeT (.mk 9 n x s l) from by rw [HD.out, HO.out, HJ.out])
          have htl := T.szL_take_le l j
          go_wp2_with fail
          go_ret
          exact ⟨ret_s HE.out, HBw.out⟩
    · have HD := Lib.hid (show writeT (.mk 10 n x s l) = (⟨#[123]⟩ ++ writesT true 0 l) ++ ⟨#[125]⟩ from rfl)
      have z1 : (⟨#[123]⟩ : ByteArray).size = 1 := rfl
      have z2 : (⟨#[125]⟩ : ByteArray).size = 1 := rfl
      have z3 : (⟨#[58]⟩ : ByteArray).size = 1 := rfl
      have z4 : (⟨#[44]⟩ : ByteArray).size = 1 := rfl
      go_enter Tryz.func53, Tryz.ntmps53
      go_wp2_with fail
      generalize hW : w.alloc (Obj.cells #[Value.int IntKind.i64 10, Value.int IntKind.i64 n, Value.int IntKind.i64 x, Value.string s, Value.slice a l.length cap] 29) = W0
      have q1 : Is W0 w.heap.size 29 #[Value.int IntKind.i64 10, Value.int IntKind.i64 n, Value.int IntKind.i64 x, Value.string s, Value.slice a l.length cap] := by subst hW; exact Is.new _ _ _
      have H0 := Lib.hid (show Below w.heap.size w W0 from by subst hW; exact below1 _ _)
      have hs0 : W0.heap.size = w.heap.size + 1 := by subst hW; simp
      clear hW
      go_loopw [3, 4] (fun q i wr => ∃ (j : Nat) (o : ByteArray), j ≤ l.length ∧ i = .int .i64 j ∧ q = .string o ∧ Hid (o = writesT true 0 (l.take j)) ∧ o.size ≤ 300 * T.szL (l.take j) ∧ Below W0.heap.size W0 wr) (fun _ i _ => l.length - (intOf i).toNat)
      case atStart => exact ⟨0, _, Nat.zero_le _, rfl, rfl, rfl, Nat.zero_le _, Below.refl _ _⟩
      case round =>
        obtain ⟨j, o, hj, rfl, rfl, HO, hos, hb⟩ := hrel
        have hbs := hb.size
        have hbox := q1.below hb (by omega)
        obtain ⟨x0, x1, x2, x3, x4⟩ := hbox.cells5
        have hlt2 : w.heap.size < wr.heap.size := by omega
        have HBw := Lib.hid (H0.out.trans (hb.mono (by omega)))
        by_cases hlt : j < l.length
        · obtain ⟨b, o2, a2, cap2, rfl, hbl, d0, d1, d2, d3, d4, hwfj, hq⟩ := (HR.out.below HBw.out hB).get j hlt
          have hlb : b < wr.heap.size := by omega
          have hszj := T.sz_get l j hlt
          have htk := T.szL_take_succ l j hlt
          have htl := T.szL_take_le l (j + 1)
          have HWF := Lib.hid hwfj; clear hwfj
          have HQ := Lib.hid hq; clear hq
          have hws := writeT_size l[j] (HCH.out _ (List.getElem_mem hlt))
          have HE := Lib.hid (writesT_succ true l 0 j hlt)
          rw [Nat.zero_add] at HE

          by_cases hj0 : j = 0
          · subst hj0
            rw [Nat.zero_mul, Nat.add_zero] at d0 d1 d2 d3 d4
            have HS := Lib.hid (show sepT true 0 = ⟨#[]⟩ from rfl)
            go_wp2_with fail
            refine (IH.out l[0] (List.getElem_mem hlt) a2 cap2 B wr HQ.out HWF.out (by omega) (by omega) (HCH.out _ (List.getElem_mem hlt))).mono ?_
            rintro e w2 ⟨rfl, hb2⟩
            go_wp2_with fail
            go_roundw
            case rel => exact ⟨0 + 1, _, by omega, by go_num, rfl, by rw [HE.out, HS.out, HO.out]; apply ByteArray.ext; simp [ByteArray.data_append], by simp only [ByteArray.size_append]; omega, hb.trans (hb2.mono hbs)⟩
            case measure => simp [intOf]; omega
          · by_cases hpar : j % 2 = 1
            · have hsv := show sepT true j = ⟨#[58]⟩ from (if_neg hj0).trans (if_pos ⟨rfl, hpar⟩)
              have HS := Lib.hid (show sepT true j = ⟨#[58]⟩ from hsv)
              go_wp2_with fail
              refine (IH.out l[j] (List.getElem_mem hlt) a2 cap2 B wr HQ.out HWF.out (by omega) (by omega) (HCH.out _ (List.getElem_mem hlt))).mono ?_
              rintro e w2 ⟨rfl, hb2⟩
              go_wp2_with fail
              go_roundw
              case rel => exact ⟨j + 1, _, by omega, by go_num, rfl, by (have : _ = _ := HE.out); rw [this, HS.out, HO.out]; apply ByteArray.ext; simp [ByteArray.data_append], by simp only [ByteArray.size_append]; omega, hb.trans (hb2.mono hbs)⟩
              case measure => simp [intOf]; omega
            · have hsv := show sepT true j = ⟨#[44]⟩ from (if_neg hj0).trans (if_neg (fun h => hpar h.2))
              have HS := Lib.hid (show sepT true j = ⟨#[44]⟩ from hsv)
              go_wp2_with fail
              refine (IH.out l[j] (List.getElem_mem hlt) a2 cap2 B wr HQ.out HWF.out (by omega) (by omega) (HCH.out _ (List.getElem_mem hlt))).mono ?_
              rintro e w2 ⟨rfl, hb2⟩
              go_wp2_with fail
              go_roundw
              case rel => exact ⟨j + 1, _, by omega, by go_num, rfl, by (have : _ = _ := HE.out); rw [this, HS.out, HO.out]; apply ByteArray.ext; simp [ByteArray.data_append], by simp only [ByteArray.size_append]; omega, hb.trans (hb2.mono hbs)⟩
              case measure => simp [intOf]; omega
        · have hjj : l.length = j := by omega
          have HJ := Lib.hid (show l.take j = l from by rw [← hjj, List.take_length]); clear hjj
          have HE := Lib.hid (show (⟨#[123]⟩ ++ o) ++ ⟨#[125]⟩ = writeT (.mk 10 n x s l) from by rw [HD.out, HO.out, HJ.out])
          have htl := T.szL_take_le l j
          go_wp2_with fail
          go_ret
          exact ⟨ret_s HE.out, HBw.out⟩
end Go.Proofs.YthpmfkkmhbbloaaGreatDoor
