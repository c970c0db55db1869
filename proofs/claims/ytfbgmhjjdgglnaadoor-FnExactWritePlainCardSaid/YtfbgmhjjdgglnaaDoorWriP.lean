/- Contracts and lemmas for the proofs of this seat: WriP. No condition beyond those stated. -/
import Derived.Test.YtfbgmhjjdgglnaaDoorRows
import Derived.WalkKit
import Derived.ProofKit
import Derived.OpenShut
import Derived.Handy
import Derived.Lib.Hide
import Derived.Lib.SmallJoins
import Derived.Laws.BytesArg
import Derived.Deep.RegionHeld3
import Derived.Deep.AppendLies
import Derived.Deep.QuietTactic
import Derived.BigQuiet
import Derived.Lib.AppendStr
import Derived.Lib.ValidAsc
import Derived.Lib.ItoaLen
import Derived.Test.YtfbgmhjjdgglnaaDoorBase
import Derived.Test.YtfbgmhjjdgglnaaDoorGen
import Derived.Test.YtfbgmhjjdgglnaaDoorKit
import Derived.Test.YtfbgmhjjdgglnaaDoorMark
import Derived.Test.YtfbgmhjjdgglnaaDoorApp
import Derived.Test.YtfbgmhjjdgglnaaDoorMarkV
import Derived.Test.YtfbgmhjjdgglnaaDoorLawVal
import Derived.Test.YtfbgmhjjdgglnaaDoorCopy
import Derived.Test.YtfbgmhjjdgglnaaDoorPathAt
import Derived.Test.YtfbgmhjjdgglnaaDoorPathAt2
import Derived.Test.YtfbgmhjjdgglnaaDoorSame2
import Derived.Test.YtfbgmhjjdgglnaaDoorOnce
import Derived.Test.YtfbgmhjjdgglnaaDoorKeepX
import Derived.Test.YtfbgmhjjdgglnaaDoorAppX
import Derived.Test.YtfbgmhjjdgglnaaDoorAppS
import Derived.Test.YtfbgmhjjdgglnaaDoorNamesT
import Derived.Test.YtfbgmhjjdgglnaaDoorNamesT2
import Derived.Test.YtfbgmhjjdgglnaaDoorFitsP
import Derived.Test.YtfbgmhjjdgglnaaDoorShelf
import Derived.Test.YtfbgmhjjdgglnaaDoorNum
import Derived.Test.YtfbgmhjjdgglnaaDoorPText
import Derived.Test.YtfbgmhjjdgglnaaDoorTextF
import Derived.Test.YtfbgmhjjdgglnaaDoorValF
import Derived.Test.YtfbgmhjjdgglnaaDoorValF2
import Derived.Test.YtfbgmhjjdgglnaaDoorValF3
import Derived.Test.YtfbgmhjjdgglnaaDoorRune
import Derived.Test.YtfbgmhjjdgglnaaDoorRune2
import Derived.Test.YtfbgmhjjdgglnaaDoorOwnT
import Derived.Test.YtfbgmhjjdgglnaaDoorOwnS
import Derived.Test.YtfbgmhjjdgglnaaDoorEvery
import Derived.Test.YtfbgmhjjdgglnaaDoorHexT
import Derived.Test.YtfbgmhjjdgglnaaDoorPutR
import Derived.Test.YtfbgmhjjdgglnaaDoorEsc
import Derived.Test.YtfbgmhjjdgglnaaDoorQuo
import Derived.Test.YtfbgmhjjdgglnaaDoorQuo2
import Derived.Test.YtfbgmhjjdgglnaaDoorDecF
import Derived.Test.YtfbgmhjjdgglnaaDoorDecF2
import Derived.Test.YtfbgmhjjdgglnaaDoorFltD
import Derived.Test.YtfbgmhjjdgglnaaDoorDecT
import Derived.Test.YtfbgmhjjdgglnaaDoorWriA
import Derived.Test.YtfbgmhjjdgglnaaDoorWriL
import Derived.Test.YtfbgmhjjdgglnaaDoorWriS
import Derived.Test.YtfbgmhjjdgglnaaDoorWriT
namespace Go.Proofs.YtfbgmhjjdgglnaaDoor
open Go.ChangeShapes Go.WideShapes Go.ChangeAt Go.RowKit Go.Joins
set_option linter.unusedVariables false
set_option maxRecDepth 100000
theorem fit_wr : ∀ t : T, fitB t = true → decide (wrP t) = true := by
  intro t h
  unfold fitB at h
  simp only [Bool.or_eq_true, Bool.and_eq_true, decide_eq_true_eq] at h
  rw [decide_eq_true_eq]
  unfold wrP
  omega
/-- A tree as plain text. -/
def writeP (t : T) : ByteArray := if (allB ownB t && allB fitB t) = true then writeT t else ⟨#[]⟩
set_option maxHeartbeats 1000000 in
theorem spec_WritePlain (t : T) (a : Option Addr) (cap B : Nat) (w : World) (hr : R w B a cap t.l) (hwf : Wf t) (hsz : T.sz t ≤ 1048576) (hB : B ≤ w.heap.size) :
    Calls Tryd.prog 24 #[.agg (cV t a cap)] w fun e w' => e = .returned (.string (writeP t)) ∧ Below w.heap.size w w' := by
  have HR := Lib.hid hr; clear hr
  have HWF := Lib.hid hwf; clear hwf
  have H0 := Lib.hid (below1 w (.cells (cV t a cap) 31))
  have q0 := Is.new w (cV t a cap) 31
  go_enter Tryd.func24, Tryd.ntmps24
  go_wp2_with fail
  refine (spec_FitsPlain t a cap B _ (HR.out.below H0.out hB) HWF.out hsz (by simp; omega)).mono ?_
  rintro e w1 ⟨rfl, hb1⟩
  have HB1 := Lib.hid (below_step H0.out hb1 (by simp))
  have p1 := q0.below hb1 (by simp)
  obtain ⟨r0, r1, r2, r3, r4⟩ := p1.cells5
  have l1 : w.heap.size < w1.heap.size := by have := hb1.size; simp at this; omega
  clear hb1
  cases hv : (allB ownB t && allB fitB t) with
  | false =>
    have HD := Lib.hid (show writeP t = ⟨#[]⟩ from if_neg (by rw [hv]; simp))
    clear hv
    go_wp2_with fail
    go_ret
    exact ⟨ret_s HD.out.symm, HB1.out⟩
  | true =>
    have HD := Lib.hid (show writeP t = writeT t from if_pos hv)
    have HV := Lib.hid (allB_mono fit_wr t (by simp only [Bool.and_eq_true] at hv; exact hv.2)); clear hv
    go_wp2_with fail
    refine (spec_l11Write t a cap B w1 (HR.out.below HB1.out hB) HWF.out hsz (by omega) HV.out).mono ?_
    rintro e w2 ⟨rfl, hb2⟩
    go_wp2_with fail
    go_ret
    exact ⟨ret_s HD.out.symm, HB1.out.trans (hb2.mono HB1.out.size)⟩
set_option maxHeartbeats 1000000 in
theorem impl_WritePlain (t : T) (a : Option Addr) (cap B : Nat) (w : World) (hr : R w B a cap t.l) (hwf : Wf t) (hsz : T.sz t ≤ 1048576) (he : Env B w) (hB : B ≤ w.heap.size) :
    Calls Tryd.prog 25 #[.agg (cV t a cap)] w fun e w' => e = .returned (.string (writeP t)) ∧ Below w.heap.size w w' := by
  have HR := Lib.hid hr; clear hr
  have HE := Lib.hid he; clear he
  have HWF := Lib.hid hwf; clear hwf
  have H0 := Lib.hid (below1 w (.cells (cV t a cap) 31))
  have q0 := Is.new w (cV t a cap) 31
  go_enter Tryd.func25, Tryd.ntmps25
  go_wp2_with fail
  refine (impl_FitsPlain t a cap B _ (HR.out.below H0.out hB) HWF.out hsz (HE.out.step (H0.out.mono hB)) (by simp; omega)).mono ?_
  rintro e w1 ⟨rfl, hb1⟩
  have HB1 := Lib.hid (below_step H0.out hb1 (by simp))
  have p1 := q0.below hb1 (by simp)
  obtain ⟨r0, r1, r2, r3, r4⟩ := p1.cells5
  have l1 : w.heap.size < w1.heap.size := by have := hb1.size; simp at this; omega
  clear hb1
  cases hv : (allB ownB t && allB fitB t) with
  | false =>
    have HD := Lib.hid (show writeP t = ⟨#[]⟩ from if_neg (by rw [hv]; simp))
    clear hv
    go_wp2_with fail
    go_ret
    exact ⟨ret_s HD.out.symm, HB1.out⟩
  | true =>
    have HD := Lib.hid (show writeP t = writeT t from if_pos hv)
    have HV := Lib.hid (allB_mono fit_wr t (by simp only [Bool.and_eq_true] at hv; exact hv.2)); clear hv
    have HC := Lib.hid (impl_appendTree_leafPlain t a cap B w1.heap.size none 0 ⟨#[]⟩ w1 (HR.out.below HB1.out hB) HWF.out hsz (HE.out.step (HB1.out.mono hB)) (by omega) (Nat.le_refl _) HV.out (Or.inl ⟨rfl, rfl, rfl, rfl⟩) (by have : (⟨#[]⟩ : ByteArray).size = 0 := rfl; omega))
    have he0 : (⟨#[]⟩ : ByteArray) ++ writeT t = writeT t := by apply ByteArray.ext; simp [ByteArray.data_append]
    rw [he0] at HC
    go_wp2_with fail
    refine HC.out.mono ?_
    rintro e w2 ⟨ar, cr, rfl, happ, hb2, _⟩
    have hcv := conv_bytes w2 w1.heap.size ar cr _ [] happ
    rw [byteL_str, byteL_len] at hcv
    clear HC he0 happ
    generalize hW : writeT t = X at hcv ⊢
    have HW := Lib.hid hW; clear hW
    go_wp2_with fail
    go_ret
    exact ⟨ret_s (HD.out.trans HW.out).symm, HB1.out.trans (hb2.mono HB1.out.size)⟩
end Go.Proofs.YtfbgmhjjdgglnaaDoor
