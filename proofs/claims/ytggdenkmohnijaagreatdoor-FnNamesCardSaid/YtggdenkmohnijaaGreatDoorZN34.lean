/- Texts of this proof, merged: WriX. No condition beyond what each theorem states. -/
import Derived.Test.YtggdenkmohnijaaGreatDoorZN33
set_option linter.unusedSimpArgs false
set_option linter.unnecessarySimpa false
namespace Go.Proofs.YtggdenkmohnijaaGreatDoor
open Go.ChangeShapes Go.WideShapes Go.ChangeAt Go.RowKit Go.Joins
set_option linter.unusedVariables false
set_option maxRecDepth 100000
theorem fitT_wr4 : ∀ t : T, (ownB t && fitTB t) = true → (decide (wrP t) && decide (t.k ≠ 4)) = true := by
  intro t h
  rw [Bool.and_eq_true] at h
  obtain ⟨h1, h⟩ := h
  obtain ⟨_, _, _, h1⟩ := of_decide_eq_true h1
  unfold fitTB at h
  simp only [Bool.or_eq_true, Bool.and_eq_true, decide_eq_true_eq] at h
  have h2 : wrP t := by
    unfold wrP
    rcases h1 with ⟨h1, _⟩ | ⟨h1, _⟩ | ⟨h1, h2, h3⟩ | ⟨h1, _⟩ | ⟨h1, _⟩ | ⟨h1, h2, h3⟩ | ⟨h1, _⟩ | ⟨h1, _⟩ | ⟨h1, _⟩ | ⟨h1, _⟩ | ⟨h1, _⟩
    all_goals first
      | omega
      | (unfold decOk at h3; rcases h3 with ⟨h4, _⟩ | ⟨_, ⟨h5, h6⟩, _⟩ <;> omega)
  rw [decide_eq_true h2, decide_eq_true (by omega)]; rfl
theorem fitT_wr : ∀ t : T, (ownB t && fitTB t) = true → decide (wrP t) = true := by
  intro t h
  have := fitT_wr4 t h
  rw [Bool.and_eq_true] at this
  exact this.1
def writeX (t : T) : ByteArray := if (allB ownB t && allB fitTB t) = true then writeT t else ⟨#[]⟩
set_option maxHeartbeats 1000000 in
theorem impl_WriteText (t : T) (a : Option Addr) (cap B : Nat) (w : World) (hr : R w B a cap t.l) (hwf : Wf t) (hsz : T.sz t ≤ 1048576) (he : Env B w) (hB : B ≤ w.heap.size) :
    Calls Tryz.prog 80 #[.agg (cV t a cap)] w fun e w' => e = .returned (.string (writeX t)) ∧ Below w.heap.size w w' := by
  have HR := Lib.hid hr; clear hr
  have HE := Lib.hid he; clear he
  have HWF := Lib.hid hwf; clear hwf
  have H0 := Lib.hid (below1 w (.cells (cV t a cap) 26))
  have q0 := Is.new w (cV t a cap) 26
  go_enter Tryz.func80, Tryz.ntmps80
  go_wp2_with fail
  refine (impl_FitsText t a cap B _ (HR.out.below H0.out hB) HWF.out hsz (HE.out.step (H0.out.mono hB)) (by simp; omega)).mono ?_
  rintro e w1 ⟨rfl, hb1⟩
  have HB1 := Lib.hid (below_step H0.out hb1 (by simp))
  have p1 := q0.below hb1 (by simp)
  obtain ⟨r0, r1, r2, r3, r4⟩ := p1.cells5
  have l1 : w.heap.size < w1.heap.size := by have := hb1.size; simp at this; omega
  clear hb1
  cases hv : (allB ownB t && allB fitTB t) with
  | false =>
    have HD := Lib.hid (show writeX t = ⟨#[]⟩ from if_neg (by rw [hv]; simp))
    clear hv
    go_wp2_with fail
    go_ret
    exact ⟨ret_s HD.out.symm, HB1.out⟩
  | true =>
    have HD := Lib.hid (show writeX t = writeT t from if_pos hv)
    have HV := Lib.hid (allB_mono fitT_wr4 t (by simp only [Bool.and_eq_true] at hv; exact allB_both t hv.1 hv.2)); clear hv
    have HC := Lib.hid (impl_appendTree_leafText t a cap B w1.heap.size none 0 ⟨#[]⟩ w1 (HR.out.below HB1.out hB) HWF.out hsz (HE.out.step (HB1.out.mono hB)) (by omega) (Nat.le_refl _) HV.out (Or.inl ⟨rfl, rfl, rfl, rfl⟩) (by have : (⟨#[]⟩ : ByteArray).size = 0 := rfl; omega))
    have he0 : (⟨#[]⟩ : ByteArray) ++ writeT t = writeT t := by apply ByteArray.ext; simp [ByteArray.data_append]
    rw [he0] at HC
    go_wp2_with fail
    refine HC.out.mono ?_
    rintro e w2 ⟨ar, cr, rfl, happ, hb2, _⟩
    have hcv := conv_bytes w2 w1.heap.size ar cr _ [] happ
    rw [byteL_str, byteL_len] at hcv
    clear HC he0 happ
    generalize hW : writeT t = X at hcv ⊢
    have HW := Lib.hid hW; clear hW
    go_wp2_with fail
    go_ret
    exact ⟨ret_s (HD.out.trans HW.out).symm, HB1.out.trans (hb2.mono HB1.out.size)⟩
end Go.Proofs.YtggdenkmohnijaaGreatDoor
