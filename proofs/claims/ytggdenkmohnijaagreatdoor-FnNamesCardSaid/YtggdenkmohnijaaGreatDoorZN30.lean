/- Texts of this proof, merged: Once1. No condition beyond what each theorem states. -/
import Derived.Test.YtggdenkmohnijaaGreatDoorZN13
set_option linter.unusedSimpArgs false
set_option linter.unnecessarySimpa false
namespace Go.Proofs.YtggdenkmohnijaaGreatDoor
open Go.ChangeShapes Go.WideShapes Go.ChangeAt Go.RowKit Go.Joins
set_option linter.unusedVariables false
set_option maxRecDepth 100000
def pairedB (t : T) : Bool := decide (t.k = 10) && decide (t.l.length % 2 = 0)
theorem impl_isPaired (t : T) (a : Option Addr) (cap : Nat) (w : World) (hl : t.l.length ≤ 1073741824) :
    Calls Tryz.prog 204 #[.agg (cV t a cap)] w fun e w' => e = .returned (.bool (pairedB t)) ∧ Below w.heap.size w w' := by
  obtain ⟨k, n, x, s, l⟩ := t
  simp only [cV, T.k, T.n, T.x, T.s, T.l, pairedB] at hl ⊢
  by_cases hk : k = 10
  · subst hk
    by_cases h2 : l.length % 2 = 0
    · have h3 : ((l.length : Int) % 2 == 0) = true := by simp; omega
      have HB := Lib.hid h2; clear h2
      go_enter Tryz.func204, Tryz.ntmps204
      go_wp2
      go_ret
      exact ⟨ret_b (by simp [HB.out]), by go_grown⟩
    · have h3 : ((l.length : Int) % 2 == 0) = false := by simp; omega
      have HB := Lib.hid h2; clear h2
      go_enter Tryz.func204, Tryz.ntmps204
      go_wp2
      go_ret
      exact ⟨ret_b (by simp [HB.out]), by go_grown⟩
  · have hq : (k == 10) = false := by simp [hk]
    have HK := Lib.hid hk; clear hk
    go_enter Tryz.func204, Tryz.ntmps204
    go_wp2
    go_ret
    exact ⟨ret_b (by simp [HK.out]), by go_grown⟩
theorem spec_l7Map (t : T) (a : Option Addr) (cap : Nat) (w : World) (hl : t.l.length ≤ 1073741824) :
    Calls Tryz.prog 175 #[.agg (cV t a cap)] w fun e w' => e = .returned (.bool (pairedB t)) ∧ Below w.heap.size w w' := by
  obtain ⟨k, n, x, s, l⟩ := t
  simp only [cV, T.k, T.n, T.x, T.s, T.l, pairedB] at hl ⊢
  by_cases hk : k = 10
  · subst hk
    by_cases h2 : l.length % 2 = 0
    · have h3 : ((l.length : Int) % 2 == 0) = true := by simp; omega
      have HB := Lib.hid h2; clear h2
      go_enter Tryz.func175, Tryz.ntmps175
      go_wp2
      go_ret
      exact ⟨ret_b (by simp [HB.out]), by go_grown⟩
    · have h3 : ((l.length : Int) % 2 == 0) = false := by simp; omega
      have HB := Lib.hid h2; clear h2
      go_enter Tryz.func175, Tryz.ntmps175
      go_wp2
      go_ret
      exact ⟨ret_b (by simp [HB.out]), by go_grown⟩
  · have hq : (k == 10) = false := by simp [hk]
    have HK := Lib.hid hk; clear hk
    go_enter Tryz.func175, Tryz.ntmps175
    go_wp2
    go_ret
    exact ⟨ret_b (by simp [HK.out]), by go_grown⟩
theorem impl_last (l : List T) (i : Nat) (a : Option Addr) (cap B : Nat) (w : World) (hr : R w B a cap l) (hB : B ≤ w.heap.size) (hi : i < l.length) (he : l.length % 2 = 0) (hi2 : i % 2 = 0) (hl : l.length ≤ 1073741824) :
    Calls Tryz.prog 205 #[.slice a l.length cap, .int .i64 i] w fun e w' => e = .returned (.bool (!hasNm l[i] (l.drop (i + 2)))) ∧ Below w.heap.size w w' := by
  obtain ⟨hl1, hl2⟩ := hr.len
  have HE := Lib.hid (show l.length % 2 = 0 ∧ i % 2 = 0 from ⟨he, hi2⟩); clear he hi2
  go_enter Tryz.func205, Tryz.ntmps205
  go_wp2_with fail
  go_loopw [5] (fun q wr => ∃ (k : Nat), q = .int .i64 k ∧ i + 2 ≤ k ∧ k ≤ l.length + 2 ∧ Hid (k % 2 = 0) ∧ Hid (hasNm l[i] (l.drop (i + 2)) = hasNm l[i] (l.drop k)) ∧ Below w.heap.size w wr) (fun q _ => l.length + 2 - (intOf q).toNat)
  case atStart => exact ⟨i + 2, by go_num, Nat.le_refl _, by omega, by have := HE.out; show _ % 2 = 0; omega, rfl, Below.refl _ _⟩
  case round =>
    obtain ⟨k, rfl, hk1, hk2, HK, HN, hb⟩ := hrel
    have hbs := hb.size
    by_cases hlt : k < l.length
    · have hk3 : k + 1 < l.length := by have := HK.out; have := HE.out; omega
      obtain ⟨b, o, a2, cap2, ha, hbl, d0, d1, d2, d3, d4, hwf, hq⟩ := (hr.below hb hB).get k hlt
      obtain ⟨b', o', a3, cap3, ha', hbl', d0', d1', d2', d3', d4', hwf', hq'⟩ := (hr.below hb hB).get i hi
      subst ha
      injection ha' with ha'
      injection ha' with ha1 ha2
      subst ha1 ha2
      have l1 : b < wr.heap.size := by omega
      clear hwf hwf'
      have HNo := Lib.hid (show hasNm l[i] (l.drop k) = (sameT l[k] l[i] || hasNm l[i] (l.drop (k + 2))) from by rw [hasNm_odd l[i] l k hk3, sameT_comm])
      go_wp2_with fail
      go_region_held3 (fun w' => (∀ b o, b < wr.heap.size → w'.cell? ⟨b, o, none⟩ = wr.cell? ⟨b, o, none⟩) ∧ Below (wr.heap.size) wr w') (first | exact ⟨fun _ _ _ => rfl, (Below.refl _ _).drew⟩ | assumption | exact keep_step (by assumption) (Below.drew (Below.refl _ _)) (Nat.le_refl _) | exact keep_step (by assumption) (by assumption) (by first | omega | (simp only [World.size_drew]; omega) | (simp only [size_alloc]; omega) | (simp only [World.size_drew, size_alloc]; omega) | (have := (‹(_ ∧ Below (wr.heap.size) wr _)›).2.size; first | omega | (simp only [World.size_drew]; omega) | (simp only [size_alloc]; omega) | (simp only [World.size_drew, size_alloc]; omega) | (simp only [World.size_drew] at this; omega) | (simp only [size_alloc] at this; omega) | (simp only [World.size_drew, size_alloc] at this; omega))) | exact keep_step (by assumption) (below1 _ _) (by first | omega | (simp only [World.size_drew]; omega) | (simp only [size_alloc]; omega) | (simp only [World.size_drew, size_alloc]; omega) | (have := (‹(_ ∧ Below (wr.heap.size) wr _)›).2.size; first | omega | (simp only [World.size_drew]; omega) | (simp only [size_alloc]; omega) | (simp only [World.size_drew, size_alloc]; omega) | (simp only [World.size_drew] at this; omega) | (simp only [size_alloc] at this; omega) | (simp only [World.size_drew, size_alloc] at this; omega)))) (first | (go_at_call 215; refine (impl_SameVal l[k] l[i] _ _ _ _ B _ (hq.below (‹_ ∧ Below (wr.heap.size) wr _›).2 (by omega)) (hq'.below (‹_ ∧ Below (wr.heap.size) wr _›).2 (by omega)) (by have := (‹_ ∧ Below (wr.heap.size) wr _›).2.size; omega)).mono ?_; rintro e w2 ⟨rfl, hb2⟩))
      have K := Lib.hid (hb.trans ((‹_ ∧ Below (wr.heap.size) wr _›).2.mono hbs))
      clear hb2
      cases hs : sameT l[k] l[i] with
      | false =>
        have HS := Lib.hid hs; clear hs
        go_wp2_with fail
        go_roundw
        case rel => exact ⟨k + 2, by go_num, by omega, by omega, by have := HK.out; show _ % 2 = 0; omega, by have := HNo.out; rw [HS.out, Bool.false_or] at this; exact HN.out.trans this, K.out⟩
        case measure => simp [intOf]; omega
      | true =>
        have HS := Lib.hid hs; clear hs
        go_wp2_with fail
        go_ret
        exact ⟨ret_b (by have := HNo.out; rw [HS.out, Bool.true_or] at this; rw [HN.out, this]; rfl), K.out⟩
    · have HNe := Lib.hid (HN.out.trans (hasNm_end l[i] l k (by omega)))
      go_wp2_with fail
      go_ret
      exact ⟨ret_b (by rw [HNe.out]; rfl), hb⟩
end Go.Proofs.YtggdenkmohnijaaGreatDoor
