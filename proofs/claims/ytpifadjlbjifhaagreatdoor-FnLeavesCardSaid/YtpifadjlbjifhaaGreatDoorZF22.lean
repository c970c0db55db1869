/- Texts of this proof, merged: FitsW, LeafQ, LawsE, DrwB, Drw1. No condition beyond what each theorem states. -/
import Derived.Test.YtpifadjlbjifhaaGreatDoorRows
import Derived.WalkKit
import Derived.ProofKit
import Derived.OpenShut
import Derived.Handy
import Derived.Lib.Hide
import Derived.Lib.SmallJoins
import Derived.Deep.RegionHeld3
import Derived.Deep.QuietTactic
import Derived.BigQuiet
import Derived.Test.YtpifadjlbjifhaaGreatDoorZF1
import Derived.Test.YtpifadjlbjifhaaGreatDoorZF2
import Derived.Test.YtpifadjlbjifhaaGreatDoorZF3
import Derived.Test.YtpifadjlbjifhaaGreatDoorZF4
import Derived.Test.YtpifadjlbjifhaaGreatDoorZF7
import Derived.Test.YtpifadjlbjifhaaGreatDoorZF17
import Derived.Test.YtpifadjlbjifhaaGreatDoorShelf
import Derived.Test.YtpifadjlbjifhaaGreatDoorZF5
import Derived.Test.YtpifadjlbjifhaaGreatDoorZF6
import Derived.Test.YtpifadjlbjifhaaGreatDoorZF19
import Derived.Test.YtpifadjlbjifhaaGreatDoorZF21
import Derived.Lib.ValidLaws
import Derived.Test.YtpifadjlbjifhaaGreatDoorZF8
import Derived.Test.YtpifadjlbjifhaaGreatDoorZF9
import Derived.Test.YtpifadjlbjifhaaGreatDoorZF13
import Derived.Test.YtpifadjlbjifhaaGreatDoorZF18
import Derived.Deep.AppendLies
set_option linter.unusedSimpArgs false
set_option linter.unnecessarySimpa false
namespace Go.Proofs.YtpifadjlbjifhaaGreatDoor
open Go.ChangeShapes Go.WideShapes Go.ChangeAt Go.RowKit Go.Joins
set_option linter.unusedVariables false
set_option maxRecDepth 100000
def fitsWayB (way : Int) (t : T) : Bool :=
  if way = 1 then (allB ownB t && allB fitTB t) else if way = 2 then (allB ownB t && allB tightU t) else if way = 3 then (allB ownB t && allB packB t)
  else if way = 4 then (allB ownB t && allB fitB t) else false
set_option maxHeartbeats 1000000 in
theorem impl_FitsWay (way : Int) (t : T) (a : Option Addr) (cap B : Nat) (w : World) (hr : R w B a cap t.l) (hwf : Wf t) (hsz : T.sz t ≤ 1048576) (he : Env B w) (hB : B ≤ w.heap.size) :
    Calls Tryz.prog 51 #[.int .i64 way, .agg (cV t a cap)] w fun e w' => e = .returned (.bool (fitsWayB way t)) ∧ Below w.heap.size w w' := by
  have HR := Lib.hid (hr.below (below1 w (.cells (cV t a cap) 36)) hB)
  have HWF := Lib.hid hwf
  have hBw : B ≤ (w.alloc (.cells (cV t a cap) 36)).heap.size := by simp; omega
  have HE := Lib.hid (he.step ((below1 w (.cells (cV t a cap) 36)).mono hB)); clear he
  have H0 := Lib.hid (below1 w (.cells (cV t a cap) 36))
  clear hr hwf
  by_cases h1 : way = 1
  · have HD := Lib.hid (show fitsWayB way t = _ from if_pos h1)
    subst h1
    have CC := Lib.hid (impl_FitsText t a cap B _ HR.out HWF.out hsz HE.out hBw)
    go_enter Tryz.func51, Tryz.ntmps51
    go_wp2_with fail
    refine CC.out.mono ?_
    rintro e w2 ⟨rfl, hb2⟩
    have HB2 := Lib.hid (below_step H0.out hb2 (by simp))
    clear hb2
    go_wp2_with fail
    go_ret
    exact ⟨ret_b (by rw [HD.out]), HB2.out⟩
  by_cases h2 : way = 2
  · have HD := Lib.hid (show fitsWayB way t = _ from (if_neg h1).trans (if_pos h2))
    subst h2
    have CC := Lib.hid (impl_FitsTight t a cap B _ HR.out HWF.out hsz HE.out hBw)
    go_enter Tryz.func51, Tryz.ntmps51
    go_wp2_with fail
    refine CC.out.mono ?_
    rintro e w2 ⟨rfl, hb2⟩
    have HB2 := Lib.hid (below_step H0.out hb2 (by simp))
    clear hb2
    go_wp2_with fail
    go_ret
    exact ⟨ret_b (by rw [HD.out]), HB2.out⟩
  by_cases h3 : way = 3
  · have HD := Lib.hid (show fitsWayB way t = _ from (if_neg h1).trans ((if_neg h2).trans (if_pos h3)))
    subst h3
    have CC := Lib.hid (impl_FitsPacked t a cap B _ HR.out HWF.out hsz HE.out hBw)
    go_enter Tryz.func51, Tryz.ntmps51
    go_wp2_with fail
    refine CC.out.mono ?_
    rintro e w2 ⟨rfl, hb2⟩
    have HB2 := Lib.hid (below_step H0.out hb2 (by simp))
    clear hb2
    go_wp2_with fail
    go_ret
    exact ⟨ret_b (by rw [HD.out]), HB2.out⟩
  by_cases h4 : way = 4
  · have HD := Lib.hid (show fitsWayB way t = _ from (if_neg h1).trans ((if_neg h2).trans ((if_neg h3).trans (if_pos h4))))
    subst h4
    have CC := Lib.hid (impl_FitsPlain t a cap B _ HR.out HWF.out hsz HE.out hBw)
    go_enter Tryz.func51, Tryz.ntmps51
    go_wp2_with fail
    refine CC.out.mono ?_
    rintro e w2 ⟨rfl, hb2⟩
    have HB2 := Lib.hid (below_step H0.out hb2 (by simp))
    clear hb2
    go_wp2_with fail
    go_ret
    exact ⟨ret_b (by rw [HD.out]), HB2.out⟩
  have HD := Lib.hid (show fitsWayB way t = false from (if_neg h1).trans ((if_neg h2).trans ((if_neg h3).trans (if_neg h4))))
  go_enter Tryz.func51, Tryz.ntmps51
  go_wp2_with fail
  go_ret
  exact ⟨ret_b (by rw [HD.out]), H0.out⟩
end Go.Proofs.YtpifadjlbjifhaaGreatDoor
namespace Go.Proofs.YtpifadjlbjifhaaGreatDoor
open Go.ChangeShapes Go.WideShapes Go.ChangeAt Go.RowKit Go.Joins
set_option linter.unusedVariables false
set_option maxRecDepth 100000
/-! ### The leaf of a format: what the law of leaves asks. No program in sight -/
theorem nil_bytes : (⟨#[]⟩ : ByteArray).toList = [] := by
  rw [ByteArray.toList]; unfold ByteArray.toList.loop; simp [ByteArray.size]
theorem decOk_zero : decOk 0 0 := Or.inl ⟨rfl, by decide, by decide⟩
theorem decNewD_ok (n : Int) (k : Nat) : decOk (decNewD n k).1.1 (decNewD n k).1.2 := by
  unfold decNewD
  split
  · exact decOk_zero
  split
  · exact decOk_zero
  split
  · assumption
  · exact decOk_zero
theorem flt_whole {m e : Int} (h : fltOk m e) (he : 0 ≤ e) : -1000000000000000 ≤ m * 2 ^ e.toNat ∧ m * 2 ^ e.toNat ≤ 1000000000000000 := by
  rcases h with ⟨rfl, rfl⟩ | ⟨_, ⟨h1, h2⟩, _, _, h30 | ⟨h46, hlo, hhi⟩⟩
  · simp
  · have h5 : 2 ^ e.toNat ≤ 1073741824 := Nat.le_trans (Nat.pow_le_pow_right (by omega) (show e.toNat ≤ 30 by omega)) (by decide)
    have h8 : (2 : Int) ^ e.toNat = ((2 ^ e.toNat : Nat) : Int) := by simp
    have h6 : ((2 : Int) ^ e.toNat) ≤ 1073741824 := by rw [h8]; omega
    have h7 : (0 : Int) ≤ (2 : Int) ^ e.toNat := Int.le_of_lt (Int.pow_pos (by decide))
    have a := Int.mul_le_mul_of_nonneg_right h1 h7
    have b := Int.mul_le_mul_of_nonneg_right h2 h7
    constructor <;> omega
  · by_cases h30 : e ≤ 30
    · have h5 : 2 ^ e.toNat ≤ 1073741824 := Nat.le_trans (Nat.pow_le_pow_right (by omega) (show e.toNat ≤ 30 by omega)) (by decide)
      have h8 : (2 : Int) ^ e.toNat = ((2 ^ e.toNat : Nat) : Int) := by simp
      have h6 : ((2 : Int) ^ e.toNat) ≤ 1073741824 := by rw [h8]; omega
      have h7 : (0 : Int) ≤ (2 : Int) ^ e.toNat := Int.le_of_lt (Int.pow_pos (by decide))
      have a := Int.mul_le_mul_of_nonneg_right h1 h7
      have b := Int.mul_le_mul_of_nonneg_right h2 h7
      constructor <;> omega
    · have e1 : e.toNat = (e - 30).toNat + 30 := by omega
      rw [e1, Int.pow_add, ← Int.mul_assoc]
      have e2 : (2 : Int) ^ 30 = 1073741824 := by decide
      rw [e2]
      constructor <;> omega
theorem fltDecD_ok (m e : Int) : decOk (fltDecD m e).1 (fltDecD m e).2 := by
  unfold fltDecD
  split
  · exact decOk_zero
  · rename_i h
    split
    · rename_i he
      have hb := flt_whole (Decidable.not_not.1 h) he
      rw [Go.IntWalk.wrap64_in _ ⟨by omega, by omega⟩]
      exact Or.inl ⟨rfl, hb.1, hb.2⟩
    · exact decNewD_ok _ _
theorem nearD_ok (n x : Int) : fltOk (nearD n x).1.1 (nearD n x).1.2 := by
  unfold nearD; split
  · exact Or.inl ⟨rfl, rfl⟩
  · exact fltNewD_ok _ _
theorem own_leaf (k n x : Int) (s : ByteArray) (h : ownQ k n x s 0) : allB ownB (.mk k n x s []) = true := by
  rw [allB_eq]
  simp only [T.l, List.all_nil, Bool.and_true]
  exact decide_eq_true h
theorem own_of {k n x : Int} {s : ByteArray} {l : List T} (h : allB ownB (.mk k n x s l) = true) : ownQ k n x s l.length := by
  rw [allB_eq, Bool.and_eq_true] at h
  exact of_decide_eq_true h.1
theorem own_null : ownQ 1 0 0 ⟨#[]⟩ 0 := (own1 _ _ _ _).2 ⟨nil_bytes, rfl, rfl, rfl⟩
theorem numV_own (d : Int × Int) (h : decOk d.1 d.2) : allB ownB (numV d) = true := by
  unfold numV
  rcases h with ⟨h0, h1, h2⟩ | ⟨h0, h1, h2, h3⟩
  · rw [if_pos h0]; exact own_leaf _ _ _ _ ((own3 _ _ _ _).2 ⟨nil_bytes, rfl, rfl, h1, h2⟩)
  · rw [if_neg h0]; exact own_leaf _ _ _ _ ((own6 _ _ _ _).2 ⟨nil_bytes, rfl, by omega, Or.inr ⟨h0, h1, h2, h3⟩⟩)
theorem valid_asc : ∀ l : List UInt8, (∀ b ∈ l, b.toNat < 128) → Lib.validD l = true := by
  intro l
  induction l with
  | nil => intro _; exact Lib.validD_nil
  | cons b r ih => intro h; rw [Lib.validD_cons b r (h b (by simp))]; exact ih (fun x hx => h x (by simp [hx]))
theorem hexD_asc (d : Int) : (UInt8.ofNat (hexD d).toNat).toNat < 128 ∨ 16 ≤ d ∨ d < 0 := by
  by_cases h : 0 ≤ d ∧ d < 16
  · left
    obtain ⟨u, rfl⟩ : ∃ u : Nat, d = u := ⟨d.toNat, by omega⟩
    have hu : u < 16 := by omega
    have key : ∀ v : Fin 16, (UInt8.ofNat (hexD ((v.val : Nat) : Int)).toNat).toNat < 128 := by decide
    exact key ⟨u, hu⟩
  · omega
theorem hexT_valid (s : ByteArray) : Lib.validD (hexT s).data.toList = true := by
  apply valid_asc
  unfold hexT strOfNums
  have key : ∀ l : List UInt8, ∀ b ∈ (hexL l).map (fun n => UInt8.ofNat n.toNat), b.toNat < 128 := by
    intro l
    induction l with
    | nil => simp [hexL]
    | cons x r ih =>
      intro b hb
      have hx := x.toNat_lt
      simp only [hexL, List.map_cons, List.mem_cons] at hb
      rcases hb with rfl | rfl | hb
      · have := hexD_asc ((x.toNat : Int) / 16); omega
      · have := hexD_asc ((x.toNat : Int) % 16); omega
      · exact ih b hb
  simpa using key s.data.toList
theorem nearW_own (n x : Int) : allB ownB (nearW n x).1 = true := by
  unfold nearW
  split
  · exact own_leaf _ _ _ _ ((own4 _ _ _ _).2 ⟨nil_bytes, rfl, nearD_ok n x⟩)
  · exact own_leaf _ _ _ _ own_null
theorem lT_own (way : Int) (t : T) (h : allB ownB t = true) : allB ownB (lT way t) = true := by
  obtain ⟨k, n, x, s, l⟩ := t
  show allB ownB (leafW way k n x s l).1 = true
  unfold leafW
  split
  · exact nearW_own n x
  split
  · exact numV_own _ (fltDecD_ok n x)
  split
  · exact own_leaf _ _ _ _ own_null
  split
  · exact own_leaf _ _ _ _ ((own7 _ _ _ _).2 ⟨rfl, rfl, rfl, hexT_valid s⟩)
  · exact h
theorem nearW_two (n x : Int) : (∃ m e, (nearW n x).1 = .mk 4 m e ⟨#[]⟩ [] ∧ fltOk m e) ∨ (nearW n x).1 = .mk 1 0 0 ⟨#[]⟩ [] := by
  unfold nearW
  split
  · exact Or.inl ⟨_, _, rfl, nearD_ok n x⟩
  · exact Or.inr rfl
theorem nearW_some (n x : Int) : (nearW n x).2 ≠ 0 := by
  unfold nearW
  split
  · show (if exactD n x = true then (1 : Int) else 2) ≠ 0
    split <;> decide
  · decide
/-- Nothing is lost just where the leaf stays. -/
theorem lN_zero (way : Int) (t : T) : lN way t = 0 ↔ lT way t = t := by
  obtain ⟨k, n, x, s, l⟩ := t
  show (leafW way k n x s l).2 = 0 ↔ (leafW way k n x s l).1 = .mk k n x s l
  unfold leafW
  split
  · rename_i h
    refine ⟨fun e => absurd e (nearW_some n x), fun e => ?_⟩
    rcases nearW_two n x with ⟨m, y, h2, _⟩ | h2
    · rw [h2] at e; injection e; omega
    · rw [h2] at e; injection e; omega
  split
  · rename_i h
    refine ⟨fun e => absurd e (by simp), fun e => ?_⟩
    exfalso
    simp only [numV] at e
    split at e <;> (injection e; omega)
  split
  · refine ⟨fun e => absurd e (by simp), fun e => ?_⟩
    injection e; omega
  split
  · refine ⟨fun e => absurd e (by simp), fun e => ?_⟩
    injection e; omega
  · exact ⟨fun _ => rfl, fun _ => rfl⟩
theorem stripE_id (k : Nat) (m e : Int) (h : m.tmod 2 ≠ 0) : stripE k m e = (m, e) := stripE_no k m e h
theorem bits_back (m e : Int) (h : fltOk m e) : markOkD 4 (fltBitsD m e) = true := by
  have hb : (bitsFltD (fltBitsD m e)) = ((m, e), true) := by
    have hs := fltOk_small h
    unfold fltBitsD
    rw [if_pos h]
    have hab : m.natAbs ≤ 65535 := by omega
    unfold bitsFltD
    rw [if_pos (by split <;> omega)]
    have e1 : (if 16777216 ≤ 65536 * (e + 16) + (m.natAbs : Int) + (if m < 0 then 16777216 else 0) then -((65536 * (e + 16) + (m.natAbs : Int) + (if m < 0 then 16777216 else 0)) % 65536) else (65536 * (e + 16) + (m.natAbs : Int) + (if m < 0 then 16777216 else 0)) % 65536) = m := by
      by_cases hm : m < 0
      · rw [if_pos hm, if_pos (by omega)]; omega
      · rw [if_neg hm, if_neg (by omega)]; omega
    have e2 : (65536 * (e + 16) + (m.natAbs : Int) + (if m < 0 then 16777216 else 0)) / 65536 % 256 - 16 = e := by
      split <;> omega
    rw [e1, e2]
    by_cases hm0 : m = 0
    · rcases h with ⟨_, rfl⟩ | ⟨h0, _⟩
      · subst hm0; rfl
      · exact absurd hm0 h0
    · rw [fltNewD_go _ _ (by omega) hm0]
      rcases h with ⟨h0, _⟩ | h2
      · exact absurd h0 hm0
      · rw [stripE_id 64 m e h2.2.2.1]
        show (if fltOk m e then ((m, e), true) else ((0, 0), false)) = ((m, e), true)
        rw [if_pos (show fltOk m e from Or.inr h2)]
  unfold markOkD
  rw [hb]
  simp
theorem onceB_not {t : T} (h : t.k ≠ 10) : onceB t = true := by
  unfold onceB namesT; rw [if_neg h]; rfl
theorem leaf_names (k n x : Int) (s : ByteArray) : namesT (.mk k n x s []) = [] := by
  unfold namesT; split <;> simp [T.l, evN]
theorem fits_one (p : T → Bool) (k n x : Int) (s : ByteArray) (h : p (.mk k n x s []) = true) : allB p (.mk k n x s []) = true := by
  rw [allB_eq, h]; rfl
/-- A leaf of which nothing has to be changed is one of the format. -/
theorem fits_leaf (way k n x : Int) (s : ByteArray) (hw : 1 ≤ way ∧ way ≤ 4) (hown : ownQ k n x s 0) (hs : s.size ≤ 65535)
    (h1 : ¬ ((k = 3 ∧ way = 4) ∨ (k = 6 ∧ 2 ≤ way ∧ way ≤ 4))) (h2 : ¬ (k = 4 ∧ way = 1)) (h3 : ¬ (k = 5 ∧ (way = 1 ∨ way = 4))) (h4 : ¬ (k = 8 ∧ (way = 1 ∨ way = 4))) : fitsWayB way (.mk k n x s []) = true := by
  have hk : 1 ≤ k ∧ k ≤ 10 := by
    obtain ⟨_, _, _, q⟩ := hown
    omega
  have hal := own_leaf k n x s hown
  have hn := leaf_names k n x s
  have ho : onceB (.mk k n x s []) = true := by unfold onceB; rw [hn]; rfl
  have ht : textNm (.mk k n x s []) = true := by unfold textNm; rw [ho, hn]; rfl
  unfold fitsWayB
  rw [hal]
  simp only [Bool.true_and]
  split
  · apply fits_one
    by_cases h10 : k = 10
    · rw [fitTB_map (show (T.mk k n x s []).k = 10 from h10), ht]
    · exact fitTB_yes (show k = 1 ∨ k = 2 ∨ k = 3 ∨ k = 6 ∨ k = 7 ∨ k = 9 by omega)
  split
  · apply fits_one
    by_cases h10 : k = 10
    · rw [tightU_map (show (T.mk k n x s []).k = 10 from h10)]
      simp [T.l, ascU]
    · rw [tightU_not (show (T.mk k n x s []).k ≠ 10 from h10)]
      exact decide_eq_true (show k ≠ 6 by omega)
  split
  · apply fits_one
    rw [packB_else (show ¬ (T.mk k n x s []).k = 6 by show ¬ k = 6; omega) (show ¬ (T.mk k n x s []).k = 11 by show ¬ k = 11; omega), ho, Bool.true_and]
    obtain ⟨_, _, _, q⟩ := hown
    rcases q with ⟨rfl, q⟩ | ⟨rfl, q⟩ | ⟨rfl, q⟩ | ⟨rfl, q⟩ | ⟨rfl, q⟩ | ⟨rfl, q⟩ | ⟨rfl, q⟩ | ⟨rfl, q⟩ | ⟨rfl, q⟩ | ⟨rfl, q⟩ | ⟨rfl, q⟩
    · simp [markForD, markOkD, T.k, T.n, q]
    · simp [markForD, markOkD, T.k, T.n]; omega
    · simp [markForD, markOkD, T.k, T.n]; omega
    · exact bits_back n x q
    · simp [markForD, markOkD, T.k, T.n]; omega
    · omega
    · simp [markForD, markOkD, T.k, T.s]; omega
    · simp [markForD, markOkD, T.k, T.s]; omega
    · simp [markForD, markOkD, T.k, T.l]
    · simp [markForD, markOkD, T.k, T.l]
    · omega
  split
  · apply fits_one
    by_cases h10 : k = 10
    · rw [fitB_map (show (T.mk k n x s []).k = 10 from h10), ht]
    · exact fitB_yes (show k = 1 ∨ k = 2 ∨ k = 4 ∨ k = 7 ∨ k = 9 by omega)
  · omega
theorem lT_fits (way : Int) (t : T) (hw : 1 ≤ way ∧ way ≤ 4) (h : allB ownB t = true) (hl : t.l = []) (hs : t.s.size ≤ 1000) : fitsWayB way (lT way t) = true := by
  obtain ⟨k, n, x, s, l⟩ := t
  simp only [T.l] at hl
  subst hl
  replace hs : s.size ≤ 1000 := hs
  have hq := own_of h
  show fitsWayB way (leafW way k n x s []).1 = true
  have h0 : (⟨#[]⟩ : ByteArray).size = 0 := rfl
  unfold leafW
  split
  · rename_i hc
    rcases nearW_two n x with ⟨m, e, h2, h3⟩ | h2
    · rw [h2]
      exact fits_leaf way 4 m e _ hw ((own4 _ _ _ _).2 ⟨nil_bytes, rfl, h3⟩) (by omega) (by omega) (by omega) (by omega) (by omega)
    · rw [h2]
      exact fits_leaf way 1 0 0 _ hw own_null (by omega) (by omega) (by omega) (by omega) (by omega)
  split
  · rename_i hc
    have hd := fltDecD_ok n x
    show fitsWayB way (numV (fltDecD n x)) = true
    have ho := own_of (k := (numV (fltDecD n x)).k) (n := (numV (fltDecD n x)).n) (x := (numV (fltDecD n x)).x) (s := (numV (fltDecD n x)).s) (l := (numV (fltDecD n x)).l) (by rw [T.eta]; exact numV_own _ hd)
    revert ho
    unfold numV
    split
    · intro ho
      exact fits_leaf way 3 _ 0 _ hw ho (by omega) (by omega) (by omega) (by omega) (by omega)
    · intro ho
      exact fits_leaf way 6 _ _ _ hw ho (by omega) (by omega) (by omega) (by omega) (by omega)
  split
  · exact fits_leaf way 1 0 0 _ hw own_null (by omega) (by omega) (by omega) (by omega) (by omega)
  split
  · exact fits_leaf way 7 0 0 _ hw ((own7 _ _ _ _).2 ⟨rfl, rfl, rfl, hexT_valid s⟩) (by rw [hexT_size]; omega) (by omega) (by omega) (by omega) (by omega)
  · rename_i c1 c2 c3 c4
    exact fits_leaf way k n x s hw hq (by omega) c1 c2 c3 c4
end Go.Proofs.YtpifadjlbjifhaaGreatDoor
namespace Go.Proofs.YtpifadjlbjifhaaGreatDoor
open Go.ChangeShapes Go.WideShapes Go.ChangeAt Go.RowKit Go.Joins
set_option linter.unusedVariables false
set_option maxRecDepth 100000
/-! ### What the drawn laws call besides -/
set_option maxHeartbeats 1000000 in
theorem laws_sameVal : ∀ t u : T, ∀ (a a' : Option Addr) (cap cap' B : Nat) (w : World), R w B a cap t.l → R w B a' cap' u.l → B ≤ w.heap.size →
    Calls Tryz.prog 39 #[.agg (cV t a cap), .agg (cV u a' cap')] w fun e w' => e = .returned (.bool (sameT t u)) ∧ Below w.heap.size w w' := by
  intro t
  induction t using T.ind with
  | h k n x s l ih =>
    intro u a a' cap cap' B w hr hr' hB
    have IH := Lib.hid ih; clear ih
    obtain ⟨k', n', x', s', l'⟩ := u
    simp only [cV, T.k, T.n, T.x, T.s, T.l] at hr hr' ⊢
    obtain ⟨hl1, hl2⟩ := hr.len
    obtain ⟨hm1, hm2⟩ := hr'.len
    have HR := Lib.hid hr; clear hr
    have HR' := Lib.hid hr'; clear hr'
    have H3 := Lib.hid (below2 w (.cells #[Value.int IntKind.i64 k, Value.int IntKind.i64 n, Value.int IntKind.i64 x, Value.string s, Value.slice a l.length cap] 36) (.cells #[Value.int IntKind.i64 k', Value.int IntKind.i64 n', Value.int IntKind.i64 x', Value.string s', Value.slice a' l'.length cap'] 36))
    by_cases hk : k = k'
    case neg =>
      have h1 : (k == k') = false := by simp [hk]
      have h2 : (k != k') = true := by simp [hk]
      have HE := Lib.hid (show sameT (T.mk k n x s l) (T.mk k' n' x' s' l') = false from sameT_false (fun e => hk (by injection e)))
      clear hk
      go_enter Tryz.func39, Tryz.ntmps39
      go_wp2_with fail
      go_ret
      exact ⟨ret_b HE.out.symm, H3.out⟩
    subst hk
    by_cases hk : n = n'
    case neg =>
      have h1 : (n == n') = false := by simp [hk]
      have h2 : (n != n') = true := by simp [hk]
      have HE := Lib.hid (show sameT (T.mk k n x s l) (T.mk k n' x' s' l') = false from sameT_false (fun e => hk (by injection e)))
      clear hk
      go_enter Tryz.func39, Tryz.ntmps39
      go_wp2_with fail
      go_ret
      exact ⟨ret_b HE.out.symm, H3.out⟩
    subst hk
    by_cases hk : x = x'
    case neg =>
      have h1 : (x == x') = false := by simp [hk]
      have h2 : (x != x') = true := by simp [hk]
      have HE := Lib.hid (show sameT (T.mk k n x s l) (T.mk k n x' s' l') = false from sameT_false (fun e => hk (by injection e)))
      clear hk
      go_enter Tryz.func39, Tryz.ntmps39
      go_wp2_with fail
      go_ret
      exact ⟨ret_b HE.out.symm, H3.out⟩
    subst hk
    by_cases hk : s = s'
    case neg =>
      have h1 := bytes_ne hk
      have h2 : (s.toList != s'.toList) = true := by simp [bne, h1]
      have HE := Lib.hid (show sameT (T.mk k n x s l) (T.mk k n x s' l') = false from sameT_false (fun e => hk (by injection e)))
      clear hk
      go_enter Tryz.func39, Tryz.ntmps39
      go_wp2_with fail
      go_ret
      exact ⟨ret_b HE.out.symm, H3.out⟩
    subst hk
    by_cases hk : l.length = l'.length
    case neg =>
      have h1 : ((l.length : Int) == l'.length) = false := by rw [beq_eq_false_iff_ne]; omega
      have h2 : ((l.length : Int) != l'.length) = true := by simp [bne, h1]
      have HE := Lib.hid (show sameT (T.mk k n x s l) (T.mk k n x s l') = false from sameT_false (fun e => hk (by injection e with _ _ _ _ e5; rw [e5])))
      clear hk
      go_enter Tryz.func39, Tryz.ntmps39
      go_wp2_with fail
      go_ret
      exact ⟨ret_b HE.out.symm, H3.out⟩
    have h1 : ((l.length : Int) == l'.length) = true := by simp [hk]
    have h2 : ((l.length : Int) != l'.length) = false := by simp [hk]
    have HL := Lib.hid hk; clear hk
    have q1 : Is ((w.alloc (.cells #[Value.int IntKind.i64 k, Value.int IntKind.i64 n, Value.int IntKind.i64 x, Value.string s, Value.slice a l.length cap] 36)).alloc (.cells #[Value.int IntKind.i64 k, Value.int IntKind.i64 n, Value.int IntKind.i64 x, Value.string s, Value.slice a' l'.length cap'] 36)) w.heap.size 36 _ := (Is.new _ _ _).alloc _
    have q2 := Is.new2 w (.cells #[Value.int IntKind.i64 k, Value.int IntKind.i64 n, Value.int IntKind.i64 x, Value.string s, Value.slice a l.length cap] 36) #[Value.int IntKind.i64 k, Value.int IntKind.i64 n, Value.int IntKind.i64 x, Value.string s, Value.slice a' l'.length cap'] 36
    have hs : w.heap.size + 2 ≤ ((w.alloc (.cells #[Value.int IntKind.i64 k, Value.int IntKind.i64 n, Value.int IntKind.i64 x, Value.string s, Value.slice a l.length cap] 36)).alloc (.cells #[Value.int IntKind.i64 k, Value.int IntKind.i64 n, Value.int IntKind.i64 x, Value.string s, Value.slice a' l'.length cap'] 36)).heap.size := by simp
    go_enter Tryz.func39, Tryz.ntmps39
    go_wp2_with fail
    generalize hW : (w.alloc (.cells #[Value.int IntKind.i64 k, Value.int IntKind.i64 n, Value.int IntKind.i64 x, Value.string s, Value.slice a l.length cap] 36)).alloc (.cells #[Value.int IntKind.i64 k, Value.int IntKind.i64 n, Value.int IntKind.i64 x, Value.string s, Value.slice a' l'.length cap'] 36) = W0 at q1 q2 H3 hs ⊢
    clear hW
    go_loopw [5] (fun i wr => ∃ (j : Nat), j ≤ l.length ∧ i = .int .i64 j ∧ Hid (l.take j = l'.take j) ∧ Below W0.heap.size W0 wr) (fun i _ => l.length - (intOf i).toNat)
    case atStart => exact ⟨0, Nat.zero_le _, rfl, rfl, Below.refl _ _⟩
    case round =>
      obtain ⟨j, hj, rfl, HP, hb⟩ := hrel
      have hbs := hb.size
      obtain ⟨c0, c1, c2, c3, c4⟩ := (q1.below hb (by omega)).cells5
      obtain ⟨e0, e1, e2, e3, e4⟩ := (q2.below hb (by omega)).cells5
      by_cases hlt : j < l.length
      · have hlt' : j < l'.length := by have := HL.out; omega
        have hR := (HR.out.below H3.out hB).below hb (by omega)
        have hR' := (HR'.out.below H3.out hB).below hb (by omega)
        obtain ⟨b, o, a2, cap2, rfl, hbl, d0, d1, d2, d3, d4, hwf, hq⟩ := hR.get j hlt
        obtain ⟨b', o', a3, cap3, rfl, hbl', d0', d1', d2', d3', d4', hwf', hq'⟩ := hR'.get j hlt'
        have l1 : b < wr.heap.size := by omega
        have l2 : b' < wr.heap.size := by omega
        have l3 : w.heap.size < wr.heap.size := by omega
        have l4 : w.heap.size + 1 < wr.heap.size := by omega
        clear hR hR' hwf hwf'
        go_wp2_with fail
        go_region_held3 (fun w' => (∀ b o, b < wr.heap.size → w'.cell? ⟨b, o, none⟩ = wr.cell? ⟨b, o, none⟩) ∧ Below (wr.heap.size) wr w') (first | exact ⟨fun _ _ _ => rfl, (Below.refl _ _).drew⟩ | exact keep_step (by assumption) (Below.drew (Below.refl _ _)) (Nat.le_refl _) | exact keep_step (by assumption) (by assumption) (by first | omega | (simp only [World.size_drew]; omega) | (simp only [size_alloc]; omega) | (simp only [World.size_drew, size_alloc]; omega) | (have := (‹(_ ∧ Below (wr.heap.size) wr _)›).2.size; first | omega | (simp only [World.size_drew]; omega) | (simp only [size_alloc]; omega) | (simp only [World.size_drew, size_alloc]; omega) | (simp only [World.size_drew] at this; omega) | (simp only [size_alloc] at this; omega) | (simp only [World.size_drew, size_alloc] at this; omega))) | exact keep_step (by assumption) (below1 _ _) (by first | omega | (simp only [World.size_drew]; omega) | (simp only [size_alloc]; omega) | (simp only [World.size_drew, size_alloc]; omega) | (have := (‹(_ ∧ Below (wr.heap.size) wr _)›).2.size; first | omega | (simp only [World.size_drew]; omega) | (simp only [size_alloc]; omega) | (simp only [World.size_drew, size_alloc]; omega) | (simp only [World.size_drew] at this; omega) | (simp only [size_alloc] at this; omega) | (simp only [World.size_drew, size_alloc] at this; omega)))) (first | (go_at_call 39; refine (IH.out l[j] (List.getElem_mem hlt) l'[j] _ _ _ _ B _ ?_ ?_ (by have := (‹_ ∧ Below (wr.heap.size) wr _›).2.size; omega)).mono ?_; (exact hq.below (‹_ ∧ Below (wr.heap.size) wr _›).2 (by omega)); (exact hq'.below (‹_ ∧ Below (wr.heap.size) wr _›).2 (by omega)); rintro e w2 ⟨rfl, hb2⟩))
        have K := Lib.hid (hb.trans ((‹_ ∧ Below (wr.heap.size) wr _›).2.mono hbs))
        clear hb2
        by_cases he : l[j] = l'[j]
        · have HE := Lib.hid (show l.take (j + 1) = l'.take (j + 1) from by rw [take_snoc l j hlt, take_snoc l' j hlt', HP.out, he])
          have hd := sameT_true he
          clear he
          rw [hd]
          go_wp2_with fail
          go_roundw
          case rel => exact ⟨j + 1, by omega, by go_num, HE.out, K.out⟩
          case measure => simp [intOf]; omega
        · have HE := Lib.hid (show sameT (T.mk k n x s l) (T.mk k n x s l') = false from sameT_false (fun e => he (by injection e with _ _ _ _ e5; subst e5; rfl)))
          have hd := sameT_false he
          clear he
          rw [hd]
          go_wp2_with fail
          go_ret
          exact ⟨ret_b HE.out.symm, H3.out.trans (K.out.mono (by omega))⟩
      · have HJ := Lib.hid (show sameT (T.mk k n x s l) (T.mk k n x s l') = true from sameT_true (by have := HP.out; have h2 := HL.out; rw [List.take_of_length_le (by omega), List.take_of_length_le (by omega)] at this; rw [this]))
        go_wp2_with fail
        go_ret
        exact ⟨ret_b HJ.out.symm, H3.out.trans (hb.mono (by omega))⟩
theorem spec_WayOk (n : Int) (w : World) : Calls Tryz.prog 41 #[.int .i64 n] w fun e w' => e = .returned (.bool (decide (1 ≤ n ∧ n ≤ 4))) ∧ Below w.heap.size w w' := by
  go_enter Tryz.func41, Tryz.ntmps41
  go_wp2_with fail
  refine (spec_l1InE n 1 4 w).mono ?_
  rintro e w2 ⟨rfl, rfl⟩
  obtain ⟨b, hb⟩ : ∃ b, decide (1 ≤ n ∧ n ≤ 4) = b := ⟨_, rfl⟩
  rw [hb]
  go_wp2_with fail
  go_ret
  exact ⟨by rw [hb]; rfl, Below.refl _ _⟩
theorem impl_WayOk (n : Int) (w : World) : Calls Tryz.prog 40 #[.int .i64 n] w fun e w' => e = .returned (.bool (decide (1 ≤ n ∧ n ≤ 4))) ∧ Below w.heap.size w w' := by
  go_enter Tryz.func40, Tryz.ntmps40
  go_wp2_with fail
  refine (impl_withinE n 1 4 w).mono ?_
  rintro e w2 ⟨rfl, rfl⟩
  obtain ⟨b, hb⟩ : ∃ b, decide (1 ≤ n ∧ n ≤ 4) = b := ⟨_, rfl⟩
  rw [hb]
  go_wp2_with fail
  go_ret
  exact ⟨by rw [hb]; rfl, Below.refl _ _⟩
theorem spec_Tags (n : Int) (w : World) : Calls Tryz.prog 49 #[.int .i64 n] w fun e w' => e = .returned (.bool (decide (n = 2))) ∧ Below w.heap.size w w' := by
  by_cases h : n = 2
  · subst h
    go_enter Tryz.func49, Tryz.ntmps49
    go_wp2_with fail
    go_ret
    exact ⟨rfl, Below.refl _ _⟩
  · have hb : (n == 2) = false := by simpa using h
    go_enter Tryz.func49, Tryz.ntmps49
    go_wp2_with fail
    go_ret
    exact ⟨by simp [h], Below.refl _ _⟩
theorem impl_Tags (n : Int) (w : World) : Calls Tryz.prog 48 #[.int .i64 n] w fun e w' => e = .returned (.bool (decide (n = 2))) ∧ Below w.heap.size w w' := by
  by_cases h : n = 2
  · subst h
    go_enter Tryz.func48, Tryz.ntmps48
    go_wp2_with fail
    go_ret
    exact ⟨rfl, Below.refl _ _⟩
  · have hb : (n == 2) = false := by simpa using h
    go_enter Tryz.func48, Tryz.ntmps48
    go_wp2_with fail
    go_ret
    exact ⟨by simp [h], Below.refl _ _⟩
theorem impl_TextNames (way : Int) (w : World) : Calls Tryz.prog 46 #[.int .i64 way] w fun e w' => e = .returned (.bool (decide (way = 1 ∨ way = 4))) ∧ Below w.heap.size w w' := by
  by_cases h1 : way = 1
  · subst h1
    go_enter Tryz.func46, Tryz.ntmps46
    go_wp2_with fail
    go_ret
    exact ⟨by simp, Below.refl _ _⟩
  · have hb : (way == 1) = false := by simpa using h1
    by_cases h4 : way = 4
    · subst h4
      go_enter Tryz.func46, Tryz.ntmps46
      go_wp2_with fail
      go_ret
      exact ⟨by simp, Below.refl _ _⟩
    · have hb4 : (way == 4) = false := by simpa using h4
      go_enter Tryz.func46, Tryz.ntmps46
      go_wp2_with fail
      go_ret
      exact ⟨by simp [h1, h4], Below.refl _ _⟩
theorem laws_big (a : Option Addr) (cap : Nat) (l : List Int) (w : World) : Calls Tryz.prog 5 #[.slice a l.length cap] w fun e w' => e = .returned (.bool (decide (1048576 < l.length))) ∧ w' = w := by
  by_cases h : 1048576 < l.length
  · have hz : (1048576 : Int) < (l.length : Int) := by omega
    go_enter Tryz.func5, Tryz.ntmps5
    go_wp2_with fail
    go_ret
    exact ⟨by simp [h], rfl⟩
  · have hz : ¬ (1048576 : Int) < (l.length : Int) := by omega
    go_enter Tryz.func5, Tryz.ntmps5
    go_wp2_with fail
    go_ret
    exact ⟨by simp [h], rfl⟩
end Go.Proofs.YtpifadjlbjifhaaGreatDoor
namespace Go.Proofs.YtpifadjlbjifhaaGreatDoor
open Go.ChangeShapes Go.WideShapes Go.ChangeAt Go.RowKit Go.Joins
set_option linter.unusedVariables false
set_option maxRecDepth 100000
/-! ### Draws: a cursor in a block of its own -/
/-- Nothing but block A has changed. -/
abbrev Kp (A : Nat) (w w' : World) : Prop := Beside A (A + 1) w w'
theorem Kp.of_below {A n : Nat} {w w' : World} (h : Below n w w') (hn : w.heap.size ≤ n) (hA : A ≤ n) : Kp A w w' := Beside.of_below h hn hA
theorem Kp.size {A : Nat} {w w' : World} (h : Kp A w w') : w.heap.size ≤ w'.heap.size := h.1.size
theorem Kp.heap {A : Nat} {w w' : World} (h : Kp A w w') (f : Nat) (hf : f ≠ A) (hl : f < w.heap.size) : w'.heap[f]? = w.heap[f]? := by
  rcases Nat.lt_or_ge f A with h1 | h1
  · exact h.1.block f h1
  · exact h.2 f (by omega) hl
theorem Kp.is {A g : Nat} {w w' : World} {e : TypeId} {cs : Array Value} (h : Kp A w w') (hi : Is w g e cs) (hg : g ≠ A) : Is w' g e cs := (h.heap g hg hi.lt).trans hi
theorem Kp.drewN {A : Nat} {w : World} (n : Nat) : Kp A w (w.drewN n) := ⟨below_drewN _ _ _, fun _ _ _ => rfl⟩
theorem Kp.cell {A : Nat} {w : World} (i : Nat) (v : Value) : Kp A w (w.setCell ⟨A, i, none⟩ v) := ⟨(Below.refl _ _).setCell (p := ⟨A, i, none⟩) (Nat.le_refl _) _, fun f hf _ => heap_miss _ _ _ _ (by omega) _⟩
theorem Kp.alloc {A : Nat} {w : World} (hA : A ≤ w.heap.size) (o : Obj) : Kp A w (w.alloc o) := Kp.of_below (below1 w o) (Nat.le_refl _) hA
/-- The slice value holds the list, in blocks that stand, other than block A. -/
def Rx {α : Type} (E : World → Nat → Nat → α → List Nat → Prop) (n : Nat) (w : World) (A : Nat) (a : Option Addr) (cap : Nat) (l : List α) : Prop := ∃ F, Sl E n w a cap l F ∧ ∀ f ∈ F, f ≠ A ∧ f < w.heap.size
section
variable {α : Type} {E : World → Nat → Nat → α → List Nat → Prop} {n : Nat} {w w' : World} {A B cap : Nat} {a : Option Addr} {l : List α}
theorem Rx.kp (hE : Loc E n) (h : Rx E n w A a cap l) (hk : Kp A w w') : Rx E n w' A a cap l := by
  obtain ⟨F, h1, h2⟩ := h
  exact ⟨F, h1.agree hE (fun f hf => hk.heap f (h2 f hf).1 (h2 f hf).2), fun f hf => ⟨(h2 f hf).1, Nat.lt_of_lt_of_le (h2 f hf).2 hk.size⟩⟩
theorem Rx.below (hE : Loc E n) (h : Rx E n w A a cap l) {m : Nat} (hb : Below m w w') (hm : w.heap.size ≤ m) : Rx E n w' A a cap l := by
  obtain ⟨F, h1, h2⟩ := h
  exact ⟨F, h1.agree hE (fun f hf => hb.block f (by have := (h2 f hf).2; omega)), fun f hf => ⟨(h2 f hf).1, Nat.lt_of_lt_of_le (h2 f hf).2 hb.size⟩⟩
theorem Rx.rd (h : Rx E n w A a cap l) : Rd E n w w.heap.size a cap l := by
  obtain ⟨F, h1, h2⟩ := h
  exact ⟨F, h1, fun f hf => (h2 f hf).2⟩
theorem Rd.rx (h : Rd E n w B a cap l) (hB : B ≤ A) (hA : A ≤ w.heap.size) : Rx E n w A a cap l := by
  obtain ⟨F, h1, h2⟩ := h
  exact ⟨F, h1, fun f hf => by have := h2 f hf; omega⟩
theorem Ow.rx {lo hi : Nat} (h : Ow E n w lo hi a cap l) (hB : A < lo) (hA : hi ≤ w.heap.size) : Rx E n w A a cap l := by
  obtain ⟨F, h1, _, h2⟩ := h
  exact ⟨F, h1, fun f hf => by have := h2 f hf; omega⟩
theorem Rx.nil (c : Nat) (hc : c ≤ maxLen) : Rx E n w A a c [] := ⟨[], Sl.nil _ _ _ hc, by simp⟩
theorem Rx.get (h : Rx E n w A a cap l) (i : Nat) (hi : i < l.length) :
    ∃ b o F, a = some ⟨b, o, none⟩ ∧ b ≠ A ∧ b < w.heap.size ∧ E w b (o + i * n) l[i] F ∧ ∀ f ∈ F, f ≠ A ∧ f < w.heap.size := by
  obtain ⟨F, ⟨h1, h2, h3, h4⟩, hF⟩ := h
  obtain ⟨b, o, F', ha, rfl, hr⟩ := h4 (by rintro rfl; simp at hi)
  obtain ⟨G, hv, hG⟩ := hr.get i hi
  exact ⟨b, o, G, ha, (hF b (by simp)).1, (hF b (by simp)).2, hv, fun f hf => hF f (by simp [hG f hf])⟩
end
/-- A row of ints in a block. -/
theorem ints_row {w : World} {g : Nat} {e : TypeId} {cs : Array Value} (h : Is w g e cs) : ∀ (l : List Int) (o : Nat), (∀ i (hi : i < l.length), cs[o + i]? = some (.int .i64 l[i])) → (∀ x ∈ l, I64 x) → Row EInt 1 w g o l [] := by
  intro l
  induction l with
  | nil => intro o _ _; rfl
  | cons x r ih =>
    intro o hc hx
    refine ⟨[], [], rfl, ⟨rfl, h.cell o (hc 0 (by simp)), hx x (by simp)⟩, ih (o + 1) (fun i hi => ?_) (fun y hy => hx y (by simp [hy]))⟩
    have := hc (i + 1) (by simpa using hi)
    rw [show o + 1 + i = o + (i + 1) from by omega]; simpa using this
theorem ints_rx {w : World} {g A : Nat} {e : TypeId} (l : List Int) (h : Is w g e (l.map (Value.int .i64)).toArray) (hx : ∀ x ∈ l, I64 x) (hA : g ≠ A) (hl : 0 < l.length) (hm : l.length ≤ maxLen) : Rx EInt 1 w A (some ⟨g, 0, none⟩) l.length l := by
  refine ⟨[g], ⟨Nat.le_refl _, hm, fun h => (by subst h; simp at hl), fun _ => ⟨g, 0, [], rfl, rfl, ints_row h l 0 (fun i hi => by simp [hi]) hx⟩⟩, fun f hf => ?_⟩
  rw [List.mem_singleton] at hf
  subst hf
  exact ⟨hA, h.lt⟩
/-- A row of strings. -/
def EStx (w : World) (b o : Nat) (x : ByteArray) (F : List Nat) : Prop := F = [] ∧ w.cell? ⟨b, o, none⟩ = some (.string x)
theorem EStx.loc : Loc EStx 1 := by
  intro x w w' b o F h hc _
  obtain ⟨h0, h1⟩ := h
  exact ⟨h0, by rw [hc _ (by omega) (by omega)]; exact h1⟩
theorem strs_row {w : World} {g : Nat} {e : TypeId} {cs : Array Value} (h : Is w g e cs) : ∀ (l : List ByteArray) (o : Nat), (∀ i (hi : i < l.length), cs[o + i]? = some (.string l[i])) → Row EStx 1 w g o l [] := by
  intro l
  induction l with
  | nil => intro o _; rfl
  | cons x r ih =>
    intro o hc
    refine ⟨[], [], rfl, ⟨rfl, h.cell o (hc 0 (by simp))⟩, ih (o + 1) (fun i hi => ?_)⟩
    have := hc (i + 1) (by simpa using hi)
    rw [show o + 1 + i = o + (i + 1) from by omega]; simpa using this
theorem strs_rx {w : World} {g A : Nat} {e : TypeId} (l : List ByteArray) (h : Is w g e (l.map Value.string).toArray) (hA : g ≠ A) (hl : 0 < l.length) (hm : l.length ≤ maxLen) : Rx EStx 1 w A (some ⟨g, 0, none⟩) l.length l := by
  refine ⟨[g], ⟨Nat.le_refl _, hm, fun h => (by subst h; simp at hl), fun _ => ⟨g, 0, [], rfl, rfl, strs_row h l 0 (fun i hi => by simp [hi])⟩⟩, fun f hf => ?_⟩
  rw [List.mem_singleton] at hf
  subst hf
  exact ⟨hA, h.lt⟩
/-- The cursor at block A: the bytes of the draw, the place, the mix. -/
def Cur (w : World) (A : Nat) : Prop := ∃ (a : Option Addr) (cap : Nat) (l : List Int) (i : Nat) (h : Int), Is w A 104 #[.slice a l.length cap, .int .i64 i, .int .i64 h] ∧ Rd EByte 1 w A a cap l ∧ i ≤ l.length ∧ I64 h ∧ l.length ≤ 1048576
theorem Cur.lt {w : World} {A : Nat} (h : Cur w A) : A < w.heap.size := by obtain ⟨_, _, _, _, _, h, _⟩ := h; exact h.lt
theorem Cur.below {w w' : World} {A n : Nat} (h : Cur w A) (hb : Below n w w') (hn : A < n) : Cur w' A := by
  obtain ⟨a, cap, l, i, m, h1, h2, h3⟩ := h
  exact ⟨a, cap, l, i, m, h1.below hb hn, h2.below EByte.loc hb (by omega), h3⟩
theorem Cur.next {w : World} {A cap i : Nat} {a : Option Addr} {l : List Int} {h : Int} (n : Nat) (hI : Is w A 104 #[.slice a l.length cap, .int .i64 i, .int .i64 h]) (hR : Rd EByte 1 w A a cap l) (hi : i < l.length) (hh : I64 h) (hl : l.length ≤ 1048576) :
    Cur ((w.drewN n).setCell ⟨A, 1, none⟩ (.int .i64 ((i : Int) + 1))) A ∧ Kp A w ((w.drewN n).setCell ⟨A, 1, none⟩ (.int .i64 ((i : Int) + 1))) := by
  have HI3 := (hI.agree (w' := w.drewN n) rfl).set 1 (.int .i64 ((i : Int) + 1))
  have hk : Kp A w ((w.drewN n).setCell ⟨A, 1, none⟩ (.int .i64 ((i : Int) + 1))) := (Kp.drewN n).trans (Kp.cell 1 _)
  refine ⟨⟨a, cap, l, i + 1, h, ?_, hR.below EByte.loc hk.1 (Nat.le_refl _), by omega, hh, hl⟩, hk⟩
  simpa using HI3
theorem Cur.stay {w : World} {A cap i : Nat} {a : Option Addr} {l : List Int} {h : Int} (n : Nat) (hI : Is w A 104 #[.slice a l.length cap, .int .i64 i, .int .i64 h]) (hR : Rd EByte 1 w A a cap l) (hi : i ≤ l.length) (hh : I64 h) (hl : l.length ≤ 1048576) :
    Cur (w.drewN n) A ∧ Kp A w (w.drewN n) :=
  ⟨⟨a, cap, l, i, h, hI.agree (w' := w.drewN n) rfl, hR.below EByte.loc (below_drewN A w n) (Nat.le_refl _), hi, hh, hl⟩, Kp.drewN n⟩
instance (n : Int) : Decidable (I64 n) := inferInstanceAs (Decidable (_ ∧ _))
theorem bits_and (x m : Int) (h0 : 0 ≤ m) (h1 : m ≤ 1073741823) : 0 ≤ bits BinOp.and IntKind.i64 x m ∧ bits BinOp.and IntKind.i64 x m ≤ m := by
  have hm : (BitVec.ofInt 64 m).toNat = m.toNat := by
    rw [BitVec.toNat_ofInt]
    have : m % (2 ^ 64 : Nat) = m := Int.emod_eq_of_lt h0 (by simp; omega)
    rw [this]
  have h2 : (BitVec.ofInt 64 x &&& BitVec.ofInt 64 m).toNat ≤ m.toNat := by
    rw [BitVec.toNat_and, hm]
    exact Nat.and_le_right
  show 0 ≤ IntKind.wrap .i64 ((BitVec.ofInt 64 x &&& BitVec.ofInt 64 m).toNat : Int) ∧ IntKind.wrap .i64 ((BitVec.ofInt 64 x &&& BitVec.ofInt 64 m).toNat : Int) ≤ m
  generalize (BitVec.ofInt 64 x &&& BitVec.ofInt 64 m).toNat = r at h2
  have : IntKind.wrap .i64 (r : Int) = (r : Int) := by simp [IntKind.wrap, IntKind.bits, IntKind.signed]; omega
  omega
theorem wrap_i64 (n : Int) : I64 (wrap64 n) := by
  unfold I64 wrap64
  constructor <;> (first | omega | (simp; omega) | (split <;> omega))
theorem Kp.set {A g : Nat} {w w' : World} (h : Kp A w w') (hg : w.heap.size ≤ g) (hA : A ≤ g) (i : Nat) (v : Value) : Kp A w (w'.setCell ⟨g, i, none⟩ v) :=
  ⟨h.1.trans ((Below.refl _ _).setCell (p := ⟨g, i, none⟩) hA _), fun f hf hl => (heap_miss _ _ _ _ (by omega) _).trans (h.2 f hf hl)⟩
theorem Cur.set {A g : Nat} {w : World} (h : Cur w A) (hA : A < g) (i : Nat) (v : Value) : Cur (w.setCell ⟨g, i, none⟩ v) A :=
  h.below ((Below.refl g w).setCell (p := ⟨g, i, none⟩) (Nat.le_refl _) _) hA
/-- A result of two cells is stored. -/
theorem fin2 {w w4 : World} {A g : Nat} {e : TypeId} {u0 u1 : Value} (v0 v1 : Value) (hI : Is w4 g e #[u0, u1]) (hk : Kp A w w4) (hg : w.heap.size ≤ g) (hc : Cur w4 A) (hA : A < g) :
    ((w4.setCell ⟨g, 0, none⟩ v0).setCell ⟨g, 1, none⟩ v1).cell? ⟨g, 0, none⟩ = some v0 ∧ ((w4.setCell ⟨g, 0, none⟩ v0).setCell ⟨g, 1, none⟩ v1).cell? ⟨g, 1, none⟩ = some v1 ∧
      Cur ((w4.setCell ⟨g, 0, none⟩ v0).setCell ⟨g, 1, none⟩ v1) A ∧ Kp A w ((w4.setCell ⟨g, 0, none⟩ v0).setCell ⟨g, 1, none⟩ v1) := by
  obtain ⟨e0, e1⟩ := ((hI.set 0 v0).set 1 v1).cells2
  exact ⟨e0, e1, (hc.set hA 0 v0).set hA 1 v1, (hk.set hg (by omega) 0 v0).set hg (by omega) 1 v1⟩
/-- A result of five cells is stored. -/
theorem fin5 {w w4 : World} {A g : Nat} {e : TypeId} (v0 v1 v2 v3 v4 : Value) (hI : Blk w4 g e 5) (hk : Kp A w w4) (hg : w.heap.size ≤ g) (hc : Cur w4 A) (hA : A < g) :
    (((((w4.setCell ⟨g, 0, none⟩ v0).setCell ⟨g, 1, none⟩ v1).setCell ⟨g, 2, none⟩ v2).setCell ⟨g, 3, none⟩ v3).setCell ⟨g, 4, none⟩ v4).cell? ⟨g, 0, none⟩ = some v0 ∧
    (((((w4.setCell ⟨g, 0, none⟩ v0).setCell ⟨g, 1, none⟩ v1).setCell ⟨g, 2, none⟩ v2).setCell ⟨g, 3, none⟩ v3).setCell ⟨g, 4, none⟩ v4).cell? ⟨g, 1, none⟩ = some v1 ∧
    (((((w4.setCell ⟨g, 0, none⟩ v0).setCell ⟨g, 1, none⟩ v1).setCell ⟨g, 2, none⟩ v2).setCell ⟨g, 3, none⟩ v3).setCell ⟨g, 4, none⟩ v4).cell? ⟨g, 2, none⟩ = some v2 ∧
    (((((w4.setCell ⟨g, 0, none⟩ v0).setCell ⟨g, 1, none⟩ v1).setCell ⟨g, 2, none⟩ v2).setCell ⟨g, 3, none⟩ v3).setCell ⟨g, 4, none⟩ v4).cell? ⟨g, 3, none⟩ = some v3 ∧
    (((((w4.setCell ⟨g, 0, none⟩ v0).setCell ⟨g, 1, none⟩ v1).setCell ⟨g, 2, none⟩ v2).setCell ⟨g, 3, none⟩ v3).setCell ⟨g, 4, none⟩ v4).cell? ⟨g, 4, none⟩ = some v4 ∧
    Cur (((((w4.setCell ⟨g, 0, none⟩ v0).setCell ⟨g, 1, none⟩ v1).setCell ⟨g, 2, none⟩ v2).setCell ⟨g, 3, none⟩ v3).setCell ⟨g, 4, none⟩ v4) A ∧
    Kp A w (((((w4.setCell ⟨g, 0, none⟩ v0).setCell ⟨g, 1, none⟩ v1).setCell ⟨g, 2, none⟩ v2).setCell ⟨g, 3, none⟩ v3).setCell ⟨g, 4, none⟩ v4) ∧
    (∀ f, f ≠ g → (((((w4.setCell ⟨g, 0, none⟩ v0).setCell ⟨g, 1, none⟩ v1).setCell ⟨g, 2, none⟩ v2).setCell ⟨g, 3, none⟩ v3).setCell ⟨g, 4, none⟩ v4).heap[f]? = w4.heap[f]?) ∧
    (((((w4.setCell ⟨g, 0, none⟩ v0).setCell ⟨g, 1, none⟩ v1).setCell ⟨g, 2, none⟩ v2).setCell ⟨g, 3, none⟩ v3).setCell ⟨g, 4, none⟩ v4).heap.size = w4.heap.size := by
  obtain ⟨e0, e1, e2, e3, e4, hb, hh, hs⟩ := out5 hI v0 v1 v2 v3 v4 g (Nat.le_refl _)
  exact ⟨e0, e1, e2, e3, e4, hc.below hb hA, ((((hk.set hg (by omega) 0 v0).set hg (by omega) 1 v1).set hg (by omega) 2 v2).set hg (by omega) 3 v3).set hg (by omega) 4 v4, hh, hs⟩
/-- The same, and a block was laid. -/
theorem fin2a {w w4 : World} {A g : Nat} {e : TypeId} {u0 u1 : Value} (v0 v1 : Value) (o : Obj) (hI : Is w4 g e #[u0, u1]) (hk : Kp A w w4) (hg : w.heap.size ≤ g) (hc : Cur w4 A) (hA : A < g) :
    (((w4.setCell ⟨g, 0, none⟩ v0).setCell ⟨g, 1, none⟩ v1).alloc o).cell? ⟨g, 0, none⟩ = some v0 ∧ (((w4.setCell ⟨g, 0, none⟩ v0).setCell ⟨g, 1, none⟩ v1).alloc o).cell? ⟨g, 1, none⟩ = some v1 ∧
      Cur (((w4.setCell ⟨g, 0, none⟩ v0).setCell ⟨g, 1, none⟩ v1).alloc o) A ∧ Kp A w (((w4.setCell ⟨g, 0, none⟩ v0).setCell ⟨g, 1, none⟩ v1).alloc o) := by
  obtain ⟨e0, e1⟩ := (((hI.set 0 v0).set 1 v1).alloc o).cells2
  have hc2 := (hc.set hA 0 v0).set hA 1 v1
  exact ⟨e0, e1, hc2.below (below1 _ o) hc2.lt, ((hk.set hg (by omega) 0 v0).set hg (by omega) 1 v1).trans (Kp.alloc (Nat.le_of_lt hc2.lt) o)⟩
end Go.Proofs.YtpifadjlbjifhaaGreatDoor
namespace Go.Proofs.YtpifadjlbjifhaaGreatDoor
open Go.ChangeShapes Go.WideShapes Go.ChangeAt Go.RowKit Go.Joins
set_option linter.unusedVariables false
set_option maxRecDepth 100000
set_option maxHeartbeats 2000000 in
theorem spec_l1New (a : Option Addr) (cap B : Nat) (l : List Int) (w : World) (hr : Rd EByte 1 w B a cap l) (hB : B ≤ w.heap.size) (hl : l.length ≤ 1048576) :
    Calls Tryz.prog 52 #[.slice a l.length cap] w fun e w' => ∃ A, e = .returned (.pointer (some ⟨A, 0, none⟩)) ∧ w.heap.size ≤ A ∧ Cur w' A ∧ Below w.heap.size w w' := by
  obtain ⟨hlc, hcap⟩ := hr.len
  have HR := Lib.hid hr; clear hr
  go_enter Tryz.func52, Tryz.ntmps52
  go_wp2_with fail
  go_loopw [3, 4] (fun h i wr => ∃ (m : Int) (j : Nat), h = .int .i64 m ∧ 0 ≤ m ∧ m ≤ 1073741823 ∧ i = .int .i64 j ∧ j ≤ l.length ∧ Below w.heap.size w wr) (fun _ i _ => l.length - (intOf i).toNat)
  case atStart => exact ⟨161919 + l.length, 0, by go_num, by omega, by omega, rfl, by omega, Below.refl _ _⟩
  case round =>
    obtain ⟨m, j, rfl, hm0, hm1, rfl, hj, hb⟩ := hrel
    have hbs := hb.size
    by_cases hgo : j < l.length ∧ j < 4000
    · obtain ⟨hg1, hg2⟩ := hgo
      obtain ⟨b, o, rfl, hbl, hcell, hx0, hx1⟩ := (HR.out.below EByte.loc hb hB).byte j hg1
      have hg3 : (j : Int) < 4000 := by omega
      have hg4 : (j : Int) < (l.length : Int) := by omega
      have hlb : b < wr.heap.size := by omega
      generalize l[j] = x at *
      have hb2 := bits_and (m * 137 + x + 11) 1073741823 (by decide) (by decide)
      go_wp2_with fail
      go_roundw
      case rel => exact ⟨_, j + 1, rfl, hb2.1, hb2.2, by go_num, by omega, hb⟩
      case measure => simp [intOf]; omega
    · by_cases hg1 : j < l.length
      · have hg3 : ¬ (j : Int) < 4000 := by omega
        have hg4 : (j : Int) < (l.length : Int) := by omega
        go_wp2_with fail
        go_ret
        refine ⟨wr.heap.size, rfl, hbs, ⟨a, cap, l, 0, m, Is.new wr _ _, ((HR.out.below EByte.loc hb hB).more (by omega)).below EByte.loc (below1 wr _) (Nat.le_refl _), by omega, ⟨by omega, by omega⟩, hl⟩, hb.trans ((below1 wr _).mono hbs)⟩
      · have hg4 : ¬ (j : Int) < (l.length : Int) := by omega
        go_wp2_with fail
        go_ret
        refine ⟨wr.heap.size, rfl, hbs, ⟨a, cap, l, 0, m, Is.new wr _ _, ((HR.out.below EByte.loc hb hB).more (by omega)).below EByte.loc (below1 wr _) (Nat.le_refl _), by omega, ⟨by omega, by omega⟩, hl⟩, hb.trans ((below1 wr _).mono hbs)⟩
set_option maxHeartbeats 2000000 in
theorem spec_l1Byte (A : Nat) (w : World) (hc : Cur w A) : Calls Tryz.prog 105 #[.pointer (some ⟨A, 0, none⟩)] w fun e w' => ∃ x : Nat, e = .returned (.int .i64 (x : Int)) ∧ x ≤ 255 ∧ Cur w' A ∧ Kp A w w' := by
  have hlt := hc.lt
  obtain ⟨a, cap, l, i, h, hI, hR, hi, hh, hl⟩ := hc
  obtain ⟨hlc, hcap⟩ := hR.len
  obtain ⟨c0, c1, c2⟩ := hI.cells3
  have ff := fun j => hI.frozen j
  have HR := Lib.hid hR; clear hR
  have HI := Lib.hid hI; clear hI
  go_enter Tryz.func105, Tryz.ntmps105
  go_wp2_with fail
  have h2b := wrap_i64 (wrap64 (h * 6364136223846793005) + 1442695040888963407)
  generalize (wrap64 (wrap64 (h * 6364136223846793005) + 1442695040888963407)) = h2 at *
  have HI2 := Lib.hid (HI.out.set 2 (.int .i64 h2))
  have hk2 : Kp A w (w.setCell ⟨A, 2, none⟩ (.int .i64 h2)) := ⟨(Below.refl _ _).setCell (p := ⟨A, 2, none⟩) (Nat.le_refl _) _, fun f hf _ => heap_miss _ _ _ _ (by omega) _⟩
  have HK2 := Lib.hid hk2; clear hk2
  generalize (w.setCell ⟨A, 2, none⟩ (.int .i64 h2)) = w2 at *
  obtain ⟨d0, d1, d2⟩ := HI2.out.cells3
  have fg := fun j => HI2.out.frozen j
  go_quiet (fail)
  have hx1 := bits_and (bits BinOp.xor IntKind.i64 (h2 / 8589934592) (h2 / 140737488355328)) 255 (by decide) (by decide)
  generalize bits BinOp.and IntKind.i64 (bits BinOp.xor IntKind.i64 (h2 / 8589934592) (h2 / 140737488355328)) 255 = x1 at *
  by_cases hgo : i < l.length
  · obtain ⟨b, o, rfl, hbl, hcell, hy0, hy1⟩ := (HR.out.below EByte.loc HK2.out.1 (Nat.le_refl _)).byte i hgo
    have hgz : (i : Int) < (l.length : Int) := by omega
    have hlb : b < w2.heap.size := by have := HK2.out.size; omega
    have hlA : A < w2.heap.size := by have := HK2.out.size; omega
    generalize l[i] = y at *
    go_wp2_with fail
    go_quiet (fail)
    go_wp2_with fail
    go_quiet (fail)
    go_wp2_with fail
    have hx2 := bits_and (x1 + y) 255 (by decide) (by decide)
    generalize bits BinOp.and IntKind.i64 (x1 + y) 255 = x2 at *
    obtain ⟨u, rfl⟩ : ∃ u : Nat, x2 = u := ⟨x2.toNat, by omega⟩
    go_ret
    have hh := fun k => Cur.next (w := w2) k HI2.out (HR.out.below EByte.loc HK2.out.1 (Nat.le_refl _)) hgo h2b hl
    exact ⟨u, rfl, by omega, (hh _).1, HK2.out.trans (hh _).2⟩
  · have hgz : ¬ (i : Int) < (l.length : Int) := by omega
    obtain ⟨u, rfl⟩ : ∃ u : Nat, x1 = u := ⟨x1.toNat, by omega⟩
    go_wp2_with fail
    go_quiet (fail)
    go_wp2_with fail
    go_ret
    have hcc := (Cur.stay (w := w2) 0 HI2.out (HR.out.below EByte.loc HK2.out.1 (Nat.le_refl _)) hi h2b hl).1
    exact ⟨u, rfl, by omega, (hcc.below (below_drewN (A + 1) w2 _) (by omega)).below (below_drewN (A + 1) _ _) (by omega), HK2.out.trans ((Kp.drewN _).trans (Kp.drewN _))⟩
theorem emod_le_self (a n : Int) (h : 0 ≤ a) (hn : 0 < n) : a % n ≤ a := by
  have h1 := Int.mul_ediv_add_emod a n
  have h2 : 0 ≤ a / n := Int.ediv_nonneg h (by omega)
  have h3 := Int.mul_nonneg (show 0 ≤ n by omega) h2
  omega
set_option maxHeartbeats 2000000 in
theorem spec_l1Below (A : Nat) (n : Int) (w : World) (hc : Cur w A) (hn : I64 n) : Calls Tryz.prog 60 #[.pointer (some ⟨A, 0, none⟩), .int .i64 n] w fun e w' => ∃ x : Nat, e = .returned (.int .i64 (x : Int)) ∧ ((x : Int) < n ∨ x = 0) ∧ x ≤ 16777215 ∧ Cur w' A ∧ Kp A w w' := by
  have HC := Lib.hid hc; clear hc
  obtain ⟨hn0, hn1⟩ := hn
  by_cases h0 : n ≤ 0
  · go_enter Tryz.func60, Tryz.ntmps60
    go_wp2_with fail
    go_ret
    exact ⟨0, rfl, Or.inr rfl, by omega, HC.out, Beside.refl _ _ _⟩
  by_cases h1 : n ≤ 256
  · go_enter Tryz.func60, Tryz.ntmps60
    go_wp2_with fail
    refine (spec_l1Byte A w HC.out).mono ?_
    rintro e w2 ⟨x, rfl, hx, hc2, hk2⟩
    have hne : (n == 0) = false := by simp; omega
    go_wp2_with fail
    go_ret
    have hm := Int.emod_lt_of_pos (x : Int) (show 0 < n by omega)
    have hm0 := Int.emod_nonneg (x : Int) (show n ≠ 0 by omega)
    obtain ⟨u, hu⟩ : ∃ u : Nat, (x : Int) % n = u := ⟨((x : Int) % n).toNat, by omega⟩
    exact ⟨u, by rw [← hu]; rfl, Or.inl (by omega), by omega, hc2, hk2⟩
  · go_enter Tryz.func60, Tryz.ntmps60
    go_wp2_with fail
    refine (spec_l1Byte A w HC.out).mono ?_
    rintro e w2 ⟨x, rfl, hx, hc2, hk2⟩
    have HC2 := Lib.hid hc2; have HK2 := Lib.hid hk2; clear hc2 hk2
    go_wp2_with fail
    refine (spec_l1Byte A w2 HC2.out).mono ?_
    rintro e w3 ⟨y, rfl, hy, hc3, hk3⟩
    have HC3 := Lib.hid hc3; have HK3 := Lib.hid (HK2.out.trans hk3); clear hc3 hk3
    go_wp2_with fail
    refine (spec_l1Byte A w3 HC3.out).mono ?_
    rintro e w4 ⟨z, rfl, hz, hc4, hk4⟩
    have HC4 := Lib.hid hc4; have HK4 := Lib.hid (HK3.out.trans hk4); clear hc4 hk4
    go_wp2_with fail
    go_ret
    have hm := Int.emod_lt_of_pos ((x : Int) * 65536 + y * 256 + z) (show 0 < n by omega)
    have hm0 := Int.emod_nonneg ((x : Int) * 65536 + y * 256 + z) (show n ≠ 0 by omega)
    have hm1 := emod_le_self ((x : Int) * 65536 + y * 256 + z) n (by omega) (by omega)
    obtain ⟨u, hu⟩ : ∃ u : Nat, ((x : Int) * 65536 + y * 256 + z) % n = u := ⟨(((x : Int) * 65536 + y * 256 + z) % n).toNat, by omega⟩
    exact ⟨u, by rw [← hu]; rfl, Or.inl (by omega), by omega, HC4.out, HK4.out⟩
set_option maxHeartbeats 2000000 in
theorem spec_l1Once (A : Nat) (n : Int) (w : World) (hc : Cur w A) (hn : I64 n) : Calls Tryz.prog 59 #[.pointer (some ⟨A, 0, none⟩), .int .i64 n] w fun e w' => ∃ b : Bool, e = .returned (.bool b) ∧ Cur w' A ∧ Kp A w w' := by
  have HC := Lib.hid hc; clear hc
  go_enter Tryz.func59, Tryz.ntmps59
  go_wp2_with fail
  refine (spec_l1Below A n w HC.out hn).mono ?_
  rintro e w2 ⟨x, rfl, hx, hx2, hc2, hk2⟩
  go_wp2_with fail
  go_ret
  exact ⟨_, rfl, hc2, hk2⟩
set_option maxHeartbeats 2000000 in
theorem spec_l1Int (A : Nat) (a : Option Addr) (cap : Nat) (l : List Int) (w : World) (hc : Cur w A) (hr : Rx EInt 1 w A a cap l) (hl : 0 < l.length) (hm : l.length ≤ 1000) :
    Calls Tryz.prog 75 #[.pointer (some ⟨A, 0, none⟩), .slice a l.length cap] w fun e w' => ∃ x, x ∈ l ∧ I64 x ∧ e = .returned (.int .i64 x) ∧ Cur w' A ∧ Kp A w w' := by
  have HC := Lib.hid hc; clear hc
  obtain ⟨hlc, hcap⟩ := hr.rd.len
  go_enter Tryz.func75, Tryz.ntmps75
  go_wp2_with fail
  refine (spec_l1Below A _ w HC.out ⟨by omega, by omega⟩).mono ?_
  rintro e w2 ⟨x, rfl, hx, hx2, hc2, hk2⟩
  have hxl : x < l.length := by omega
  have hxz : (x : Int) < (l.length : Int) := by omega
  obtain ⟨b, o, F, rfl, hb1, hb2, ⟨_, hcell, hi⟩, _⟩ := (hr.kp EInt.loc hk2).get x hxl
  rw [Nat.mul_one] at hcell
  go_wp2_with fail
  go_ret
  exact ⟨l[x], List.getElem_mem hxl, hi, rfl, hc2, hk2⟩
set_option maxHeartbeats 2000000 in
theorem spec_l1Str (A : Nat) (a : Option Addr) (cap : Nat) (l : List ByteArray) (w : World) (hc : Cur w A) (hr : Rx EStx 1 w A a cap l) (hl : 0 < l.length) (hm : l.length ≤ 1000) :
    Calls Tryz.prog 91 #[.pointer (some ⟨A, 0, none⟩), .slice a l.length cap] w fun e w' => ∃ x, x ∈ l ∧ e = .returned (.string x) ∧ Cur w' A ∧ Kp A w w' := by
  have HC := Lib.hid hc; clear hc
  obtain ⟨hlc, hcap⟩ := hr.rd.len
  go_enter Tryz.func91, Tryz.ntmps91
  go_wp2_with fail
  refine (spec_l1Below A _ w HC.out ⟨by omega, by omega⟩).mono ?_
  rintro e w2 ⟨x, rfl, hx, hx2, hc2, hk2⟩
  have hxl : x < l.length := by omega
  have hxz : (x : Int) < (l.length : Int) := by omega
  obtain ⟨b, o, F, rfl, hb1, hb2, ⟨_, hcell⟩, _⟩ := (hr.kp EStx.loc hk2).get x hxl
  rw [Nat.mul_one] at hcell
  go_wp2_with fail
  go_ret
  exact ⟨l[x], List.getElem_mem hxl, rfl, hc2, hk2⟩
/-- The list is a literal, just laid. -/
theorem spec_l1IntL (A : Nat) (l : List Int) (e : TypeId) (w : World) (hc : Cur w A) (hx : ∀ x ∈ l, I64 x) (hl : 0 < l.length) (hm : l.length ≤ 1000) :
    Calls Tryz.prog 75 #[.pointer (some ⟨A, 0, none⟩), .slice (some ⟨w.heap.size, 0, none⟩) l.length l.length] (w.alloc (.cells (l.map (Value.int .i64)).toArray e)) fun e w' => ∃ x, x ∈ l ∧ I64 x ∧ e = .returned (.int .i64 x) ∧ Cur w' A ∧ Kp A w w' := by
  have hk := Kp.alloc (w := w) (Nat.le_of_lt hc.lt) (.cells (l.map (Value.int .i64)).toArray e)
  refine (spec_l1Int A _ _ l _ (hc.below (below1 w _) hc.lt) (ints_rx l (Is.new w _ e) hx (by have := hc.lt; omega) hl (by unfold maxLen; omega)) hl hm).mono ?_
  rintro ee w2 ⟨x, h1, h2, h3, h4, h5⟩
  exact ⟨x, h1, h2, h3, h4, hk.trans h5⟩
theorem spec_l1StrL (A : Nat) (l : List ByteArray) (e : TypeId) (w : World) (hc : Cur w A) (hl : 0 < l.length) (hm : l.length ≤ 1000) :
    Calls Tryz.prog 91 #[.pointer (some ⟨A, 0, none⟩), .slice (some ⟨w.heap.size, 0, none⟩) l.length l.length] (w.alloc (.cells (l.map Value.string).toArray e)) fun e w' => ∃ x, x ∈ l ∧ e = .returned (.string x) ∧ Cur w' A ∧ Kp A w w' := by
  have hk := Kp.alloc (w := w) (Nat.le_of_lt hc.lt) (.cells (l.map Value.string).toArray e)
  refine (spec_l1Str A _ _ l _ (hc.below (below1 w _) hc.lt) (strs_rx l (Is.new w _ e) (by have := hc.lt; omega) hl (by unfold maxLen; omega)) hl hm).mono ?_
  rintro ee w2 ⟨x, h1, h3, h4, h5⟩
  exact ⟨x, h1, h3, h4, hk.trans h5⟩
end Go.Proofs.YtpifadjlbjifhaaGreatDoor
