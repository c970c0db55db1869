/- Contracts and lemmas for the proofs of this seat: DecT. No condition beyond those stated. -/
import Derived.Test.YtfbgmhjjdgglnaaDoorRows
import Derived.WalkKit
import Derived.ProofKit
import Derived.OpenShut
import Derived.Handy
import Derived.Lib.Hide
import Derived.Lib.SmallJoins
import Derived.Laws.BytesArg
import Derived.Lib.ItoaNum
import Derived.Lib.ItoaLen
import Derived.Lib.AppendIntMem
import Derived.Deep.RegionHeld3
import Derived.Deep.QuietTactic
import Derived.BigQuiet
import Derived.Test.YtfbgmhjjdgglnaaDoorBase
import Derived.Test.YtfbgmhjjdgglnaaDoorGen
import Derived.Test.YtfbgmhjjdgglnaaDoorKit
import Derived.Test.YtfbgmhjjdgglnaaDoorMark
import Derived.Test.YtfbgmhjjdgglnaaDoorApp
import Derived.Test.YtfbgmhjjdgglnaaDoorMarkV
import Derived.Test.YtfbgmhjjdgglnaaDoorLawVal
import Derived.Test.YtfbgmhjjdgglnaaDoorCopy
import Derived.Test.YtfbgmhjjdgglnaaDoorPathAt
import Derived.Test.YtfbgmhjjdgglnaaDoorPathAt2
import Derived.Test.YtfbgmhjjdgglnaaDoorShelf
import Derived.Test.YtfbgmhjjdgglnaaDoorNum
import Derived.Test.YtfbgmhjjdgglnaaDoorTextF
import Derived.Test.YtfbgmhjjdgglnaaDoorValF
import Derived.Test.YtfbgmhjjdgglnaaDoorValF2
import Derived.Test.YtfbgmhjjdgglnaaDoorValF3
import Derived.Test.YtfbgmhjjdgglnaaDoorDecF
import Derived.Test.YtfbgmhjjdgglnaaDoorDecF2
import Derived.Test.YtfbgmhjjdgglnaaDoorFltD
namespace Go.Proofs.YtfbgmhjjdgglnaaDoor
open Go.ChangeShapes Go.WideShapes Go.ChangeAt Go.RowKit Go.Joins
set_option linter.unusedVariables false
set_option maxRecDepth 100000
/-- The digits of a number, without its sign. -/
def digT (n : Int) : ByteArray := ⟨(Lib.decDigits n.natAbs).toArray⟩
theorem digT_size (n : Int) : (digT n).size = digN n := by
  rw [Lib.size_eq]; exact Lib.decDigits_length _
theorem numT_neg {n : Int} (h : n < 0) : numT n = ⟨#[45]⟩ ++ digT n := by
  unfold numT Lib.itoa digT; rw [if_pos h]; apply ByteArray.ext; simp [ByteArray.data_append]
theorem numT_pos {n : Int} (h : ¬ n < 0) : numT n = digT n := by
  unfold numT Lib.itoa digT; rw [if_neg h, show n.toNat = n.natAbs from by omega]
theorem numT_tail {n : Int} (h : n < 0) : (numT n).extract 1 (numT n).size = digT n := by
  apply ByteArray.ext; apply Array.ext'
  rw [Lib.ext_list]
  unfold numT Lib.itoa digT; rw [if_pos h]; simp
theorem cut_neg {n : Int} (h : n < 0) : (⟨(Lib.trimPrefix (numT n).data.toList (⟨#[45]⟩ : ByteArray).data.toList).toArray⟩ : ByteArray) = digT n ∧ Lib.hasPrefix (numT n).data.toList (⟨#[45]⟩ : ByteArray).data.toList = true := by
  have hp : Lib.hasPrefix (numT n).data.toList (⟨#[45]⟩ : ByteArray).data.toList = true := by
    unfold numT Lib.itoa; rw [if_pos h]; simp [Lib.hasPrefix]
  refine ⟨?_, hp⟩
  unfold Lib.trimPrefix
  rw [if_pos hp]
  unfold numT Lib.itoa digT; rw [if_pos h]; simp
theorem cut_pos {n : Int} (h : ¬ n < 0) : (⟨(Lib.trimPrefix (numT n).data.toList (⟨#[45]⟩ : ByteArray).data.toList).toArray⟩ : ByteArray) = digT n ∧ Lib.hasPrefix (numT n).data.toList (⟨#[45]⟩ : ByteArray).data.toList = false := by
  have hp : Lib.hasPrefix (numT n).data.toList (⟨#[45]⟩ : ByteArray).data.toList = false := by
    unfold numT Lib.itoa; rw [if_neg h]; exact dec_noneg _
  refine ⟨?_, hp⟩
  unfold Lib.trimPrefix
  rw [if_neg (by rw [hp]; simp)]
  rw [numT_pos h]
/-- Zeros ahead, until there are more than m digits. -/
def padZ : Nat → Nat → ByteArray → ByteArray
  | 0, _, s => s
  | f + 1, m, s => if s.size ≤ m then padZ f m (⟨#[48]⟩ ++ s) else s
theorem padZ_more (f m : Nat) (s : ByteArray) (h : s.size ≤ m) : padZ (f + 1) m s = padZ f m (⟨#[48]⟩ ++ s) := by rw [padZ, if_pos h]
theorem padZ_done (f m : Nat) (s : ByteArray) (h : ¬ s.size ≤ m) : padZ f m s = s := by
  cases f with
  | zero => rfl
  | succ f => rw [padZ, if_neg h]
def decBody (n : Int) (m : Nat) : ByteArray := ((padZ 60 m (digT n)).extract 0 ((padZ 60 m (digT n)).size - m) ++ ⟨#[46]⟩) ++ (padZ 60 m (digT n)).extract ((padZ 60 m (digT n)).size - m) (padZ 60 m (digT n)).size
/-- The text of n times 10 to the -m. -/
def decTx (n : Int) (m : Nat) : ByteArray := if ¬ decOk n (-(m : Int)) then ⟨#[]⟩ else if m = 0 then numT n else if n < 0 then ⟨#[45]⟩ ++ decBody n m else decBody n m
def strSz : Value → Nat | .string s => s.size | _ => 0
theorem padZ_size (f m : Nat) : ∀ s : ByteArray, (padZ f m s).size ≤ s.size + f := by
  induction f with
  | zero => intro s; simp [padZ]
  | succ f ih =>
    intro s
    rw [padZ]
    split
    · have := ih (⟨#[48]⟩ ++ s)
      rw [ByteArray.size_append] at this
      have h1 : (⟨#[48]⟩ : ByteArray).size = 1 := rfl
      omega
    · omega
set_option maxHeartbeats 4000000 in
theorem spec_DecText (n : Int) (m : Nat) (w : World) (hn : I64 n) (hm : m ≤ 40) :
    Calls Tryd.prog 102 #[.agg (cF n (-(m : Int)))] w fun e w' => e = .returned (.string (decTx n m)) ∧ Below w.heap.size w w' := by
  have HN := Lib.hid hn
  obtain ⟨hn0, hn1⟩ := hn
  have H0 := Lib.hid (below1 w (.cells (cF n (-(m : Int))) 69))
  have q0 := Is.new w (cF n (-(m : Int))) 69
  have lg : w.heap.size < (w.alloc (.cells (cF n (-(m : Int))) 69)).heap.size := by simp
  go_enter Tryd.func102, Tryd.ntmps102
  go_wp2_with fail
  refine (spec_DecOk n (-(m : Int)) _ HN.out ⟨by omega, by omega⟩).mono ?_
  rintro e w2 ⟨rfl, hb2⟩
  have hl2 : w.heap.size < w2.heap.size := Nat.lt_of_lt_of_le lg hb2.size
  have p2 := q0.below hb2 lg
  obtain ⟨x0, x1⟩ := p2.cells2b
  have HB2 := Lib.hid (below_step H0.out hb2 (by simp)); clear hb2
  by_cases hok : decOk n (-(m : Int))
  · rw [decide_eq_true hok]
    by_cases h0 : m = 0
    · have HD := Lib.hid (show decTx n m = numT n from (if_neg (fun h => h hok)).trans (if_pos h0))
      subst h0
      clear hok
      go_wp2_with fail
      refine (spec_NumText n _ HN.out).mono ?_
      rintro e w3 ⟨rfl, hb3⟩
      go_wp2_with fail
      go_ret
      exact ⟨ret_s HD.out.symm, HB2.out.trans (hb3.mono HB2.out.size)⟩
    · have hd17 : digN n ≤ 17 := by
        rcases hok with h | h
        · omega
        · exact h.2.2.1
      have hdz := digT_size n
      have HD := Lib.hid (show decTx n m = if n < 0 then ⟨#[45]⟩ ++ decBody n m else decBody n m from (if_neg (fun h => h hok)).trans (if_neg h0))
      have h0' : ¬ (-(m : Int)) = 0 := by omega
      have z45 : (⟨#[45]⟩ : ByteArray).size = 1 := rfl
      have z46 : (⟨#[46]⟩ : ByteArray).size = 1 := rfl
      have z48 : (⟨#[48]⟩ : ByteArray).size = 1 := rfl
      clear hok h0
      go_wp2_with fail
      refine (spec_NumText n _ HN.out).mono ?_
      rintro e w3 ⟨rfl, hb3⟩
      have hl3 : w.heap.size < w3.heap.size := Nat.lt_of_lt_of_le hl2 hb3.size
      have p3 := p2.below hb3 hl2
      obtain ⟨y0, y1⟩ := p3.cells2b
      have HB3 := Lib.hid (HB2.out.trans (hb3.mono HB2.out.size)); clear hb3
      have HS : ∃ sg : ByteArray, sg.size ≤ 1 ∧ ((n < 0 ∧ sg = ⟨#[45]⟩ ∧ numT n = ⟨#[45]⟩ ++ digT n) ∨ (¬ n < 0 ∧ sg = ⟨#[]⟩ ∧ numT n = digT n)) := by
        by_cases h : n < 0
        · exact ⟨_, by omega, .inl ⟨h, rfl, numT_neg h⟩⟩
        · exact ⟨⟨#[]⟩, by simp [ByteArray.size], .inr ⟨h, rfl, numT_pos h⟩⟩
      obtain ⟨sg, hsg, ⟨hng, hsg2, hnm⟩ | ⟨hng, hsg2, hnm⟩⟩ := HS
      all_goals
        have hns : (numT n).size ≤ 18 := by rw [hnm]; first | (rw [ByteArray.size_append]; omega) | omega
        have hns1 : 1 ≤ (numT n).size := by rw [hnm]; first | (rw [ByteArray.size_append]; omega) | (rw [hdz, digN_eq]; omega)
        first
          | have HTL := Lib.hid (numT_tail hng)
          | have HTL := Lib.hid hnm
        clear hnm
        have HFIN : Hid (∀ d : ByteArray, padZ 60 m (digT n) = d → decTx n m = ((sg ++ d.extract 0 (d.size - m)) ++ ⟨#[46]⟩) ++ d.extract (d.size - m) d.size) := by
          intro d hd
          rw [HD.out, hsg2]
          first
            | rw [if_pos hng]
            | rw [if_neg hng]
          unfold decBody
          rw [hd]
          apply ByteArray.ext
          simp [ByteArray.data_append]
        have HEQ := Lib.hid hsg2
        clear hsg2 HD
        go_wp2_with fail
        try rw [HTL.out]
        rw [← HEQ.out]
        clear HEQ HTL hns hns1 hng
        go_loopw [3] (fun s wr => ∃ (d : ByteArray) (f : Nat), s = .string d ∧ f + d.size = 60 + digN n ∧ d.size ≤ 41 ∧ Hid (padZ 60 m (digT n) = padZ f m d) ∧ Below w3.heap.size w3 wr) (fun s _ => 60 - strSz s)
        case atStart => exact ⟨digT n, 60, rfl, by omega, by omega, rfl, Below.refl _ _⟩
        case round =>
          obtain ⟨d, f, rfl, hf, hd41, HP, hb⟩ := hrel
          have hl4 : w.heap.size < wr.heap.size := Nat.lt_of_lt_of_le hl3 hb.size
          have p4 := p3.below hb hl3
          obtain ⟨v0, v1⟩ := p4.cells2b
          by_cases hgo : d.size ≤ m
          · obtain ⟨f', rfl⟩ : ∃ f', f = f' + 1 := ⟨f - 1, by omega⟩
            have HE := Lib.hid (HP.out.trans (padZ_more f' m d hgo))
            go_wp2_with fail
            go_roundw
            case rel => exact ⟨_, f', rfl, by rw [ByteArray.size_append]; omega, by rw [ByteArray.size_append]; omega, HE.out, hb⟩
            case measure => simp only [strSz, ByteArray.size_append]; first | omega | (simp [strSz]; omega)
          · have HE := Lib.hid (HFIN.out d (HP.out.trans (padZ_done f m d hgo)))
            have hsub : (d.size : Int) + -(m : Int) = ((d.size - m : Nat) : Int) := by omega
            have hx1 : (d.extract 0 (d.size - m)).size ≤ 41 := by rw [ByteArray.size_extract]; omega
            have hx2 : (d.extract (d.size - m) d.size).size ≤ 41 := by rw [ByteArray.size_extract]; omega
            clear HP HFIN
            go_wp2_with fail
            go_quiet (fail)
            go_wp2_with fail
            go_ret
            exact ⟨ret_s HE.out.symm, (HB3.out.trans (hb.mono HB3.out.size)).trans (below_drewN _ _ _)⟩
  · have HD := Lib.hid (show decTx n m = ⟨#[]⟩ from if_pos hok)
    rw [decide_eq_false hok]
    clear hok
    go_wp2_with fail
    go_ret
    exact ⟨ret_s HD.out.symm, HB2.out⟩
set_option maxHeartbeats 4000000 in
theorem impl_DecText (n : Int) (m : Nat) (w : World) (hn : I64 n) (hm : m ≤ 40) (htab : Lib.TabBelow Tryd.prog w.heap.size w "internal/strconv.uint64pow10" .u64 Lib.pow10Tab) :
    Calls Tryd.prog 128 #[.agg (cF n (-(m : Int)))] w fun e w' => e = .returned (.string (decTx n m)) ∧ Below w.heap.size w w' := by
  have HT := Lib.hid htab; clear htab
  have HN := Lib.hid hn
  obtain ⟨hn0, hn1⟩ := hn
  have H0 := Lib.hid (below1 w (.cells (cF n (-(m : Int))) 69))
  have q0 := Is.new w (cF n (-(m : Int))) 69
  have lg : w.heap.size < (w.alloc (.cells (cF n (-(m : Int))) 69)).heap.size := by simp
  go_enter Tryd.func128, Tryd.ntmps128
  go_wp2_with fail
  refine (impl_NumText n _ HN.out (HT.out _ H0.out)).mono ?_
  rintro e w1 ⟨rfl, hb1⟩
  have hl1 : w.heap.size < w1.heap.size := Nat.lt_of_lt_of_le lg hb1.size
  have p1 := q0.below hb1 lg
  obtain ⟨o0, o1⟩ := p1.cells2b
  have HB1 := Lib.hid (below_step H0.out hb1 (by simp)); clear hb1
  go_wp2_with fail
  refine (impl_DecOk n (-(m : Int)) _ HN.out ⟨by omega, by omega⟩ (fun V hV => HT.out V (HB1.out.trans (hV.mono HB1.out.size)))).mono ?_
  rintro e w2 ⟨rfl, hb2⟩
  have hl2 : w.heap.size < w2.heap.size := Nat.lt_of_lt_of_le hl1 hb2.size
  have p2 := p1.below hb2 hl1
  obtain ⟨x0, x1⟩ := p2.cells2b
  have HB2 := Lib.hid (HB1.out.trans (hb2.mono HB1.out.size)); clear hb2 o0 o1 p1 q0
  by_cases hok : decOk n (-(m : Int))
  · rw [decide_eq_true hok]
    by_cases h0 : m = 0
    · have HD := Lib.hid (show decTx n m = numT n from (if_neg (fun h => h hok)).trans (if_pos h0))
      subst h0
      clear hok
      go_wp2_with fail
      go_ret
      exact ⟨ret_s HD.out.symm, HB2.out⟩
    · have hd17 : digN n ≤ 17 := by
        rcases hok with h | h
        · omega
        · exact h.2.2.1
      have hdz := digT_size n
      have HD := Lib.hid (show decTx n m = if n < 0 then ⟨#[45]⟩ ++ decBody n m else decBody n m from (if_neg (fun h => h hok)).trans (if_neg h0))
      have h0' : ¬ (-(m : Int)) = 0 := by omega
      have z45 : (⟨#[45]⟩ : ByteArray).size = 1 := rfl
      have z46 : (⟨#[46]⟩ : ByteArray).size = 1 := rfl
      have z48 : (⟨#[48]⟩ : ByteArray).size = 1 := rfl
      have HP60 : Hid (∀ d : ByteArray, padZ 60 m (digT n) = d → decBody n m = (d.extract 0 (d.size - m) ++ ⟨#[46]⟩) ++ d.extract (d.size - m) d.size) := by
        intro d hd
        unfold decBody
        rw [hd]
      clear hok h0
      have HS : ∃ ng : Bool, (Hid ((⟨(Lib.trimPrefix (numT n).data.toList (⟨#[45]⟩ : ByteArray).data.toList).toArray⟩ : ByteArray) = digT n) ∧ Hid (Lib.hasPrefix (numT n).data.toList (⟨#[45]⟩ : ByteArray).data.toList = ng)) ∧ Hid (decTx n m = if ng then ⟨#[45]⟩ ++ decBody n m else decBody n m) := by
        by_cases h : n < 0
        · exact ⟨true, cut_neg h, by show _ = _; rw [HD.out, if_pos h]; rfl⟩
        · exact ⟨false, cut_pos h, by show _ = _; rw [HD.out, if_neg h]; rfl⟩
      obtain ⟨ng, ⟨HC1, HC2⟩, HF⟩ := HS
      clear HD
      go_wp2_with (go_at_call 142; refine (Tryd.strings_CutPrefix _ _ _).mono ?_; rintro e w3 ⟨rfl, hw3⟩; subst w3; rw [HC1.out, HC2.out])
      go_loopw [4] (fun s wr => ∃ (d : ByteArray) (f : Nat), s = .string d ∧ f + d.size = 60 + digN n ∧ d.size ≤ 41 ∧ Hid (padZ 60 m (digT n) = padZ f m d) ∧ Below w2.heap.size w2 wr) (fun s _ => 60 - strSz s)
      case atStart => exact ⟨digT n, 60, rfl, by omega, by omega, rfl, Below.refl _ _⟩
      case round =>
        obtain ⟨d, f, rfl, hf, hd41, HP, hb⟩ := hrel
        have hl4 : w.heap.size < wr.heap.size := Nat.lt_of_lt_of_le hl2 hb.size
        have p4 := p2.below hb hl2
        obtain ⟨v0, v1⟩ := p4.cells2b
        by_cases hgo : d.size ≤ m
        · obtain ⟨f', rfl⟩ : ∃ f', f = f' + 1 := ⟨f - 1, by omega⟩
          have HE := Lib.hid (HP.out.trans (padZ_more f' m d hgo))
          go_wp2_with fail
          go_roundw
          case rel => exact ⟨_, f', rfl, by rw [ByteArray.size_append]; omega, by rw [ByteArray.size_append]; omega, HE.out, hb⟩
          case measure => simp only [strSz, ByteArray.size_append]; first | omega | (simp [strSz]; omega)
        · have HE := Lib.hid (HP60.out d (HP.out.trans (padZ_done f m d hgo)))
          have hsub : (d.size : Int) + -(m : Int) = ((d.size - m : Nat) : Int) := by omega
          have hx1 : (d.extract 0 (d.size - m)).size ≤ 41 := by rw [ByteArray.size_extract]; omega
          have hx2 : (d.extract (d.size - m) d.size).size ≤ 41 := by rw [ByteArray.size_extract]; omega
          clear HP HP60
          cases ng with
          | true =>
            have HG := Lib.hid (show decTx n m = ⟨#[45]⟩ ++ ((d.extract 0 (d.size - m) ++ ⟨#[46]⟩) ++ d.extract (d.size - m) d.size) from by rw [HF.out, if_pos rfl, HE.out])
            go_wp2_with fail
            go_quiet (fail)
            go_wp2_with fail
            go_ret
            exact ⟨ret_s HG.out.symm, (HB2.out.trans (hb.mono HB2.out.size)).trans (below_drewN _ _ _)⟩
          | false =>
            have HG := Lib.hid (show decTx n m = ((d.extract 0 (d.size - m) ++ ⟨#[46]⟩) ++ d.extract (d.size - m) d.size) from by rw [HF.out, if_neg (by simp), HE.out])
            go_wp2_with fail
            go_quiet (fail)
            go_wp2_with fail
            go_ret
            exact ⟨ret_s HG.out.symm, (HB2.out.trans (hb.mono HB2.out.size)).trans (below_drewN _ _ _)⟩
  · have HD := Lib.hid (show decTx n m = ⟨#[]⟩ from if_pos hok)
    rw [decide_eq_false hok]
    clear hok
    go_wp2_with fail
    go_ret
    exact ⟨ret_s HD.out.symm, HB2.out⟩
/-- The text of a floating-point number. -/
def fltTx (m e : Int) : ByteArray := if fltOk m e then decTx (fltDecD m e).1 (-(fltDecD m e).2).toNat else ⟨#[]⟩
set_option maxHeartbeats 1000000 in
theorem spec_FltText (m e : Int) (w : World) (hm : I64 m) (he : I64 e) :
    Calls Tryd.prog 103 #[.agg (cF m e)] w fun ee w' => ee = .returned (.string (fltTx m e)) ∧ Below w.heap.size w w' := by
  have HM := Lib.hid hm; have HE := Lib.hid he
  obtain ⟨hm0, hm1⟩ := hm
  obtain ⟨he0, he1⟩ := he
  have H0 := Lib.hid (below1 w (.cells (cF m e) 65))
  have q0 := Is.new w (cF m e) 65
  have lg : w.heap.size < (w.alloc (.cells (cF m e) 65)).heap.size := by simp
  go_enter Tryd.func103, Tryd.ntmps103
  go_wp2_with fail
  refine (spec_FltOk m e _ HM.out HE.out).mono ?_
  rintro ee w2 ⟨rfl, hb2⟩
  have hl2 : w.heap.size < w2.heap.size := Nat.lt_of_lt_of_le lg hb2.size
  have p2 := q0.below hb2 lg
  obtain ⟨x0, x1⟩ := p2.cells2b
  have HB2 := Lib.hid (below_step H0.out hb2 (by simp)); clear hb2
  by_cases hok : fltOk m e
  · have HD := Lib.hid (show fltTx m e = decTx (fltDecD m e).1 (-(fltDecD m e).2).toNat from if_pos hok)
    rw [decide_eq_true hok]
    clear hok
    have hbox := fltDecD_box m e
    go_wp2_with fail
    refine (spec_FltDec m e _ HM.out HE.out).mono ?_
    rintro ee w3 ⟨rfl, hb3⟩
    have HB3 := Lib.hid (HB2.out.trans (hb3.mono HB2.out.size)); clear hb3
    obtain ⟨k, hk⟩ : ∃ k : Nat, (fltDecD m e).2 = -(k : Int) := ⟨(-(fltDecD m e).2).toNat, by omega⟩
    have hk2 : (-(fltDecD m e).2).toNat = k := by omega
    rw [hk2] at HD
    rw [hk] at hbox ⊢
    have HX := Lib.hid hbox.1
    have hk40 : k ≤ 40 := by omega
    clear hbox hk hk2
    generalize (fltDecD m e).1 = N at *
    go_wp2_with fail
    refine (spec_DecText N k _ HX.out hk40).mono ?_
    rintro ee w4 ⟨rfl, hb4⟩
    go_wp2_with fail
    go_ret
    exact ⟨ret_s HD.out.symm, HB3.out.trans (hb4.mono HB3.out.size)⟩
  · have HD := Lib.hid (show fltTx m e = ⟨#[]⟩ from if_neg hok)
    rw [decide_eq_false hok]
    clear hok
    go_wp2_with fail
    go_ret
    exact ⟨ret_s HD.out.symm, HB2.out⟩
set_option maxHeartbeats 1000000 in
theorem impl_FltText (m e : Int) (w : World) (hm : I64 m) (he : I64 e) (htab : Lib.TabBelow Tryd.prog w.heap.size w "internal/strconv.uint64pow10" .u64 Lib.pow10Tab) :
    Calls Tryd.prog 105 #[.agg (cF m e)] w fun ee w' => ee = .returned (.string (fltTx m e)) ∧ Below w.heap.size w w' := by
  have HT := Lib.hid htab; clear htab
  have HM := Lib.hid hm; have HE := Lib.hid he
  obtain ⟨hm0, hm1⟩ := hm
  obtain ⟨he0, he1⟩ := he
  have H0 := Lib.hid (below1 w (.cells (cF m e) 65))
  have q0 := Is.new w (cF m e) 65
  have lg : w.heap.size < (w.alloc (.cells (cF m e) 65)).heap.size := by simp
  go_enter Tryd.func105, Tryd.ntmps105
  go_wp2_with fail
  refine (impl_FltOk m e _ HM.out HE.out).mono ?_
  rintro ee w2 ⟨rfl, hb2⟩
  have hl2 : w.heap.size < w2.heap.size := Nat.lt_of_lt_of_le lg hb2.size
  have p2 := q0.below hb2 lg
  obtain ⟨x0, x1⟩ := p2.cells2b
  have HB2 := Lib.hid (below_step H0.out hb2 (by simp)); clear hb2
  by_cases hok : fltOk m e
  · have HD := Lib.hid (show fltTx m e = decTx (fltDecD m e).1 (-(fltDecD m e).2).toNat from if_pos hok)
    rw [decide_eq_true hok]
    clear hok
    have hbox := fltDecD_box m e
    go_wp2_with fail
    refine (impl_FltDec m e _ HM.out HE.out (fun V hV => HT.out V (HB2.out.trans (hV.mono HB2.out.size)))).mono ?_
    rintro ee w3 ⟨rfl, hb3⟩
    have HB3 := Lib.hid (HB2.out.trans (hb3.mono HB2.out.size)); clear hb3
    obtain ⟨k, hk⟩ : ∃ k : Nat, (fltDecD m e).2 = -(k : Int) := ⟨(-(fltDecD m e).2).toNat, by omega⟩
    have hk2 : (-(fltDecD m e).2).toNat = k := by omega
    rw [hk2] at HD
    rw [hk] at hbox ⊢
    have HX := Lib.hid hbox.1
    have hk40 : k ≤ 40 := by omega
    clear hbox hk hk2
    generalize (fltDecD m e).1 = N at *
    go_wp2_with fail
    refine (impl_DecText N k _ HX.out hk40 (fun V hV => HT.out V (HB3.out.trans (hV.mono HB3.out.size)))).mono ?_
    rintro ee w4 ⟨rfl, hb4⟩
    go_wp2_with fail
    go_ret
    exact ⟨ret_s HD.out.symm, HB3.out.trans (hb4.mono HB3.out.size)⟩
  · have HD := Lib.hid (show fltTx m e = ⟨#[]⟩ from if_neg hok)
    rw [decide_eq_false hok]
    clear hok
    go_wp2_with fail
    go_ret
    exact ⟨ret_s HD.out.symm, HB2.out⟩
end Go.Proofs.YtfbgmhjjdgglnaaDoor
